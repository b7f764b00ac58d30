/-
  BucketParts: the walk.
-/
import Derived.Test.YtdancegklkifaaaBktParts
namespace Go.Proofs.Ytdancegklkifaaa
set_option linter.unusedSectionVars false
set_option linter.unusedSimpArgs false
set_option linter.unusedVariables false
open Go.X
open Go.X.G (Ord3 ord3_nat ord3_int ord3_str ltB sget sput sdel Srtd MapAt MapHole plainRep)

/-- Bytes that were handed in. -/
structure DW where
  p : Option Addr
  bs : List UInt8
  c : Nat
def DW.val (d : DW) : Value := .slice d.p d.bs.length d.c

/-- What the law keeps of the parts: the slices that were handed in last. -/
structure Lasts (ds : List DW) (LS : List (Int × Value)) (P : Parts) : Prop where
  ls : Srtd ltI LS
  ps : Srtd ltI P
  same : ∀ k, (sget k LS = none ∧ sget k P = none) ∨ ∃ d, d ∈ ds ∧ d.bs.length ≤ 1000 ∧ sget k LS = some d.val ∧ sget k P = some d.bs

theorem Lasts.nil (ds : List DW) : Lasts ds [] [] := ⟨List.Pairwise.nil, List.Pairwise.nil, fun _ => .inl ⟨rfl, rfl⟩⟩
theorem Lasts.put {ds : List DW} {LS : List (Int × Value)} {P : Parts} (h : Lasts ds LS P) (k : Int) {d : DW} (hd : d ∈ ds) (hl : d.bs.length ≤ 1000) : Lasts ds (sput ltI k d.val LS) (sput ltI k d.bs P) := by
  refine ⟨X.G.srtd_put ord3_int h.ls _ _, X.G.srtd_put ord3_int h.ps _ _, fun j => ?_⟩
  rw [X.G.sget_put ord3_int, X.G.sget_put ord3_int]
  split
  · exact .inr ⟨d, hd, hl, rfl, rfl⟩
  · exact h.same j

theorem Lasts.small {ds : List DW} {LS : List (Int × Value)} {P : Parts} (h : Lasts ds LS P) : ∀ a d, sget a P = some d → d.length ≤ 16777216 := by
  intro a d e
  rcases h.same a with ⟨_, h2⟩ | ⟨x, _, h3, _, h4⟩
  · rw [h2] at e; cases e
  · rw [h4] at e; cases e; omega
theorem Lasts.one {G : Assn} {ds : List DW} {LS : List (Int × Value)} {P : Parts} (h : Lasts ds LS P) (hds : ∀ d, d ∈ ds → SlR [G] 1 d.val (bytesV d.bs) ∧ d.bs.length ≤ 9223372036854775807) (v : Int) :
    ∃ d : DW, (sget v LS).getD (.slice none 0 0) = .slice d.p d.bs.length d.c ∧ SlR [G] 1 (.slice d.p d.bs.length d.c) (bytesV d.bs) ∧ d.bs = partOf P v ∧ d.bs.length ≤ 1000 ∧ (sget v LS).isSome = (sget v P).isSome := by
  rcases h.same v with ⟨h1, h2⟩ | ⟨x, h0, h3, h1, h2⟩
  · exact ⟨⟨none, [], 0⟩, by rw [h1]; rfl, .inl ⟨none, 0, rfl, rfl⟩, by unfold partOf; rw [h2]; rfl, Nat.zero_le _, by rw [h1, h2]; rfl⟩
  · exact ⟨x, by rw [h1]; rfl, (hds x h0).1, by unfold partOf; rw [h2]; rfl, h3, by rw [h1, h2]; rfl⟩

theorem lk2Plain {L : Slots} {D : List Assn} {ty : TypeId} {T K E : TypeId} {x y : Operand} {κ : Type} [DecidableEq κ] {enc : κ → Value} {lt : κ → κ → Bool} {r : Nat} {S : List (κ × Value)} {k : κ} {P : Program}
    {i : Nat} {zv : Value} (o : Ord3 lt) (hS : Srtd lt S) (hT : ∀ w, (underlying T).run P w = .ok (.map K E) w) (hk : X.G.Keyed P K enc) (hz : ∀ w, (zeroValue E).run P w = .ok zv w) (ex : ev L x = some (.map (some r))) (ey : ev L y = some (enc k))
    (hA : D[i]? = some (MapAt enc plainRep r S)) : OpQ P (.lookup T x y true) ty L D (.tuple #[(sget k S).getD zv, .bool (sget k S).isSome]) := by
  cases hv : sget k S with
  | none => exact X.G.Q.lk2No hT hk hz ex ey hA hv
  | some v =>
    refine X.OpQ.opened (α := Unit) (Bs := fun _ => [MapHole enc plainRep r S k v]) (p := fun _ => True) hA ?_ ?_ (fun _ _ => X.G.Q.lk2Yes (i := 0) hT hk hz ex ey rfl)
    · intro h hh
      obtain ⟨val, h1, h2, e, ⟨k1, k2, q, _, _, s1, _⟩, d, s, t⟩ := MapAt.focus hv h hh
      have e' : val = v := e
      subst e'
      exact ⟨(), trivial, HSat.mono (X.G.HSat.one q) (s1.trans t)⟩
    · rintro _ _ h ⟨k1, k2, q, _, _, s1, _⟩
      have h1 : HSat h [MapHole enc plainRep r S k v] := HSat.mono (X.G.HSat.one q) s1
      obtain ⟨j1, j2, a, b, c, e, f⟩ := h1
      have := X.G.plain_shut o hS j1 a
      rw [X.G.sput_same o hS hv] at this
      obtain ⟨x, p1, p2⟩ := this
      exact ⟨x, p1, p2.mono e⟩

def pW (i : Nat) (n : Int) (d : DW) : OW := ⟨pOp i n d.bs, none, 0, d.p, d.c⟩
def cW (l : List Int) (p : Option Addr) (c : Nat) : OW := ⟨cOp l, p, c, none, 0⟩
def gW : OW := ⟨gOp, none, 0, none, 0⟩
def aW : OW := ⟨aOp, none, 0, none, 0⟩
def b0W : List OW := [⟨⟨1, 1, bt [98], bt [], bt [], 0, 0, [], []⟩, none, 0, none, 0⟩, ⟨⟨2, 7, bt [98], bt [107], bt [], 0, 0, [], []⟩, none, 0, none, 0⟩]
def b0G (b : Nat) : Assn := star [pt b (.cells (b0W.flatMap OW.cells).toArray 26 (0, 0))]

theorem b0Ok (b : Nat) : Ops (b0G b) (some ⟨b, 0, none⟩) 2 2 b0W := by
  refine ⟨(SlR.pt (D := [pt b (.cells (b0W.flatMap OW.cells).toArray 26 (0, 0))]) 0 rfl rfl (fun j u h => by rw [Nat.zero_add]; exact h)).into 0 rfl, ?_, by decide⟩
  have e0 : ∀ {sz : Nat}, SlR [b0G b] sz (.slice none 0 0) [] := .inl ⟨none, 0, rfl, rfl⟩
  intro x hx
  simp only [b0W, List.mem_cons, List.not_mem_nil, or_false] at hx
  rcases hx with rfl | rfl
  · exact ⟨e0, e0, (by refine ⟨?_, ?_, ?_, ?_, ?_⟩ <;> exact Nat.le_of_ble_eq_true rfl)⟩
  · exact ⟨e0, e0, (by refine ⟨?_, ?_, ?_, ?_, ?_⟩ <;> exact Nat.le_of_ble_eq_true rfl)⟩
theorem b0Acts (K m b : Nat) : HasActs K m b0W (b0G b) := by
  intro k M _ hM x hx hc
  refine hasAct m M hM x _ ((b0Ok b).ok x hx) hc fun h6 => ?_
  exfalso
  simp only [b0W, List.mem_cons, List.not_mem_nil, or_false] at hx
  rcases hx with rfl | rfl <;> simp at h6

theorem noneR {G : Assn} {sz : Nat} : SlR [G] sz (.slice none 0 0) [] := .inl ⟨none, 0, rfl, rfl⟩
theorem pW_ok {G : Assn} {d : DW} (hd : SlR [G] 1 d.val (bytesV d.bs)) (hl : d.bs.length ≤ 1000) (i : Nat) (n : Int) : (pW i n d).ok G :=
  ⟨noneR, hd, by refine ⟨?_, ?_, ?_, ?_, ?_⟩ <;> first | exact Nat.le_of_ble_eq_true rfl | (show d.bs.length ≤ _; omega)⟩
theorem cW_ok {G : Assn} {l : List Int} {p : Option Addr} {c : Nat} (h : SlR [G] 1 (.slice p l.length c) (l.map (Value.int .i64))) (hl : l.length ≤ 1000) : (cW l p c).ok G :=
  ⟨h, noneR, by refine ⟨?_, ?_, ?_, ?_, ?_⟩ <;> first | exact Nat.le_of_ble_eq_true rfl | (show l.length ≤ _; omega)⟩
theorem gW_ok {G : Assn} : gW.ok G := ⟨noneR, noneR, by refine ⟨?_, ?_, ?_, ?_, ?_⟩ <;> exact Nat.le_of_ble_eq_true rfl⟩
theorem aW_ok {G : Assn} : aW.ok G := ⟨noneR, noneR, by refine ⟨?_, ?_, ?_, ?_, ?_⟩ <;> exact Nat.le_of_ble_eq_true rfl⟩
theorem do_no6 {k : Nat} (m : Nat) (M : BM) (hM : M.ok k) (x : OW) (G : Assn) (hx : x.ok G) (h6 : x.o.kind ≠ 6) : FSpec Try.prog 13 [.pointer (some ⟨m, 0, none⟩), .agg x.cells.toArray] [BktAt m M, G] (ActR m G (M.run x.o)) :=
  do_spec m M hM x G hx fun hc => hasAct m M hM x G hx hc fun h => absurd h h6

section
variable (G : Assn) (ns : List Int) (np : Option Addr) (nc : Nat) (ds : List DW) (dp : Option Addr) (dc : Nat) (nm : List Int) (mp : Option Addr) (mc : Nat)
  (hn : SlR [G] 1 (.slice np ns.length nc) (ns.map (Value.int .i64))) (hd : SlR [G] 1 (.slice dp ds.length dc) (ds.map DW.val)) (hds : ∀ d, d ∈ ds → SlR [G] 1 d.val (bytesV d.bs) ∧ d.bs.length ≤ 9223372036854775807)
  (hm : SlR [G] 1 (.slice mp nm.length mc) (nm.map (Value.int .i64))) (hl : ns.length ≤ 9223372036854775807 ∧ ds.length ≤ 9223372036854775807 ∧ nm.length ≤ 9223372036854775807)
include hn hd hds hm hl

theorem bparts_spec : FSpec Try.prog 4 [.slice np ns.length nc, .slice dp ds.length dc, .slice mp nm.length mc] [G] (fun v B => v = .bool true ∧ B = [G]) := by
  refine FSpec.of Try.func4 rfl Try.ntmps4 rfl fun W0 F => ?_
  refine J.seq ?_
  refine J.region ?_
  refine J.q rfl rfl (Q.asg rfl) ?_
  refine J.nil ?_
  refine J.then_n ?_
  refine J.seq ?_
  refine J.seq ?_
  refine J.region ?_
  refine J.call Try.call6 (known_spec) [] rfl rfl rfl rfl ?_
  rintro _ _ ⟨rfl, rfl⟩
  refine J.norm rfl ?_
  refine J.q rfl rfl (Q.not rfl) ?_
  refine J.nil ?_
  refine J.then_n ?_
  refine J.cases 22 rfl (fun hc22 => ?_) (fun hc22 => ?_)
  ·
    first | replace hc22 := X.tt_dec hc22 | replace hc22 := X.tt_not hc22 | replace hc22 := X.ff_dec hc22 | replace hc22 := X.ff_not hc22 | skip
    try (first | (cases hc22; done) | (exfalso; simp at hc22; done))
    all_goals
      refine J.cond_t rfl ?_
      refine J.seq ?_
      refine J.region ?_
      refine J.q rfl rfl (Q.asg rfl) ?_
      refine J.nil ?_
      refine J.then_n ?_
      refine J.cret ?_
      refine J.then_r ?_
      first
        | (refine J.keep [3, 8] rfl ?_
           refine J.ret1 (B := [G]) rfl rfl ⟨?_, rfl⟩ rfl)
        | (refine J.keep [3, 10] rfl ?_
           refine J.ret1 (B := [G]) rfl rfl ⟨?_, rfl⟩ rfl)
      first | rfl | (simp_all; done)
  ·
    first | replace hc22 := X.tt_dec hc22 | replace hc22 := X.tt_not hc22 | replace hc22 := X.ff_dec hc22 | replace hc22 := X.ff_not hc22 | skip
    try (first | (cases hc22; done) | (exfalso; simp at hc22; done))
    all_goals
      refine J.cond_f rfl ?_
      refine J.cskip ?_
      refine J.then_n ?_
      refine J.seq ?_
      refine J.seq ?_
      refine J.region ?_
      refine J.q rfl rfl (Q.mv rfl) ?_
      refine J.q rfl rfl (Q.lenSl Try.runUnderlying23 rfl) ?_
      refine J.q rfl rfl (Q.gtr rfl rfl) ?_
      refine J.q rfl rfl (Q.mv rfl) ?_
      refine J.cases 26 rfl (fun hb26 => ?_) (fun hb26 => ?_)
      ·
        first | replace hb26 := X.tt_dec hb26 | replace hb26 := X.tt_not hb26 | replace hb26 := X.ff_dec hb26 | replace hb26 := X.ff_not hb26 | skip
        try (first | (cases hb26; done) | (exfalso; simp at hb26; done))
        all_goals
          refine J.skip rfl rfl ?_
          refine J.skip rfl rfl ?_
          refine J.skip rfl rfl ?_
          refine J.skip rfl rfl ?_
          refine J.skip rfl rfl ?_
          refine J.q rfl rfl (Q.pick_t rfl rfl) ?_
          refine J.q rfl rfl (Q.mv rfl) ?_
          refine J.skip rfl rfl ?_
          refine J.skip rfl rfl ?_
          refine J.skip rfl rfl ?_
          refine J.q rfl rfl (Q.pick_t rfl rfl) ?_
          refine J.nil ?_
          refine J.then_n ?_
          refine J.cond_t rfl ?_
          refine J.seq ?_
          refine J.region ?_
          refine J.q rfl rfl (Q.asg rfl) ?_
          refine J.nil ?_
          refine J.then_n ?_
          refine J.cret ?_
          refine J.then_r ?_
          refine J.keep [0, 1] rfl ?_
          refine J.ret1 (B := [G]) rfl rfl ⟨rfl, rfl⟩ rfl
      ·
        first | replace hb26 := X.tt_dec hb26 | replace hb26 := X.tt_not hb26 | replace hb26 := X.ff_dec hb26 | replace hb26 := X.ff_not hb26 | skip
        try (first | (cases hb26; done) | (exfalso; simp at hb26; done))
        all_goals
          refine J.q rfl rfl (Q.mv rfl) ?_
          refine J.q rfl rfl (Q.lenSl Try.runUnderlying33 rfl) ?_
          refine J.q rfl rfl (Q.mv rfl) ?_
          refine J.q rfl rfl (Q.lenSl Try.runUnderlying23 rfl) ?_
          refine J.q rfl rfl (Q.neq rfl rfl) ?_
          refine J.q rfl rfl (Q.pick_f rfl rfl) ?_
          refine J.q rfl rfl (Q.mv rfl) ?_
          refine J.cases 33 rfl (fun hb33 => ?_) (fun hb33 => ?_)
          ·
            first | replace hb33 := X.tt_dec hb33 | replace hb33 := X.tt_not hb33 | replace hb33 := X.ff_dec hb33 | replace hb33 := X.ff_not hb33 | skip
            try (first | (cases hb33; done) | (exfalso; simp at hb33; done))
            all_goals
              refine J.skip rfl rfl ?_
              refine J.skip rfl rfl ?_
              refine J.skip rfl rfl ?_
              refine J.q rfl rfl (Q.pick_t rfl rfl) ?_
              refine J.nil ?_
              refine J.then_n ?_
              refine J.cond_t rfl ?_
              refine J.seq ?_
              refine J.region ?_
              refine J.q rfl rfl (Q.asg rfl) ?_
              refine J.nil ?_
              refine J.then_n ?_
              refine J.cret ?_
              refine J.then_r ?_
              refine J.keep [0, 1] rfl ?_
              refine J.ret1 (B := [G]) rfl rfl ⟨rfl, rfl⟩ rfl
          ·
            first | replace hb33 := X.tt_dec hb33 | replace hb33 := X.tt_not hb33 | replace hb33 := X.ff_dec hb33 | replace hb33 := X.ff_not hb33 | skip
            try (first | (cases hb33; done) | (exfalso; simp at hb33; done))
            all_goals
              refine J.q rfl rfl (Q.mv rfl) ?_
              refine J.q rfl rfl (Q.lenSl Try.runUnderlying23 rfl) ?_
              refine J.q rfl rfl (Q.gtr rfl rfl) ?_
              refine J.q rfl rfl (Q.pick_f rfl rfl) ?_
              refine J.nil ?_
              refine J.then_n ?_
              refine J.cases 37 rfl (fun hc37 => ?_) (fun hc37 => ?_)
              ·
                first | replace hc37 := X.tt_dec hc37 | replace hc37 := X.tt_not hc37 | replace hc37 := X.ff_dec hc37 | replace hc37 := X.ff_not hc37 | skip
                try (first | (cases hc37; done) | (exfalso; simp at hc37; done))
                all_goals
                  refine J.cond_t rfl ?_
                  refine J.seq ?_
                  refine J.region ?_
                  refine J.q rfl rfl (Q.asg rfl) ?_
                  refine J.nil ?_
                  refine J.then_n ?_
                  refine J.cret ?_
                  refine J.then_r ?_
                  refine J.keep [0, 1] rfl ?_
                  refine J.ret1 (B := [G]) rfl rfl ⟨rfl, rfl⟩ rfl
              ·
                first | replace hc37 := X.tt_dec hc37 | replace hc37 := X.tt_not hc37 | replace hc37 := X.ff_dec hc37 | replace hc37 := X.ff_not hc37 | skip
                try (first | (cases hc37; done) | (exfalso; simp at hc37; done))
                all_goals
                  refine J.cond_f rfl ?_
                  refine J.cskip ?_
                  refine J.then_n ?_
                  refine J.seq ?_
                  refine J.region ?_
                  refine J.call Try.call11 (new_spec) [] rfl rfl rfl rfl ?_
                  rintro _ _ ⟨m, rfl, rfl⟩
                  refine J.norm rfl ?_
                  refine J.q rfl rfl (Q.asg rfl) ?_
                  refine J.nil ?_
                  refine J.then_n ?_
                  refine J.seq ?_
                  refine J.seq ?_
                  refine J.region ?_
                  refine J.q rfl rfl (Q.mv rfl) ?_
                  refine J.q rfl rfl (Q.eqlp Try.runUnderlying34 rfl rfl) ?_
                  refine J.nil ?_
                  refine J.then_n ?_
                  refine J.cases 40 rfl (fun hc40 => ?_) (fun hc40 => ?_)
                  ·
                    first | replace hc40 := X.tt_dec hc40 | replace hc40 := X.tt_not hc40 | replace hc40 := X.ff_dec hc40 | replace hc40 := X.ff_not hc40 | skip
                    try (first | (cases hc40; done) | (exfalso; simp at hc40; done))
                    all_goals
                      refine J.cond_t rfl ?_
                      refine J.seq ?_
                      refine J.region ?_
                      refine J.q rfl rfl (Q.asg rfl) ?_
                      refine J.nil ?_
                      refine J.then_n ?_
                      refine J.cret ?_
                      refine J.then_r ?_
                      first
                        | (refine J.keep [3, 8] rfl ?_
                           refine J.ret1 (B := [G]) rfl rfl ⟨?_, rfl⟩ rfl)
                        | (refine J.keep [3, 10] rfl ?_
                           refine J.ret1 (B := [G]) rfl rfl ⟨?_, rfl⟩ rfl)
                      first | rfl | (simp_all; done)
                  ·
                    first | replace hc40 := X.tt_dec hc40 | replace hc40 := X.tt_not hc40 | replace hc40 := X.ff_dec hc40 | replace hc40 := X.ff_not hc40 | skip
                    try (first | (cases hc40; done) | (exfalso; simp at hc40; done))
                    all_goals
                      refine J.cond_f rfl ?_
                      refine J.cskip ?_
                      refine J.then_n ?_
                      refine J.seq ?_
                      refine J.region ?_
                      refine J.q rfl rfl (Q.mv rfl) ?_
                      refine J.q rfl rfl (Q.bld (l := [_, _, _, _, _, _, _, _, _]) Try.runUnderlying26 Try.zeroValue26 Try.places26 rfl rfl) ?_
                      refine J.q rfl rfl (Q.bld (l := [_, _, _, _, _, _, _, _, _]) Try.runUnderlying26 Try.zeroValue26 Try.places26 rfl rfl) ?_
                      refine J.c rfl rfl (C.bslG (l := [_, _, _, _, _, _, _, _, _, _, _, _, _, _, _, _, _, _]) Try.runUnderlying45 Try.sizeOf26 Try.zeroValue26 (by decide) rfl rfl rfl rfl rfl) ?_
                      rintro _ _ ⟨b44, rfl, rfl⟩
                      refine J.norm rfl ?_
                      refine J.pack [0] rfl ?_
                      refine J.conv (Y := b0G b44) 0 rfl (fun h hh => hh) ?_
                      refine J.call Try.call12 (run_spec (K := 100) m ⟨[], [], []⟩ BM.ok.new (b0G b44) (some ⟨b44, 0, none⟩) 2 2 b0W (b0Ok b44) (b0Acts 100 m b44) (by decide)) [1, 0] rfl rfl rfl rfl ?_
                      rintro _ _ ⟨rs, p45, c45, rfl, hrs, rfl⟩
                      refine J.norm rfl ?_
                      refine J.nil ?_
                      refine J.then_n ?_
                      refine J.seq ?_
                      refine J.region ?_
                      refine J.c rfl rfl C.mkMap ?_
                      rintro _ _ ⟨b46, rfl, rfl⟩
                      refine J.norm rfl ?_
                      refine J.q rfl rfl (Q.asg rfl) ?_
                      refine J.nil ?_
                      refine J.then_n ?_
                      refine J.seq ?_
                      refine J.seq ?_
                      refine J.region ?_
                      refine J.q rfl rfl (Q.asg rfl) ?_
                      refine J.nil ?_
                      refine J.then_n ?_
                      refine J.block ?_
                      refine J.keep [3, 0, 5, 6] rfl ?_
                      refine J.conv (Y := MapAt (Value.int .i64) plainRep b46 []) 1 rfl MapAt.new ?_
                      refine J.pick [1, 0, 2, 3] rfl ?_
                      refine J.loop (fun z : Nat × BM × Parts × List (Int × Value) => z.1 ≤ ns.length ∧ Has z.1 z.2.2.1 z.2.1 ∧ z.2.1.ok (2 + z.1) ∧ Lasts ds z.2.2.2 z.2.2.1) (fun z => ns.length - z.1) (fun z => [(0, .slice np ns.length nc), (1, .slice dp ds.length dc), (2, .slice mp nm.length mc), (7, .pointer (some ⟨m, 0, none⟩)), (8, .map (some b46)), (9, .int .i64 z.1)])
                        (fun z => [BktAt m z.2.1, MapAt (Value.int .i64) plainRep b46 z.2.2.2, G, F]) (0, ((⟨[], [], []⟩ : BM).runs b0).2, [], []) ⟨Nat.zero_le _, has0, runs_ok BM.ok.new b0, Lasts.nil ds⟩ ⟨rfl, rfl, rfl, rfl, rfl, rfl, trivial⟩ rfl fun z hz => ?_
                      obtain ⟨i, M, P, LS⟩ := z
                      obtain ⟨hi, hP, hok, hL⟩ := hz
                      dsimp only at hi hP hok hL
                      refine J.seq ?_
                      refine J.seq ?_
                      refine J.region ?_
                      refine J.q rfl rfl (Q.mv rfl) ?_
                      refine J.q rfl rfl (Q.mv rfl) ?_
                      refine J.q rfl rfl (Q.lenSl Try.runUnderlying23 rfl) ?_
                      refine J.q rfl rfl (Q.lss rfl rfl) ?_
                      refine J.nil ?_
                      refine J.then_n ?_
                      refine J.cases 50 rfl (fun hc50 => ?_) (fun hc50 => ?_)
                      ·
                        first | replace hc50 := X.tt_dec hc50 | replace hc50 := X.tt_not hc50 | replace hc50 := X.ff_dec hc50 | replace hc50 := X.ff_not hc50 | skip
                        try (first | (cases hc50; done) | (exfalso; simp at hc50; done))
                        all_goals
                          refine J.cond_t rfl ?_
                          refine J.cskip ?_
                          refine J.then_n ?_
                          refine J.seq ?_
                          refine J.block ?_
                          refine J.seq ?_
                          refine J.seq ?_
                          obtain ⟨bd, od, hdp, hrd⟩ := hd.some_ (by omega)
                          obtain ⟨bn, on, hnp, hrn⟩ := hn.some_ (by omega)
                          obtain ⟨d, hdi⟩ : ∃ d, ds[i]? = some d := ⟨_, List.getElem?_eq_getElem (by omega)⟩
                          obtain ⟨n, hni⟩ : ∃ n, ns[i]? = some n := ⟨_, List.getElem?_eq_getElem (by omega)⟩
                          have hdm := List.mem_of_getElem? hdi
                          obtain ⟨hdr, hdl⟩ := hds d hdm
                          refine J.slot 0 (.slice (some ⟨bn, on, none⟩) ns.length nc) rfl (by rw [hnp]) ?_
                          refine J.slot 1 (.slice (some ⟨bd, od, none⟩) ds.length dc) rfl (by rw [hdp]) ?_
                          refine J.region ?_
                          refine J.q rfl rfl (Q.mv rfl) ?_
                          refine J.q rfl rfl (Q.mv rfl) ?_
                          refine J.q rfl rfl (Q.ia Try.runUnderlying33 Try.sizeOf24 rfl rfl (by omega) (by omega)) ?_
                          refine J.q rfl rfl (Q.ld Try.isAgg24 rfl (((hrd i (.slice d.p d.bs.length d.c) (by simp [hdi, DW.val])).within (i := 2) rfl).cast (by simp))) ?_
                          refine J.q rfl rfl (Q.lenSl Try.runUnderlying24 rfl) ?_
                          refine J.q rfl rfl (Q.gtr rfl rfl) ?_
                          refine J.nil ?_
                          refine J.then_n ?_
                          refine J.cases 58 rfl (fun hc58 => ?_) (fun hc58 => ?_)
                          ·
                            first | replace hc58 := X.tt_dec hc58 | replace hc58 := X.tt_not hc58 | replace hc58 := X.ff_dec hc58 | replace hc58 := X.ff_not hc58 | skip
                            try (first | (cases hc58; done) | (exfalso; simp at hc58; done))
                            all_goals
                              refine J.cond_t rfl ?_
                              refine J.seq ?_
                              refine J.region ?_
                              refine J.q rfl rfl (Q.asg rfl) ?_
                              refine J.nil ?_
                              refine J.then_n ?_
                              refine J.cret ?_
                              refine J.then_r ?_
                              refine J.blk_r ?_
                              refine J.then_r ?_
                              refine J.lp_r ?_
                              refine J.blk_r ?_
                              refine J.then_r ?_
                              refine J.keep [2, 3] rfl ?_
                              refine J.ret1 (B := [G]) rfl rfl ⟨rfl, rfl⟩ rfl
                          ·
                            first | replace hc58 := X.tt_dec hc58 | replace hc58 := X.tt_not hc58 | replace hc58 := X.ff_dec hc58 | replace hc58 := X.ff_not hc58 | skip
                            try (first | (cases hc58; done) | (exfalso; simp at hc58; done))
                            all_goals
                              refine J.cond_f rfl ?_
                              refine J.cskip ?_
                              refine J.then_n ?_
                              refine J.seq ?_
                              refine J.draw [12, 13] Try.mixed (by kernel_rfl) fun hR => ?_
                              refine RG.q 0 hR rfl rfl rfl rfl rfl rfl (Q.mv rfl) ?_
                              refine RG.q 1 hR rfl rfl rfl rfl rfl rfl (Q.conv Try.runUnderlying3 Try.runUnderlying22 rfl) ?_
                              refine RG.q 2 hR rfl rfl rfl rfl rfl rfl (Q.add rfl rfl) ?_
                              refine RG.slot 61 (.int .u64 ((10 + i : Nat) : Int)) rfl (by have e1 := u64_in (n := (i : Int)) (by omega); show Value.int .u64 (IntKind.u64.wrap (10 + IntKind.u64.wrap (i : Int))) = _; rw [e1, u64_in (by omega)]; rfl) ?_
                              refine RG.q 3 hR rfl rfl rfl rfl rfl rfl (Q.mv rfl) ?_
                              refine RG.q 4 hR rfl rfl rfl rfl rfl rfl (Q.mv rfl) ?_
                              refine RG.q 5 hR rfl rfl rfl rfl rfl rfl (Q.ia Try.runUnderlying23 Try.sizeOf3 rfl rfl (by omega) (by omega)) ?_
                              refine RG.q 6 hR rfl rfl rfl rfl rfl rfl (Q.ld Try.isAgg3 rfl (((hrn i (.int .i64 n) (by simp [hni])).within (i := 2) rfl).cast (by simp))) ?_
                              refine RG.q 7 hR rfl rfl rfl rfl rfl rfl (Q.mv rfl) ?_
                              refine RG.q 8 hR rfl rfl rfl rfl rfl rfl (Q.mv rfl) ?_
                              refine RG.q 9 hR rfl rfl rfl rfl rfl rfl (Q.ia Try.runUnderlying33 Try.sizeOf24 rfl rfl (by omega) (by omega)) ?_
                              refine RG.q 10 hR rfl rfl rfl rfl rfl rfl (Q.ld Try.isAgg24 rfl (((hrd i (.slice d.p d.bs.length d.c) (by simp [hdi, DW.val])).within (i := 2) rfl).cast (by simp))) ?_
                              refine RG.q 11 hR rfl rfl rfl rfl rfl rfl (Q.bld (l := [_, _, _, _, _, _, _, _, _]) Try.runUnderlying26 Try.zeroValue26 Try.places26 rfl rfl) ?_
                              refine RG.made 12 hR rfl rfl rfl rfl rfl (C.alloc (l := [_, _, _, _, _, _, _, _, _]) Try.zeroValue26 rfl) ?_
                              rintro b10
                              first | refine RG.bar 13 hR rfl rfl rfl rfl rfl rfl (C.stA (i := 0) (vs := [_, _, _, _, _, _, _, _, _]) Try.sizeOf26 rfl rfl rfl rfl rfl rfl) ?_ | refine RG.bar 13 hR rfl rfl rfl rfl rfl rfl (C.stA (i := 1) (vs := [_, _, _, _, _, _, _, _, _]) Try.sizeOf26 rfl rfl rfl rfl rfl rfl) ?_ | refine RG.bar 13 hR rfl rfl rfl rfl rfl rfl (C.stA (i := 2) (vs := [_, _, _, _, _, _, _, _, _]) Try.sizeOf26 rfl rfl rfl rfl rfl rfl) ?_ | refine RG.bar 13 hR rfl rfl rfl rfl rfl rfl (C.stA (i := 3) (vs := [_, _, _, _, _, _, _, _, _]) Try.sizeOf26 rfl rfl rfl rfl rfl rfl) ?_ | refine RG.bar 13 hR rfl rfl rfl rfl rfl rfl (C.stA (i := 4) (vs := [_, _, _, _, _, _, _, _, _]) Try.sizeOf26 rfl rfl rfl rfl rfl rfl) ?_ | refine RG.bar 13 hR rfl rfl rfl rfl rfl rfl (C.stA (i := 5) (vs := [_, _, _, _, _, _, _, _, _]) Try.sizeOf26 rfl rfl rfl rfl rfl rfl) ?_ | refine RG.bar 13 hR rfl rfl rfl rfl rfl rfl (C.stA (i := 6) (vs := [_, _, _, _, _, _, _, _, _]) Try.sizeOf26 rfl rfl rfl rfl rfl rfl) ?_ | refine RG.bar 13 hR rfl rfl rfl rfl rfl rfl (C.stA (i := 7) (vs := [_, _, _, _, _, _, _, _, _]) Try.sizeOf26 rfl rfl rfl rfl rfl rfl) ?_ | refine RG.bar 13 hR rfl rfl rfl rfl rfl rfl (C.stA (i := 8) (vs := [_, _, _, _, _, _, _, _, _]) Try.sizeOf26 rfl rfl rfl rfl rfl rfl) ?_ | refine RG.bar 13 hR rfl rfl rfl rfl rfl rfl (C.stA (i := 9) (vs := [_, _, _, _, _, _, _, _, _]) Try.sizeOf26 rfl rfl rfl rfl rfl rfl) ?_ | refine RG.bar 13 hR rfl rfl rfl rfl rfl rfl (C.stA (i := 10) (vs := [_, _, _, _, _, _, _, _, _]) Try.sizeOf26 rfl rfl rfl rfl rfl rfl) ?_ | refine RG.bar 13 hR rfl rfl rfl rfl rfl rfl (C.stA (i := 11) (vs := [_, _, _, _, _, _, _, _, _]) Try.sizeOf26 rfl rfl rfl rfl rfl rfl) ?_ | refine RG.bar 13 hR rfl rfl rfl rfl rfl rfl (C.stA (i := 12) (vs := [_, _, _, _, _, _, _, _, _]) Try.sizeOf26 rfl rfl rfl rfl rfl rfl) ?_ | refine RG.bar 13 hR rfl rfl rfl rfl rfl rfl (C.stA (i := 13) (vs := [_, _, _, _, _, _, _, _, _]) Try.sizeOf26 rfl rfl rfl rfl rfl rfl) ?_ | refine RG.bar 13 hR rfl rfl rfl rfl rfl rfl (C.stA (i := 14) (vs := [_, _, _, _, _, _, _, _, _]) Try.sizeOf26 rfl rfl rfl rfl rfl rfl) ?_ | refine RG.bar 13 hR rfl rfl rfl rfl rfl rfl (C.stA (i := 15) (vs := [_, _, _, _, _, _, _, _, _]) Try.sizeOf26 rfl rfl rfl rfl rfl rfl) ?_
                              rintro _ _ ⟨rfl, rfl⟩
                              refine RG.fin hR rfl ?_
                              refine J.norm rfl ?_
                              refine J.then_n ?_
                              refine J.seq ?_
                              refine J.region ?_
                              refine J.q rfl rfl (Q.mv rfl) ?_
                              refine J.q rfl rfl (Q.ldN (vs := [_, _, _, _, _, _, _, _, _]) Try.isAgg26 Try.sizeOf26 rfl (by first | exact ReadsN.pt 0 rfl | exact ReadsN.pt 1 rfl | exact ReadsN.pt 2 rfl | exact ReadsN.pt 3 rfl | exact ReadsN.pt 4 rfl | exact ReadsN.pt 5 rfl | exact ReadsN.pt 6 rfl | exact ReadsN.pt 7 rfl | exact ReadsN.pt 8 rfl | exact ReadsN.pt 9 rfl | exact ReadsN.pt 10 rfl | exact ReadsN.pt 11 rfl | exact ReadsN.pt 12 rfl | exact ReadsN.pt 13 rfl)) ?_
                              refine J.call Try.call13 (do_no6 m M hok (pW (10 + i) n d) G (pW_ok hdr (by omega) _ _) (by show (8 : Int) ≠ 6; decide)) [0, 2] rfl rfl rfl rfl ?_
                              rintro _ _ ⟨y, rfl, hy, rfl⟩
                              refine J.norm rfl ?_
                              refine J.c rfl rfl (C.alloc (l := [_, _, _, _, _]) Try.zeroValue41 rfl) ?_
                              rintro _ _ ⟨b11, rfl, rfl⟩
                              refine J.norm rfl ?_
                              first | refine J.c0 rfl (C.stA (i := 0) (vs := [_, _, _, _, _]) Try.sizeOf41 rfl rfl rfl rfl rfl rfl) ?_ | refine J.c0 rfl (C.stA (i := 1) (vs := [_, _, _, _, _]) Try.sizeOf41 rfl rfl rfl rfl rfl rfl) ?_ | refine J.c0 rfl (C.stA (i := 2) (vs := [_, _, _, _, _]) Try.sizeOf41 rfl rfl rfl rfl rfl rfl) ?_ | refine J.c0 rfl (C.stA (i := 3) (vs := [_, _, _, _, _]) Try.sizeOf41 rfl rfl rfl rfl rfl rfl) ?_ | refine J.c0 rfl (C.stA (i := 4) (vs := [_, _, _, _, _]) Try.sizeOf41 rfl rfl rfl rfl rfl rfl) ?_ | refine J.c0 rfl (C.stA (i := 5) (vs := [_, _, _, _, _]) Try.sizeOf41 rfl rfl rfl rfl rfl rfl) ?_ | refine J.c0 rfl (C.stA (i := 6) (vs := [_, _, _, _, _]) Try.sizeOf41 rfl rfl rfl rfl rfl rfl) ?_ | refine J.c0 rfl (C.stA (i := 7) (vs := [_, _, _, _, _]) Try.sizeOf41 rfl rfl rfl rfl rfl rfl) ?_ | refine J.c0 rfl (C.stA (i := 8) (vs := [_, _, _, _, _]) Try.sizeOf41 rfl rfl rfl rfl rfl rfl) ?_ | refine J.c0 rfl (C.stA (i := 9) (vs := [_, _, _, _, _]) Try.sizeOf41 rfl rfl rfl rfl rfl rfl) ?_ | refine J.c0 rfl (C.stA (i := 10) (vs := [_, _, _, _, _]) Try.sizeOf41 rfl rfl rfl rfl rfl rfl) ?_ | refine J.c0 rfl (C.stA (i := 11) (vs := [_, _, _, _, _]) Try.sizeOf41 rfl rfl rfl rfl rfl rfl) ?_ | refine J.c0 rfl (C.stA (i := 12) (vs := [_, _, _, _, _]) Try.sizeOf41 rfl rfl rfl rfl rfl rfl) ?_ | refine J.c0 rfl (C.stA (i := 13) (vs := [_, _, _, _, _]) Try.sizeOf41 rfl rfl rfl rfl rfl rfl) ?_ | refine J.c0 rfl (C.stA (i := 14) (vs := [_, _, _, _, _]) Try.sizeOf41 rfl rfl rfl rfl rfl rfl) ?_ | refine J.c0 rfl (C.stA (i := 15) (vs := [_, _, _, _, _]) Try.sizeOf41 rfl rfl rfl rfl rfl rfl) ?_
                              rintro _ _ ⟨rfl, rfl⟩
                              refine J.nil ?_
                              refine J.then_n ?_
                              refine J.seq ?_
                              refine J.seq ?_
                              refine J.region ?_
                              refine J.q rfl rfl (Q.ldN (vs := [_, _, _, _, _, _, _, _, _]) Try.isAgg26 Try.sizeOf26 rfl (by first | exact ReadsN.pt 0 rfl | exact ReadsN.pt 1 rfl | exact ReadsN.pt 2 rfl | exact ReadsN.pt 3 rfl | exact ReadsN.pt 4 rfl | exact ReadsN.pt 5 rfl | exact ReadsN.pt 6 rfl | exact ReadsN.pt 7 rfl | exact ReadsN.pt 8 rfl | exact ReadsN.pt 9 rfl | exact ReadsN.pt 10 rfl | exact ReadsN.pt 11 rfl | exact ReadsN.pt 12 rfl | exact ReadsN.pt 13 rfl)) ?_
                              refine J.call Try.call7 (check_spec G (pW (10 + i) n d) (pW_ok hdr (by omega) _ _)) [3] rfl rfl rfl rfl ?_
                              rintro _ _ ⟨rfl, rfl⟩
                              refine J.norm rfl ?_
                              refine J.q rfl rfl (Q.neq rfl rfl) ?_
                              refine J.nil ?_
                              refine J.then_n ?_
                              refine J.cases 76 rfl (fun hc76 => ?_) (fun hc76 => ?_)
                              ·
                                first | replace hc76 := X.tt_dec hc76 | replace hc76 := X.tt_not hc76 | replace hc76 := X.ff_dec hc76 | replace hc76 := X.ff_not hc76 | skip
                                try (first | (cases hc76; done) | (exfalso; simp at hc76; done))
                                all_goals
                                  refine J.cond_t rfl ?_
                                  refine J.seq ?_
                                  refine J.seq ?_
                                  have hck : (pOp (10 + i) n d.bs).chkB = false := by
                                    have h' : ¬ (if (pOp (10 + i) n d.bs).chkB = true then (0 : Int) else 1) = 0 := hc76
                                    cases h : (pOp (10 + i) n d.bs).chkB with
                                    | false => rfl
                                    | true => rw [h] at h'; exact absurd rfl h'
                                  obtain ⟨hs1, hs2⟩ := (has_part hP (i := 10 + i) rfl n d.bs (by omega)).2 hck
                                  refine J.region ?_
                                  refine J.q rfl rfl (Q.fa (n := 0) Try.runUnderlying41 rfl rfl Try.sizeOf3 rfl) ?_
                                  refine J.q rfl rfl (Q.ld Try.isAgg3 rfl (by first | exact Reads.pt 0 rfl rfl | exact Reads.pt 1 rfl rfl | exact Reads.pt 2 rfl rfl | exact Reads.pt 3 rfl rfl | exact Reads.pt 4 rfl rfl | exact Reads.pt 5 rfl rfl | exact Reads.pt 6 rfl rfl | exact Reads.pt 7 rfl rfl | exact Reads.pt 8 rfl rfl | exact Reads.pt 9 rfl rfl | exact Reads.pt 10 rfl rfl | exact Reads.pt 11 rfl rfl | exact Reads.pt 12 rfl rfl | exact Reads.pt 13 rfl rfl)) ?_
                                  refine J.q rfl rfl (Q.neq rfl rfl) ?_
                                  refine J.nil ?_
                                  refine J.then_n ?_
                                  refine J.cases 79 rfl (fun hc79 => ?_) (fun hc79 => ?_)
                                  ·
                                    first | replace hc79 := X.tt_dec hc79 | replace hc79 := X.tt_not hc79 | replace hc79 := X.ff_dec hc79 | replace hc79 := X.ff_not hc79 | skip
                                    try (first | (cases hc79; done) | (exfalso; simp at hc79; done))
                                    all_goals
                                      refine J.cond_t rfl ?_
                                      refine J.seq ?_
                                      refine J.region ?_
                                      refine J.q rfl rfl (Q.asg rfl) ?_
                                      refine J.nil ?_
                                      refine J.then_n ?_
                                      refine J.cret ?_
                                      refine J.then_r ?_
                                      refine J.then_r ?_
                                      refine J.blk_r ?_
                                      refine J.then_r ?_
                                      refine J.lp_r ?_
                                      refine J.blk_r ?_
                                      refine J.then_r ?_
                                      exact absurd (by rw [hy]; show (M.run (pOp (10 + i) n d.bs)).1.status = 400; rw [hs1]; rfl) hc79
                                  ·
                                    first | replace hc79 := X.tt_dec hc79 | replace hc79 := X.tt_not hc79 | replace hc79 := X.ff_dec hc79 | replace hc79 := X.ff_not hc79 | skip
                                    try (first | (cases hc79; done) | (exfalso; simp at hc79; done))
                                    all_goals
                                      refine J.cond_f rfl ?_
                                      refine J.cskip ?_
                                      refine J.then_n ?_
                                      refine J.exit ?_
                                      refine J.then_x ?_
                                      refine J.blk_x ?_
                                      refine J.then_n ?_
                                      refine J.region ?_
                                      refine J.q rfl rfl (Q.mv rfl) ?_
                                      refine J.q rfl rfl (Q.add64 rfl rfl (by omega)) ?_
                                      refine J.q rfl rfl (Q.asg rfl) ?_
                                      refine J.nil ?_
                                      refine J.keep [2, 4, 0, 5] rfl ?_
                                      refine J.again (i + 1, (M.run (pOp (10 + i) n d.bs)).2, P, LS) ⟨by show i + 1 ≤ _; omega, hs2, (run_ok hok _).mono (by show 2 + i + 1 ≤ 2 + (i + 1); omega), hL⟩ (by show ns.length - (i + 1) < ns.length - i; omega) ⟨(by show _ = some (Value.slice np _ _); rw [hnp]; rfl), (by show _ = some (Value.slice dp _ _); rw [hdp]; rfl), rfl, rfl, rfl, rfl, trivial⟩ rfl
                              ·
                                first | replace hc76 := X.tt_dec hc76 | replace hc76 := X.tt_not hc76 | replace hc76 := X.ff_dec hc76 | replace hc76 := X.ff_not hc76 | skip
                                try (first | (cases hc76; done) | (exfalso; simp at hc76; done))
                                all_goals
                                  refine J.cond_f rfl ?_
                                  refine J.cskip ?_
                                  refine J.then_n ?_
                                  refine J.seq ?_
                                  refine J.seq ?_
                                  have hck : (pOp (10 + i) n d.bs).chkB = true := by
                                    have h' : (if (pOp (10 + i) n d.bs).chkB = true then (0 : Int) else 1) = 0 := hc76
                                    cases h : (pOp (10 + i) n d.bs).chkB with
                                    | true => rfl
                                    | false => rw [h] at h'; cases h'
                                  obtain ⟨hs1, hs2⟩ := (has_part hP (i := 10 + i) rfl n d.bs (by omega)).1 hck
                                  refine J.region ?_
                                  refine J.q rfl rfl (Q.fa (n := 0) Try.runUnderlying41 rfl rfl Try.sizeOf3 rfl) ?_
                                  refine J.q rfl rfl (Q.ld Try.isAgg3 rfl (by first | exact Reads.pt 0 rfl rfl | exact Reads.pt 1 rfl rfl | exact Reads.pt 2 rfl rfl | exact Reads.pt 3 rfl rfl | exact Reads.pt 4 rfl rfl | exact Reads.pt 5 rfl rfl | exact Reads.pt 6 rfl rfl | exact Reads.pt 7 rfl rfl | exact Reads.pt 8 rfl rfl | exact Reads.pt 9 rfl rfl | exact Reads.pt 10 rfl rfl | exact Reads.pt 11 rfl rfl | exact Reads.pt 12 rfl rfl | exact Reads.pt 13 rfl rfl)) ?_
                                  refine J.q rfl rfl (Q.neq rfl rfl) ?_
                                  refine J.nil ?_
                                  refine J.then_n ?_
                                  refine J.cases 82 rfl (fun hc82 => ?_) (fun hc82 => ?_)
                                  ·
                                    first | replace hc82 := X.tt_dec hc82 | replace hc82 := X.tt_not hc82 | replace hc82 := X.ff_dec hc82 | replace hc82 := X.ff_not hc82 | skip
                                    try (first | (cases hc82; done) | (exfalso; simp at hc82; done))
                                    all_goals
                                      refine J.cond_t rfl ?_
                                      refine J.seq ?_
                                      refine J.region ?_
                                      refine J.q rfl rfl (Q.asg rfl) ?_
                                      refine J.nil ?_
                                      refine J.then_n ?_
                                      refine J.cret ?_
                                      refine J.then_r ?_
                                      refine J.blk_r ?_
                                      refine J.then_r ?_
                                      refine J.lp_r ?_
                                      refine J.blk_r ?_
                                      refine J.then_r ?_
                                      exact absurd (by rw [hy]; show (M.run (pOp (10 + i) n d.bs)).1.status = 200; rw [hs1]; rfl) hc82
                                  ·
                                    first | replace hc82 := X.tt_dec hc82 | replace hc82 := X.tt_not hc82 | replace hc82 := X.ff_dec hc82 | replace hc82 := X.ff_not hc82 | skip
                                    try (first | (cases hc82; done) | (exfalso; simp at hc82; done))
                                    all_goals
                                      refine J.cond_f rfl ?_
                                      refine J.cskip ?_
                                      refine J.then_n ?_
                                      refine J.draw [9] Try.mixed (by kernel_rfl) fun hR => ?_
                                      refine RG.q 0 hR rfl rfl rfl rfl rfl rfl (Q.mv rfl) ?_
                                      refine RG.q 1 hR rfl rfl rfl rfl rfl rfl (Q.mv rfl) ?_
                                      refine RG.q 2 hR rfl rfl rfl rfl rfl rfl (Q.mv rfl) ?_
                                      refine RG.q 3 hR rfl rfl rfl rfl rfl rfl (Q.ia Try.runUnderlying23 Try.sizeOf3 rfl rfl (by omega) (by omega)) ?_
                                      refine RG.q 4 hR rfl rfl rfl rfl rfl rfl (Q.ld Try.isAgg3 rfl (((hrn i (.int .i64 n) (by simp [hni])).within (i := 0) rfl).cast (by simp))) ?_
                                      refine RG.q 5 hR rfl rfl rfl rfl rfl rfl (Q.mv rfl) ?_
                                      refine RG.q 6 hR rfl rfl rfl rfl rfl rfl (Q.mv rfl) ?_
                                      refine RG.q 7 hR rfl rfl rfl rfl rfl rfl (Q.ia Try.runUnderlying33 Try.sizeOf24 rfl rfl (by omega) (by omega)) ?_
                                      refine RG.q 8 hR rfl rfl rfl rfl rfl rfl (Q.ld Try.isAgg24 rfl (((hrd i (.slice d.p d.bs.length d.c) (by simp [hdi, DW.val])).within (i := 0) rfl).cast (by simp))) ?_
                                      refine RG.bar 9 hR rfl rfl rfl rfl rfl rfl (X.G.C.mapPut (rep := plainRep) 4 d.val ord3_int hL.ls Try.runUnderlying38 keyI rfl rfl rfl rfl) ?_
                                      rintro _ _ ⟨rfl, rfl⟩
                                      refine RG.norm rfl ?_
                                      refine RG.fin hR rfl ?_
                                      refine J.norm rfl ?_
                                      refine J.blk_n ?_
                                      refine J.then_n ?_
                                      refine J.region ?_
                                      refine J.q rfl rfl (Q.mv rfl) ?_
                                      refine J.q rfl rfl (Q.add64 rfl rfl (by omega)) ?_
                                      refine J.q rfl rfl (Q.asg rfl) ?_
                                      refine J.nil ?_
                                      refine J.conv (Y := MapAt (Value.int .i64) plainRep b46 (sput ltI n d.val (sput ltI n d.val LS))) 4 rfl (X.G.plain_shut ord3_int (X.G.srtd_put ord3_int hL.ls _ _)) ?_
                                      rw [X.G.sput_put ord3_int hL.ls]
                                      refine J.keep [3, 0, 1, 5] rfl ?_
                                      refine J.again (i + 1, (M.run (pOp (10 + i) n d.bs)).2, sput ltI n d.bs P, sput ltI n d.val LS) ⟨by show i + 1 ≤ _; omega, hs2, (run_ok hok _).mono (by show 2 + i + 1 ≤ 2 + (i + 1); omega), hL.put n hdm (by omega)⟩ (by show ns.length - (i + 1) < ns.length - i; omega) ⟨(by show _ = some (Value.slice np _ _); rw [hnp]; rfl), (by show _ = some (Value.slice dp _ _); rw [hdp]; rfl), rfl, rfl, rfl, rfl, trivial⟩ rfl
                      ·
                        first | replace hc50 := X.tt_dec hc50 | replace hc50 := X.tt_not hc50 | replace hc50 := X.ff_dec hc50 | replace hc50 := X.ff_not hc50 | skip
                        try (first | (cases hc50; done) | (exfalso; simp at hc50; done))
                        all_goals
                          refine J.cond_f rfl ?_
                          refine J.exit ?_
                          refine J.then_x ?_
                          refine J.lp_x ?_
                          refine J.blk_x ?_
                          refine J.then_n ?_
                          refine J.seq ?_
                          refine J.region ?_
                          refine J.q rfl rfl (Q.mv rfl) ?_
                          refine J.q rfl rfl (Q.bld (l := [_, _, _, _, _, _, _, _, _]) Try.runUnderlying26 Try.zeroValue26 Try.places26 rfl rfl) ?_
                          refine J.c rfl rfl (C.alloc (l := [_, _, _, _, _, _, _, _, _]) Try.zeroValue26 rfl) ?_
                          rintro _ _ ⟨b12, rfl, rfl⟩
                          refine J.norm rfl ?_
                          first | refine J.c0 rfl (C.stA (i := 0) (vs := [_, _, _, _, _, _, _, _, _]) Try.sizeOf26 rfl rfl rfl rfl rfl rfl) ?_ | refine J.c0 rfl (C.stA (i := 1) (vs := [_, _, _, _, _, _, _, _, _]) Try.sizeOf26 rfl rfl rfl rfl rfl rfl) ?_ | refine J.c0 rfl (C.stA (i := 2) (vs := [_, _, _, _, _, _, _, _, _]) Try.sizeOf26 rfl rfl rfl rfl rfl rfl) ?_ | refine J.c0 rfl (C.stA (i := 3) (vs := [_, _, _, _, _, _, _, _, _]) Try.sizeOf26 rfl rfl rfl rfl rfl rfl) ?_ | refine J.c0 rfl (C.stA (i := 4) (vs := [_, _, _, _, _, _, _, _, _]) Try.sizeOf26 rfl rfl rfl rfl rfl rfl) ?_ | refine J.c0 rfl (C.stA (i := 5) (vs := [_, _, _, _, _, _, _, _, _]) Try.sizeOf26 rfl rfl rfl rfl rfl rfl) ?_ | refine J.c0 rfl (C.stA (i := 6) (vs := [_, _, _, _, _, _, _, _, _]) Try.sizeOf26 rfl rfl rfl rfl rfl rfl) ?_ | refine J.c0 rfl (C.stA (i := 7) (vs := [_, _, _, _, _, _, _, _, _]) Try.sizeOf26 rfl rfl rfl rfl rfl rfl) ?_ | refine J.c0 rfl (C.stA (i := 8) (vs := [_, _, _, _, _, _, _, _, _]) Try.sizeOf26 rfl rfl rfl rfl rfl rfl) ?_ | refine J.c0 rfl (C.stA (i := 9) (vs := [_, _, _, _, _, _, _, _, _]) Try.sizeOf26 rfl rfl rfl rfl rfl rfl) ?_ | refine J.c0 rfl (C.stA (i := 10) (vs := [_, _, _, _, _, _, _, _, _]) Try.sizeOf26 rfl rfl rfl rfl rfl rfl) ?_ | refine J.c0 rfl (C.stA (i := 11) (vs := [_, _, _, _, _, _, _, _, _]) Try.sizeOf26 rfl rfl rfl rfl rfl rfl) ?_ | refine J.c0 rfl (C.stA (i := 12) (vs := [_, _, _, _, _, _, _, _, _]) Try.sizeOf26 rfl rfl rfl rfl rfl rfl) ?_ | refine J.c0 rfl (C.stA (i := 13) (vs := [_, _, _, _, _, _, _, _, _]) Try.sizeOf26 rfl rfl rfl rfl rfl rfl) ?_ | refine J.c0 rfl (C.stA (i := 14) (vs := [_, _, _, _, _, _, _, _, _]) Try.sizeOf26 rfl rfl rfl rfl rfl rfl) ?_ | refine J.c0 rfl (C.stA (i := 15) (vs := [_, _, _, _, _, _, _, _, _]) Try.sizeOf26 rfl rfl rfl rfl rfl rfl) ?_
                          rintro _ _ ⟨rfl, rfl⟩
                          refine J.nil ?_
                          refine J.then_n ?_
                          refine J.seq ?_
                          refine J.region ?_
                          refine J.q rfl rfl (Q.ldN (vs := [_, _, _, _, _, _, _, _, _]) Try.isAgg26 Try.sizeOf26 rfl (by first | exact ReadsN.pt 0 rfl | exact ReadsN.pt 1 rfl | exact ReadsN.pt 2 rfl | exact ReadsN.pt 3 rfl | exact ReadsN.pt 4 rfl | exact ReadsN.pt 5 rfl | exact ReadsN.pt 6 rfl | exact ReadsN.pt 7 rfl | exact ReadsN.pt 8 rfl | exact ReadsN.pt 9 rfl | exact ReadsN.pt 10 rfl | exact ReadsN.pt 11 rfl | exact ReadsN.pt 12 rfl | exact ReadsN.pt 13 rfl)) ?_
                          refine J.call Try.call7 (check_spec G (cW nm mp mc) (cW_ok hm (by omega))) [3] rfl rfl rfl rfl ?_
                          rintro _ _ ⟨rfl, rfl⟩
                          refine J.norm rfl ?_
                          refine J.q rfl rfl (Q.eql rfl rfl) ?_
                          refine J.slot 96 (.bool (partsOK nm)) rfl (by show Value.bool (decide ((if (cOp nm).chkB = true then (0 : Int) else 1) = 0)) = _; rw [chk_c]; cases partsOK nm <;> rfl) ?_
                          refine J.q rfl rfl (Q.asg rfl) ?_
                          refine J.nil ?_
                          refine J.then_n ?_
                          refine J.seq ?_
                          refine J.region ?_
                          refine J.q rfl rfl (Q.asg rfl) ?_
                          refine J.nil ?_
                          refine J.then_n ?_
                          refine J.cut (fun w : Bool × Option Addr × Nat × List UInt8 => (w.1 = true → partsOK nm = true ∧ collect P nm = some w.2.2.2) ∧ (w.1 = false → partsOK nm = false ∨ collect P nm = none) ∧ w.2.2.2.length ≤ 1099511627776) (fun w => [(7, .pointer (some ⟨m, 0, none⟩)), (12, .pointer (some ⟨b12, 0, none⟩)), (13, .bool w.1), (14, .slice w.2.1 w.2.2.2.length w.2.2.1)]) (fun w => [own 5 1 (.slice w.2.1 w.2.2.2.length w.2.2.1) (bytesV w.2.2.2), G, pt b12 (.cells (cW nm mp mc).cells.toArray 26 (0, 0)), BktAt m M, F]) ?_ fun w hw => ?_
                          ·
                            refine J.seq ?_
                            refine J.region ?_
                            refine J.q rfl rfl (Q.asg rfl) ?_
                            refine J.nil ?_
                            refine J.then_n ?_
                            refine J.block ?_
                            refine J.give (own.nil 5 1 _) ?_
                            refine J.loop (fun w : Nat × Bool × Option Addr × Nat => w.1 ≤ nm.length ∧ (w.2.1 = true → partsOK nm = true ∧ ((nm.take w.1).all fun v => (sget v P).isSome) = true) ∧ (w.2.1 = false → partsOK nm = false ∨ collect P nm = none)) (fun w => nm.length - w.1) (fun w => [(2, .slice mp nm.length mc), (7, .pointer (some ⟨m, 0, none⟩)), (8, .map (some b46)), (12, .pointer (some ⟨b12, 0, none⟩)), (13, .bool w.2.1), (14, .slice w.2.2.1 ((nm.take w.1).flatMap (partOf P)).length w.2.2.2), (15, .int .i64 w.1)])
                              (fun w => [own 5 1 (.slice w.2.2.1 ((nm.take w.1).flatMap (partOf P)).length w.2.2.2) (bytesV ((nm.take w.1).flatMap (partOf P))), G, pt b12 (.cells (cW nm mp mc).cells.toArray 26 (0, 0)), BktAt m M, MapAt (Value.int .i64) plainRep b46 LS, F]) (0, partsOK nm, none, 0) ⟨Nat.zero_le _, fun h => ⟨h, rfl⟩, fun h => .inl h⟩ ⟨rfl, rfl, rfl, rfl, rfl, rfl, rfl, trivial⟩ rfl fun w hw => ?_
                            obtain ⟨j, all, p14, c14⟩ := w
                            obtain ⟨hj, ht, hf⟩ := hw
                            dsimp only at hj ht hf
                            have hacc := flat_len hL.small (nm.take j)
                            have hjl : (nm.take j).length ≤ 100 := by rw [List.length_take]; omega
                            have hacc2 : ((nm.take j).flatMap (partOf P)).length ≤ 1677721600 := by omega
                            refine J.seq ?_
                            refine J.seq ?_
                            refine J.region ?_
                            refine J.q rfl rfl (Q.mv rfl) ?_
                            refine J.q rfl rfl (Q.mv rfl) ?_
                            refine J.q rfl rfl (Q.lenSl Try.runUnderlying23 rfl) ?_
                            refine J.q rfl rfl (Q.lss rfl rfl) ?_
                            refine J.q rfl rfl (Q.mv rfl) ?_
                            refine J.cases 101 rfl (fun hb101 => ?_) (fun hb101 => ?_)
                            ·
                              first | replace hb101 := X.tt_dec hb101 | replace hb101 := X.tt_not hb101 | replace hb101 := X.ff_dec hb101 | replace hb101 := X.ff_not hb101 | skip
                              try (first | (cases hb101; done) | (exfalso; simp at hb101; done))
                              all_goals
                                refine J.q rfl rfl (Q.mv rfl) ?_
                                refine J.q rfl rfl (Q.pick_t rfl rfl) ?_
                                refine J.nil ?_
                                refine J.then_n ?_
                                refine J.cases 103 rfl (fun hc103 => ?_) (fun hc103 => ?_)
                                ·
                                  first | replace hc103 := X.tt_dec hc103 | replace hc103 := X.tt_not hc103 | replace hc103 := X.ff_dec hc103 | replace hc103 := X.ff_not hc103 | skip
                                  try (first | (cases hc103; done) | (exfalso; simp at hc103; done))
                                  all_goals
                                    refine J.cond_t rfl ?_
                                    refine J.cskip ?_
                                    refine J.then_n ?_
                                    refine J.seq ?_
                                    refine J.block ?_
                                    refine J.seq ?_
                                    obtain ⟨b, off, hmp, hrd⟩ := hm.some_ (by omega)
                                    obtain ⟨v, hv⟩ : ∃ v, nm[j]? = some v := ⟨_, List.getElem?_eq_getElem (by omega)⟩
                                    obtain ⟨d, hd1, hd2, hd3, hd4, hd5⟩ := hL.one hds v
                                    refine J.slot 2 (.slice (some ⟨b, off, none⟩) nm.length mc) rfl (by rw [hmp]) ?_
                                    refine J.region ?_
                                    refine J.q rfl rfl (Q.mv rfl) ?_
                                    refine J.q rfl rfl (Q.mv rfl) ?_
                                    refine J.q rfl rfl (Q.mv rfl) ?_
                                    refine J.q rfl rfl (Q.ia Try.runUnderlying23 Try.sizeOf3 rfl rfl (by omega) (by omega)) ?_
                                    refine J.q rfl rfl (Q.ld Try.isAgg3 rfl (((hrd j (.int .i64 v) (by simp [hv])).within (i := 1) rfl).cast (by simp))) ?_
                                    refine J.q rfl rfl (lk2Plain (i := 4) ord3_int hL.ls Try.runUnderlying38 keyI Try.zeroValue24 rfl rfl rfl) ?_
                                    refine J.q rfl rfl (Q.mv rfl) ?_
                                    refine J.q rfl rfl (Q.ext rfl rfl) ?_
                                    refine J.q rfl rfl (Q.ext rfl rfl) ?_
                                    refine J.q rfl rfl (Q.asg rfl) ?_
                                    refine J.q rfl rfl (Q.asg rfl) ?_
                                    refine J.nil ?_
                                    refine J.then_n ?_
                                    refine J.seq ?_
                                    refine J.region ?_
                                    refine J.q rfl rfl (Q.mv rfl) ?_
                                    refine J.q rfl rfl (Q.asg rfl) ?_
                                    refine J.nil ?_
                                    refine J.then_n ?_
                                    refine J.region ?_
                                    refine J.q rfl rfl (Q.mv rfl) ?_
                                    refine J.q rfl rfl (Q.mv rfl) ?_
                                    refine J.slot 117 (.slice d.p d.bs.length d.c) rfl (by rw [← hd1]) ?_
                                    refine J.c rfl rfl (C.app (i := 0) Try.runUnderlying24 Try.runUnderlying24 Try.typeInfo5 Try.sizeOf5 Try.zeroValue5 rfl rfl rfl (hd2.within (i := 1) rfl) (bytesV_one _) (by rw [show Try.t5.bytes = 1 from rfl]; show (_ + _) * 1 ≤ _; dsimp only; omega) (by decide)) ?_
                                    rintro _ _ ⟨p118, c118, rfl, rfl⟩
                                    refine J.norm rfl ?_
                                    refine J.q rfl rfl (Q.asg rfl) ?_
                                    refine J.nil ?_
                                    refine J.blk_n ?_
                                    refine J.then_n ?_
                                    refine J.region ?_
                                    refine J.q rfl rfl (Q.mv rfl) ?_
                                    refine J.q rfl rfl (Q.add64 rfl rfl (by omega)) ?_
                                    refine J.q rfl rfl (Q.asg rfl) ?_
                                    refine J.nil ?_
                                    have hfs : (nm.take (j + 1)).flatMap (partOf P) = (nm.take j).flatMap (partOf P) ++ d.bs := by
                                      obtain ⟨h1, h2⟩ := List.getElem?_eq_some_iff.1 hv
                                      rw [List.take_succ_eq_append_getElem h1, List.flatMap_append, h2, List.flatMap_cons, List.flatMap_nil, List.append_nil, ← hd3]
                                    refine J.again (j + 1, (sget v LS).isSome, p118, c118) ⟨by show j + 1 ≤ _; omega, fun h => ⟨(ht (by assumption)).1, all_take_some hv (ht (by assumption)).2 (by rw [← hd5]; exact h)⟩, fun h => .inr (collect_none hv (by rw [← Option.isNone_iff_eq_none]; have h' : (sget v LS).isSome = false := h; rw [hd5] at h'; cases e : sget v P with | none => rfl | some _ => rw [e] at h'; cases h'))⟩ (by show nm.length - (j + 1) < nm.length - j; omega) ⟨(by show _ = some (Value.slice mp _ _); rw [hmp]; rfl), rfl, rfl, rfl, rfl, (by show _ = some (Value.slice p118 _ c118); rw [hfs, List.length_append]; rfl), rfl, trivial⟩ ?_
                                    show _ = [own 5 1 (.slice p118 ((nm.take (j + 1)).flatMap (partOf P)).length c118) (bytesV ((nm.take (j + 1)).flatMap (partOf P))), _, _, _, _, _]
                                    rw [hfs, List.length_append, ← bytesV_append]
                                ·
                                  first | replace hc103 := X.tt_dec hc103 | replace hc103 := X.tt_not hc103 | replace hc103 := X.ff_dec hc103 | replace hc103 := X.ff_not hc103 | skip
                                  try (first | (cases hc103; done) | (exfalso; simp at hc103; done))
                                  all_goals
                                    refine J.cond_f rfl ?_
                                    refine J.exit ?_
                                    refine J.then_x ?_
                                    refine J.lp_x ?_
                                    refine J.blk_x ?_
                                    refine J.keep [0, 1, 2, 3, 5] rfl ?_
                                    refine J.meet (all, p14, c14, (nm.take j).flatMap (partOf P)) ⟨fun h => ?_, hf, by show ((nm.take j).flatMap (partOf P)).length ≤ _; omega⟩ ⟨rfl, rfl, rfl, rfl, trivial⟩ rfl
                                    exfalso
                                    simp_all
                            ·
                              first | replace hb101 := X.tt_dec hb101 | replace hb101 := X.tt_not hb101 | replace hb101 := X.ff_dec hb101 | replace hb101 := X.ff_not hb101 | skip
                              try (first | (cases hb101; done) | (exfalso; simp at hb101; done))
                              all_goals
                                refine J.skip rfl rfl ?_
                                refine J.q rfl rfl (Q.pick_f rfl rfl) ?_
                                refine J.nil ?_
                                refine J.then_n ?_
                                refine J.cond_f rfl ?_
                                refine J.exit ?_
                                refine J.then_x ?_
                                refine J.lp_x ?_
                                refine J.blk_x ?_
                                have hjn : j = nm.length := by omega
                                have htk : nm.take j = nm := by rw [hjn, List.take_length]
                                refine J.keep [0, 1, 2, 3, 5] rfl ?_
                                refine J.meet (all, p14, c14, (nm.take j).flatMap (partOf P)) ⟨fun h => ⟨(ht h).1, ?_⟩, hf, by show ((nm.take j).flatMap (partOf P)).length ≤ _; omega⟩ ⟨rfl, rfl, rfl, rfl, trivial⟩ rfl
                                have := (ht h).2
                                rw [htk] at this ⊢
                                unfold collect; rw [if_pos this]
                          ·
                            obtain ⟨all, p14, c14, bs⟩ := w
                            obtain ⟨ht, hf, hbl⟩ := hw
                            dsimp only at ht hf hbl
                            have hend := has_end hP nm
                            refine J.seq ?_
                            refine J.region ?_
                            refine J.q rfl rfl (Q.mv rfl) ?_
                            refine J.q rfl rfl (Q.ldN (vs := [_, _, _, _, _, _, _, _, _]) Try.isAgg26 Try.sizeOf26 rfl (by first | exact ReadsN.pt 0 rfl | exact ReadsN.pt 1 rfl | exact ReadsN.pt 2 rfl | exact ReadsN.pt 3 rfl | exact ReadsN.pt 4 rfl | exact ReadsN.pt 5 rfl | exact ReadsN.pt 6 rfl | exact ReadsN.pt 7 rfl | exact ReadsN.pt 8 rfl | exact ReadsN.pt 9 rfl | exact ReadsN.pt 10 rfl | exact ReadsN.pt 11 rfl | exact ReadsN.pt 12 rfl | exact ReadsN.pt 13 rfl)) ?_
                            refine J.call Try.call13 (do_no6 m M hok (cW nm mp mc) G (cW_ok hm (by omega)) (by show (9 : Int) ≠ 6; decide)) [3, 1] rfl rfl rfl rfl ?_
                            rintro _ _ ⟨y18, rfl, hy18, rfl⟩
                            refine J.norm rfl ?_
                            refine J.c rfl rfl (C.alloc (l := [_, _, _, _, _]) Try.zeroValue41 rfl) ?_
                            rintro _ _ ⟨b18, rfl, rfl⟩
                            refine J.norm rfl ?_
                            first | refine J.c0 rfl (C.stA (i := 0) (vs := [_, _, _, _, _]) Try.sizeOf41 rfl rfl rfl rfl rfl rfl) ?_ | refine J.c0 rfl (C.stA (i := 1) (vs := [_, _, _, _, _]) Try.sizeOf41 rfl rfl rfl rfl rfl rfl) ?_ | refine J.c0 rfl (C.stA (i := 2) (vs := [_, _, _, _, _]) Try.sizeOf41 rfl rfl rfl rfl rfl rfl) ?_ | refine J.c0 rfl (C.stA (i := 3) (vs := [_, _, _, _, _]) Try.sizeOf41 rfl rfl rfl rfl rfl rfl) ?_ | refine J.c0 rfl (C.stA (i := 4) (vs := [_, _, _, _, _]) Try.sizeOf41 rfl rfl rfl rfl rfl rfl) ?_ | refine J.c0 rfl (C.stA (i := 5) (vs := [_, _, _, _, _]) Try.sizeOf41 rfl rfl rfl rfl rfl rfl) ?_ | refine J.c0 rfl (C.stA (i := 6) (vs := [_, _, _, _, _]) Try.sizeOf41 rfl rfl rfl rfl rfl rfl) ?_ | refine J.c0 rfl (C.stA (i := 7) (vs := [_, _, _, _, _]) Try.sizeOf41 rfl rfl rfl rfl rfl rfl) ?_ | refine J.c0 rfl (C.stA (i := 8) (vs := [_, _, _, _, _]) Try.sizeOf41 rfl rfl rfl rfl rfl rfl) ?_ | refine J.c0 rfl (C.stA (i := 9) (vs := [_, _, _, _, _]) Try.sizeOf41 rfl rfl rfl rfl rfl rfl) ?_ | refine J.c0 rfl (C.stA (i := 10) (vs := [_, _, _, _, _]) Try.sizeOf41 rfl rfl rfl rfl rfl rfl) ?_ | refine J.c0 rfl (C.stA (i := 11) (vs := [_, _, _, _, _]) Try.sizeOf41 rfl rfl rfl rfl rfl rfl) ?_ | refine J.c0 rfl (C.stA (i := 12) (vs := [_, _, _, _, _]) Try.sizeOf41 rfl rfl rfl rfl rfl rfl) ?_ | refine J.c0 rfl (C.stA (i := 13) (vs := [_, _, _, _, _]) Try.sizeOf41 rfl rfl rfl rfl rfl rfl) ?_ | refine J.c0 rfl (C.stA (i := 14) (vs := [_, _, _, _, _]) Try.sizeOf41 rfl rfl rfl rfl rfl rfl) ?_ | refine J.c0 rfl (C.stA (i := 15) (vs := [_, _, _, _, _]) Try.sizeOf41 rfl rfl rfl rfl rfl rfl) ?_
                            rintro _ _ ⟨rfl, rfl⟩
                            refine J.nil ?_
                            refine J.then_n ?_
                            refine J.seq ?_
                            refine J.region ?_
                            refine J.q rfl rfl (Q.mv rfl) ?_
                            refine J.q rfl rfl (Q.bld (l := [_, _, _, _, _, _, _, _, _]) Try.runUnderlying26 Try.zeroValue26 Try.places26 rfl rfl) ?_
                            refine J.call Try.call13 (do_no6 m (M.run (cOp nm)).2 (run_ok hok _) gW G gW_ok (by show (4 : Int) ≠ 6; decide)) [1, 3] rfl rfl rfl rfl ?_
                            rintro _ _ ⟨y19, rfl, hy19, rfl⟩
                            refine J.norm rfl ?_
                            refine J.c rfl rfl (C.alloc (l := [_, _, _, _, _]) Try.zeroValue41 rfl) ?_
                            rintro _ _ ⟨b19, rfl, rfl⟩
                            refine J.norm rfl ?_
                            first | refine J.c0 rfl (C.stA (i := 0) (vs := [_, _, _, _, _]) Try.sizeOf41 rfl rfl rfl rfl rfl rfl) ?_ | refine J.c0 rfl (C.stA (i := 1) (vs := [_, _, _, _, _]) Try.sizeOf41 rfl rfl rfl rfl rfl rfl) ?_ | refine J.c0 rfl (C.stA (i := 2) (vs := [_, _, _, _, _]) Try.sizeOf41 rfl rfl rfl rfl rfl rfl) ?_ | refine J.c0 rfl (C.stA (i := 3) (vs := [_, _, _, _, _]) Try.sizeOf41 rfl rfl rfl rfl rfl rfl) ?_ | refine J.c0 rfl (C.stA (i := 4) (vs := [_, _, _, _, _]) Try.sizeOf41 rfl rfl rfl rfl rfl rfl) ?_ | refine J.c0 rfl (C.stA (i := 5) (vs := [_, _, _, _, _]) Try.sizeOf41 rfl rfl rfl rfl rfl rfl) ?_ | refine J.c0 rfl (C.stA (i := 6) (vs := [_, _, _, _, _]) Try.sizeOf41 rfl rfl rfl rfl rfl rfl) ?_ | refine J.c0 rfl (C.stA (i := 7) (vs := [_, _, _, _, _]) Try.sizeOf41 rfl rfl rfl rfl rfl rfl) ?_ | refine J.c0 rfl (C.stA (i := 8) (vs := [_, _, _, _, _]) Try.sizeOf41 rfl rfl rfl rfl rfl rfl) ?_ | refine J.c0 rfl (C.stA (i := 9) (vs := [_, _, _, _, _]) Try.sizeOf41 rfl rfl rfl rfl rfl rfl) ?_ | refine J.c0 rfl (C.stA (i := 10) (vs := [_, _, _, _, _]) Try.sizeOf41 rfl rfl rfl rfl rfl rfl) ?_ | refine J.c0 rfl (C.stA (i := 11) (vs := [_, _, _, _, _]) Try.sizeOf41 rfl rfl rfl rfl rfl rfl) ?_ | refine J.c0 rfl (C.stA (i := 12) (vs := [_, _, _, _, _]) Try.sizeOf41 rfl rfl rfl rfl rfl rfl) ?_ | refine J.c0 rfl (C.stA (i := 13) (vs := [_, _, _, _, _]) Try.sizeOf41 rfl rfl rfl rfl rfl rfl) ?_ | refine J.c0 rfl (C.stA (i := 14) (vs := [_, _, _, _, _]) Try.sizeOf41 rfl rfl rfl rfl rfl rfl) ?_ | refine J.c0 rfl (C.stA (i := 15) (vs := [_, _, _, _, _]) Try.sizeOf41 rfl rfl rfl rfl rfl rfl) ?_
                            rintro _ _ ⟨rfl, rfl⟩
                            refine J.nil ?_
                            refine J.then_n ?_
                            refine J.seq ?_
                            refine J.seq ?_
                            have hE1 : all = true → y18.r.status = 200 ∧ y19.r = ⟨200, 0, [], false, bs⟩ ∧ (((M.run (cOp nm)).2.run gOp).2.run aOp).1.status = 404 := fun h => by
                              obtain ⟨e1, e2, e3⟩ := hend.1 bs (ht h).1 (ht h).2
                              exact ⟨by rw [hy18]; exact e1, by rw [hy19]; exact e2, e3⟩
                            have hE0 : all = false → y18.r.status = 400 ∧ y19.r.status = 404 := fun h => by
                              obtain ⟨e1, e2⟩ := hend.2 (hf h)
                              exact ⟨by rw [hy18]; exact e1, by rw [hy19]; exact e2⟩
                            refine J.region ?_
                            refine J.q rfl rfl (Q.mv rfl) ?_
                            refine J.q rfl rfl (Q.not rfl) ?_
                            refine J.nil ?_
                            refine J.then_n ?_
                            refine J.cases 126 rfl (fun hc126 => ?_) (fun hc126 => ?_)
                            ·
                              first | replace hc126 := X.tt_dec hc126 | replace hc126 := X.tt_not hc126 | replace hc126 := X.ff_dec hc126 | replace hc126 := X.ff_not hc126 | skip
                              try (first | (cases hc126; done) | (exfalso; simp at hc126; done))
                              all_goals
                                refine J.cond_t rfl ?_
                                refine J.seq ?_
                                obtain ⟨hE2, hE3⟩ := hE0 (by simpa using hc126)
                                refine J.region ?_
                                refine J.q rfl rfl (Q.fa (n := 0) Try.runUnderlying41 rfl rfl Try.sizeOf3 rfl) ?_
                                refine J.q rfl rfl (Q.ld Try.isAgg3 rfl (by first | exact Reads.pt 0 rfl rfl | exact Reads.pt 1 rfl rfl | exact Reads.pt 2 rfl rfl | exact Reads.pt 3 rfl rfl | exact Reads.pt 4 rfl rfl | exact Reads.pt 5 rfl rfl | exact Reads.pt 6 rfl rfl | exact Reads.pt 7 rfl rfl | exact Reads.pt 8 rfl rfl | exact Reads.pt 9 rfl rfl | exact Reads.pt 10 rfl rfl | exact Reads.pt 11 rfl rfl | exact Reads.pt 12 rfl rfl | exact Reads.pt 13 rfl rfl)) ?_
                                refine J.q rfl rfl (Q.eql rfl rfl) ?_
                                refine J.q rfl rfl (Q.mv rfl) ?_
                                refine J.cases 130 rfl (fun hb130 => ?_) (fun hb130 => ?_)
                                ·
                                  first | replace hb130 := X.tt_dec hb130 | replace hb130 := X.tt_not hb130 | replace hb130 := X.ff_dec hb130 | replace hb130 := X.ff_not hb130 | skip
                                  try (first | (cases hb130; done) | (exfalso; simp at hb130; done))
                                  all_goals
                                    refine J.q rfl rfl (Q.fa (n := 0) Try.runUnderlying41 rfl rfl Try.sizeOf3 rfl) ?_
                                    refine J.q rfl rfl (Q.ld Try.isAgg3 rfl (by first | exact Reads.pt 0 rfl rfl | exact Reads.pt 1 rfl rfl | exact Reads.pt 2 rfl rfl | exact Reads.pt 3 rfl rfl | exact Reads.pt 4 rfl rfl | exact Reads.pt 5 rfl rfl | exact Reads.pt 6 rfl rfl | exact Reads.pt 7 rfl rfl | exact Reads.pt 8 rfl rfl | exact Reads.pt 9 rfl rfl | exact Reads.pt 10 rfl rfl | exact Reads.pt 11 rfl rfl | exact Reads.pt 12 rfl rfl | exact Reads.pt 13 rfl rfl)) ?_
                                    refine J.q rfl rfl (Q.eql rfl rfl) ?_
                                    refine J.q rfl rfl (Q.pick_t rfl rfl) ?_
                                    refine J.q rfl rfl (Q.asg rfl) ?_
                                    refine J.nil ?_
                                    refine J.then_n ?_
                                    refine J.cret ?_
                                    refine J.then_r ?_
                                    first
                                      | (refine J.keep [3, 8] rfl ?_
                                         refine J.ret1 (B := [G]) rfl rfl ⟨?_, rfl⟩ rfl)
                                      | (refine J.keep [3, 10] rfl ?_
                                         refine J.ret1 (B := [G]) rfl rfl ⟨?_, rfl⟩ rfl)
                                    first | rfl | (simp_all; done)
                                ·
                                  first | replace hb130 := X.tt_dec hb130 | replace hb130 := X.tt_not hb130 | replace hb130 := X.ff_dec hb130 | replace hb130 := X.ff_not hb130 | skip
                                  try (first | (cases hb130; done) | (exfalso; simp at hb130; done))
                                  all_goals
                                    refine J.skip rfl rfl ?_
                                    refine J.skip rfl rfl ?_
                                    refine J.skip rfl rfl ?_
                                    refine J.q rfl rfl (Q.pick_f rfl rfl) ?_
                                    refine J.q rfl rfl (Q.asg rfl) ?_
                                    refine J.nil ?_
                                    refine J.then_n ?_
                                    refine J.cret ?_
                                    refine J.then_r ?_
                                    first
                                      | (refine J.keep [3, 8] rfl ?_
                                         refine J.ret1 (B := [G]) rfl rfl ⟨?_, rfl⟩ rfl)
                                      | (refine J.keep [3, 10] rfl ?_
                                         refine J.ret1 (B := [G]) rfl rfl ⟨?_, rfl⟩ rfl)
                                    first | rfl | (simp_all; done)
                            ·
                              first | replace hc126 := X.tt_dec hc126 | replace hc126 := X.tt_not hc126 | replace hc126 := X.ff_dec hc126 | replace hc126 := X.ff_not hc126 | skip
                              try (first | (cases hc126; done) | (exfalso; simp at hc126; done))
                              all_goals
                                refine J.cond_f rfl ?_
                                refine J.cskip ?_
                                refine J.then_n ?_
                                refine J.seq ?_
                                obtain ⟨hE2, hE3, hE4⟩ := hE1 (by simpa using hc126)
                                refine J.region ?_
                                refine J.q rfl rfl (Q.mv rfl) ?_
                                refine J.q rfl rfl (Q.bld (l := [_, _, _, _, _, _, _, _, _]) Try.runUnderlying26 Try.zeroValue26 Try.places26 rfl rfl) ?_
                                refine J.call Try.call13 (do_no6 m ((M.run (cOp nm)).2.run gOp).2 (run_ok (run_ok hok _) _) aW G aW_ok (by show (10 : Int) ≠ 6; decide)) [1, 3] rfl rfl rfl rfl ?_
                                rintro _ _ ⟨y20, rfl, hy20, rfl⟩
                                refine J.norm rfl ?_
                                refine J.c rfl rfl (C.alloc (l := [_, _, _, _, _]) Try.zeroValue41 rfl) ?_
                                rintro _ _ ⟨b20, rfl, rfl⟩
                                refine J.norm rfl ?_
                                first | refine J.c0 rfl (C.stA (i := 0) (vs := [_, _, _, _, _]) Try.sizeOf41 rfl rfl rfl rfl rfl rfl) ?_ | refine J.c0 rfl (C.stA (i := 1) (vs := [_, _, _, _, _]) Try.sizeOf41 rfl rfl rfl rfl rfl rfl) ?_ | refine J.c0 rfl (C.stA (i := 2) (vs := [_, _, _, _, _]) Try.sizeOf41 rfl rfl rfl rfl rfl rfl) ?_ | refine J.c0 rfl (C.stA (i := 3) (vs := [_, _, _, _, _]) Try.sizeOf41 rfl rfl rfl rfl rfl rfl) ?_ | refine J.c0 rfl (C.stA (i := 4) (vs := [_, _, _, _, _]) Try.sizeOf41 rfl rfl rfl rfl rfl rfl) ?_ | refine J.c0 rfl (C.stA (i := 5) (vs := [_, _, _, _, _]) Try.sizeOf41 rfl rfl rfl rfl rfl rfl) ?_ | refine J.c0 rfl (C.stA (i := 6) (vs := [_, _, _, _, _]) Try.sizeOf41 rfl rfl rfl rfl rfl rfl) ?_ | refine J.c0 rfl (C.stA (i := 7) (vs := [_, _, _, _, _]) Try.sizeOf41 rfl rfl rfl rfl rfl rfl) ?_ | refine J.c0 rfl (C.stA (i := 8) (vs := [_, _, _, _, _]) Try.sizeOf41 rfl rfl rfl rfl rfl rfl) ?_ | refine J.c0 rfl (C.stA (i := 9) (vs := [_, _, _, _, _]) Try.sizeOf41 rfl rfl rfl rfl rfl rfl) ?_ | refine J.c0 rfl (C.stA (i := 10) (vs := [_, _, _, _, _]) Try.sizeOf41 rfl rfl rfl rfl rfl rfl) ?_ | refine J.c0 rfl (C.stA (i := 11) (vs := [_, _, _, _, _]) Try.sizeOf41 rfl rfl rfl rfl rfl rfl) ?_ | refine J.c0 rfl (C.stA (i := 12) (vs := [_, _, _, _, _]) Try.sizeOf41 rfl rfl rfl rfl rfl rfl) ?_ | refine J.c0 rfl (C.stA (i := 13) (vs := [_, _, _, _, _]) Try.sizeOf41 rfl rfl rfl rfl rfl rfl) ?_ | refine J.c0 rfl (C.stA (i := 14) (vs := [_, _, _, _, _]) Try.sizeOf41 rfl rfl rfl rfl rfl rfl) ?_ | refine J.c0 rfl (C.stA (i := 15) (vs := [_, _, _, _, _]) Try.sizeOf41 rfl rfl rfl rfl rfl rfl) ?_
                                rintro _ _ ⟨rfl, rfl⟩
                                refine J.nil ?_
                                refine J.then_n ?_
                                refine J.seq ?_
                                have hE5 : y20.r.status = 404 := by rw [hy20]; exact hE4
                                have hE6 : y19.r.data = bs := by rw [hE3]
                                have hE7 : y19.r.status = 200 := by rw [hE3]
                                refine J.tells 5 rfl (asn_ok (by rw [hE3]; exact ⟨Nat.zero_le _, hbl⟩)) fun hy19o => ?_
                                refine J.slr1 8 rfl fun hsw => ?_
                                refine J.region ?_
                                refine J.q rfl rfl (Q.fa (n := 0) Try.runUnderlying41 rfl rfl Try.sizeOf3 rfl) ?_
                                refine J.q rfl rfl (Q.ld Try.isAgg3 rfl (by first | exact Reads.pt 0 rfl rfl | exact Reads.pt 1 rfl rfl | exact Reads.pt 2 rfl rfl | exact Reads.pt 3 rfl rfl | exact Reads.pt 4 rfl rfl | exact Reads.pt 5 rfl rfl | exact Reads.pt 6 rfl rfl | exact Reads.pt 7 rfl rfl | exact Reads.pt 8 rfl rfl | exact Reads.pt 9 rfl rfl | exact Reads.pt 10 rfl rfl | exact Reads.pt 11 rfl rfl | exact Reads.pt 12 rfl rfl | exact Reads.pt 13 rfl rfl)) ?_
                                refine J.q rfl rfl (Q.eql rfl rfl) ?_
                                refine J.q rfl rfl (Q.mv rfl) ?_
                                refine J.cases 141 rfl (fun hb141 => ?_) (fun hb141 => ?_)
                                ·
                                  first | replace hb141 := X.tt_dec hb141 | replace hb141 := X.tt_not hb141 | replace hb141 := X.ff_dec hb141 | replace hb141 := X.ff_not hb141 | skip
                                  try (first | (cases hb141; done) | (exfalso; simp at hb141; done))
                                  all_goals
                                    refine J.q rfl rfl (Q.fa (n := 0) Try.runUnderlying41 rfl rfl Try.sizeOf3 rfl) ?_
                                    refine J.q rfl rfl (Q.ld Try.isAgg3 rfl (by first | exact Reads.pt 0 rfl rfl | exact Reads.pt 1 rfl rfl | exact Reads.pt 2 rfl rfl | exact Reads.pt 3 rfl rfl | exact Reads.pt 4 rfl rfl | exact Reads.pt 5 rfl rfl | exact Reads.pt 6 rfl rfl | exact Reads.pt 7 rfl rfl | exact Reads.pt 8 rfl rfl | exact Reads.pt 9 rfl rfl | exact Reads.pt 10 rfl rfl | exact Reads.pt 11 rfl rfl | exact Reads.pt 12 rfl rfl | exact Reads.pt 13 rfl rfl)) ?_
                                    refine J.q rfl rfl (Q.eql rfl rfl) ?_
                                    refine J.q rfl rfl (Q.pick_t rfl rfl) ?_
                                    refine J.q rfl rfl (Q.mv rfl) ?_
                                    refine J.cases 146 rfl (fun hb146 => ?_) (fun hb146 => ?_)
                                    ·
                                      first | replace hb146 := X.tt_dec hb146 | replace hb146 := X.tt_not hb146 | replace hb146 := X.ff_dec hb146 | replace hb146 := X.ff_not hb146 | skip
                                      try (first | (cases hb146; done) | (exfalso; simp at hb146; done))
                                      all_goals
                                        refine J.q rfl rfl (Q.fa (n := 4) Try.runUnderlying41 rfl rfl Try.sizeOf24 rfl) ?_
                                        refine J.q rfl rfl (Q.ld Try.isAgg24 rfl (by first | exact Reads.pt 0 rfl rfl | exact Reads.pt 1 rfl rfl | exact Reads.pt 2 rfl rfl | exact Reads.pt 3 rfl rfl | exact Reads.pt 4 rfl rfl | exact Reads.pt 5 rfl rfl | exact Reads.pt 6 rfl rfl | exact Reads.pt 7 rfl rfl | exact Reads.pt 8 rfl rfl | exact Reads.pt 9 rfl rfl | exact Reads.pt 10 rfl rfl | exact Reads.pt 11 rfl rfl | exact Reads.pt 12 rfl rfl | exact Reads.pt 13 rfl rfl)) ?_
                                        refine J.q rfl rfl (Q.b2s (bs := y19.r.data) Try.runUnderlying24 Try.runUnderlying9 Try.runUnderlying5 rfl (hy19o.data.within (i := 5) rfl)) ?_
                                        refine J.q rfl rfl (Q.mv rfl) ?_
                                        refine J.q rfl rfl (Q.b2s (bs := bs) Try.runUnderlying24 Try.runUnderlying9 Try.runUnderlying5 rfl (hsw.within (i := 8) rfl)) ?_
                                        refine J.q rfl rfl (Q.eqls rfl rfl) ?_
                                        refine J.q rfl rfl (Q.pick_t rfl rfl) ?_
                                        refine J.q rfl rfl (Q.mv rfl) ?_
                                        refine J.cases 154 rfl (fun hb154 => ?_) (fun hb154 => ?_)
                                        ·
                                          first | replace hb154 := X.tt_dec hb154 | replace hb154 := X.tt_not hb154 | replace hb154 := X.ff_dec hb154 | replace hb154 := X.ff_not hb154 | skip
                                          try (first | (cases hb154; done) | (exfalso; simp at hb154; done))
                                          all_goals
                                            refine J.q rfl rfl (Q.fa (n := 0) Try.runUnderlying41 rfl rfl Try.sizeOf3 rfl) ?_
                                            refine J.q rfl rfl (Q.ld Try.isAgg3 rfl (by first | exact Reads.pt 0 rfl rfl | exact Reads.pt 1 rfl rfl | exact Reads.pt 2 rfl rfl | exact Reads.pt 3 rfl rfl | exact Reads.pt 4 rfl rfl | exact Reads.pt 5 rfl rfl | exact Reads.pt 6 rfl rfl | exact Reads.pt 7 rfl rfl | exact Reads.pt 8 rfl rfl | exact Reads.pt 9 rfl rfl | exact Reads.pt 10 rfl rfl | exact Reads.pt 11 rfl rfl | exact Reads.pt 12 rfl rfl | exact Reads.pt 13 rfl rfl)) ?_
                                            refine J.q rfl rfl (Q.eql rfl rfl) ?_
                                            refine J.q rfl rfl (Q.pick_t rfl rfl) ?_
                                            refine J.q rfl rfl (Q.asg rfl) ?_
                                            refine J.nil ?_
                                            refine J.then_n ?_
                                            refine J.cret ?_
                                            first
                                              | (refine J.keep [3, 8] rfl ?_
                                                 refine J.ret1 (B := [G]) rfl rfl ⟨?_, rfl⟩ rfl)
                                              | (refine J.keep [3, 10] rfl ?_
                                                 refine J.ret1 (B := [G]) rfl rfl ⟨?_, rfl⟩ rfl)
                                            first | rfl | (simp_all; done)
                                        ·
                                          first | replace hb154 := X.tt_dec hb154 | replace hb154 := X.tt_not hb154 | replace hb154 := X.ff_dec hb154 | replace hb154 := X.ff_not hb154 | skip
                                          try (first | (cases hb154; done) | (exfalso; simp at hb154; done))
                                          all_goals
                                            refine J.skip rfl rfl ?_
                                            refine J.skip rfl rfl ?_
                                            refine J.skip rfl rfl ?_
                                            refine J.q rfl rfl (Q.pick_f rfl rfl) ?_
                                            refine J.q rfl rfl (Q.asg rfl) ?_
                                            refine J.nil ?_
                                            refine J.then_n ?_
                                            refine J.cret ?_
                                            first
                                              | (refine J.keep [3, 8] rfl ?_
                                                 refine J.ret1 (B := [G]) rfl rfl ⟨?_, rfl⟩ rfl)
                                              | (refine J.keep [3, 10] rfl ?_
                                                 refine J.ret1 (B := [G]) rfl rfl ⟨?_, rfl⟩ rfl)
                                            first | rfl | (simp_all; done)
                                    ·
                                      first | replace hb146 := X.tt_dec hb146 | replace hb146 := X.tt_not hb146 | replace hb146 := X.ff_dec hb146 | replace hb146 := X.ff_not hb146 | skip
                                      try (first | (cases hb146; done) | (exfalso; simp at hb146; done))
                                      all_goals
                                        refine J.skip rfl rfl ?_
                                        refine J.skip rfl rfl ?_
                                        refine J.skip rfl rfl ?_
                                        refine J.skip rfl rfl ?_
                                        refine J.skip rfl rfl ?_
                                        refine J.skip rfl rfl ?_
                                        refine J.q rfl rfl (Q.pick_f rfl rfl) ?_
                                        refine J.q rfl rfl (Q.mv rfl) ?_
                                        refine J.skip rfl rfl ?_
                                        refine J.skip rfl rfl ?_
                                        refine J.skip rfl rfl ?_
                                        refine J.q rfl rfl (Q.pick_f rfl rfl) ?_
                                        refine J.q rfl rfl (Q.asg rfl) ?_
                                        refine J.nil ?_
                                        refine J.then_n ?_
                                        refine J.cret ?_
                                        first
                                          | (refine J.keep [3, 8] rfl ?_
                                             refine J.ret1 (B := [G]) rfl rfl ⟨?_, rfl⟩ rfl)
                                          | (refine J.keep [3, 10] rfl ?_
                                             refine J.ret1 (B := [G]) rfl rfl ⟨?_, rfl⟩ rfl)
                                        first | rfl | (simp_all; done)
                                ·
                                  first | replace hb141 := X.tt_dec hb141 | replace hb141 := X.tt_not hb141 | replace hb141 := X.ff_dec hb141 | replace hb141 := X.ff_not hb141 | skip
                                  try (first | (cases hb141; done) | (exfalso; simp at hb141; done))
                                  all_goals
                                    refine J.skip rfl rfl ?_
                                    refine J.skip rfl rfl ?_
                                    refine J.skip rfl rfl ?_
                                    refine J.q rfl rfl (Q.pick_f rfl rfl) ?_
                                    refine J.q rfl rfl (Q.mv rfl) ?_
                                    refine J.skip rfl rfl ?_
                                    refine J.skip rfl rfl ?_
                                    refine J.skip rfl rfl ?_
                                    refine J.skip rfl rfl ?_
                                    refine J.skip rfl rfl ?_
                                    refine J.skip rfl rfl ?_
                                    refine J.q rfl rfl (Q.pick_f rfl rfl) ?_
                                    refine J.q rfl rfl (Q.mv rfl) ?_
                                    refine J.skip rfl rfl ?_
                                    refine J.skip rfl rfl ?_
                                    refine J.skip rfl rfl ?_
                                    refine J.q rfl rfl (Q.pick_f rfl rfl) ?_
                                    refine J.q rfl rfl (Q.asg rfl) ?_
                                    refine J.nil ?_
                                    refine J.then_n ?_
                                    refine J.cret ?_
                                    first
                                      | (refine J.keep [3, 8] rfl ?_
                                         refine J.ret1 (B := [G]) rfl rfl ⟨?_, rfl⟩ rfl)
                                      | (refine J.keep [3, 10] rfl ?_
                                         refine J.ret1 (B := [G]) rfl rfl ⟨?_, rfl⟩ rfl)
                                    first | rfl | (simp_all; done)
end
end Go.Proofs.Ytdancegklkifaaa
