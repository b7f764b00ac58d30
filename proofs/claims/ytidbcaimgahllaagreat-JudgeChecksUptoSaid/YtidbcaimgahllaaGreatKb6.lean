/-
  What the proof of the last of these texts leans on: part 6 of 7.
-/
import Derived.Test.YtidbcaimgahllaaGreatKb5
set_option linter.unusedSectionVars false
set_option linter.unusedVariables false
set_option linter.unusedSimpArgs false
namespace Go.Proofs.YtidbcaimgahllaaGreat
open Go.Proofs.Tryz
open Go.X
open Go.X.G (Ord3 ord3_nat ord3_int ord3_str ltB sget sput sdel Srtd MapAt MapHole valRep sget_put)

end Go.Proofs.YtidbcaimgahllaaGreat
namespace Go.Proofs.YtidbcaimgahllaaGreat
open Go.Proofs.Tryz
open Go.X
open Go.X.G (Ord3 ord3_nat ord3_int ord3_str ltB sget sput sdel Srtd MapAt MapHole valRep)

theorem waits_spec (G : Assn) (ep : Option Addr) (ec : Nat) (es : List EW) (he : Evs G ep ec es) (n id : Nat) (hn : n ≤ es.length) : FSpec Tryz.prog 25 [.slice ep es.length ec, .int .i64 n, .int .u64 id] [G] (fun v B => v = .bool (waitsM ((es.map EW.m).take n) id) ∧ B = [G]) := by
  have hsm := he.small
  refine FSpec.of func25 rfl ntmps25 rfl fun W0 F => ?_
  refine J.seq <| J.region <| J.p rfl (Q.asg rfl) <| J.nil <| J.then_n <| J.seq <| J.region <| J.p rfl (Q.asg rfl) <| J.nil <| J.then_n <| J.seq <| J.seq <| J.region <| J.p rfl (Q.asg rfl) <| J.nil <| J.then_n <| J.block ?_
  refine J.loop (fun i : Nat => i ≤ n) (fun i => n - i) (fun i => [(0, .slice ep es.length ec), (1, .int .i64 n), (2, .int .u64 id), (7, .bool (waitsM ((es.map EW.m).take i) id)), (8, .int .i64 i)]) (fun _ => [G, F]) 0 (Nat.zero_le _) ⟨rfl, rfl, rfl, rfl, rfl, trivial⟩ rfl fun i hi => ?_
  refine J.seq <| J.seq <| J.region <| J.m rfl <| J.m rfl <| J.p rfl (Q.lss rfl rfl) <| J.nil <| J.then_n ?_
  refine J.kases 11 rfl (fun hc11 => ?_) (fun hc11 => ?_)
  ·
   refine J.cond_t rfl <| J.cskip <| J.then_n <| J.seq <| J.block <| J.seq <| J.seq ?_
   have hil : i < n := by omega
   obtain ⟨b, off, hep, hrd⟩ := he.rd.some_ (by omega)
   obtain ⟨e, hex⟩ : ∃ e, es[i]? = some e := ⟨_, List.getElem?_eq_getElem (by omega)⟩
   have hw : waitsM ((es.map EW.m).take (i + 1)) id = if e.id = id then !e.answer else waitsM ((es.map EW.m).take i) id := by
    have hm : (es.map EW.m)[i]? = some e.m := by rw [List.getElem?_map, hex]; rfl
    obtain ⟨q1, q2⟩ := List.getElem?_eq_some_iff.1 hm
    rw [List.take_succ_eq_append_getElem q1, q2, waitsM_snoc]; rfl
   refine J.slot 0 (.slice (some ⟨b, off, none⟩) es.length ec) rfl (by rw [hep]) ?_
   refine J.region <| J.m rfl <| J.m rfl <| J.p rfl (Q.ia runUnderlying23 sizeOf58 rfl rfl (by omega) (by omega)) <| J.p rfl (Q.fa (n := 1) runUnderlying58 rfl rfl sizeOf40 rfl) <| J.p rfl (Q.ld isAgg40 rfl ((((rd_elem EW.len hrd hex rfl) 1 (.int .u64 e.id) rfl).cast (by simp)).inI)) <| J.m rfl <| J.p rfl (Q.neq rfl rfl) <| J.nil ?_
   refine J.then_n ?_
   refine J.kases 20 rfl (fun hc20 => ?_) (fun hc20 => ?_)
   ·
    refine J.cond_t rfl <| J.exit <| J.then_x <| J.blk_x <| J.then_n <| J.region <| J.m rfl <| J.p rfl (Q.add64 rfl rfl (by omega)) <| J.p rfl (Q.asg rfl) <| J.nil ?_
    first
     | (have hne : ¬ e.id = id := by omega
        rw [if_neg hne] at hw
        refine J.againI (i + 1) (by show i + 1 ≤ n; omega) (by show n - (i + 1) < n - i; omega) ⟨(by show _ = some (Value.slice ep es.length ec); rw [hep]; rfl), rfl, rfl, (by show _ = some (Value.bool (waitsM ((es.map EW.m).take (i + 1)) id)); rw [hw]; rfl), rfl, trivial⟩)
     | (have hne : e.id = id := by omega
        rw [if_pos hne] at hw
        refine J.againI (i + 1) (by show i + 1 ≤ n; omega) (by show n - (i + 1) < n - i; omega) ⟨(by show _ = some (Value.slice ep es.length ec); rw [hep]; rfl), rfl, rfl, (by show _ = some (Value.bool (waitsM ((es.map EW.m).take (i + 1)) id)); rw [hw]; rfl), rfl, trivial⟩)
   refine J.cond_f rfl <| J.cskip <| J.then_n <| J.region <| J.m rfl <| J.m rfl <| J.p rfl (Q.ia runUnderlying23 sizeOf58 rfl rfl (by omega) (by omega)) <| J.p rfl (Q.fa (n := 0) runUnderlying58 rfl rfl sizeOf4 rfl) <| J.p rfl (Q.ld isAgg4 rfl ((((rd_elem EW.len hrd hex rfl) 0 (.bool e.answer) rfl).cast (by simp)).inI)) <| J.p rfl (Q.not rfl) ?_
   refine J.p rfl (Q.asg rfl) <| J.nil <| J.blk_n <| J.then_n <| J.region <| J.m rfl <| J.p rfl (Q.add64 rfl rfl (by omega)) <| J.p rfl (Q.asg rfl) <| J.nil ?_
   first
    | (have hne : ¬ e.id = id := by omega
       rw [if_neg hne] at hw
       refine J.againI (i + 1) (by show i + 1 ≤ n; omega) (by show n - (i + 1) < n - i; omega) ⟨(by show _ = some (Value.slice ep es.length ec); rw [hep]; rfl), rfl, rfl, (by show _ = some (Value.bool (waitsM ((es.map EW.m).take (i + 1)) id)); rw [hw]; rfl), rfl, trivial⟩)
    | (have hne : e.id = id := by omega
       rw [if_pos hne] at hw
       refine J.againI (i + 1) (by show i + 1 ≤ n; omega) (by show n - (i + 1) < n - i; omega) ⟨(by show _ = some (Value.slice ep es.length ec); rw [hep]; rfl), rfl, rfl, (by show _ = some (Value.bool (waitsM ((es.map EW.m).take (i + 1)) id)); rw [hw]; rfl), rfl, trivial⟩)
  refine J.cond_f rfl <| J.exit <| J.then_x <| J.lp_x <| J.blk_x <| J.then_n <| J.seq <| J.region <| J.m rfl <| J.p rfl (Q.asg rfl) <| J.nil <| J.then_n <| J.cret ?_
  obtain rfl : i = n := by omega
  refine J.ret1I [G] rfl rfl ⟨rfl, rfl⟩

structure RCW where
  index : Nat
  bad : Bool
  point : Bool
  x : OW
abbrev RCW.cells (r : RCW) : List Value := [.int .u64 r.index, .bool r.bad, .bool r.point, .int .u64 r.x.o.id, .int .i64 r.x.o.kind, .string r.x.o.bucket, .string r.x.o.key, .string r.x.o.after, .int .i64 r.x.o.n, .int .u64 r.x.o.upload, .slice r.x.pp r.x.o.parts.length r.x.pc, .slice r.x.dp r.x.o.data.length r.x.dc]
theorem RCW.len (r : RCW) : r.cells.length = 12 := rfl
def RCW.m (r : RCW) : SM := ⟨r.x.o, r.point⟩
structure RComs (G : Assn) (rp : Option Addr) (rc : Nat) (l : List RCW) : Prop where
  rd : SlR [G] 12 (.slice rp l.length rc) (l.flatMap RCW.cells)
  ok : ∀ x, x ∈ l → x.x.ok G
  small : l.length ≤ 32768
structure DW where
  is : Bool
  x : OW
  w : RW
abbrev DW.cells (d : DW) : List Value := [.bool d.is, .int .u64 d.x.o.id, .int .i64 d.x.o.kind, .string d.x.o.bucket, .string d.x.o.key, .string d.x.o.after, .int .i64 d.x.o.n, .int .u64 d.x.o.upload, .slice d.x.pp d.x.o.parts.length d.x.pc, .slice d.x.dp d.x.o.data.length d.x.dc, .int .i64 d.w.r.status, .int .u64 d.w.r.upload, .slice d.w.kp d.w.r.keys.length d.w.kc, .bool d.w.r.more, .slice d.w.dp d.w.r.data.length d.w.dc]
theorem DW.len (d : DW) : d.cells.length = 15 := rfl
theorem DW.one (x : DW) : ∀ v, v ∈ x.cells → oneC v = true := by
  intro v hv
  simp only [DW.cells, List.mem_cons, List.not_mem_nil, or_false] at hv
  rcases hv with rfl | rfl | rfl | rfl | rfl | rfl | rfl | rfl | rfl | rfl | rfl | rfl | rfl | rfl | rfl <;> rfl
def DW.asn (d : DW) : Assn := d.w.asn
structure DRows (l : List SM) (rows : List DW) : Prop where
  is : rows.map (·.is) = l.map fun s => !s.point
  op : ∀ (i : Nat) (s : SM) (d : DW), l[i]? = some s → rows[i]? = some d → s.point = false → d.x.o.id = s.o.id
  rs : rows.map (·.w.r) = (playP l).rs

theorem early_spec (G1 G2 : Assn) (l : List SM) (rows : List DW) (hr : DRows l rows) (dp : Option Addr) (dc : Nat) (hd : SlR [G1] 15 (.slice dp rows.length dc) (rows.flatMap DW.cells)) (hrl : rows.length ≤ 32768) (ep : Option Addr) (ec : Nat) (es : List EW) (he : Evs G2 ep ec es) (id : Nat) :
    FSpec Tryz.prog 26 [.slice dp rows.length dc, .slice ep es.length ec, .int .u64 id] [G1, G2] (fun v B => ∃ b, v = .bool b ∧ EarlyIs l (es.map EW.m) id b ∧ B = [G1, G2]) := by
  have hsm := he.small
  have hll : rows.length = l.length := by
   have := congrArg List.length hr.is
   rwa [List.length_map, List.length_map] at this
  have hkey : ∀ (i : Nat) (s : SM) (d : DW), l[i]? = some s → rows[i]? = some d → d.is = !s.point := fun i s d h1 h2 => by
   have h3 : (rows.map (·.is))[i]? = some d.is := by rw [List.getElem?_map, h2]; rfl
   rw [hr.is, List.getElem?_map, h1] at h3
   exact (Option.some.inj h3).symm
  refine FSpec.of func26 rfl ntmps26 rfl fun W0 F => ?_
  refine J.seq <| J.region <| J.p rfl (Q.asg rfl) <| J.nil <| J.then_n <| J.seq <| J.region <| J.p rfl (Q.asg rfl) <| J.nil <| J.then_n ?_
  refine J.cut (fun f : Nat => FirstIs l id f ∧ f ≤ rows.length) (fun f => [(0, .slice dp rows.length dc), (1, .slice ep es.length ec), (2, .int .u64 id), (7, .int .i64 f)]) (fun _ => [G1, G2, F]) ?_ fun f hF => ?_
  ·
   refine J.seq <| J.region <| J.p rfl (Q.asg rfl) <| J.nil <| J.then_n <| J.block ?_
   refine J.loop2 (fun (i f : Nat) => i ≤ rows.length ∧ ((f = 0 ∧ ∀ (j : Nat) (s : SM), j < i → l[j]? = some s → ¬ isOp id s) ∨ (FirstIs l id f ∧ f ≠ 0 ∧ f ≤ rows.length))) (fun i f => rows.length - i) (fun i f => [(0, .slice dp rows.length dc), (1, .slice ep es.length ec), (2, .int .u64 id), (7, .int .i64 f), (8, .int .i64 i)]) (fun _ _ => [G1, G2, F]) 0 0 ⟨Nat.zero_le _, .inl ⟨rfl, fun _ _ h => absurd h (Nat.not_lt_zero _)⟩⟩ ⟨rfl, rfl, rfl, rfl, rfl, trivial⟩ rfl fun i f hf => ?_
   obtain ⟨hi, hf⟩ := hf
   refine J.seq <| J.seq <| J.region <| J.m rfl <| J.m rfl <| J.p rfl (Q.lenSl runUnderlying87 rfl) <| J.p rfl (Q.lss rfl rfl) <| J.m rfl ?_
   refine J.kases 16 rfl (fun hb16 => ?_) (fun hb16 => ?_)
   ·
    refine J.m rfl <| J.p rfl (Q.eql rfl rfl) <| J.p rfl (Q.pick_t rfl rfl) <| J.nil <| J.then_n ?_
    refine J.kases 19 rfl (fun hc19 => ?_) (fun hc19 => ?_)
    ·
     refine J.cond_t rfl <| J.cskip <| J.then_n <| J.seq <| J.block <| J.seq ?_
     have hil : i < rows.length := by omega
     have hf0 : f = 0 := by omega
     have hno : ∀ (j : Nat) (s : SM), j < i → l[j]? = some s → ¬ isOp id s := by
      rcases hf with h | h
      · exact h.2
      · exact absurd hf0 h.2.1
     obtain ⟨b, off, hdp, hrd⟩ := hd.some_ (by omega)
     obtain ⟨d, hdx⟩ : ∃ d, rows[i]? = some d := ⟨_, List.getElem?_eq_getElem (by omega)⟩
     obtain ⟨s, hsx⟩ : ∃ s, l[i]? = some s := ⟨_, List.getElem?_eq_getElem (by omega)⟩
     have hdi := hkey i s d hsx hdx
     refine J.slot 0 (.slice (some ⟨b, off, none⟩) rows.length dc) rfl (by rw [hdp]) ?_
     refine J.region <| J.m rfl <| J.m rfl <| J.p rfl (Q.ia runUnderlying87 sizeOf92 rfl rfl (by omega) (by omega)) <| J.p rfl (Q.fa (n := 0) runUnderlying92 rfl rfl sizeOf4 rfl) <| J.p rfl (Q.ld isAgg4 rfl ((((rd_elem DW.len hrd hdx rfl) 0 (.bool d.is) rfl).cast (by simp)).inI)) <| J.m rfl ?_
     refine J.kases 27 rfl (fun hb27 => ?_) (fun hb27 => ?_)
     ·
      refine J.m rfl <| J.m rfl <| J.p rfl (Q.ia runUnderlying87 sizeOf92 rfl rfl (by omega) (by omega)) <| J.p rfl (Q.fa (n := 1) runUnderlying92 rfl rfl sizeOf52 rfl) <| J.p rfl (Q.fa (n := 0) runUnderlying52 rfl rfl sizeOf40 rfl) <| J.p rfl (Q.ld isAgg40 rfl ((((rd_elem DW.len hrd hdx rfl) 1 (.int .u64 d.x.o.id) rfl).cast (by simp)).inI)) ?_
      refine J.m rfl <| J.p rfl (Q.eql rfl rfl) <| J.p rfl (Q.pick_t rfl rfl) <| J.nil <| J.then_n ?_
      refine J.kases 36 rfl (fun hc36 => ?_) (fun hc36 => ?_)
      ·
       refine J.cond_t rfl <| J.region <| J.m rfl <| J.p rfl (Q.add64 rfl rfl (by omega)) <| J.p rfl (Q.asg rfl) <| J.nil <| J.blk_n <| J.then_n <| J.region <| J.m rfl <| J.p rfl (Q.add64 rfl rfl (by omega)) <| J.p rfl (Q.asg rfl) <| J.nil ?_
       first
        | (have hp : s.point = false := by rw [show d.is = true from hb27] at hdi; simpa using hdi.symm
           have ho := hr.op i s d hsx hdx hp
           have hid : s.o.id = id := by omega
           refine J.againI (i + 1, i + 1) ⟨by show i + 1 ≤ _; omega, .inr ⟨⟨fun h => (by cases h), fun j hj => ?_⟩, by show i + 1 ≠ 0; omega, by show i + 1 ≤ _; omega⟩⟩ (by show rows.length - (i + 1) < rows.length - i; omega) ⟨(by show _ = some (Value.slice dp rows.length dc); rw [hdp]; rfl), rfl, rfl, rfl, rfl, trivial⟩
           obtain rfl : i = j := by have : i + 1 = j + 1 := hj
                                    omega
           exact ⟨⟨s, hsx, hp, hid⟩, hno⟩)
        | (have hnop : ¬ isOp id s := by
            rintro ⟨hp, hid⟩
            first
             | (rw [hp, show d.is = false from hb27] at hdi; cases hdi; done)
             | (have ho := hr.op i s d hsx hdx hp
                omega)
           refine J.againI (i + 1, f) ⟨by show i + 1 ≤ _; omega, .inl ⟨hf0, fun j t hj ht => ?_⟩⟩ (by show rows.length - (i + 1) < rows.length - i; omega) ⟨(by show _ = some (Value.slice dp rows.length dc); rw [hdp]; rfl), rfl, rfl, rfl, rfl, trivial⟩
           rcases Nat.lt_or_ge j i with q | q
           · exact hno j t q ht
           · obtain rfl : j = i := by have : j < i + 1 := hj
                                      omega
             rw [hsx] at ht; cases ht; exact hnop)
      refine J.cond_f rfl <| J.cskip <| J.blk_n <| J.then_n <| J.region <| J.m rfl <| J.p rfl (Q.add64 rfl rfl (by omega)) <| J.p rfl (Q.asg rfl) <| J.nil ?_
      first
       | (have hp : s.point = false := by rw [show d.is = true from hb27] at hdi; simpa using hdi.symm
          have ho := hr.op i s d hsx hdx hp
          have hid : s.o.id = id := by omega
          refine J.againI (i + 1, i + 1) ⟨by show i + 1 ≤ _; omega, .inr ⟨⟨fun h => (by cases h), fun j hj => ?_⟩, by show i + 1 ≠ 0; omega, by show i + 1 ≤ _; omega⟩⟩ (by show rows.length - (i + 1) < rows.length - i; omega) ⟨(by show _ = some (Value.slice dp rows.length dc); rw [hdp]; rfl), rfl, rfl, rfl, rfl, trivial⟩
          obtain rfl : i = j := by have : i + 1 = j + 1 := hj
                                   omega
          exact ⟨⟨s, hsx, hp, hid⟩, hno⟩)
       | (have hnop : ¬ isOp id s := by
           rintro ⟨hp, hid⟩
           first
            | (rw [hp, show d.is = false from hb27] at hdi; cases hdi; done)
            | (have ho := hr.op i s d hsx hdx hp
               omega)
          refine J.againI (i + 1, f) ⟨by show i + 1 ≤ _; omega, .inl ⟨hf0, fun j t hj ht => ?_⟩⟩ (by show rows.length - (i + 1) < rows.length - i; omega) ⟨(by show _ = some (Value.slice dp rows.length dc); rw [hdp]; rfl), rfl, rfl, rfl, rfl, trivial⟩
          rcases Nat.lt_or_ge j i with q | q
          · exact hno j t q ht
          · obtain rfl : j = i := by have : j < i + 1 := hj
                                     omega
            rw [hsx] at ht; cases ht; exact hnop)
     refine J.k rfl <| J.k rfl <| J.k rfl <| J.k rfl <| J.k rfl <| J.k rfl <| J.k rfl <| J.k rfl <| J.p rfl (Q.pick_f rfl rfl) <| J.nil <| J.then_n <| J.cond_f rfl <| J.cskip <| J.blk_n <| J.then_n <| J.region <| J.m rfl <| J.p rfl (Q.add64 rfl rfl (by omega)) <| J.p rfl (Q.asg rfl) <| J.nil ?_
     first
      | (have hp : s.point = false := by rw [show d.is = true from hb27] at hdi; simpa using hdi.symm
         have ho := hr.op i s d hsx hdx hp
         have hid : s.o.id = id := by omega
         refine J.againI (i + 1, i + 1) ⟨by show i + 1 ≤ _; omega, .inr ⟨⟨fun h => (by cases h), fun j hj => ?_⟩, by show i + 1 ≠ 0; omega, by show i + 1 ≤ _; omega⟩⟩ (by show rows.length - (i + 1) < rows.length - i; omega) ⟨(by show _ = some (Value.slice dp rows.length dc); rw [hdp]; rfl), rfl, rfl, rfl, rfl, trivial⟩
         obtain rfl : i = j := by have : i + 1 = j + 1 := hj
                                  omega
         exact ⟨⟨s, hsx, hp, hid⟩, hno⟩)
      | (have hnop : ¬ isOp id s := by
          rintro ⟨hp, hid⟩
          first
           | (rw [hp, show d.is = false from hb27] at hdi; cases hdi; done)
           | (have ho := hr.op i s d hsx hdx hp
              omega)
         refine J.againI (i + 1, f) ⟨by show i + 1 ≤ _; omega, .inl ⟨hf0, fun j t hj ht => ?_⟩⟩ (by show rows.length - (i + 1) < rows.length - i; omega) ⟨(by show _ = some (Value.slice dp rows.length dc); rw [hdp]; rfl), rfl, rfl, rfl, rfl, trivial⟩
         rcases Nat.lt_or_ge j i with q | q
         · exact hno j t q ht
         · obtain rfl : j = i := by have : j < i + 1 := hj
                                    omega
           rw [hsx] at ht; cases ht; exact hnop)
    refine J.cond_f rfl <| J.exit <| J.then_x <| J.lp_x <| J.blk_x ?_
    have hF : FirstIs l id f ∧ f ≤ rows.length := by
     rcases hf with ⟨h1, h2⟩ | ⟨h1, h2, h3⟩
     · refine ⟨⟨fun _ j s hj => h2 j s ?_ hj, fun j hj => by omega⟩, by omega⟩
       have := (List.getElem?_eq_some_iff.1 hj).1
       omega
     · exact ⟨h1, h3⟩
    exact J.meetI f hF ⟨rfl, rfl, rfl, rfl, trivial⟩
   refine J.k rfl <| J.k rfl <| J.p rfl (Q.pick_f rfl rfl) <| J.nil <| J.then_n <| J.cond_f rfl <| J.exit <| J.then_x <| J.lp_x <| J.blk_x ?_
   have hF : FirstIs l id f ∧ f ≤ rows.length := by
    rcases hf with ⟨h1, h2⟩ | ⟨h1, h2, h3⟩
    · refine ⟨⟨fun _ j s hj => h2 j s ?_ hj, fun j hj => by omega⟩, by omega⟩
      have := (List.getElem?_eq_some_iff.1 hj).1
      omega
    · exact ⟨h1, h3⟩
   exact J.meetI f hF ⟨rfl, rfl, rfl, rfl, trivial⟩
  refine J.norm rfl <| J.seq <| J.region <| J.p rfl (Q.asg rfl) <| J.nil <| J.then_n ?_
  refine J.cut (fun a : Option Nat => AskIs (es.map EW.m) id a ∧ ∀ n, a = some n → n < es.length) (fun a => [(1, .slice ep es.length ec), (7, .int .i64 f), (9, .int .i64 (match a with | none => -1 | some n => (n : Int)))]) (fun _ => [G1, G2, F]) ?_ fun a hA => ?_
  ·
   refine J.seq <| J.region <| J.p rfl (Q.asg rfl) <| J.nil <| J.then_n <| J.block ?_
   refine J.loop2 (fun (j : Nat) (a : Option Nat) => j ≤ es.length ∧ ((a = none ∧ ∀ (k : Nat) (e : EM), k < j → (es.map EW.m)[k]? = some e → ¬ isAsk id e) ∨ (∃ n, a = some n ∧ n < es.length ∧ AskIs (es.map EW.m) id a))) (fun j a => es.length - j)
    (fun j a => [(1, .slice ep es.length ec), (2, .int .u64 id), (7, .int .i64 f), (9, .int .i64 (match a with | none => -1 | some n => (n : Int))), (10, .int .i64 j)]) (fun _ _ => [G1, G2, F]) 0 none ⟨Nat.zero_le _, .inl ⟨rfl, fun _ _ h => absurd h (Nat.not_lt_zero _)⟩⟩ ⟨rfl, rfl, rfl, rfl, rfl, trivial⟩ rfl fun j a ha => ?_
   obtain ⟨hj, ha⟩ := ha
   refine J.seq <| J.seq <| J.region <| J.m rfl <| J.m rfl <| J.p rfl (Q.lenSl runUnderlying23 rfl) <| J.p rfl (Q.lss rfl rfl) <| J.m rfl ?_
   refine J.kases 43 rfl (fun hb43 => ?_) (fun hb43 => ?_)
   ·
    refine J.m rfl <| J.p rfl (Q.lss rfl rfl) <| J.p rfl (Q.pick_t rfl rfl) <| J.nil <| J.then_n ?_
    refine J.kases 46 rfl (fun hc46 => ?_) (fun hc46 => ?_)
    ·
     refine J.cond_t rfl <| J.cskip <| J.then_n <| J.seq <| J.block <| J.seq ?_
     have hjl : j < es.length := by omega
     have han : a = none := by
      cases a with
      | none => rfl
      | some n => have h := hc46; dsimp only at h; omega
     subst han
     have hno : ∀ (k : Nat) (e : EM), k < j → (es.map EW.m)[k]? = some e → ¬ isAsk id e := by
      rcases ha with h | ⟨n, h, _⟩
      · exact h.2
      · cases h
     obtain ⟨b, off, hep, hrd⟩ := he.rd.some_ (by omega)
     obtain ⟨e, hex⟩ : ∃ e, es[j]? = some e := ⟨_, List.getElem?_eq_getElem (by omega)⟩
     have hem : (es.map EW.m)[j]? = some e.m := by rw [List.getElem?_map, hex]; rfl
     refine J.slot 1 (.slice (some ⟨b, off, none⟩) es.length ec) rfl (by rw [hep]) ?_
     refine J.region <| J.m rfl <| J.m rfl <| J.p rfl (Q.ia runUnderlying23 sizeOf58 rfl rfl (by omega) (by omega)) <| J.p rfl (Q.fa (n := 0) runUnderlying58 rfl rfl sizeOf4 rfl) <| J.p rfl (Q.ld isAgg4 rfl ((((rd_elem EW.len hrd hex rfl) 0 (.bool e.answer) rfl).cast (by simp)).inI)) <| J.p rfl (Q.not rfl) <| J.m rfl ?_
     refine J.kases 55 rfl (fun hb55 => ?_) (fun hb55 => ?_)
     ·
      refine J.m rfl <| J.m rfl <| J.p rfl (Q.ia runUnderlying23 sizeOf58 rfl rfl (by omega) (by omega)) <| J.p rfl (Q.fa (n := 1) runUnderlying58 rfl rfl sizeOf40 rfl) <| J.p rfl (Q.ld isAgg40 rfl ((((rd_elem EW.len hrd hex rfl) 1 (.int .u64 e.id) rfl).cast (by simp)).inI)) <| J.m rfl <| J.p rfl (Q.eql rfl rfl) <| J.p rfl (Q.pick_t rfl rfl) ?_
      refine J.nil <| J.then_n ?_
      refine J.kases 63 rfl (fun hc63 => ?_) (fun hc63 => ?_)
      ·
       refine J.cond_t rfl <| J.region <| J.m rfl <| J.p rfl (Q.asg rfl) <| J.nil <| J.blk_n <| J.then_n <| J.region <| J.m rfl <| J.p rfl (Q.add64 rfl rfl (by omega)) <| J.p rfl (Q.asg rfl) <| J.nil ?_
       first
        | (have hask : isAsk id e.m := ⟨by show e.answer = false; have h := hb55; simpa using h, by show e.id = id; omega⟩
           refine J.againI (j + 1, some j) ⟨by show j + 1 ≤ _; omega, .inr ⟨j, rfl, hjl, ⟨fun h => (by cases h), fun k hk => ?_⟩⟩⟩ (by show es.length - (j + 1) < es.length - j; omega) ⟨(by show _ = some (Value.slice ep es.length ec); rw [hep]; rfl), rfl, rfl, rfl, rfl, trivial⟩
           cases hk
           exact ⟨⟨e.m, hem, hask⟩, hno⟩)
        | (have hnask : ¬ isAsk id e.m := by
            rintro ⟨h1, h2⟩
            have h1 : e.answer = false := h1
            have h2 : e.id = id := h2
            first
             | (rw [h1] at hb55; simp at hb55; done)
             | omega
           refine J.againI (j + 1, none) ⟨by show j + 1 ≤ _; omega, .inl ⟨rfl, fun k t hk ht => ?_⟩⟩ (by show es.length - (j + 1) < es.length - j; omega) ⟨(by show _ = some (Value.slice ep es.length ec); rw [hep]; rfl), rfl, rfl, rfl, rfl, trivial⟩
           rcases Nat.lt_or_ge k j with q | q
           · exact hno k t q ht
           · obtain rfl : k = j := by have : k < j + 1 := hk
                                      omega
             rw [hem] at ht; cases ht; exact hnask)
      refine J.cond_f rfl <| J.cskip <| J.blk_n <| J.then_n <| J.region <| J.m rfl <| J.p rfl (Q.add64 rfl rfl (by omega)) <| J.p rfl (Q.asg rfl) <| J.nil ?_
      first
       | (have hask : isAsk id e.m := ⟨by show e.answer = false; have h := hb55; simpa using h, by show e.id = id; omega⟩
          refine J.againI (j + 1, some j) ⟨by show j + 1 ≤ _; omega, .inr ⟨j, rfl, hjl, ⟨fun h => (by cases h), fun k hk => ?_⟩⟩⟩ (by show es.length - (j + 1) < es.length - j; omega) ⟨(by show _ = some (Value.slice ep es.length ec); rw [hep]; rfl), rfl, rfl, rfl, rfl, trivial⟩
          cases hk
          exact ⟨⟨e.m, hem, hask⟩, hno⟩)
       | (have hnask : ¬ isAsk id e.m := by
           rintro ⟨h1, h2⟩
           have h1 : e.answer = false := h1
           have h2 : e.id = id := h2
           first
            | (rw [h1] at hb55; simp at hb55; done)
            | omega
          refine J.againI (j + 1, none) ⟨by show j + 1 ≤ _; omega, .inl ⟨rfl, fun k t hk ht => ?_⟩⟩ (by show es.length - (j + 1) < es.length - j; omega) ⟨(by show _ = some (Value.slice ep es.length ec); rw [hep]; rfl), rfl, rfl, rfl, rfl, trivial⟩
          rcases Nat.lt_or_ge k j with q | q
          · exact hno k t q ht
          · obtain rfl : k = j := by have : k < j + 1 := hk
                                     omega
            rw [hem] at ht; cases ht; exact hnask)
     refine J.k rfl <| J.k rfl <| J.k rfl <| J.k rfl <| J.k rfl <| J.k rfl <| J.k rfl <| J.p rfl (Q.pick_f rfl rfl) <| J.nil <| J.then_n <| J.cond_f rfl <| J.cskip <| J.blk_n <| J.then_n <| J.region <| J.m rfl <| J.p rfl (Q.add64 rfl rfl (by omega)) <| J.p rfl (Q.asg rfl) <| J.nil ?_
     first
      | (have hask : isAsk id e.m := ⟨by show e.answer = false; have h := hb55; simpa using h, by show e.id = id; omega⟩
         refine J.againI (j + 1, some j) ⟨by show j + 1 ≤ _; omega, .inr ⟨j, rfl, hjl, ⟨fun h => (by cases h), fun k hk => ?_⟩⟩⟩ (by show es.length - (j + 1) < es.length - j; omega) ⟨(by show _ = some (Value.slice ep es.length ec); rw [hep]; rfl), rfl, rfl, rfl, rfl, trivial⟩
         cases hk
         exact ⟨⟨e.m, hem, hask⟩, hno⟩)
      | (have hnask : ¬ isAsk id e.m := by
          rintro ⟨h1, h2⟩
          have h1 : e.answer = false := h1
          have h2 : e.id = id := h2
          first
           | (rw [h1] at hb55; simp at hb55; done)
           | omega
         refine J.againI (j + 1, none) ⟨by show j + 1 ≤ _; omega, .inl ⟨rfl, fun k t hk ht => ?_⟩⟩ (by show es.length - (j + 1) < es.length - j; omega) ⟨(by show _ = some (Value.slice ep es.length ec); rw [hep]; rfl), rfl, rfl, rfl, rfl, trivial⟩
         rcases Nat.lt_or_ge k j with q | q
         · exact hno k t q ht
         · obtain rfl : k = j := by have : k < j + 1 := hk
                                    omega
           rw [hem] at ht; cases ht; exact hnask)
    refine J.cond_f rfl <| J.exit <| J.then_x <| J.lp_x <| J.blk_x ?_
    have hA : AskIs (es.map EW.m) id a ∧ ∀ n, a = some n → n < es.length := by
     rcases ha with ⟨h1, h2⟩ | ⟨n, h1, h2, h3⟩
     · subst h1
       refine ⟨⟨fun _ k e hk => h2 k e ?_ hk, fun i h => by cases h⟩, fun n h => by cases h⟩
       have := (List.getElem?_eq_some_iff.1 hk).1
       rw [List.length_map] at this
       first
        | omega
        | (have h := hc46; dsimp only at h; omega)
     · subst h1
       exact ⟨h3, fun m h => by cases h; exact h2⟩
    exact J.meetI a hA ⟨rfl, rfl, rfl, trivial⟩
   refine J.k rfl <| J.k rfl <| J.p rfl (Q.pick_f rfl rfl) <| J.nil <| J.then_n <| J.cond_f rfl <| J.exit <| J.then_x <| J.lp_x <| J.blk_x ?_
   have hA : AskIs (es.map EW.m) id a ∧ ∀ n, a = some n → n < es.length := by
    rcases ha with ⟨h1, h2⟩ | ⟨n, h1, h2, h3⟩
    · subst h1
      refine ⟨⟨fun _ k e hk => h2 k e ?_ hk, fun i h => by cases h⟩, fun n h => by cases h⟩
      have := (List.getElem?_eq_some_iff.1 hk).1
      rw [List.length_map] at this
      first
       | omega
       | (have h := hc46; dsimp only at h; omega)
    · subst h1
      exact ⟨h3, fun m h => by cases h; exact h2⟩
   exact J.meetI a hA ⟨rfl, rfl, rfl, trivial⟩
  refine J.norm rfl <| J.seq <| J.seq <| J.region <| J.m rfl <| J.p rfl (Q.eql rfl rfl) <| J.m rfl ?_
  refine J.kases 67 rfl (fun hb67 => ?_) (fun hb67 => ?_)
  ·
   refine J.k rfl <| J.k rfl <| J.p rfl (Q.pick_t rfl rfl) <| J.nil <| J.then_n <| J.cond_t rfl <| J.seq <| J.region <| J.p rfl (Q.asg rfl) <| J.nil <| J.then_n <| J.cret <| J.then_r ?_
   first
    | (have hyt : tellsGe f e.m = true := by
        unfold tellsGe
        show (e.answer && defB e.w.r.status && decide (f ≤ e.index)) = true
        rw [show e.answer = true from hb81, show defB e.w.r.status = true from hb90, decide_eq_true (show f ≤ e.index by omega)]; rfl
       refine J.ret1I [G1, G2] rfl rfl ⟨true, rfl, ⟨f, some n, hF.1, hA.1, ?_⟩, rfl⟩
       have : ((es.map EW.m).take n).any (tellsGe f) = true := List.any_eq_true.2 ⟨e.m, List.mem_of_getElem? (i := k) (by rw [List.getElem?_take_of_lt hkn]; exact hem), hyt⟩
       dsimp only
       rw [this, decide_eq_true hf0]; rfl)
    | (refine J.ret1I [G1, G2] rfl rfl ⟨false, rfl, ⟨f, some n, hF.1, hA.1, ?_⟩, rfl⟩
       obtain rfl : k = n := by omega
       dsimp only
       rw [hka]; simp)
    | (refine J.ret1I [G1, G2] rfl rfl ⟨false, rfl, ⟨f, a, hF.1, hA.1, ?_⟩, rfl⟩
       first
        | (rw [decide_eq_false (show ¬ f ≠ 0 by omega)]; rfl)
        | (cases a with
           | none => simp
           | some n => exfalso; have h := hc70; dsimp only at h; omega))
  refine J.m rfl <| J.p rfl (Q.lss rfl rfl) <| J.p rfl (Q.pick_f rfl rfl) <| J.nil <| J.then_n ?_
  refine J.kases 70 rfl (fun hc70 => ?_) (fun hc70 => ?_)
  ·
   refine J.cond_t rfl <| J.seq <| J.region <| J.p rfl (Q.asg rfl) <| J.nil <| J.then_n <| J.cret <| J.then_r ?_
   first
    | (have hyt : tellsGe f e.m = true := by
        unfold tellsGe
        show (e.answer && defB e.w.r.status && decide (f ≤ e.index)) = true
        rw [show e.answer = true from hb81, show defB e.w.r.status = true from hb90, decide_eq_true (show f ≤ e.index by omega)]; rfl
       refine J.ret1I [G1, G2] rfl rfl ⟨true, rfl, ⟨f, some n, hF.1, hA.1, ?_⟩, rfl⟩
       have : ((es.map EW.m).take n).any (tellsGe f) = true := List.any_eq_true.2 ⟨e.m, List.mem_of_getElem? (i := k) (by rw [List.getElem?_take_of_lt hkn]; exact hem), hyt⟩
       dsimp only
       rw [this, decide_eq_true hf0]; rfl)
    | (refine J.ret1I [G1, G2] rfl rfl ⟨false, rfl, ⟨f, some n, hF.1, hA.1, ?_⟩, rfl⟩
       obtain rfl : k = n := by omega
       dsimp only
       rw [hka]; simp)
    | (refine J.ret1I [G1, G2] rfl rfl ⟨false, rfl, ⟨f, a, hF.1, hA.1, ?_⟩, rfl⟩
       first
        | (rw [decide_eq_false (show ¬ f ≠ 0 by omega)]; rfl)
        | (cases a with
           | none => simp
           | some n => exfalso; have h := hc70; dsimp only at h; omega))
  refine J.cond_f rfl <| J.cskip <| J.then_n <| J.seq <| J.seq ?_
  have hf0 : f ≠ 0 := by omega
  obtain ⟨n, hn⟩ : ∃ n, a = some n := by
   cases a with
   | none => exfalso; have h := hc70; dsimp only at h; omega
   | some n => exact ⟨n, rfl⟩
  subst hn
  have hnl := hA.2 n rfl
  refine J.region <| J.p rfl (Q.asg rfl) <| J.nil <| J.then_n <| J.block ?_
  refine J.loop (fun k : Nat => k ≤ n ∧ ((es.map EW.m).take k).any (tellsGe f) = false) (fun k => n - k) (fun k => [(1, .slice ep es.length ec), (7, .int .i64 f), (9, .int .i64 n), (11, .int .i64 k)]) (fun _ => [G1, G2, F]) 0 ⟨Nat.zero_le _, rfl⟩ ⟨rfl, rfl, rfl, rfl, trivial⟩ rfl fun k hk => ?_
  obtain ⟨hk, hka⟩ := hk
  refine J.seq <| J.seq <| J.region <| J.m rfl <| J.m rfl <| J.p rfl (Q.lss rfl rfl) <| J.nil <| J.then_n ?_
  refine J.kases 73 rfl (fun hc73 => ?_) (fun hc73 => ?_)
  ·
   refine J.cond_t rfl <| J.cskip <| J.then_n <| J.seq <| J.block <| J.seq ?_
   have hkn : k < n := by omega
   obtain ⟨b, off, hep, hrd⟩ := he.rd.some_ (by omega)
   obtain ⟨e, hex⟩ : ∃ e, es[k]? = some e := ⟨_, List.getElem?_eq_getElem (by omega)⟩
   have hem : (es.map EW.m)[k]? = some e.m := by rw [List.getElem?_map, hex]; rfl
   have hidx := (he.ok e (List.mem_of_getElem? hex)).index
   refine J.slot 1 (.slice (some ⟨b, off, none⟩) es.length ec) rfl (by rw [hep]) ?_
   refine J.region <| J.m rfl <| J.m rfl <| J.p rfl (Q.ia runUnderlying23 sizeOf58 rfl rfl (by omega) (by omega)) <| J.p rfl (Q.fa (n := 0) runUnderlying58 rfl rfl sizeOf4 rfl) <| J.p rfl (Q.ld isAgg4 rfl ((((rd_elem EW.len hrd hex rfl) 0 (.bool e.answer) rfl).cast (by simp)).inI)) <| J.m rfl ?_
   refine J.kases 81 rfl (fun hb81 => ?_) (fun hb81 => ?_)
   ·
    refine J.m rfl <| J.m rfl <| J.p rfl (Q.ia runUnderlying23 sizeOf58 rfl rfl (by omega) (by omega)) <| J.p rfl (Q.fa (n := 12) runUnderlying58 rfl rfl sizeOf44 rfl) <| J.p rfl (Q.fa (n := 0) runUnderlying44 rfl rfl sizeOf3 rfl) <| J.p rfl (Q.ld isAgg3 rfl ((((rd_elem EW.len hrd hex rfl) 12 (.int .i64 e.w.r.status) rfl).cast (by simp)).inI)) ?_
    refine J.callI call15 (rdefinite_spec e.w.r.status) rfl rfl rfl ?_
    rintro _ _ ⟨rfl, rfl⟩
    refine J.norm rfl <| J.p rfl (Q.pick_t rfl rfl) <| J.m rfl ?_
    refine J.kases 90 rfl (fun hb90 => ?_) (fun hb90 => ?_)
    ·
     refine J.m rfl <| J.m rfl <| J.p rfl (Q.ia runUnderlying23 sizeOf58 rfl rfl (by omega) (by omega)) <| J.p rfl (Q.fa (n := 11) runUnderlying58 rfl rfl sizeOf40 rfl) <| J.p rfl (Q.ld isAgg40 rfl ((((rd_elem EW.len hrd hex rfl) 11 (.int .u64 e.index) rfl).cast (by simp)).inI)) <| J.m rfl <| J.p rfl (Q.conv runUnderlying3 runUnderlying40 rfl) ?_
     refine J.slot 97 (.int .u64 (f : Int)) rfl (by rw [wrap64 (by omega)]) ?_
     refine J.p rfl (Q.geq rfl rfl) <| J.p rfl (Q.pick_t rfl rfl) <| J.nil <| J.then_n ?_
     refine J.kases 99 rfl (fun hc99 => ?_) (fun hc99 => ?_)
     ·
      refine J.cond_t rfl <| J.seq <| J.region <| J.p rfl (Q.asg rfl) <| J.nil <| J.then_n <| J.cret <| J.blk_r <| J.then_r <| J.lp_r <| J.blk_r <| J.then_r ?_
      first
       | (have hyt : tellsGe f e.m = true := by
           unfold tellsGe
           show (e.answer && defB e.w.r.status && decide (f ≤ e.index)) = true
           rw [show e.answer = true from hb81, show defB e.w.r.status = true from hb90, decide_eq_true (show f ≤ e.index by omega)]; rfl
          refine J.ret1I [G1, G2] rfl rfl ⟨true, rfl, ⟨f, some n, hF.1, hA.1, ?_⟩, rfl⟩
          have : ((es.map EW.m).take n).any (tellsGe f) = true := List.any_eq_true.2 ⟨e.m, List.mem_of_getElem? (i := k) (by rw [List.getElem?_take_of_lt hkn]; exact hem), hyt⟩
          dsimp only
          rw [this, decide_eq_true hf0]; rfl)
       | (refine J.ret1I [G1, G2] rfl rfl ⟨false, rfl, ⟨f, some n, hF.1, hA.1, ?_⟩, rfl⟩
          obtain rfl : k = n := by omega
          dsimp only
          rw [hka]; simp)
       | (refine J.ret1I [G1, G2] rfl rfl ⟨false, rfl, ⟨f, a, hF.1, hA.1, ?_⟩, rfl⟩
          first
           | (rw [decide_eq_false (show ¬ f ≠ 0 by omega)]; rfl)
           | (cases a with
              | none => simp
              | some n => exfalso; have h := hc70; dsimp only at h; omega))
     refine J.cond_f rfl <| J.cskip <| J.blk_n <| J.then_n <| J.region <| J.m rfl <| J.p rfl (Q.add64 rfl rfl (by omega)) <| J.p rfl (Q.asg rfl) <| J.nil ?_
     have hnt : tellsGe f e.m = false := by
      unfold tellsGe
      show (e.answer && defB e.w.r.status && decide (f ≤ e.index)) = false
      first
       | (rw [show e.answer = false from hb81]; rfl)
       | (rw [show defB e.w.r.status = false from hb90]; simp)
       | (rw [decide_eq_false (show ¬ f ≤ e.index by omega)]; simp)
     refine J.againI (k + 1) ⟨by show k + 1 ≤ n; omega, ?_⟩ (by show n - (k + 1) < n - k; omega) ⟨(by show _ = some (Value.slice ep es.length ec); rw [hep]; rfl), rfl, rfl, rfl, trivial⟩
     obtain ⟨q1, q2⟩ := List.getElem?_eq_some_iff.1 hem
     rw [List.take_succ_eq_append_getElem q1, q2, List.any_append, hka]; simp [hnt]
    refine J.k rfl <| J.k rfl <| J.k rfl <| J.k rfl <| J.k rfl <| J.k rfl <| J.k rfl <| J.k rfl <| J.p rfl (Q.pick_f rfl rfl) <| J.nil <| J.then_n <| J.cond_f rfl <| J.cskip <| J.blk_n <| J.then_n <| J.region <| J.m rfl <| J.p rfl (Q.add64 rfl rfl (by omega)) <| J.p rfl (Q.asg rfl) <| J.nil ?_
    have hnt : tellsGe f e.m = false := by
     unfold tellsGe
     show (e.answer && defB e.w.r.status && decide (f ≤ e.index)) = false
     first
      | (rw [show e.answer = false from hb81]; rfl)
      | (rw [show defB e.w.r.status = false from hb90]; simp)
      | (rw [decide_eq_false (show ¬ f ≤ e.index by omega)]; simp)
    refine J.againI (k + 1) ⟨by show k + 1 ≤ n; omega, ?_⟩ (by show n - (k + 1) < n - k; omega) ⟨(by show _ = some (Value.slice ep es.length ec); rw [hep]; rfl), rfl, rfl, rfl, trivial⟩
    obtain ⟨q1, q2⟩ := List.getElem?_eq_some_iff.1 hem
    rw [List.take_succ_eq_append_getElem q1, q2, List.any_append, hka]; simp [hnt]
   refine J.k rfl <| J.k rfl <| J.k rfl <| J.k rfl <| J.k rfl <| J.k rfl <| J.k rfl <| J.p rfl (Q.pick_f rfl rfl) <| J.m rfl <| J.k rfl <| J.k rfl <| J.k rfl <| J.k rfl <| J.k rfl <| J.k rfl <| J.k rfl <| J.k rfl <| J.p rfl (Q.pick_f rfl rfl) <| J.nil <| J.then_n <| J.cond_f rfl <| J.cskip ?_
   refine J.blk_n <| J.then_n <| J.region <| J.m rfl <| J.p rfl (Q.add64 rfl rfl (by omega)) <| J.p rfl (Q.asg rfl) <| J.nil ?_
   have hnt : tellsGe f e.m = false := by
    unfold tellsGe
    show (e.answer && defB e.w.r.status && decide (f ≤ e.index)) = false
    first
     | (rw [show e.answer = false from hb81]; rfl)
     | (rw [show defB e.w.r.status = false from hb90]; simp)
     | (rw [decide_eq_false (show ¬ f ≤ e.index by omega)]; simp)
   refine J.againI (k + 1) ⟨by show k + 1 ≤ n; omega, ?_⟩ (by show n - (k + 1) < n - k; omega) ⟨(by show _ = some (Value.slice ep es.length ec); rw [hep]; rfl), rfl, rfl, rfl, trivial⟩
   obtain ⟨q1, q2⟩ := List.getElem?_eq_some_iff.1 hem
   rw [List.take_succ_eq_append_getElem q1, q2, List.any_append, hka]; simp [hnt]
  refine J.cond_f rfl <| J.exit <| J.then_x <| J.lp_x <| J.blk_x <| J.then_n <| J.seq <| J.region <| J.p rfl (Q.asg rfl) <| J.nil <| J.then_n <| J.cret ?_
  first
   | (have hyt : tellsGe f e.m = true := by
       unfold tellsGe
       show (e.answer && defB e.w.r.status && decide (f ≤ e.index)) = true
       rw [show e.answer = true from hb81, show defB e.w.r.status = true from hb90, decide_eq_true (show f ≤ e.index by omega)]; rfl
      refine J.ret1I [G1, G2] rfl rfl ⟨true, rfl, ⟨f, some n, hF.1, hA.1, ?_⟩, rfl⟩
      have : ((es.map EW.m).take n).any (tellsGe f) = true := List.any_eq_true.2 ⟨e.m, List.mem_of_getElem? (i := k) (by rw [List.getElem?_take_of_lt hkn]; exact hem), hyt⟩
      dsimp only
      rw [this, decide_eq_true hf0]; rfl)
   | (refine J.ret1I [G1, G2] rfl rfl ⟨false, rfl, ⟨f, some n, hF.1, hA.1, ?_⟩, rfl⟩
      obtain rfl : k = n := by omega
      dsimp only
      rw [hka]; simp)
   | (refine J.ret1I [G1, G2] rfl rfl ⟨false, rfl, ⟨f, a, hF.1, hA.1, ?_⟩, rfl⟩
      first
       | (rw [decide_eq_false (show ¬ f ≠ 0 by omega)]; rfl)
       | (cases a with
          | none => simp
          | some n => exfalso; have h := hc70; dsimp only at h; omega))

theorem rd_cast {D : List Assn} {b o o' : Nat} {vs : List Value} (h : ReadsN D b o vs) (e : o = o') : ReadsN D b o' vs := e ▸ h
theorem rd_sub {D : List Assn} {b o : Nat} {vs us : List Value} (h : ReadsN D b o vs) (k : Nat) (hv : (vs.drop k).take us.length = us) : ReadsN D b (o + k) us := by
  intro j u hu
  have hj := (List.getElem?_eq_some_iff.1 hu).1
  have : vs[k + j]? = some u := by
    rw [← List.getElem?_drop, ← List.getElem?_take_of_lt hj, hv]; exact hu
  have := h (k + j) u this
  rwa [← Nat.add_assoc] at this

structure BM.invB (k : Nat) (M : BM) : Prop where
  ok : M.ok k
  kok : M.kok
  fit : M.fit k 16777216
  kin : M.kin
theorem BM.invB.lite {k : Nat} {M : BM} (h : M.invB k) (hk : k ≤ 32768) : M.lite :=
  ⟨h.ok.bs, h.ok.us, h.ok.ds, by have := h.ok.len; omega, fun n u hu => by have := (h.fit.up n u hu).2.1; omega⟩
theorem play_invB : ∀ (l : List SM) {k : Nat} {z : PS}, z.M.invB k → (∀ s, s ∈ l → s.point = false → s.o.chkB = true ∧ s.o.id ≤ U64) → (l.foldl PS.step z).M.invB (k + l.length)
  | [], _, _, h, _ => h
  | s :: l, k, z, h, hs => by
    have hstep : (z.step s).M.invB (k + 1) := by
      unfold PS.step
      split
      · exact ⟨h.ok.mono (Nat.le_succ k), h.kok, h.fit.mono (Nat.le_succ k), h.kin⟩
      · rename_i hp
        have h1 := hs s List.mem_cons_self (by simpa using hp)
        exact ⟨run_ok h.ok s.o, run_kok h.ok h.kok s.o, run_fit h.ok h.fit (chk_len h1.1) h1.2, run_kin h.kin s.o⟩
    have := play_invB l hstep fun t ht => hs t (List.mem_cons_of_mem _ ht)
    rw [List.foldl_cons, List.length_cons, show k + (l.length + 1) = k + 1 + l.length by omega]; exact this
theorem playP_invB {l : List SM} (hs : ∀ s, s ∈ l → s.point = false → s.o.chkB = true ∧ s.o.id ≤ U64) : (playP l).M.invB l.length := by
  have := play_invB l (k := 0) (z := ⟨⟨[], [], []⟩, [], []⟩) ⟨BM.ok.new, kok_new, fit_new _, fun _ _ h => by cases h⟩ hs
  rwa [Nat.zero_add] at this

section
variable (G : Assn) (rp : Option Addr) (rc : Nat) (l : List RCW) (hl : RComs G rp rc l)
include hl
theorem played_ok (hi : ∀ (i : Nat) (x : RCW), l[i]? = some x → x.index = i + 1) (hb : ∀ x, x ∈ l → x.bad = false) (hc : ∀ x, x ∈ l → x.point = false → x.x.o.chkB = true ∧ x.x.o.id ≤ U64) : FSpec Tryz.prog 24 [.slice rp l.length rc] [G]
    (fun u B => ∃ (rows : List DW) (p : Option Addr) (c : Nat), u = .tuple #[.slice p rows.length c, .int .i64 0] ∧ DRows (l.map RCW.m) rows ∧ B = [own 92 15 (.slice p rows.length c) (rows.flatMap DW.cells), star (rows.map DW.asn), G]) := by
  have hsml := hl.small
  refine FSpec.of func24 rfl ntmps24 rfl fun W0 F => ?_
  refine J.seq <| J.region <| J.p rfl (Q.asg rfl) <| J.p rfl (Q.asg rfl) <| J.nil <| J.then_n <| J.seq <| J.region <| J.p rfl (Q.asg rfl) <| J.nil <| J.then_n <| J.seq <| J.region ?_
  refine J.callI call11 (rnew_spec) rfl rfl rfl ?_
  rintro _ _ ⟨m, rfl, rfl⟩
  refine J.norm rfl <| J.p rfl (Q.asg rfl) <| J.nil <| J.then_n <| J.seq <| J.seq <| J.region <| J.p rfl (Q.asg rfl) <| J.nil <| J.then_n <| J.block ?_
  refine J.loop (fun i : Nat => i ≤ l.length) (fun i => l.length - i) (fun i => [(0, .slice rp l.length rc), (4, .slice none 0 0), (5, .pointer (some ⟨m, 0, none⟩)), (6, .int .i64 i)]) (fun _ => [RefAt m ⟨[], [], []⟩, G, F]) 0 (Nat.zero_le _) ⟨rfl, rfl, rfl, rfl, trivial⟩ rfl fun i hil => ?_
  refine J.seq <| J.seq <| J.region <| J.m rfl <| J.m rfl <| J.p rfl (Q.lenSl runUnderlying26 rfl) <| J.p rfl (Q.lss rfl rfl) <| J.nil <| J.then_n ?_
  refine J.kases 13 rfl (fun hc13 => ?_) (fun hc13 => ?_)
  ·
   refine J.cond_t rfl <| J.cskip <| J.then_n <| J.seq <| J.block <| J.seq ?_
   have hlt : i < l.length := by omega
   obtain ⟨b, off, hrp, hrd⟩ := hl.rd.some_ (by omega)
   obtain ⟨x, hx⟩ : ∃ x, l[i]? = some x := ⟨_, List.getElem?_eq_getElem (by omega)⟩
   have hix := hi i x hx
   refine J.slot 0 (.slice (some ⟨b, off, none⟩) l.length rc) rfl (by rw [hrp]) ?_
   refine J.region <| J.m rfl <| J.m rfl <| J.p rfl (Q.ia runUnderlying26 sizeOf71 rfl rfl (by omega) (by omega)) <| J.p rfl (Q.fa (n := 0) runUnderlying71 rfl rfl sizeOf40 rfl) <| J.p rfl (Q.ld isAgg40 rfl ((((rd_elem RCW.len hrd hx rfl) 0 (.int .u64 x.index) rfl).cast (by simp)).inI)) <| J.m rfl <| J.p rfl (Q.add64 rfl rfl (by omega)) ?_
   refine J.p rfl (Q.conv runUnderlying3 runUnderlying40 rfl) ?_
   refine J.slot 23 (.int .u64 ((i + 1 : Nat) : Int)) rfl (by rw [show ((i : Int) + 1) = ((i + 1 : Nat) : Int) by omega, wrap64 (by omega)]) ?_
   refine J.p rfl (Q.neq rfl rfl) <| J.nil <| J.then_n ?_
   refine J.cases 24 rfl (fun hc24 => ?_) (fun hc24 => ?_)
   ·
    (exfalso; have hq := X.nm hc24; rw [hix] at hq; exact hq rfl)
   replace hc24 := X.nm hc24
   refine J.cond_f rfl <| J.cskip <| J.blk_n <| J.then_n <| J.region <| J.m rfl <| J.p rfl (Q.add64 rfl rfl (by omega)) <| J.p rfl (Q.asg rfl) <| J.nil ?_
   refine J.againI (i + 1) (by show i + 1 ≤ _; omega) (by show l.length - (i + 1) < l.length - i; omega) ⟨(by show _ = some (Value.slice rp l.length rc); rw [hrp]; rfl), rfl, rfl, rfl, trivial⟩
  refine J.cond_f rfl <| J.exit <| J.then_x <| J.lp_x <| J.blk_x <| J.then_n <| J.seq <| J.seq <| J.region <| J.p rfl (Q.asg rfl) <| J.nil <| J.then_n <| J.block ?_
  refine J.give (own.nil 92 15 _) ?_
  refine J.give (X := star (([] : List DW).map DW.asn)) trivial ?_
  refine J.keepI [own 92 15 (.slice none 0 0) [], star (([] : List DW).map DW.asn), RefAt m ⟨[], [], []⟩, G, F] ?_
  refine J.loop4 (fun (j : Nat) (rows : List DW) (_ : Option Addr) (_ : Nat) => j ≤ l.length ∧ DRows ((l.map RCW.m).take j) rows) (fun j _ _ _ => l.length - j)
   (fun j rows p c => [(0, .slice rp l.length rc), (4, .slice p rows.length c), (5, .pointer (some ⟨m, 0, none⟩)), (7, .int .i64 j)])
   (fun j rows p c => [own 92 15 (.slice p rows.length c) (rows.flatMap DW.cells), star (rows.map DW.asn), RefAt m (playP ((l.map RCW.m).take j)).M, G, F]) 0 [] none 0 ⟨Nat.zero_le _, ⟨rfl, (fun _ _ _ h => by cases h), rfl⟩⟩ ⟨rfl, rfl, rfl, rfl, trivial⟩ rfl fun j rows p c hz => ?_
  obtain ⟨hj, hD⟩ := hz
  refine J.seq <| J.seq <| J.region <| J.m rfl <| J.m rfl <| J.p rfl (Q.lenSl runUnderlying26 rfl) <| J.p rfl (Q.lss rfl rfl) <| J.nil <| J.then_n ?_
  refine J.kases 28 rfl (fun hc28 => ?_) (fun hc28 => ?_)
  ·
   refine J.cond_t rfl <| J.cskip <| J.then_n <| J.seq <| J.block <| J.seq <| J.seq ?_
   have hlt : j < l.length := by omega
   obtain ⟨b, off, hrp, hrd⟩ := hl.rd.some_ (by omega)
   obtain ⟨x, hx⟩ : ∃ x, l[j]? = some x := ⟨_, List.getElem?_eq_getElem (by omega)⟩
   have hxm := List.mem_of_getElem? hx
   have hxb := hb x hxm
   have hxo := hl.ok x hxm
   have hsm : (l.map RCW.m)[j]? = some x.m := by rw [List.getElem?_map, hx]; rfl
   have hpt := playP_take hsm
   have hinv := playP_invB (l := (l.map RCW.m).take j) (fun s hs hp => by
    obtain ⟨y, hy, rfl⟩ := List.mem_map.1 (List.mem_of_mem_take hs)
    exact hc y hy hp)
   rw [List.length_take, List.length_map, Nat.min_eq_left (by omega)] at hinv
   have hDr := hD.rs
   obtain ⟨S, hS⟩ : ∃ S, S = playP ((l.map RCW.m).take j) := ⟨_, rfl⟩
   rw [← hS] at hpt hinv hDr ⊢
   have hrl : rows.length = j := by
    have := congrArg List.length hD.is
    rw [List.length_map, List.length_map, List.length_take, List.length_map] at this
    omega
   refine J.slot 0 (.slice (some ⟨b, off, none⟩) l.length rc) rfl (by rw [hrp]) ?_
   refine J.region <| J.m rfl <| J.m rfl <| J.p rfl (Q.ia runUnderlying26 sizeOf71 rfl rfl (by omega) (by omega)) <| J.p rfl (Q.fa (n := 1) runUnderlying71 rfl rfl sizeOf4 rfl) <| J.p rfl (Q.ld isAgg4 rfl ((((rd_elem RCW.len hrd hx rfl) 1 (.bool x.bad) rfl).cast (by simp)).inI)) ?_
   refine J.slot 35 (.bool false) rfl (by rw [hxb]) ?_
   refine J.nil <| J.then_n <| J.cond_f rfl <| J.cskip <| J.then_n <| J.seq <| J.region <| J.p rfl (Q.bld (l := DW.cells ⟨false, bareW O0, stW 0⟩) runUnderlying92 zeroValue92 places92 rfl (by kernel_rfl)) ?_
   refine J.c rfl rfl (C.alloc (l := [_, _, _, _, _, _, _, _, _, _, _, _, _, _, _]) zeroValue92 rfl) ?_
   rintro _ _ ⟨b8, rfl, rfl⟩
   refine J.norm rfl ?_
   refine J.stAJ (vs := [_, _, _, _, _, _, _, _, _, _, _, _, _, _, _]) rfl sizeOf92 rfl rfl ?_
   refine J.nil <| J.then_n ?_
   refine J.cut (fun d : DW => (x.point = false → d.is = true ∧ d.x = x.x ∧ d.w.r = (S.M.run x.x.o).1) ∧ (x.point = true → d.is = false ∧ d.w.r = st 0)) (fun _ => [(0, .slice (some ⟨b, off, none⟩) l.length rc), (4, .slice p rows.length c), (5, .pointer (some ⟨m, 0, none⟩)), (7, .int .i64 j), (8, .pointer (some ⟨b8, 0, none⟩))])
    (fun d => [own 92 15 (.slice (some ⟨b8, 0, none⟩) 1 1) ([d].flatMap DW.cells), d.asn, own 92 15 (.slice p rows.length c) (rows.flatMap DW.cells), star (rows.map DW.asn), RefAt m (S.step x.m).M, G, F]) ?_ fun d hd => ?_
   ·
    refine J.seq ?_
    refine J.convI (pt b8 (.cells (DW.cells ⟨false, bareW O0, stW 0⟩).toArray 92 (0, 0))) (own 92 15 (.slice (some ⟨b8, 0, none⟩) 1 1) ([(⟨false, bareW O0, stW 0⟩ : DW)].flatMap DW.cells)) (own_of_block (l := [(⟨false, bareW O0, stW 0⟩ : DW)].flatMap DW.cells) rfl) ?_
    refine J.region <| J.m rfl <| J.m rfl <| J.p rfl (Q.ia runUnderlying26 sizeOf71 rfl rfl (by omega) (by omega)) <| J.p rfl (Q.fa (n := 2) runUnderlying71 rfl rfl sizeOf4 rfl) <| J.p rfl (Q.ld isAgg4 rfl ((((rd_elem RCW.len hrd hx rfl) 2 (.bool x.point) rfl).cast (by simp)).inI)) <| J.p rfl (Q.not rfl) <| J.nil <| J.then_n ?_
    refine J.kases 42 rfl (fun hc42 => ?_) (fun hc42 => ?_)
    ·
     refine J.cond_t rfl <| J.seq <| J.region <| J.p rfl (Q.fa (n := 0) runUnderlying92 rfl rfl sizeOf4 rfl) ?_
     refine J.c0 rfl (C.st1O (E := 92) (sz := 15) (b := b8) (off := 0) (n := 1) (c := 1) (xs := [(⟨false, bareW O0, stW 0⟩ : DW)].flatMap DW.cells) 0 sizeOf4 rfl rfl rfl rfl (by decide)) ?_
     rintro _ _ ⟨rfl, rfl⟩
     refine J.norm rfl ?_
     rw [show ([(⟨false, bareW O0, stW 0⟩ : DW)].flatMap DW.cells).set 0 (.bool true) = [(⟨true, bareW O0, stW 0⟩ : DW)].flatMap DW.cells from rfl]
     refine J.nil <| J.then_n <| J.seq <| J.region <| J.m rfl <| J.m rfl <| J.p rfl (Q.ia runUnderlying26 sizeOf71 rfl rfl (by omega) (by omega)) <| J.p rfl (Q.fa (n := 3) runUnderlying71 rfl rfl sizeOf52 rfl) <| J.p rfl (Q.ldN (vs := [_, _, _, _, _, _, _, _, _]) isAgg52 sizeOf52 rfl ((rd_cast (rd_sub (us := x.x.cells) (rd_elem RCW.len hrd hx rfl) 3 rfl) (by simp)).inI)) ?_
     refine J.p rfl (Q.fa (n := 1) runUnderlying92 rfl rfl sizeOf52 rfl) ?_
     refine J.c0 rfl (C.stNO (E := 92) (sz := 15) (b := b8) (off := 0) (n := 1) (c := 1) (xs := [(⟨true, bareW O0, stW 0⟩ : DW)].flatMap DW.cells) (vs := x.x.cells) 1 sizeOf52 rfl rfl rfl (Nat.le_of_ble_eq_true rfl) rfl) ?_
     rintro _ _ ⟨rfl, rfl⟩
     refine J.norm rfl ?_
     rw [show splice ([(⟨true, bareW O0, stW 0⟩ : DW)].flatMap DW.cells) 1 x.x.cells = [(⟨true, x.x, stW 0⟩ : DW)].flatMap DW.cells from rfl]
     refine J.nil <| J.then_n <| J.region <| J.m rfl <| J.m rfl <| J.m rfl <| J.p rfl (Q.ia runUnderlying26 sizeOf71 rfl rfl (by omega) (by omega)) <| J.p rfl (Q.fa (n := 3) runUnderlying71 rfl rfl sizeOf52 rfl) <| J.p rfl (Q.ldN (vs := [_, _, _, _, _, _, _, _, _]) isAgg52 sizeOf52 rfl ((rd_cast (rd_sub (us := x.x.cells) (rd_elem RCW.len hrd hx rfl) 3 rfl) (by simp)).inI)) ?_
     refine J.callI call13 (rdo_spec m S.M (hinv.lite (by omega)) hinv.ok (by omega) hinv.kin x.x G hxo) rfl rfl rfl ?_
     rintro _ _ ⟨r, rfl, hr, rfl⟩
     refine J.norm rfl <| J.p rfl (Q.fa (n := 10) runUnderlying92 rfl rfl sizeOf44 rfl) ?_
     refine J.c0 rfl (C.stNO (E := 92) (sz := 15) (b := b8) (off := 0) (n := 1) (c := 1) (xs := [(⟨true, x.x, stW 0⟩ : DW)].flatMap DW.cells) (vs := r.cells) 10 sizeOf44 rfl rfl rfl (Nat.le_of_ble_eq_true rfl) rfl) ?_
     rintro _ _ ⟨rfl, rfl⟩
     refine J.norm rfl ?_
     rw [show splice ([(⟨true, x.x, stW 0⟩ : DW)].flatMap DW.cells) 10 r.cells = [(⟨true, x.x, r⟩ : DW)].flatMap DW.cells from rfl]
     refine J.nil ?_
     have hp : x.point = false := by simpa using hc42
     have e : (S.step x.m).M = (S.M.run x.x.o).2 := by simp [PS.step, RCW.m, hp]
     rw [e]
     refine J.convI r.asn (DW.asn ⟨true, x.x, r⟩) (fun _ h => h) ?_
     exact J.meetI (⟨true, x.x, r⟩ : DW) ⟨fun _ => ⟨rfl, rfl, hr⟩, fun h => by rw [hp] at h; cases h⟩ ⟨rfl, rfl, rfl, rfl, rfl, trivial⟩
    refine J.cond_f rfl <| J.cskip ?_
    have hp : x.point = true := by simpa using hc42
    have e : (S.step x.m).M = S.M := by simp [PS.step, RCW.m, hp]
    rw [e]
    refine J.give (X := DW.asn ⟨false, bareW O0, stW 0⟩) empty_asn ?_
    exact J.meetI (⟨false, bareW O0, stW 0⟩ : DW) ⟨fun h => (by rw [hp] at h; cases h), fun _ => ⟨rfl, rfl⟩⟩ ⟨rfl, rfl, rfl, rfl, rfl, trivial⟩
   refine J.norm rfl <| J.region <| J.m rfl ?_
   refine J.p rfl (Q.ldN (vs := [_, _, _, _, _, _, _, _, _, _, _, _, _, _, _]) isAgg92 sizeOf92 rfl (rnO DW.len (l := [d]) (i := 0) rfl (by simp))) ?_
   refine J.c rfl rfl (C.bslG (l := [_, _, _, _, _, _, _, _, _, _, _, _, _, _, _]) runUnderlying87 sizeOf92 zeroValue92 (by decide) rfl rfl rfl rfl rfl) ?_
   rintro _ _ ⟨b60, rfl, rfl⟩
   refine J.norm rfl ?_
   refine J.c rfl rfl (C.appI runUnderlying87 runUnderlying87 typeInfo92 sizeOf92 zeroValue92 rfl rfl (SlR.ptI rfl) (DW.one d) (by simp [Tryz.t92] <;> omega) (by decide)) ?_
   rintro _ _ ⟨p61, c61, rfl, rfl⟩
   refine J.norm rfl <| J.p rfl (Q.asg rfl) <| J.nil <| J.blk_n <| J.then_n <| J.region <| J.m rfl <| J.p rfl (Q.add64 rfl rfl (by omega)) <| J.p rfl (Q.asg rfl) <| J.nil ?_
   refine J.shutI [DW.asn d, star (rows.map DW.asn)] (star ((rows ++ [d]).map DW.asn)) (star_snoc _) ?_
   have e1 : rows.length + 1 = (rows ++ [d]).length := by simp
   have e2 : rows.flatMap DW.cells ++ d.cells = (rows ++ [d]).flatMap DW.cells := by simp
   rw [e1, e2, ← hpt]
   have htk : (l.map RCW.m).take (j + 1) = (l.map RCW.m).take j ++ [x.m] := by
    obtain ⟨q1, q2⟩ := List.getElem?_eq_some_iff.1 hsm
    rw [List.take_succ_eq_append_getElem q1, q2]
   refine J.againI (j + 1, rows ++ [d], p61, c61) ⟨by show j + 1 ≤ _; omega, ?_⟩ (by show l.length - (j + 1) < l.length - j; omega) ⟨(by show _ = some (Value.slice rp l.length rc); rw [hrp]; rfl), rfl, rfl, rfl, trivial⟩
   show DRows ((l.map RCW.m).take (j + 1)) (rows ++ [d])
   rw [htk]
   refine ⟨?_, ?_, ?_⟩
   · rw [List.map_append, List.map_append, hD.is]
     congr 1
     show [d.is] = [!x.point]
     cases hp : x.point with
     | true => rw [(hd.2 hp).1]; rfl
     | false => rw [(hd.1 hp).1]; rfl
   · intro i s d2 h1 h2 h3
     rcases Nat.lt_or_ge i rows.length with q | q
     · rw [List.getElem?_append_left (by rw [List.length_take, List.length_map]; omega)] at h1
       rw [List.getElem?_append_left q] at h2
       exact hD.op i s d2 h1 h2 h3
     · rw [List.getElem?_append_right q] at h2
       have hk := (List.getElem?_eq_some_iff.1 h2).1
       have hk2 : i - rows.length < 1 := hk
       rw [List.getElem?_append_right (by rw [List.length_take, List.length_map]; omega), List.length_take, List.length_map] at h1
       rw [show i - rows.length = 0 by omega] at h2
       rw [show i - min j l.length = 0 by omega] at h1
       cases h1; cases h2
       rw [(hd.1 h3).2.1]; rfl
   · rw [List.map_append, hDr, playP_snoc, ← hS]
     show S.rs ++ [d.w.r] = (S.step x.m).rs
     unfold PS.step
     cases hp : x.point with
     | true => rw [(hd.2 hp).2, if_pos (show x.m.point = true from hp)]
     | false => rw [(hd.1 hp).2.2, if_neg (show ¬ x.m.point = true by show ¬ x.point = true; rw [hp]; simp)]; rfl
  refine J.cond_f rfl <| J.exit <| J.then_x <| J.lp_x <| J.blk_x <| J.then_n <| J.seq <| J.region <| J.m rfl <| J.p rfl (Q.asg rfl) <| J.p rfl (Q.asg rfl) <| J.nil <| J.then_n <| J.cret ?_
  have htk : (l.map RCW.m).take j = l.map RCW.m := List.take_of_length_le (by rw [List.length_map]; omega)
  rw [htk] at hD
  refine J.ret2I [own 92 15 (.slice p rows.length c) (rows.flatMap DW.cells), star (rows.map DW.asn), G] rfl rfl rfl ⟨rows, p, c, rfl, hD, rfl⟩
end

def ruF (i : Nat) (l : List Int) : List FM := l.map fun r => ⟨r, (i : Int)⟩
theorem ruF_add (i : Nat) (l : List Int) (r : Int) (b : Bool) : ruF i (addR l r b) = if b then ruF i l ++ [⟨r, (i : Int)⟩] else ruF i l := by
  unfold addR ruF
  split <;> simp
def rr1 (es : List EM) (e : EM) : List Int := addR [] 2 (!waitsM es e.id)
def rr2 (l : List SM) (es : List EM) (e : EM) : List Int := addR (rr1 es e) 3 (decide (e.index ≠ 0) && !thereB (begM l) e.id e.index)
def rr3 (l : List SM) (es : List EM) (e : EM) : List Int := addR (rr2 l es e) 4 (defB e.res.status && decide (e.index = 0))
def rr4 (l : List SM) (es : List EM) (e : EM) (late : Bool) : List Int := addR (rr3 l es e) 5 (decide (e.index ≠ 0) && late)
theorem Evs.front {G : Assn} {ep : Option Addr} {ec : Nat} {l : List EW} (h : Evs G ep ec l) {i : Nat} (hi : i ≤ l.length) : Evs G ep ec (l.take i) := by
  have hl : (l.take i).length = i := by rw [List.length_take]; omega
  refine ⟨?_, fun x hx => h.ok x (List.mem_of_mem_take hx), by have := h.small; omega⟩
  rw [hl]
  rcases Nat.eq_zero_or_pos i with q | q
  · subst q; exact .inl ⟨ep, ec, rfl, rfl⟩
  · obtain ⟨b, off, rfl, hrd⟩ := h.rd.some_ (by omega)
    refine .inr ⟨b, off, i, ec, rfl, by rw [flat_length EW.len, hl], fun j u hu => hrd j u ?_⟩
    have : l.flatMap EW.cells = (l.take i).flatMap EW.cells ++ (l.drop i).flatMap EW.cells := by rw [← List.flatMap_append, List.take_append_drop]
    rw [this, List.getElem?_append_left (List.getElem?_eq_some_iff.1 hu).1]; exact hu
theorem dws_ok {rows : List DW} (hs : ∀ d, d ∈ rows → d.w.r.keys.length ≤ 1099511627776 ∧ d.w.r.data.length ≤ 1099511627776) : ∀ h, star (rows.map DW.asn) h → ∀ (i : Nat) (d : DW), rows[i]? = some d → d.w.ok d.asn := by
  intro h hh i d hr
  have s1 : HSat h (d.asn :: (rows.eraseIdx i).map DW.asn) := HSat.perm (perm_focus DW.asn hr) hh
  obtain ⟨h1, h2, a, _⟩ := s1
  exact asn_ok (hs d (List.mem_of_getElem? hr)) h1 a

theorem first_gen {α : Type} (l : List α) (P : α → Prop) : ∀ n, ∃ o : Option Nat, (o = none → ∀ (i : Nat) (x : α), i < n → l[i]? = some x → ¬ P x) ∧ ∀ i, o = some i → (∃ x, l[i]? = some x ∧ P x) ∧ ∀ (j : Nat) (x : α), j < i → l[j]? = some x → ¬ P x
  | 0 => ⟨none, fun _ _ _ h => absurd h (Nat.not_lt_zero _), fun _ h => by cases h⟩
  | n + 1 => by
    obtain ⟨o, h1, h2⟩ := first_gen l P n
    cases o with
    | some i => exact ⟨some i, fun h => (by cases h), h2⟩
    | none =>
      by_cases h : ∃ x, l[n]? = some x ∧ P x
      · exact ⟨some n, fun h => (by cases h), fun i hi => by cases hi; exact ⟨h, fun j x hj => h1 rfl j x hj⟩⟩
      · refine ⟨none, fun _ i x hi hx hp => ?_, fun _ h => by cases h⟩
        rcases Nat.lt_or_ge i n with q | q
        · exact h1 rfl i x q hx hp
        · obtain rfl : i = n := by omega
          exact h ⟨x, hx, hp⟩
theorem early_is (l : List SM) (es : List EM) (id : Nat) : ∃ b, EarlyIs l es id b := by
  obtain ⟨o, h1, h2⟩ := first_gen l (isOp id) l.length
  obtain ⟨a, g1, g2⟩ := first_gen es (isAsk id) es.length
  refine ⟨_, (match o with | none => 0 | some i => i + 1), a, ⟨fun h => ?_, fun i hi => ?_⟩, ⟨fun h i e he => g1 h i e (List.getElem?_eq_some_iff.1 he).1 he, g2⟩, rfl⟩
  · cases o with
    | none => exact fun i s hs => h1 rfl i s (List.getElem?_eq_some_iff.1 hs).1 hs
    | some i => cases h
  · cases o with
    | none => cases hi
    | some j => cases hi; exact h2 _ rfl

section
variable (G : Assn) (lp : Option Addr) (lc : Nat) (l : List CW) (ds : List DM) (hl : Coms G lp lc l ds)
include hl
theorem read_bad (h : ¬ ((∀ (i : Nat) (x : CW), l[i]? = some x → x.index = i + 1) ∧ ∀ d, d ∈ ds → d.bad = false)) : FSpec Tryz.prog 20 [.slice lp l.length lc] [G]
    (fun u B => ∃ e : Int, e ≠ 0 ∧ u = .tuple #[.slice none 0 0, .int .i64 e] ∧ B = [G]) := by
  have hsml := hl.small
  have hdl := hl.dl
  refine FSpec.of func20 rfl ntmps20 rfl fun W0 F => ?_
  refine J.seq <| J.region <| J.p rfl (Q.asg rfl) <| J.p rfl (Q.asg rfl) <| J.nil <| J.then_n <| J.seq <| J.region <| J.p rfl (Q.asg rfl) <| J.nil <| J.then_n <| J.seq <| J.seq <| J.region <| J.m rfl <| J.p rfl (Q.lenSl runUnderlying25 rfl) <| J.m rfl <| J.nil <| J.then_n <| J.block ?_
  refine J.loop (fun i : Nat => i ≤ l.length ∧ ∀ (j : Nat) (x : CW), j < i → l[j]? = some x → x.index = j + 1) (fun i => l.length - i) (fun i => [(0, .slice lp l.length lc), (4, .slice none 0 0), (13, .slice lp l.length lc), (14, .int .i64 l.length), (15, .int .i64 i)]) (fun _ => [G, F]) 0 ⟨Nat.zero_le _, fun _ _ h => absurd h (Nat.not_lt_zero _)⟩ ⟨rfl, rfl, rfl, rfl, rfl, trivial⟩ rfl fun i hil => ?_
  obtain ⟨hil, hix0⟩ := hil
  refine J.seq <| J.region <| J.p rfl (Q.lss rfl rfl) <| J.nil <| J.then_n <| J.seq ?_
  refine J.kases 16 rfl (fun hc16 => ?_) (fun hc16 => ?_)
  ·
   refine J.cond_t rfl <| J.cskip <| J.then_n <| J.seq <| J.block <| J.seq ?_
   have hlt : i < l.length := by omega
   obtain ⟨b, off, hlp, hrd⟩ := hl.rd.some_ (by omega)
   obtain ⟨x, hx⟩ : ∃ x, l[i]? = some x := ⟨_, List.getElem?_eq_getElem (by omega)⟩
   refine J.slot 13 (.slice (some ⟨b, off, none⟩) l.length lc) rfl (by rw [hlp]) ?_
   refine J.region <| J.m rfl <| J.p rfl (Q.ia runUnderlying25 sizeOf56 rfl rfl (by omega) (by omega)) <| J.p rfl (Q.ldN (vs := [_, _]) isAgg56 sizeOf56 rfl ((rd_elem CW.len hrd hx (by simp)).inI)) ?_
   refine J.c rfl rfl (C.alloc (l := [_, _]) zeroValue56 rfl) ?_
   rintro _ _ ⟨b6, rfl, rfl⟩
   refine J.norm rfl <| J.p rfl (Q.asg rfl) ?_
   refine J.stAJ (vs := [_, _]) rfl sizeOf56 rfl rfl ?_
   refine J.nil <| J.then_n <| J.seq <| J.region <| J.p rfl (Q.fa (n := 0) runUnderlying56 rfl rfl sizeOf40 rfl) ?_
   refine J.p rfl (Q.ldI isAgg40 rfl) ?_
   refine J.m rfl <| J.p rfl (Q.add64 rfl rfl (by omega)) <| J.p rfl (Q.conv runUnderlying3 runUnderlying40 rfl) ?_
   refine J.slot 24 (.int .u64 ((i + 1 : Nat) : Int)) rfl (by rw [show ((i : Int) + 1) = ((i + 1 : Nat) : Int) by omega, wrap64 (by omega)]) ?_
   refine J.p rfl (Q.neq rfl rfl) <| J.nil <| J.then_n ?_
   refine J.kases 25 rfl (fun hc25 => ?_) (fun hc25 => ?_)
   ·
    refine J.cond_t rfl <| J.seq <| J.region <| J.p rfl (Q.asg rfl) <| J.p rfl (Q.asg rfl) <| J.nil <| J.then_n <| J.cret <| J.blk_r <| J.then_r <| J.lp_r <| J.blk_r <| J.then_r ?_
    refine J.ret2I [G] rfl rfl rfl ⟨15, by decide, rfl, rfl⟩
   refine J.cond_f rfl <| J.cskip <| J.blk_n <| J.then_n <| J.region <| J.p rfl (Q.add64 rfl rfl (by omega)) <| J.m rfl <| J.nil ?_
   refine J.againI (i + 1) ⟨by show i + 1 ≤ _; omega, ?_⟩ (by show l.length - (i + 1) < l.length - i; omega) ⟨rfl, rfl, (by show _ = some (Value.slice lp l.length lc); rw [hlp]; rfl), rfl, rfl, trivial⟩
   intro k y hk hy
   rcases Nat.lt_or_ge k i with q | q
   · exact hix0 k y q hy
   · obtain rfl : k = i := by have : k < i + 1 := hk
                              omega
     rw [hx] at hy; cases hy; omega
  refine J.cond_f rfl <| J.exit <| J.then_x <| J.lp_x <| J.blk_x <| J.then_n <| J.seq <| J.seq <| J.region <| J.m rfl <| J.p rfl (Q.lenSl runUnderlying25 rfl) <| J.m rfl <| J.nil <| J.then_n <| J.block ?_
  have hall : ∀ (j : Nat) (x : CW), l[j]? = some x → x.index = j + 1 := fun j x hx => hix0 j x (by have := (List.getElem?_eq_some_iff.1 hx).1; omega) hx
  refine J.give (own.nil 127 10 _) ?_
  refine J.keepI [own 127 10 (.slice none 0 0) [], G, F] ?_
  refine J.loop4 (fun (j : Nat) (ws : List SW) (_ : Option Addr) (_ : Nat) => j ≤ l.length ∧ ws.length = j ∧ ∀ (k : Nat) (d : DM), k < j → ds[k]? = some d → d.bad = false) (fun j _ _ _ => l.length - j)
   (fun j ws p c => [(4, .slice p ws.length c), (27, .slice lp l.length lc), (28, .int .i64 l.length), (29, .int .i64 j)])
   (fun j ws p c => [own 127 10 (.slice p ws.length c) (ws.flatMap SW.cells), G, F]) 0 [] none 0 ⟨Nat.zero_le _, rfl, fun _ _ h => absurd h (Nat.not_lt_zero _)⟩ ⟨rfl, rfl, rfl, rfl, trivial⟩ rfl fun j ws p c hz => ?_
  obtain ⟨hj, hwl, hwb⟩ := hz
  refine J.seq <| J.region <| J.p rfl (Q.lss rfl rfl) <| J.nil <| J.then_n <| J.seq ?_
  refine J.kases 30 rfl (fun hc30 => ?_) (fun hc30 => ?_)
  ·
   refine J.cond_t rfl <| J.cskip <| J.then_n <| J.seq <| J.block <| J.seq ?_
   have hlt : j < l.length := by omega
   obtain ⟨b, off, hlp, hrd⟩ := hl.rd.some_ (by omega)
   obtain ⟨x, hx⟩ : ∃ x, l[j]? = some x := ⟨_, List.getElem?_eq_getElem (by omega)⟩
   obtain ⟨d, hd, hdec⟩ := hl.dec j x hx
   refine J.slot 27 (.slice (some ⟨b, off, none⟩) l.length lc) rfl (by rw [hlp]) ?_
   refine J.region <| J.p rfl (Q.ia runUnderlying25 sizeOf56 rfl rfl (by omega) (by omega)) <| J.p rfl (Q.ldN (vs := [_, _]) isAgg56 sizeOf56 rfl ((rd_elem CW.len hrd hx (by simp)).inI)) ?_
   refine J.c rfl rfl (C.alloc (l := [_, _]) zeroValue56 rfl) ?_
   rintro _ _ ⟨b8, rfl, rfl⟩
   refine J.norm rfl ?_
   refine J.stAJ (vs := [_, _]) rfl sizeOf56 rfl rfl ?_
   refine J.nil <| J.then_n <| J.seq <| J.region <| J.p rfl (Q.fa (n := 1) runUnderlying56 rfl rfl sizeOf42 rfl) ?_
   refine J.p rfl (Q.ldI isAgg42 rfl) ?_
   refine J.callI call19 (hdec G x.p x.c (hl.ok x (List.mem_of_getElem? hx))) rfl rfl rfl ?_
   rintro _ _ ⟨y, zp, rfl, hyo, hyk, rfl⟩
   refine J.norm rfl <| J.m rfl <| J.p rfl (Q.ext rfl rfl) <| J.p rfl (Q.ext rfl rfl) <| J.p rfl (Q.ext rfl rfl) <| J.p rfl (Q.ext rfl rfl) ?_
   refine J.c rfl rfl (C.alloc (l := [_, _, _, _, _, _, _, _, _]) zeroValue52 rfl) ?_
   rintro _ _ ⟨b9, rfl, rfl⟩
   refine J.norm rfl ?_
   refine J.c rfl rfl (C.alloc (l := [_, _, _, _, _, _, _, _, _]) zeroValue67 rfl) ?_
   rintro _ _ ⟨b10, rfl, rfl⟩
   refine J.norm rfl ?_
   refine J.stAJ (vs := [_, _, _, _, _, _, _, _, _]) rfl sizeOf52 rfl rfl ?_
   refine J.stAJ (vs := [_, _, _, _, _, _, _, _, _]) rfl sizeOf67 rfl rfl ?_
   refine J.p rfl (Q.asg rfl) <| J.p rfl (Q.asg rfl) <| J.nil <| J.then_n <| J.seq <| J.seq <| J.region <| J.m rfl <| J.p rfl (Q.neq rfl rfl) <| J.nil <| J.then_n ?_
   refine J.kases 42 rfl (fun hc42 => ?_) (fun hc42 => ?_)
   ·
    refine J.cond_t rfl <| J.seq <| J.region <| J.p rfl (Q.asg rfl) <| J.p rfl (Q.asg rfl) <| J.nil <| J.then_n <| J.cret <| J.then_r <| J.blk_r <| J.then_r <| J.lp_r <| J.blk_r <| J.then_r ?_
    refine J.ret2I [G] rfl rfl rfl ⟨14, by decide, rfl, rfl⟩
   refine J.cond_f rfl <| J.cskip <| J.then_n <| J.region <| J.m rfl ?_
   refine J.p rfl (Q.ldN (vs := [_, _, _, _, _, _, _, _, _]) isAgg52 sizeOf52 rfl rnI) ?_
   refine J.m rfl <| J.p rfl (Q.bld (l := SW.cells ⟨y, d.point⟩) runUnderlying127 zeroValue127 places127 rfl (by kernel_rfl)) ?_
   refine J.c rfl rfl (C.bslG (l := [_, _, _, _, _, _, _, _, _, _]) runUnderlying76 sizeOf127 zeroValue127 (by decide) rfl rfl rfl rfl rfl) ?_
   rintro _ _ ⟨b47, rfl, rfl⟩
   refine J.norm rfl ?_
   refine J.c rfl rfl (C.appI runUnderlying76 runUnderlying76 typeInfo127 sizeOf127 zeroValue127 rfl rfl (SlR.ptI rfl) (SW.one ⟨y, d.point⟩) (by simp [Tryz.t127] <;> omega) (by decide)) ?_
   rintro _ _ ⟨p48, c48, rfl, rfl⟩
   refine J.norm rfl <| J.p rfl (Q.asg rfl) <| J.nil <| J.blk_n <| J.then_n <| J.region <| J.p rfl (Q.add64 rfl rfl (by omega)) <| J.m rfl <| J.nil ?_
   have hdb : d.bad = false := by
    cases hq : d.bad with
    | false => rfl
    | true => rw [hq] at hc42; simp at hc42
   have e1 : ws.length + 1 = (ws ++ [(⟨y, d.point⟩ : SW)]).length := by simp
   have e2 : ws.flatMap SW.cells ++ SW.cells ⟨y, d.point⟩ = (ws ++ [(⟨y, d.point⟩ : SW)]).flatMap SW.cells := by simp
   rw [e1, e2]
   refine J.againI (j + 1, ws ++ [(⟨y, d.point⟩ : SW)], p48, c48) ⟨by show j + 1 ≤ _; omega, by show (ws ++ [(⟨y, d.point⟩ : SW)]).length = j + 1; rw [← e1, hwl], ?_⟩ (by show l.length - (j + 1) < l.length - j; omega) ⟨rfl, (by show _ = some (Value.slice lp l.length lc); rw [hlp]; rfl), rfl, rfl, trivial⟩
   intro k d2 hk hd2
   rcases Nat.lt_or_ge k j with q | q
   · exact hwb k d2 q hd2
   · obtain rfl : k = j := by have : k < j + 1 := hk
                              omega
     rw [hd] at hd2; cases hd2; exact hdb
  refine J.cond_f rfl <| J.exit <| J.then_x <| J.lp_x <| J.blk_x <| J.then_n <| J.seq <| J.region <| J.m rfl <| J.p rfl (Q.asg rfl) <| J.p rfl (Q.asg rfl) <| J.nil <| J.then_n <| J.cret ?_
  exact absurd ⟨hall, fun d hd => by
   obtain ⟨k, hk⟩ := List.getElem?_of_mem hd
   exact hwb k d (by have := (List.getElem?_eq_some_iff.1 hk).1; omega) hk⟩ h
end
theorem played_bad (G : Assn) (rp : Option Addr) (rc : Nat) (l : List RCW) (hl : RComs G rp rc l) (h : ¬ ((∀ (i : Nat) (x : RCW), l[i]? = some x → x.index = i + 1) ∧ ∀ x, x ∈ l → x.bad = false)) (hc : ∀ x, x ∈ l → x.bad = false → x.point = false → x.x.o.chkB = true ∧ x.x.o.id ≤ U64) : FSpec Tryz.prog 24 [.slice rp l.length rc] [G]
    (fun u B => ∃ e : Int, e ≠ 0 ∧ u = .tuple #[.slice none 0 0, .int .i64 e] ∧ B = [G]) := by
  have hsml := hl.small
  refine FSpec.of func24 rfl ntmps24 rfl fun W0 F => ?_
  refine J.seq <| J.region <| J.p rfl (Q.asg rfl) <| J.p rfl (Q.asg rfl) <| J.nil <| J.then_n <| J.seq <| J.region <| J.p rfl (Q.asg rfl) <| J.nil <| J.then_n <| J.seq <| J.region ?_
  refine J.callI call11 (rnew_spec) rfl rfl rfl ?_
  rintro _ _ ⟨m, rfl, rfl⟩
  refine J.norm rfl <| J.p rfl (Q.asg rfl) <| J.nil <| J.then_n <| J.seq <| J.seq <| J.region <| J.p rfl (Q.asg rfl) <| J.nil <| J.then_n <| J.block ?_
  refine J.loop (fun i : Nat => i ≤ l.length ∧ ∀ (j : Nat) (x : RCW), j < i → l[j]? = some x → x.index = j + 1) (fun i => l.length - i) (fun i => [(0, .slice rp l.length rc), (4, .slice none 0 0), (5, .pointer (some ⟨m, 0, none⟩)), (6, .int .i64 i)]) (fun _ => [RefAt m ⟨[], [], []⟩, G, F]) 0 ⟨Nat.zero_le _, fun _ _ h => absurd h (Nat.not_lt_zero _)⟩ ⟨rfl, rfl, rfl, rfl, trivial⟩ rfl fun i hil => ?_
  obtain ⟨hil, hix0⟩ := hil
  refine J.seq <| J.seq <| J.region <| J.m rfl <| J.m rfl <| J.p rfl (Q.lenSl runUnderlying26 rfl) <| J.p rfl (Q.lss rfl rfl) <| J.nil <| J.then_n ?_
  refine J.kases 13 rfl (fun hc13 => ?_) (fun hc13 => ?_)
  ·
   refine J.cond_t rfl <| J.cskip <| J.then_n <| J.seq <| J.block <| J.seq ?_
   have hlt : i < l.length := by omega
   obtain ⟨b, off, hrp, hrd⟩ := hl.rd.some_ (by omega)
   obtain ⟨x, hx⟩ : ∃ x, l[i]? = some x := ⟨_, List.getElem?_eq_getElem (by omega)⟩
   refine J.slot 0 (.slice (some ⟨b, off, none⟩) l.length rc) rfl (by rw [hrp]) ?_
   refine J.region <| J.m rfl <| J.m rfl <| J.p rfl (Q.ia runUnderlying26 sizeOf71 rfl rfl (by omega) (by omega)) <| J.p rfl (Q.fa (n := 0) runUnderlying71 rfl rfl sizeOf40 rfl) <| J.p rfl (Q.ld isAgg40 rfl ((((rd_elem RCW.len hrd hx rfl) 0 (.int .u64 x.index) rfl).cast (by simp)).inI)) <| J.m rfl <| J.p rfl (Q.add64 rfl rfl (by omega)) ?_
   refine J.p rfl (Q.conv runUnderlying3 runUnderlying40 rfl) ?_
   refine J.slot 23 (.int .u64 ((i + 1 : Nat) : Int)) rfl (by rw [show ((i : Int) + 1) = ((i + 1 : Nat) : Int) by omega, wrap64 (by omega)]) ?_
   refine J.p rfl (Q.neq rfl rfl) <| J.nil <| J.then_n ?_
   refine J.kases 24 rfl (fun hc24 => ?_) (fun hc24 => ?_)
   ·
    refine J.cond_t rfl <| J.seq <| J.region <| J.p rfl (Q.asg rfl) <| J.p rfl (Q.asg rfl) <| J.nil <| J.then_n <| J.cret <| J.blk_r <| J.then_r <| J.lp_r <| J.blk_r <| J.then_r ?_
    refine J.ret2I [G] rfl rfl rfl ⟨15, by decide, rfl, rfl⟩
   refine J.cond_f rfl <| J.cskip <| J.blk_n <| J.then_n <| J.region <| J.m rfl <| J.p rfl (Q.add64 rfl rfl (by omega)) <| J.p rfl (Q.asg rfl) <| J.nil ?_
   refine J.againI (i + 1) ⟨by show i + 1 ≤ _; omega, ?_⟩ (by show l.length - (i + 1) < l.length - i; omega) ⟨(by show _ = some (Value.slice rp l.length rc); rw [hrp]; rfl), rfl, rfl, rfl, trivial⟩
   intro k y hk hy
   rcases Nat.lt_or_ge k i with q | q
   · exact hix0 k y q hy
   · obtain rfl : k = i := by have : k < i + 1 := hk
                              omega
     rw [hx] at hy; cases hy; omega
  refine J.cond_f rfl <| J.exit <| J.then_x <| J.lp_x <| J.blk_x <| J.then_n <| J.seq <| J.seq <| J.region <| J.p rfl (Q.asg rfl) <| J.nil <| J.then_n <| J.block ?_
  have hall : ∀ (j : Nat) (x : RCW), l[j]? = some x → x.index = j + 1 := fun j x hx => hix0 j x (by have := (List.getElem?_eq_some_iff.1 hx).1; omega) hx
  refine J.give (own.nil 92 15 _) ?_
  refine J.give (X := star (([] : List DW).map DW.asn)) trivial ?_
  refine J.keepI [own 92 15 (.slice none 0 0) [], star (([] : List DW).map DW.asn), RefAt m ⟨[], [], []⟩, G, F] ?_
  refine J.loop4 (fun (j : Nat) (rows : List DW) (_ : Option Addr) (_ : Nat) => j ≤ l.length ∧ DRows ((l.map RCW.m).take j) rows ∧ ∀ (k : Nat) (x : RCW), k < j → l[k]? = some x → x.bad = false) (fun j _ _ _ => l.length - j)
   (fun j rows p c => [(0, .slice rp l.length rc), (4, .slice p rows.length c), (5, .pointer (some ⟨m, 0, none⟩)), (7, .int .i64 j)])
   (fun j rows p c => [own 92 15 (.slice p rows.length c) (rows.flatMap DW.cells), star (rows.map DW.asn), RefAt m (playP ((l.map RCW.m).take j)).M, G, F]) 0 [] none 0 ⟨Nat.zero_le _, ⟨rfl, (fun _ _ _ h => by cases h), rfl⟩, fun _ _ h => absurd h (Nat.not_lt_zero _)⟩ ⟨rfl, rfl, rfl, rfl, trivial⟩ rfl fun j rows p c hz => ?_
  obtain ⟨hj, hD, hbb⟩ := hz
  refine J.seq <| J.seq <| J.region <| J.m rfl <| J.m rfl <| J.p rfl (Q.lenSl runUnderlying26 rfl) <| J.p rfl (Q.lss rfl rfl) <| J.nil <| J.then_n ?_
  refine J.kases 28 rfl (fun hc28 => ?_) (fun hc28 => ?_)
  ·
   refine J.cond_t rfl <| J.cskip <| J.then_n <| J.seq <| J.block <| J.seq <| J.seq ?_
   have hlt : j < l.length := by omega
   obtain ⟨b, off, hrp, hrd⟩ := hl.rd.some_ (by omega)
   obtain ⟨x, hx⟩ : ∃ x, l[j]? = some x := ⟨_, List.getElem?_eq_getElem (by omega)⟩
   have hxm := List.mem_of_getElem? hx
   have hxo := hl.ok x hxm
   have hsm : (l.map RCW.m)[j]? = some x.m := by rw [List.getElem?_map, hx]; rfl
   have hpt := playP_take hsm
   have hinv := playP_invB (l := (l.map RCW.m).take j) (fun s hs hp => by
    obtain ⟨k, hk⟩ := List.getElem?_of_mem hs
    have hkl := (List.getElem?_eq_some_iff.1 hk).1
    rw [List.length_take, List.length_map] at hkl
    rw [List.getElem?_take_of_lt (by omega), List.getElem?_map, Option.map_eq_some_iff] at hk
    obtain ⟨y, hy, rfl⟩ := hk
    exact hc y (List.mem_of_getElem? hy) (hbb k y (by omega) hy) hp)
   rw [List.length_take, List.length_map, Nat.min_eq_left (by omega)] at hinv
   have hDr := hD.rs
   obtain ⟨S, hS⟩ : ∃ S, S = playP ((l.map RCW.m).take j) := ⟨_, rfl⟩
   rw [← hS] at hpt hinv hDr ⊢
   have hrl : rows.length = j := by
    have := congrArg List.length hD.is
    rw [List.length_map, List.length_map, List.length_take, List.length_map] at this
    omega
   refine J.slot 0 (.slice (some ⟨b, off, none⟩) l.length rc) rfl (by rw [hrp]) ?_
   refine J.region <| J.m rfl <| J.m rfl <| J.p rfl (Q.ia runUnderlying26 sizeOf71 rfl rfl (by omega) (by omega)) <| J.p rfl (Q.fa (n := 1) runUnderlying71 rfl rfl sizeOf4 rfl) <| J.p rfl (Q.ld isAgg4 rfl ((((rd_elem RCW.len hrd hx rfl) 1 (.bool x.bad) rfl).cast (by simp)).inI)) <| J.nil <| J.then_n ?_
   refine J.kases 35 rfl (fun hc35 => ?_) (fun hc35 => ?_)
   ·
    refine J.cond_t rfl <| J.seq <| J.region <| J.p rfl (Q.asg rfl) <| J.p rfl (Q.asg rfl) <| J.nil <| J.then_n <| J.cret <| J.then_r <| J.blk_r <| J.then_r <| J.lp_r <| J.blk_r <| J.then_r ?_
    refine J.ret2I [G] rfl rfl rfl ⟨14, by decide, rfl, rfl⟩
   refine J.cond_f rfl <| J.cskip <| J.then_n <| J.seq <| J.region <| J.p rfl (Q.bld (l := DW.cells ⟨false, bareW O0, stW 0⟩) runUnderlying92 zeroValue92 places92 rfl (by kernel_rfl)) ?_
   refine J.c rfl rfl (C.alloc (l := [_, _, _, _, _, _, _, _, _, _, _, _, _, _, _]) zeroValue92 rfl) ?_
   rintro _ _ ⟨b8, rfl, rfl⟩
   refine J.norm rfl ?_
   refine J.stAJ (vs := [_, _, _, _, _, _, _, _, _, _, _, _, _, _, _]) rfl sizeOf92 rfl rfl ?_
   refine J.nil <| J.then_n ?_
   refine J.cut (fun d : DW => (x.point = false → d.is = true ∧ d.x = x.x ∧ d.w.r = (S.M.run x.x.o).1) ∧ (x.point = true → d.is = false ∧ d.w.r = st 0)) (fun _ => [(0, .slice (some ⟨b, off, none⟩) l.length rc), (4, .slice p rows.length c), (5, .pointer (some ⟨m, 0, none⟩)), (7, .int .i64 j), (8, .pointer (some ⟨b8, 0, none⟩))])
    (fun d => [own 92 15 (.slice (some ⟨b8, 0, none⟩) 1 1) ([d].flatMap DW.cells), d.asn, own 92 15 (.slice p rows.length c) (rows.flatMap DW.cells), star (rows.map DW.asn), RefAt m (S.step x.m).M, G, F]) ?_ fun d hd => ?_
   ·
    refine J.seq ?_
    refine J.convI (pt b8 (.cells (DW.cells ⟨false, bareW O0, stW 0⟩).toArray 92 (0, 0))) (own 92 15 (.slice (some ⟨b8, 0, none⟩) 1 1) ([(⟨false, bareW O0, stW 0⟩ : DW)].flatMap DW.cells)) (own_of_block (l := [(⟨false, bareW O0, stW 0⟩ : DW)].flatMap DW.cells) rfl) ?_
    refine J.region <| J.m rfl <| J.m rfl <| J.p rfl (Q.ia runUnderlying26 sizeOf71 rfl rfl (by omega) (by omega)) <| J.p rfl (Q.fa (n := 2) runUnderlying71 rfl rfl sizeOf4 rfl) <| J.p rfl (Q.ld isAgg4 rfl ((((rd_elem RCW.len hrd hx rfl) 2 (.bool x.point) rfl).cast (by simp)).inI)) <| J.p rfl (Q.not rfl) <| J.nil <| J.then_n ?_
    refine J.kases 42 rfl (fun hc42 => ?_) (fun hc42 => ?_)
    ·
     refine J.cond_t rfl <| J.seq <| J.region <| J.p rfl (Q.fa (n := 0) runUnderlying92 rfl rfl sizeOf4 rfl) ?_
     refine J.c0 rfl (C.st1O (E := 92) (sz := 15) (b := b8) (off := 0) (n := 1) (c := 1) (xs := [(⟨false, bareW O0, stW 0⟩ : DW)].flatMap DW.cells) 0 sizeOf4 rfl rfl rfl rfl (by decide)) ?_
     rintro _ _ ⟨rfl, rfl⟩
     refine J.norm rfl ?_
     rw [show ([(⟨false, bareW O0, stW 0⟩ : DW)].flatMap DW.cells).set 0 (.bool true) = [(⟨true, bareW O0, stW 0⟩ : DW)].flatMap DW.cells from rfl]
     refine J.nil <| J.then_n <| J.seq <| J.region <| J.m rfl <| J.m rfl <| J.p rfl (Q.ia runUnderlying26 sizeOf71 rfl rfl (by omega) (by omega)) <| J.p rfl (Q.fa (n := 3) runUnderlying71 rfl rfl sizeOf52 rfl) <| J.p rfl (Q.ldN (vs := [_, _, _, _, _, _, _, _, _]) isAgg52 sizeOf52 rfl ((rd_cast (rd_sub (us := x.x.cells) (rd_elem RCW.len hrd hx rfl) 3 rfl) (by simp)).inI)) ?_
     refine J.p rfl (Q.fa (n := 1) runUnderlying92 rfl rfl sizeOf52 rfl) ?_
     refine J.c0 rfl (C.stNO (E := 92) (sz := 15) (b := b8) (off := 0) (n := 1) (c := 1) (xs := [(⟨true, bareW O0, stW 0⟩ : DW)].flatMap DW.cells) (vs := x.x.cells) 1 sizeOf52 rfl rfl rfl (Nat.le_of_ble_eq_true rfl) rfl) ?_
     rintro _ _ ⟨rfl, rfl⟩
     refine J.norm rfl ?_
     rw [show splice ([(⟨true, bareW O0, stW 0⟩ : DW)].flatMap DW.cells) 1 x.x.cells = [(⟨true, x.x, stW 0⟩ : DW)].flatMap DW.cells from rfl]
     refine J.nil <| J.then_n <| J.region <| J.m rfl <| J.m rfl <| J.m rfl <| J.p rfl (Q.ia runUnderlying26 sizeOf71 rfl rfl (by omega) (by omega)) <| J.p rfl (Q.fa (n := 3) runUnderlying71 rfl rfl sizeOf52 rfl) <| J.p rfl (Q.ldN (vs := [_, _, _, _, _, _, _, _, _]) isAgg52 sizeOf52 rfl ((rd_cast (rd_sub (us := x.x.cells) (rd_elem RCW.len hrd hx rfl) 3 rfl) (by simp)).inI)) ?_
     refine J.callI call13 (rdo_spec m S.M (hinv.lite (by omega)) hinv.ok (by omega) hinv.kin x.x G hxo) rfl rfl rfl ?_
     rintro _ _ ⟨r, rfl, hr, rfl⟩
     refine J.norm rfl <| J.p rfl (Q.fa (n := 10) runUnderlying92 rfl rfl sizeOf44 rfl) ?_
     refine J.c0 rfl (C.stNO (E := 92) (sz := 15) (b := b8) (off := 0) (n := 1) (c := 1) (xs := [(⟨true, x.x, stW 0⟩ : DW)].flatMap DW.cells) (vs := r.cells) 10 sizeOf44 rfl rfl rfl (Nat.le_of_ble_eq_true rfl) rfl) ?_
     rintro _ _ ⟨rfl, rfl⟩
     refine J.norm rfl ?_
     rw [show splice ([(⟨true, x.x, stW 0⟩ : DW)].flatMap DW.cells) 10 r.cells = [(⟨true, x.x, r⟩ : DW)].flatMap DW.cells from rfl]
     refine J.nil ?_
     have hp : x.point = false := by simpa using hc42
     have e : (S.step x.m).M = (S.M.run x.x.o).2 := by simp [PS.step, RCW.m, hp]
     rw [e]
     refine J.convI r.asn (DW.asn ⟨true, x.x, r⟩) (fun _ h => h) ?_
     exact J.meetI (⟨true, x.x, r⟩ : DW) ⟨fun _ => ⟨rfl, rfl, hr⟩, fun h => by rw [hp] at h; cases h⟩ ⟨rfl, rfl, rfl, rfl, rfl, trivial⟩
    refine J.cond_f rfl <| J.cskip ?_
    have hp : x.point = true := by simpa using hc42
    have e : (S.step x.m).M = S.M := by simp [PS.step, RCW.m, hp]
    rw [e]
    refine J.give (X := DW.asn ⟨false, bareW O0, stW 0⟩) empty_asn ?_
    exact J.meetI (⟨false, bareW O0, stW 0⟩ : DW) ⟨fun h => (by rw [hp] at h; cases h), fun _ => ⟨rfl, rfl⟩⟩ ⟨rfl, rfl, rfl, rfl, rfl, trivial⟩
   refine J.norm rfl <| J.region <| J.m rfl ?_
   refine J.p rfl (Q.ldN (vs := [_, _, _, _, _, _, _, _, _, _, _, _, _, _, _]) isAgg92 sizeOf92 rfl (rnO DW.len (l := [d]) (i := 0) rfl (by simp))) ?_
   refine J.c rfl rfl (C.bslG (l := [_, _, _, _, _, _, _, _, _, _, _, _, _, _, _]) runUnderlying87 sizeOf92 zeroValue92 (by decide) rfl rfl rfl rfl rfl) ?_
   rintro _ _ ⟨b60, rfl, rfl⟩
   refine J.norm rfl ?_
   refine J.c rfl rfl (C.appI runUnderlying87 runUnderlying87 typeInfo92 sizeOf92 zeroValue92 rfl rfl (SlR.ptI rfl) (DW.one d) (by simp [Tryz.t92] <;> omega) (by decide)) ?_
   rintro _ _ ⟨p61, c61, rfl, rfl⟩
   refine J.norm rfl <| J.p rfl (Q.asg rfl) <| J.nil <| J.blk_n <| J.then_n <| J.region <| J.m rfl <| J.p rfl (Q.add64 rfl rfl (by omega)) <| J.p rfl (Q.asg rfl) <| J.nil ?_
   refine J.shutI [DW.asn d, star (rows.map DW.asn)] (star ((rows ++ [d]).map DW.asn)) (star_snoc _) ?_
   have e1 : rows.length + 1 = (rows ++ [d]).length := by simp
   have e2 : rows.flatMap DW.cells ++ d.cells = (rows ++ [d]).flatMap DW.cells := by simp
   rw [e1, e2, ← hpt]
   have htk : (l.map RCW.m).take (j + 1) = (l.map RCW.m).take j ++ [x.m] := by
    obtain ⟨q1, q2⟩ := List.getElem?_eq_some_iff.1 hsm
    rw [List.take_succ_eq_append_getElem q1, q2]
   refine J.againI (j + 1, rows ++ [d], p61, c61) ⟨by show j + 1 ≤ _; omega, ?_, ?_⟩ (by show l.length - (j + 1) < l.length - j; omega) ⟨(by show _ = some (Value.slice rp l.length rc); rw [hrp]; rfl), rfl, rfl, rfl, trivial⟩
   rotate_left
   · intro k y hk hy
     rcases Nat.lt_or_ge k j with q | q
     · exact hbb k y q hy
     · obtain rfl : k = j := by have : k < j + 1 := hk
                                omega
       rw [hx] at hy; cases hy; exact hc35
   show DRows ((l.map RCW.m).take (j + 1)) (rows ++ [d])
   rw [htk]
   refine ⟨?_, ?_, ?_⟩
   · rw [List.map_append, List.map_append, hD.is]
     congr 1
     show [d.is] = [!x.point]
     cases hp : x.point with
     | true => rw [(hd.2 hp).1]; rfl
     | false => rw [(hd.1 hp).1]; rfl
   · intro i s d2 h1 h2 h3
     rcases Nat.lt_or_ge i rows.length with q | q
     · rw [List.getElem?_append_left (by rw [List.length_take, List.length_map]; omega)] at h1
       rw [List.getElem?_append_left q] at h2
       exact hD.op i s d2 h1 h2 h3
     · rw [List.getElem?_append_right q] at h2
       have hk := (List.getElem?_eq_some_iff.1 h2).1
       have hk2 : i - rows.length < 1 := hk
       rw [List.getElem?_append_right (by rw [List.length_take, List.length_map]; omega), List.length_take, List.length_map] at h1
       rw [show i - rows.length = 0 by omega] at h2
       rw [show i - min j l.length = 0 by omega] at h1
       cases h1; cases h2
       rw [(hd.1 h3).2.1]; rfl
   · rw [List.map_append, hDr, playP_snoc, ← hS]
     show S.rs ++ [d.w.r] = (S.step x.m).rs
     unfold PS.step
     cases hp : x.point with
     | true => rw [(hd.2 hp).2, if_pos (show x.m.point = true from hp)]
     | false => rw [(hd.1 hp).2.2, if_neg (show ¬ x.m.point = true by show ¬ x.point = true; rw [hp]; simp)]; rfl
  refine J.cond_f rfl <| J.exit <| J.then_x <| J.lp_x <| J.blk_x <| J.then_n <| J.seq <| J.region <| J.m rfl <| J.p rfl (Q.asg rfl) <| J.p rfl (Q.asg rfl) <| J.nil <| J.then_n <| J.cret ?_
  exact absurd ⟨hall, fun x hx => by
   obtain ⟨k, hk⟩ := List.getElem?_of_mem hx
   exact hbb k x (by have := (List.getElem?_eq_some_iff.1 hk).1; omega) hk⟩ h
end Go.Proofs.YtidbcaimgahllaaGreat
namespace Go.Proofs.YtidbcaimgahllaaGreat
open Go.Proofs.Tryz
open Go.X

section
variable (G : Assn) (w : Nat) (p : Option Addr) (c : Nat) (acc : List UInt8)
theorem wtexts2_spec (vp : Option Addr) (vn vc : Nat) (vs : List ByteArray) (hr : SlR [G] 1 (.slice vp vn vc) (vs.map Value.string)) (hn : acc.length + 5000000 * vs.length ≤ 70368740000000) (hv : ∀ v, v ∈ vs → v.size ≤ 4194304) :
    FSpec Tryz.prog 37 [.pointer (some ⟨w, 0, none⟩), .slice vp vn vc] [wrA w p c acc, wrO p c acc, G]
    (fun u B => ∃ p' c', u = .tuple #[] ∧ B = [wrA w p' c' (acc ++ vs.flatMap fun s => encB s.data.toList), wrO p' c' (acc ++ vs.flatMap fun s => encB s.data.toList), G]) := by
  have hlen : vs.length = vn := by have := hr.len; simp at this; omega
  refine FSpec.of func37 rfl ntmps37 rfl fun W0 F => ?_
  refine J.seq <| J.region <| J.m rfl <| J.p rfl (Q.lenSl runUnderlying41 rfl) <| J.m rfl <| J.nil <| J.then_n <| J.block ?_
  refine J.loop3 (fun (i : Nat) (_ : Option Addr) (_ : Nat) => i ≤ vn ∧ ((vs.take i).flatMap fun s => encB s.data.toList).length ≤ 5000000 * i) (fun i _ _ => vn - i) (fun i p c => [(0, .pointer (some ⟨w, 0, none⟩)), (6, .slice vp vn vc), (7, .int .i64 vn), (8, .int .i64 i)]) (fun i p c => [wrA w p c (acc ++ (vs.take i).flatMap fun s => encB s.data.toList), wrO p c (acc ++ (vs.take i).flatMap fun s => encB s.data.toList), G, F]) 0 p c ⟨Nat.zero_le _, Nat.le_refl _⟩ ⟨rfl, rfl, rfl, rfl, trivial⟩ (by simp) fun i p c hz => ?_
  obtain ⟨hi, hb⟩ := hz
  refine J.seq <| J.region <| J.p rfl (Q.lss rfl rfl) <| J.nil <| J.then_n <| J.seq ?_
  refine J.kases 9 rfl (fun hc9 => ?_) (fun hc9 => ?_)
  ·
   refine J.cond_t rfl <| J.cskip <| J.then_n <| J.seq <| J.block <| J.seq ?_
   have hil : i < vn := by omega
   obtain ⟨b, off, hvp, hrd⟩ := hr.some_ (by omega)
   obtain ⟨v, hvi⟩ : ∃ v, vs[i]? = some v := ⟨_, List.getElem?_eq_getElem (by omega)⟩
   have hvb := hv v (List.mem_of_getElem? hvi)
   have hvl : v.data.toList.length ≤ 4194304 := by
     have : v.data.toList.length = v.size := by simp
     omega
   have hel : (encB v.data.toList).length ≤ 5000000 := by unfold encB; rw [List.length_append]; have := numB_len v.data.toList.length (by omega); omega
   have hft : ((vs.take (i + 1)).flatMap fun s => encB s.data.toList) = ((vs.take i).flatMap fun s => encB s.data.toList) ++ encB v.data.toList := by
     obtain ⟨h1, h2⟩ := List.getElem?_eq_some_iff.1 hvi
     rw [List.take_succ_eq_append_getElem h1, List.flatMap_append, h2, List.flatMap_cons, List.flatMap_nil, List.append_nil]
   obtain ⟨ac, hac⟩ : ∃ ac, ac = acc ++ (vs.take i).flatMap fun s => encB s.data.toList := ⟨_, rfl⟩
   have hal : ac.length ≤ 70368735000000 := by rw [hac, List.length_append]; omega
   rw [← hac]
   refine J.slot 6 (.slice (some ⟨b, off, none⟩) vn vc) rfl (by rw [hvp]) ?_
   refine J.region <| J.p rfl (Q.ia runUnderlying41 sizeOf9 rfl rfl (by omega) (by omega)) <| J.p rfl (Q.ld isAgg9 rfl ((hrd i (Value.string v) (by simp [hvi])).cast (by simp)).inI) <| J.p rfl (Q.asg rfl) <| J.nil <| J.then_n <| J.region <| J.m rfl <| J.m rfl ?_
   refine J.c rfl rfl (C.s2bL runUnderlying9 runUnderlying42 runUnderlying5 rfl) ?_
   rintro _ _ ⟨b14, c14, rfl, rfl⟩
   refine J.norm rfl ?_
   refine J.slrI (E0 := 5) (sz := 1) (p := some ⟨b14, 0, none⟩) (n := v.data.toList.length) (c := c14) (xs := bytesV v.data.toList) fun hsq => ?_
   refine J.callI call39 (wbytes_spec _ w p c ac (some ⟨b14, 0, none⟩) c14 v.data.toList hsq (by omega)) rfl rfl rfl ?_
   rintro _ _ ⟨p15, c15, rfl, rfl⟩
   refine J.norm rfl <| J.nil <| J.blk_n <| J.then_n <| J.region <| J.p rfl (Q.add64 rfl rfl (by omega)) <| J.m rfl <| J.nil ?_
   have e1 : (acc ++ (vs.take (i + 1)).flatMap fun s => encB s.data.toList) = ac ++ encB v.data.toList := by rw [hft, ← List.append_assoc, hac]
   rw [← e1]
   refine J.againI (i + 1, p15, c15) ⟨by show i + 1 ≤ vn; omega, by show ((vs.take (i + 1)).flatMap fun s => encB s.data.toList).length ≤ 5000000 * (i + 1); rw [hft, List.length_append]; omega⟩ (by show vn - (i + 1) < vn - i; omega) ⟨rfl, (by show _ = some (Value.slice vp vn vc); rw [hvp]; rfl), rfl, rfl, trivial⟩
  refine J.cond_f rfl <| J.exit <| J.then_x <| J.lp_x <| J.blk_x ?_
  have htk : vs.take i = vs := List.take_of_length_le (by omega)
  rw [htk]
  refine J.end0I [wrA w p c (acc ++ vs.flatMap fun s => encB s.data.toList), wrO p c (acc ++ vs.flatMap fun s => encB s.data.toList), G] rfl ⟨p, c, rfl, rfl⟩
theorem wints2_spec (vp : Option Addr) (vn vc : Nat) (vs : List Int) (hr : SlR [G] 1 (.slice vp vn vc) (vs.map (Value.int .i64))) (hn : acc.length + 10 * vs.length ≤ 70368744000000) :
    FSpec Tryz.prog 38 [.pointer (some ⟨w, 0, none⟩), .slice vp vn vc] [wrA w p c acc, wrO p c acc, G]
    (fun u B => ∃ p' c', u = .tuple #[] ∧ B = [wrA w p' c' (acc ++ (vs.map u64N).flatMap numB), wrO p' c' (acc ++ (vs.map u64N).flatMap numB), G]) := by
  have hlen : vs.length = vn := by have := hr.len; simp at this; omega
  refine FSpec.of func38 rfl ntmps38 rfl fun W0 F => ?_
  refine J.seq <| J.region <| J.m rfl <| J.p rfl (Q.lenSl runUnderlying50 rfl) <| J.m rfl <| J.nil <| J.then_n <| J.block ?_
  refine J.loop3 (fun (i : Nat) (_ : Option Addr) (_ : Nat) => i ≤ vn ∧ (((vs.take i).map u64N).flatMap numB).length ≤ 10 * i) (fun i _ _ => vn - i) (fun i p c => [(0, .pointer (some ⟨w, 0, none⟩)), (6, .slice vp vn vc), (7, .int .i64 vn), (8, .int .i64 i)]) (fun i p c => [wrA w p c (acc ++ ((vs.take i).map u64N).flatMap numB), wrO p c (acc ++ ((vs.take i).map u64N).flatMap numB), G, F]) 0 p c ⟨Nat.zero_le _, Nat.le_refl _⟩ ⟨rfl, rfl, rfl, rfl, trivial⟩ (by simp) fun i p c hz => ?_
  obtain ⟨hi, hb⟩ := hz
  refine J.seq <| J.region <| J.p rfl (Q.lss rfl rfl) <| J.nil <| J.then_n <| J.seq ?_
  refine J.kases 9 rfl (fun hc9 => ?_) (fun hc9 => ?_)
  ·
   refine J.cond_t rfl <| J.cskip <| J.then_n <| J.seq <| J.block <| J.seq ?_
   have hil : i < vn := by omega
   obtain ⟨b, off, hvp, hrd⟩ := hr.some_ (by omega)
   obtain ⟨v, hvi⟩ : ∃ v, vs[i]? = some v := ⟨_, List.getElem?_eq_getElem (by omega)⟩
   have hnl := numB_len (u64N v) (u64N_le v)
   have hft : ((vs.take (i + 1)).map u64N).flatMap numB = ((vs.take i).map u64N).flatMap numB ++ numB (u64N v) := by
     obtain ⟨h1, h2⟩ := List.getElem?_eq_some_iff.1 hvi
     rw [List.take_succ_eq_append_getElem h1, List.map_append, List.flatMap_append, h2, List.map_cons, List.map_nil, List.flatMap_cons, List.flatMap_nil, List.append_nil]
   obtain ⟨ac, hac⟩ : ∃ ac, ac = acc ++ ((vs.take i).map u64N).flatMap numB := ⟨_, rfl⟩
   have hal : ac.length ≤ 70368744000000 := by rw [hac, List.length_append]; omega
   rw [← hac]
   refine J.slot 6 (.slice (some ⟨b, off, none⟩) vn vc) rfl (by rw [hvp]) ?_
   refine J.region <| J.p rfl (Q.ia runUnderlying50 sizeOf3 rfl rfl (by omega) (by omega)) <| J.p rfl (Q.ld isAgg3 rfl ((hrd i (.int .i64 v) (by simp [hvi])).cast (by simp)).inI) <| J.p rfl (Q.asg rfl) <| J.nil <| J.then_n <| J.region <| J.m rfl <| J.m rfl <| J.p rfl (Q.conv runUnderlying3 runUnderlying40 rfl) ?_
   refine J.slot 14 (encU (u64N v)) rfl (by show Value.int .u64 (IntKind.u64.wrap v) = Value.int .u64 ((u64N v : Nat) : Int); rw [u64N_eq]) ?_
   refine J.c rfl rfl (C.bslG (l := [_]) runUnderlying151 sizeOf40 zeroValue40 (by decide) rfl rfl rfl rfl rfl) ?_
   rintro _ _ ⟨b15, rfl, rfl⟩
   refine J.norm rfl ?_
   refine J.callI call36 (wnumbers_spec (pt b15 (.cells [encU (u64N v)].toArray 40 (0, 0))) w p c ac (some ⟨b15, 0, none⟩) 1 1 [u64N v] (SlR.ptI rfl) (by show _ + 10 * 1 ≤ _; omega) (by intro u hu; rw [List.mem_singleton.1 hu]; exact u64N_le v)) rfl rfl rfl ?_
   rintro _ _ ⟨p15, c15, rfl, rfl⟩
   refine J.norm rfl <| J.nil <| J.blk_n <| J.then_n <| J.region <| J.p rfl (Q.add64 rfl rfl (by omega)) <| J.m rfl <| J.nil ?_
   have e1 : acc ++ ((vs.take (i + 1)).map u64N).flatMap numB = ac ++ [u64N v].flatMap numB := by rw [hft, ← List.append_assoc, hac]; simp
   rw [← e1]
   refine J.againI (i + 1, p15, c15) ⟨by show i + 1 ≤ vn; omega, by show (((vs.take (i + 1)).map u64N).flatMap numB).length ≤ 10 * (i + 1); rw [hft, List.length_append]; omega⟩ (by show vn - (i + 1) < vn - i; omega) ⟨rfl, (by show _ = some (Value.slice vp vn vc); rw [hvp]; rfl), rfl, rfl, trivial⟩
  refine J.cond_f rfl <| J.exit <| J.then_x <| J.lp_x <| J.blk_x ?_
  have htk : vs.take i = vs := List.take_of_length_le (by omega)
  rw [htk]
  refine J.end0I [wrA w p c (acc ++ (vs.map u64N).flatMap numB), wrO p c (acc ++ (vs.map u64N).flatMap numB), G] rfl ⟨p, c, rfl, rfl⟩
end

def ptrT (p : PM) : List UInt8 := [p.bucket, p.key].flatMap (fun s => encB s.data.toList) ++ [p.version, p.stripe].flatMap numB ++ ([p.k, p.m, p.size, (p.sum : Int), (p.nodes.length : Int)].map u64N).flatMap numB ++ (p.nodes.map u64N).flatMap numB
def ptrB (p : PM) : List UInt8 := [2].flatMap numB ++ ptrT p
structure PW.ok (G : Assn) (z : PW) : Prop where
  nodes : SlR [G] 1 (.slice z.np z.o.nodes.length z.nc) (z.o.nodes.map (Value.int .i64))
  texts : z.o.bucket.size ≤ 4194304 ∧ z.o.key.size ≤ 4194304 ∧ z.o.nodes.length ≤ 4194304
  nums : z.o.version ≤ 18446744073709551615 ∧ z.o.stripe ≤ 18446744073709551615 ∧ z.o.sum ≤ 4294967295
theorem wpointer_spec (G : Assn) (w : Nat) (p : Option Addr) (c : Nat) (acc : List UInt8) (z : PW) (hz : z.ok G) (hn : acc.length ≤ 1000) : FSpec Tryz.prog 40 [.pointer (some ⟨w, 0, none⟩), .agg z.cells.toArray] [wrA w p c acc, wrO p c acc, G]
    (fun u B => ∃ p' c', u = .tuple #[] ∧ B = [wrA w p' c' (acc ++ ptrT z.o), wrO p' c' (acc ++ ptrT z.o), G]) := by
  have htt := hz.texts
  have hnn := hz.nums
  refine FSpec.of func40 rfl ntmps40 rfl fun W0 F => ?_
  refine J.seq <| J.region ?_
  refine J.c rfl rfl (C.box (l := [_, _, _, _, _, _, _, _, _]) rfl rfl) ?_
  rintro _ _ ⟨b3, rfl, rfl⟩
  refine J.norm rfl <| J.nil <| J.then_n <| J.seq <| J.region <| J.m rfl <| J.p rfl (Q.fa (n := 0) runUnderlying67 rfl rfl sizeOf9 rfl) ?_
  refine J.p rfl (Q.ldI isAgg9 rfl) ?_
  refine J.p rfl (Q.fa (n := 1) runUnderlying67 rfl rfl sizeOf9 rfl) ?_
  refine J.p rfl (Q.ldI isAgg9 rfl) ?_
  refine J.c rfl rfl (C.bslG (l := [_, _]) runUnderlying41 sizeOf9 zeroValue9 (by decide) rfl rfl rfl rfl rfl) ?_
  rintro _ _ ⟨b9, rfl, rfl⟩
  refine J.norm rfl ?_
  refine J.conv (Y := pt b9 (.cells ([z.o.bucket, z.o.key].map Value.string).toArray 9 (0, 0))) 0 rfl (fun _ h => h) ?_
  refine J.callI call37 (wtexts2_spec (pt b9 (.cells ([z.o.bucket, z.o.key].map Value.string).toArray 9 (0, 0))) w p c acc (some ⟨b9, 0, none⟩) 2 2 [z.o.bucket, z.o.key] (SlR.ptI rfl) (by show acc.length + 5000000 * 2 ≤ _; omega) (by intro v hv; simp only [List.mem_cons, List.not_mem_nil, or_false] at hv; rcases hv with rfl | rfl <;> omega)) rfl rfl rfl ?_
  rintro _ _ ⟨p10, c10, rfl, rfl⟩
  refine J.norm rfl ?_
  obtain ⟨a1, ha1⟩ : ∃ a, a = acc ++ [z.o.bucket, z.o.key].flatMap fun s => encB s.data.toList := ⟨_, rfl⟩
  have l1 : a1.length ≤ 20000000 := by
   have e1 : z.o.bucket.data.toList.length = z.o.bucket.size := by simp
   have e2 : z.o.key.data.toList.length = z.o.key.size := by simp
   have k1 := numB_len z.o.bucket.data.toList.length (by omega)
   have k2 := numB_len z.o.key.data.toList.length (by omega)
   rw [ha1]
   simp only [List.flatMap_cons, List.flatMap_nil, List.length_append, encB, List.length_nil]
   omega
  rw [← ha1]
  refine J.nil <| J.then_n <| J.seq <| J.region <| J.m rfl <| J.p rfl (Q.fa (n := 2) runUnderlying67 rfl rfl sizeOf40 rfl) ?_
  refine J.p rfl (Q.ldI isAgg40 rfl) ?_
  refine J.p rfl (Q.fa (n := 3) runUnderlying67 rfl rfl sizeOf40 rfl) ?_
  refine J.p rfl (Q.ldI isAgg40 rfl) ?_
  refine J.c rfl rfl (C.bslG (l := [_, _]) runUnderlying151 sizeOf40 zeroValue40 (by decide) rfl rfl rfl rfl rfl) ?_
  rintro _ _ ⟨b16, rfl, rfl⟩
  refine J.norm rfl ?_
  refine J.conv (Y := pt b16 (.cells ([z.o.version, z.o.stripe].map encU).toArray 40 (0, 0))) 0 rfl (fun _ h => h) ?_
  refine J.callI call36 (wnumbers_spec (pt b16 (.cells ([z.o.version, z.o.stripe].map encU).toArray 40 (0, 0))) w p10 c10 a1 (some ⟨b16, 0, none⟩) 2 2 [z.o.version, z.o.stripe] (SlR.ptI rfl) (by show a1.length + 10 * 2 ≤ _; omega) (by intro v hv; simp only [List.mem_cons, List.not_mem_nil, or_false] at hv; omega)) rfl rfl rfl ?_
  rintro _ _ ⟨p17, c17, rfl, rfl⟩
  refine J.norm rfl ?_
  obtain ⟨a2, ha2⟩ : ∃ a, a = a1 ++ [z.o.version, z.o.stripe].flatMap numB := ⟨_, rfl⟩
  have l2 : a2.length ≤ 20000020 := by
   rw [ha2, List.length_append]; have := flat_numB [z.o.version, z.o.stripe] (by intro v hv; simp only [List.mem_cons, List.not_mem_nil, or_false] at hv; omega)
   simp only [List.length_cons, List.length_nil] at this; omega
  rw [← ha2]
  refine J.nil <| J.then_n <| J.seq <| J.region <| J.m rfl <| J.p rfl (Q.fa (n := 4) runUnderlying67 rfl rfl sizeOf3 rfl) ?_
  refine J.p rfl (Q.ldI isAgg3 rfl) ?_
  refine J.p rfl (Q.fa (n := 5) runUnderlying67 rfl rfl sizeOf3 rfl) ?_
  refine J.p rfl (Q.ldI isAgg3 rfl) ?_
  refine J.p rfl (Q.fa (n := 6) runUnderlying67 rfl rfl sizeOf3 rfl) ?_
  refine J.p rfl (Q.ldI isAgg3 rfl) ?_
  refine J.p rfl (Q.fa (n := 7) runUnderlying67 rfl rfl sizeOf65 rfl) ?_
  refine J.p rfl (Q.ldI isAgg65 rfl) ?_
  refine J.p rfl (Q.conv64 runUnderlying65 runUnderlying3 rfl (by omega)) <| J.p rfl (Q.fa (n := 8) runUnderlying67 rfl rfl sizeOf50 rfl) ?_
  refine J.p rfl (Q.ldI isAgg50 rfl) ?_
  refine J.p rfl (Q.lenSl runUnderlying50 rfl) ?_
  refine J.c rfl rfl (C.bslG (l := [_, _, _, _, _]) runUnderlying50 sizeOf3 zeroValue3 (by decide) rfl rfl rfl rfl rfl) ?_
  rintro _ _ ⟨b31, rfl, rfl⟩
  refine J.norm rfl ?_
  refine J.conv (Y := pt b31 (.cells ([z.o.k, z.o.m, z.o.size, (z.o.sum : Int), (z.o.nodes.length : Int)].map (Value.int .i64)).toArray 3 (0, 0))) 0 rfl (fun _ h => h) ?_
  refine J.callI call38 (wints2_spec (pt b31 (.cells ([z.o.k, z.o.m, z.o.size, (z.o.sum : Int), (z.o.nodes.length : Int)].map (Value.int .i64)).toArray 3 (0, 0))) w p17 c17 a2 (some ⟨b31, 0, none⟩) 5 5 [z.o.k, z.o.m, z.o.size, (z.o.sum : Int), (z.o.nodes.length : Int)] (SlR.ptI rfl) (by show a2.length + 10 * 5 ≤ _; omega)) rfl rfl rfl ?_
  rintro _ _ ⟨p32, c32, rfl, rfl⟩
  refine J.norm rfl ?_
  obtain ⟨a3, ha3⟩ : ∃ a, a = a2 ++ ([z.o.k, z.o.m, z.o.size, (z.o.sum : Int), (z.o.nodes.length : Int)].map u64N).flatMap numB := ⟨_, rfl⟩
  have l3 : a3.length ≤ 20000070 := by
   rw [ha3, List.length_append]; have := flat_numB ([z.o.k, z.o.m, z.o.size, (z.o.sum : Int), (z.o.nodes.length : Int)].map u64N) (by intro v hv; obtain ⟨u, _, rfl⟩ := List.mem_map.1 hv; exact u64N_le u)
   simp only [List.length_map, List.length_cons, List.length_nil] at this; omega
  rw [← ha3]
  refine J.nil <| J.then_n <| J.region <| J.m rfl <| J.p rfl (Q.fa (n := 8) runUnderlying67 rfl rfl sizeOf50 rfl) ?_
  refine J.p rfl (Q.ldI isAgg50 rfl) ?_
  refine J.callI call38 (wints2_spec G w p32 c32 a3 z.np z.o.nodes.length z.nc z.o.nodes hz.nodes (by omega)) rfl rfl rfl ?_
  rintro _ _ ⟨p36, c36, rfl, rfl⟩
  refine J.norm rfl ?_
  have e : a3 ++ (z.o.nodes.map u64N).flatMap numB = acc ++ ptrT z.o := by rw [ha3, ha2, ha1]; simp [ptrT]
  rw [e]
  refine J.nil ?_
  refine J.end0I [wrA w p36 c36 (acc ++ ptrT z.o), wrO p36 c36 (acc ++ ptrT z.o), G] rfl ⟨p36, c36, rfl, rfl⟩
theorem pointCommand_spec (G : Assn) (z : PW) (hz : z.ok G) : FSpec Tryz.prog 18 [.agg z.cells.toArray] [G] (fun u B => ∃ p c, u = .slice p (ptrB z.o).length c ∧ B = [wrO p c (ptrB z.o), G]) := by
  refine FSpec.of func18 rfl ntmps18 rfl fun W0 F => ?_
  refine J.seq <| J.region ?_
  refine J.c rfl rfl (C.box (l := [_, _, _, _, _, _, _, _, _]) rfl rfl) ?_
  rintro _ _ ⟨b1, rfl, rfl⟩
  refine J.norm rfl <| J.p rfl (Q.asg rfl) <| J.nil <| J.then_n <| J.seq <| J.region <| J.p rfl (Q.bld (l := [_]) runUnderlying108 zeroValue108 places108 rfl rfl) ?_
  refine J.c rfl rfl (C.box (l := [_]) rfl rfl) ?_
  rintro _ _ ⟨b5, rfl, rfl⟩
  refine J.norm rfl ?_
  refine J.conv (Y := wrA b5 none 0 []) 0 rfl (fun _ h => h) ?_
  refine J.give (X := wrO none 0 []) (own.nil _ _ _) ?_
  refine J.p rfl (Q.asg rfl) <| J.nil <| J.then_n <| J.seq <| J.region <| J.m rfl ?_
  refine J.c rfl rfl (C.bslG (l := [_]) runUnderlying151 sizeOf40 zeroValue40 (by decide) rfl rfl rfl rfl rfl) ?_
  rintro _ _ ⟨b7, rfl, rfl⟩
  refine J.norm rfl ?_
  refine J.conv (Y := pt b7 (.cells ([2].map encU).toArray 40 (0, 0))) 0 rfl (fun _ h => h) ?_
  refine J.callI call36 (wnumbers_spec (pt b7 (.cells ([2].map encU).toArray 40 (0, 0))) b5 none 0 [] (some ⟨b7, 0, none⟩) 1 1 [2] (SlR.ptI rfl) (by show 0 + 10 * 1 ≤ _; omega) (by intro v hv; rw [List.mem_singleton.1 hv]; omega)) rfl rfl rfl ?_
  rintro _ _ ⟨p8, c8, rfl, rfl⟩
  refine J.norm rfl ?_
  rw [List.nil_append]
  refine J.nil <| J.then_n <| J.seq <| J.region <| J.m rfl ?_
  refine J.p rfl (Q.ldN (vs := [_, _, _, _, _, _, _, _, _]) isAgg67 sizeOf67 rfl rnI) ?_
  refine J.callI call40 (wpointer_spec G b5 p8 c8 ([2].flatMap numB) z hz (Nat.le_trans (flat_numB [2] (by intro v hv; rw [List.mem_singleton.1 hv]; omega)) (by decide))) rfl rfl rfl ?_
  rintro _ _ ⟨p11, c11, rfl, rfl⟩
  refine J.norm rfl ?_
  rw [show [2].flatMap numB ++ ptrT z.o = ptrB z.o from rfl]
  refine J.nil <| J.then_n <| J.seq <| J.region <| J.m rfl <| J.p rfl (Q.nil_ rfl) <| J.p rfl (Q.fa (n := 0) runUnderlying108 rfl rfl sizeOf42 rfl) ?_
  refine J.p rfl (Q.ldI isAgg42 rfl) ?_
  refine J.p rfl (Q.asg rfl) <| J.nil <| J.then_n <| J.cret ?_
  refine J.ret1I [wrO p11 c11 (ptrB z.o), G] rfl rfl ⟨p11, c11, rfl, rfl⟩

def RS.ptr (s : RS) : PM × RS :=
  let a := s.text
  let b := a.2.text
  let c := b.2.num
  let d := c.2.num
  let e := d.2.int
  let f := e.2.int
  let g := f.2.int
  let h := g.2.int
  let i := RS.ints ⟨h.2.b, h.2.bad || decide (4294967295 < h.1)⟩
  (⟨a.1, b.1, c.1, d.1, e.1, f.1, g.1, h.1 % 4294967296, i.1.map Int.ofNat⟩, i.2)
theorem wrap32 (n : Nat) : IntKind.u32.wrap (n : Int) = ((n % 4294967296 : Nat) : Int) := by
  unfold IntKind.wrap
  simp only [IntKind.bits, IntKind.signed]
  show (n : Int) % 2 ^ 32 = _
  omega
def PW.own (z : PW) : Assn := Go.X.own 3 1 (.slice z.np z.o.nodes.length z.nc) (z.o.nodes.map (Value.int .i64))
theorem rpointer_spec (G : Assn) (r : Nat) (p : Option Addr) (c : Nat) (s : RS) (hs : SlP G p c s.b) : FSpec Tryz.prog 48 [.pointer (some ⟨r, 0, none⟩)] [rdA r p c s, G]
    (fun u B => ∃ (p' : Option Addr) (c' : Nat) (z : PW), u = .agg z.cells.toArray ∧ z.o = s.ptr.1 ∧ SlP G p' c' s.ptr.2.b ∧ B = [rdA r p' c' s.ptr.2, z.own, G]) := by
  refine FSpec.of func48 rfl ntmps48 rfl fun W0 F => ?_
  obtain ⟨p1, c1, hs1⟩ : ∃ p1 c1, SlP G p1 c1 s.b ∧ p1 = p ∧ c1 = c := ⟨p, c, hs, rfl, rfl⟩
  obtain ⟨hs1, rfl, rfl⟩ := hs1
  obtain ⟨s1, e1⟩ : ∃ t : RS, t = s := ⟨_, rfl⟩
  rw [← e1] at hs1 ⊢
  refine J.seq <| J.region ?_
  refine J.c rfl rfl (C.alloc (l := [_, _, _, _, _, _, _, _, _]) zeroValue67 rfl) ?_
  rintro _ _ ⟨b2, rfl, rfl⟩
  refine J.norm rfl <| J.nil <| J.then_n <| J.seq <| J.region <| J.m rfl ?_
  refine J.callI call43 (rtext_spec G r p1 c1 s1 hs1) rfl rfl rfl ?_
  rintro _ _ ⟨p2, c2, rfl, hs2, rfl⟩
  refine J.norm rfl ?_
  obtain ⟨s2, e2⟩ : ∃ t, t = s1.text.2 := ⟨_, rfl⟩
  rw [← e2] at hs2 ⊢
  refine J.m rfl ?_
  refine J.callI call43 (rtext_spec G r p2 c2 s2 hs2) rfl rfl rfl ?_
  rintro _ _ ⟨p3, c3, rfl, hs3, rfl⟩
  refine J.norm rfl ?_
  obtain ⟨s3, e3⟩ : ∃ t, t = s2.text.2 := ⟨_, rfl⟩
  rw [← e3] at hs3 ⊢
  refine J.m rfl ?_
  refine J.callI call41 (rnumber_spec G r p3 c3 s3 hs3) rfl rfl rfl ?_
  rintro _ _ ⟨p4, c4, rfl, hs4, rfl⟩
  refine J.norm rfl ?_
  obtain ⟨s4, e4⟩ : ∃ t, t = s3.num.2 := ⟨_, rfl⟩
  rw [← e4] at hs4 ⊢
  refine J.m rfl ?_
  refine J.callI call41 (rnumber_spec G r p4 c4 s4 hs4) rfl rfl rfl ?_
  rintro _ _ ⟨p5, c5, rfl, hs5, rfl⟩
  refine J.norm rfl ?_
  obtain ⟨s5, e5⟩ : ∃ t, t = s4.num.2 := ⟨_, rfl⟩
  rw [← e5] at hs5 ⊢
  refine J.m rfl ?_
  refine J.callI call42 (rint_spec G r p5 c5 s5 hs5) rfl rfl rfl ?_
  rintro _ _ ⟨p6, c6, rfl, hs6, rfl⟩
  refine J.norm rfl ?_
  obtain ⟨s6, e6⟩ : ∃ t, t = s5.int.2 := ⟨_, rfl⟩
  rw [← e6] at hs6 ⊢
  refine J.m rfl ?_
  refine J.callI call42 (rint_spec G r p6 c6 s6 hs6) rfl rfl rfl ?_
  rintro _ _ ⟨p7, c7, rfl, hs7, rfl⟩
  refine J.norm rfl ?_
  obtain ⟨s7, e7⟩ : ∃ t, t = s6.int.2 := ⟨_, rfl⟩
  rw [← e7] at hs7 ⊢
  refine J.m rfl ?_
  refine J.callI call42 (rint_spec G r p7 c7 s7 hs7) rfl rfl rfl ?_
  rintro _ _ ⟨p8, c8, rfl, hs8, rfl⟩
  refine J.norm rfl ?_
  obtain ⟨s8, e8⟩ : ∃ t, t = s7.int.2 := ⟨_, rfl⟩
  rw [← e8] at hs8 ⊢
  refine J.p rfl (Q.bld (l := [.string s1.text.1, .string s2.text.1, .int .u64 s3.num.1, .int .u64 s4.num.1, .int .i64 s5.int.1, .int .i64 s6.int.1, .int .i64 s7.int.1, .int .u32 0, .slice none 0 0]) runUnderlying67 zeroValue67 places67 rfl (by kernel_rfl)) ?_
  refine J.c rfl rfl (C.alloc (l := [_, _, _, _, _, _, _, _, _]) zeroValue67 rfl) ?_
  rintro _ _ ⟨b3, rfl, rfl⟩
  refine J.norm rfl ?_
  refine J.stAJ (vs := [_, _, _, _, _, _, _, _, _]) rfl sizeOf67 rfl rfl ?_
  refine J.nil <| J.then_n <| J.seq <| J.region <| J.m rfl ?_
  refine J.callI call42 (rint_spec G r p8 c8 s8 hs8) rfl rfl rfl ?_
  rintro _ _ ⟨p9, c9, rfl, hs9, rfl⟩
  refine J.norm rfl ?_
  obtain ⟨s9, e9⟩ : ∃ t, t = s8.int.2 := ⟨_, rfl⟩
  rw [← e9] at hs9 ⊢
  refine J.p rfl (Q.asg rfl) <| J.nil <| J.then_n <| J.seq <| J.region <| J.m rfl <| J.m rfl <| J.p rfl (Q.nil_ rfl) <| J.p rfl (Q.fa (n := 1) runUnderlying116 rfl rfl sizeOf4 rfl) ?_
  refine J.p rfl (Q.ldI isAgg4 rfl) ?_
  refine J.m rfl ?_
  refine J.kases 27 rfl (fun hb27 => ?_) (fun hb27 => ?_)
  ·
   refine J.k rfl <| J.k rfl <| J.p rfl (Q.pick_t rfl rfl) <| J.p rfl (Q.nil_ rfl) <| J.p rfl (Q.fa (n := 1) runUnderlying116 rfl rfl sizeOf4 rfl) ?_
   refine J.stJ rfl sizeOf4 rfl rfl rfl ?_
   refine J.nil <| J.then_n <| J.seq ?_
   obtain ⟨s10, e10⟩ : ∃ t : RS, t = ⟨s9.b, s9.bad || decide (4294967295 < s8.int.1)⟩ := ⟨_, rfl⟩
   have hs10 : SlP G p9 c9 s10.b := by rw [e10]; exact hs9
   first
    | (refine J.convI (pt r (.cells [Value.slice p9 s9.b.length c9, .bool true].toArray 116 (0, 0))) (rdA r p9 c9 s10) (fun _ h => by rw [e10, show s9.bad = true from hb27]; exact h) ?_)
    | (refine J.convI (pt r (.cells [Value.slice p9 s9.b.length c9, .bool (decide ((4294967295 : Int) < (s8.int.1 : Int)))].toArray 116 (0, 0))) (rdA r p9 c9 s10) (fun _ h => by rw [e10, show s9.bad = false from hb27, decide_eq_decide.2 (show 4294967295 < s8.int.1 ↔ (4294967295 : Int) < (s8.int.1 : Int) by omega)]; exact h) ?_)
   refine J.region <| J.m rfl <| J.p rfl (Q.conv runUnderlying3 runUnderlying65 rfl) ?_
   refine J.slot 34 (.int .u32 ((s8.int.1 % 4294967296 : Nat) : Int)) rfl (by rw [wrap32]) ?_
   refine J.p rfl (Q.fa (n := 7) runUnderlying67 rfl rfl sizeOf65 rfl) ?_
   refine J.stJ rfl sizeOf65 rfl rfl rfl ?_
   refine J.nil <| J.then_n <| J.seq <| J.region <| J.m rfl ?_
   refine J.callI call44 (rints_spec G r p9 c9 s10 hs10) rfl rfl rfl ?_
   rintro _ _ ⟨p11, c11, q37, d37, rfl, hs11, rfl⟩
   refine J.norm rfl ?_
   obtain ⟨z, hz⟩ : ∃ z : PW, z = ⟨⟨s1.text.1, s2.text.1, s3.num.1, s4.num.1, s5.int.1, s6.int.1, s7.int.1, s8.int.1 % 4294967296, s10.ints.1.map Int.ofNat⟩, q37, d37⟩ := ⟨_, rfl⟩
   have hzo : z.o = s1.ptr.1 := by
    rw [hz]; unfold RS.ptr; dsimp only
    rw [← e2, ← e3, ← e4, ← e5, ← e6, ← e7, ← e8, ← e9, ← e10]
   have hzs : s10.ints.2 = s1.ptr.2 := by
    unfold RS.ptr; dsimp only
    rw [← e2, ← e3, ← e4, ← e5, ← e6, ← e7, ← e8, ← e9, ← e10]
   have hzl : z.o.nodes.length = s10.ints.1.length := by rw [hz]; simp
   refine J.convI (own 3 1 (.slice q37 s10.ints.1.length d37) (s10.ints.1.map fun v : Nat => Value.int .i64 (v : Int))) z.own (fun _ h => by unfold PW.own; rw [hz]; simpa [Function.comp_def] using h) ?_
   refine J.p rfl (Q.fa (n := 8) runUnderlying67 rfl rfl sizeOf50 rfl) ?_
   refine J.stJ rfl sizeOf50 rfl rfl rfl ?_
   refine J.nil <| J.then_n <| J.seq <| J.region ?_
   refine J.p rfl (Q.ldN (vs := [_, _, _, _, _, _, _, _, _]) isAgg67 sizeOf67 rfl rnI) ?_
   refine J.slot 39 (.agg z.cells.toArray) rfl (by rw [hz]; simp [PW.cells]) ?_
   refine J.stAJ (vs := [_, _, _, _, _, _, _, _, _]) rfl sizeOf67 rfl rfl ?_
   refine J.nil <| J.then_n <| J.cret ?_
   rw [hzs] at hs11 ⊢
   refine J.retCI (vs := [_, _, _, _, _, _, _, _, _]) [rdA r p11 c11 s1.ptr.2, z.own, G] rfl rfl isAgg67 sizeOf67 rnI ⟨p11, c11, z, rfl, hzo, hs11, rfl⟩
  refine J.m rfl <| J.p rfl (Q.gtr rfl rfl) <| J.p rfl (Q.pick_f rfl rfl) <| J.p rfl (Q.nil_ rfl) <| J.p rfl (Q.fa (n := 1) runUnderlying116 rfl rfl sizeOf4 rfl) ?_
  refine J.stJ rfl sizeOf4 rfl rfl rfl ?_
  refine J.nil <| J.then_n <| J.seq ?_
  obtain ⟨s10, e10⟩ : ∃ t : RS, t = ⟨s9.b, s9.bad || decide (4294967295 < s8.int.1)⟩ := ⟨_, rfl⟩
  have hs10 : SlP G p9 c9 s10.b := by rw [e10]; exact hs9
  first
   | (refine J.convI (pt r (.cells [Value.slice p9 s9.b.length c9, .bool true].toArray 116 (0, 0))) (rdA r p9 c9 s10) (fun _ h => by rw [e10, show s9.bad = true from hb27]; exact h) ?_)
   | (refine J.convI (pt r (.cells [Value.slice p9 s9.b.length c9, .bool (decide ((4294967295 : Int) < (s8.int.1 : Int)))].toArray 116 (0, 0))) (rdA r p9 c9 s10) (fun _ h => by rw [e10, show s9.bad = false from hb27, decide_eq_decide.2 (show 4294967295 < s8.int.1 ↔ (4294967295 : Int) < (s8.int.1 : Int) by omega)]; exact h) ?_)
  refine J.region <| J.m rfl <| J.p rfl (Q.conv runUnderlying3 runUnderlying65 rfl) ?_
  refine J.slot 34 (.int .u32 ((s8.int.1 % 4294967296 : Nat) : Int)) rfl (by rw [wrap32]) ?_
  refine J.p rfl (Q.fa (n := 7) runUnderlying67 rfl rfl sizeOf65 rfl) ?_
  refine J.stJ rfl sizeOf65 rfl rfl rfl ?_
  refine J.nil <| J.then_n <| J.seq <| J.region <| J.m rfl ?_
  refine J.callI call44 (rints_spec G r p9 c9 s10 hs10) rfl rfl rfl ?_
  rintro _ _ ⟨p11, c11, q37, d37, rfl, hs11, rfl⟩
  refine J.norm rfl ?_
  obtain ⟨z, hz⟩ : ∃ z : PW, z = ⟨⟨s1.text.1, s2.text.1, s3.num.1, s4.num.1, s5.int.1, s6.int.1, s7.int.1, s8.int.1 % 4294967296, s10.ints.1.map Int.ofNat⟩, q37, d37⟩ := ⟨_, rfl⟩
  have hzo : z.o = s1.ptr.1 := by
   rw [hz]; unfold RS.ptr; dsimp only
   rw [← e2, ← e3, ← e4, ← e5, ← e6, ← e7, ← e8, ← e9, ← e10]
  have hzs : s10.ints.2 = s1.ptr.2 := by
   unfold RS.ptr; dsimp only
   rw [← e2, ← e3, ← e4, ← e5, ← e6, ← e7, ← e8, ← e9, ← e10]
  have hzl : z.o.nodes.length = s10.ints.1.length := by rw [hz]; simp
  refine J.convI (own 3 1 (.slice q37 s10.ints.1.length d37) (s10.ints.1.map fun v : Nat => Value.int .i64 (v : Int))) z.own (fun _ h => by unfold PW.own; rw [hz]; simpa [Function.comp_def] using h) ?_
  refine J.p rfl (Q.fa (n := 8) runUnderlying67 rfl rfl sizeOf50 rfl) ?_
  refine J.stJ rfl sizeOf50 rfl rfl rfl ?_
  refine J.nil <| J.then_n <| J.seq <| J.region ?_
  refine J.p rfl (Q.ldN (vs := [_, _, _, _, _, _, _, _, _]) isAgg67 sizeOf67 rfl rnI) ?_
  refine J.slot 39 (.agg z.cells.toArray) rfl (by rw [hz]; simp [PW.cells]) ?_
  refine J.stAJ (vs := [_, _, _, _, _, _, _, _, _]) rfl sizeOf67 rfl rfl ?_
  refine J.nil <| J.then_n <| J.cret ?_
  rw [hzs] at hs11 ⊢
  refine J.retCI (vs := [_, _, _, _, _, _, _, _, _]) [rdA r p11 c11 s1.ptr.2, z.own, G] rfl rfl isAgg67 sizeOf67 rnI ⟨p11, c11, z, rfl, hzo, hs11, rfl⟩

def getO (p : PM) : OM := ⟨0, 4, p.bucket, p.key, bt [], 0, 0, [], []⟩
def nodeB (n : Int) : Bool := decide (0 ≤ n) && decide (n < 16)
def rightP (p : PM) : Bool := (getO p).chkB && decide (1 ≤ p.k) && decide (0 ≤ p.m) && decide (p.k ≤ 255) && decide (p.k + p.m ≤ 255) && decide (0 ≤ p.size) && decide (p.size ≤ 268435456) && decide ((p.nodes.length : Int) = p.k + p.m) && p.nodes.all nodeB
theorem right_node {p : PM} {i : Nat} {n : Int} (h : p.nodes[i]? = some n) (hn : ¬ (0 ≤ n ∧ n < 16)) : rightP p = false := by
  have hnb : nodeB n = false := by
    unfold nodeB
    rw [← Bool.decide_and, decide_eq_false hn]
  cases q : rightP p with
  | false => rfl
  | true =>
    simp only [rightP, Bool.and_eq_true, decide_eq_true_eq, List.all_eq_true] at q
    have := q.2 n (List.mem_of_getElem? h)
    rw [hnb] at this; cases this
theorem right_yes {p : PM} {i : Nat} (hc : (getO p).chkB = true) (ht : p.nodes.take i = p.nodes) (ha : (p.nodes.take i).all nodeB = true) (hl : (p.nodes.length : Int) = p.k + p.m) (hk : 1 ≤ p.k ∧ 0 ≤ p.m ∧ p.k ≤ 255 ∧ p.k + p.m ≤ 255 ∧ 0 ≤ p.size ∧ p.size ≤ 268435456) : rightP p = true := by
  rw [ht] at ha
  simp only [rightP, Bool.and_eq_true, decide_eq_true_eq]
  exact ⟨⟨⟨⟨⟨⟨⟨⟨hc, hk.1⟩, hk.2.1⟩, hk.2.2.1⟩, hk.2.2.2.1⟩, hk.2.2.2.2.1⟩, hk.2.2.2.2.2⟩, hl⟩, ha⟩
theorem right_not {p : PM} (h : (getO p).chkB = true → (1 ≤ p.k ∧ 0 ≤ p.m ∧ p.k ≤ 255 ∧ p.k + p.m ≤ 255 ∧ 0 ≤ p.size ∧ p.size ≤ 268435456 ∧ (p.nodes.length : Int) = p.k + p.m) → False) : rightP p = false := by
  cases q : rightP p with
  | false => rfl
  | true =>
    simp only [rightP, Bool.and_eq_true, decide_eq_true_eq] at q
    exact (h q.1.1.1.1.1.1.1.1 ⟨q.1.1.1.1.1.1.1.2, q.1.1.1.1.1.1.2, q.1.1.1.1.1.2, q.1.1.1.1.2, q.1.1.1.2, q.1.1.2, q.1.2⟩).elim
theorem right_spec (G : Assn) (z : PW) (hz : SlR [G] 1 (.slice z.np z.o.nodes.length z.nc) (z.o.nodes.map (Value.int .i64))) (hk : 0 ≤ z.o.k ∧ z.o.k ≤ 1099511627776 ∧ 0 ≤ z.o.m ∧ z.o.m ≤ 1099511627776) (hl : z.o.nodes.length ≤ 1099511627776) (ht : z.o.bucket.size ≤ 1099511627776 ∧ z.o.key.size ≤ 1099511627776) :
    FSpec Tryz.prog 49 [.agg z.cells.toArray] [G] (fun v B => v = .bool (rightP z.o) ∧ B = [G]) := by
  refine FSpec.of func49 rfl ntmps49 rfl fun W0 F => ?_
  refine J.seq <| J.region ?_
  refine J.c rfl rfl (C.box (l := [_, _, _, _, _, _, _, _, _]) rfl rfl) ?_
  rintro _ _ ⟨b1, rfl, rfl⟩
  refine J.norm rfl <| J.p rfl (Q.asg rfl) <| J.nil <| J.then_n <| J.seq <| J.seq <| J.region <| J.p rfl (Q.fa (n := 0) runUnderlying67 rfl rfl sizeOf9 rfl) ?_
  refine J.p rfl (Q.ldI isAgg9 rfl) ?_
  refine J.p rfl (Q.fa (n := 1) runUnderlying67 rfl rfl sizeOf9 rfl) ?_
  refine J.p rfl (Q.ldI isAgg9 rfl) ?_
  refine J.p rfl (Q.bld (l := OW.cells (bareW (getO z.o))) runUnderlying52 zeroValue52 places52 rfl (by kernel_rfl)) ?_
  refine J.callI call46 (check_spec G (bareW (getO z.o)) ⟨.inl ⟨none, 0, rfl, rfl⟩, .inl ⟨none, 0, rfl, rfl⟩, by show z.o.bucket.size ≤ _ ∧ z.o.key.size ≤ _ ∧ (bt []).size ≤ _ ∧ 0 ≤ _ ∧ 0 ≤ _; have : (bt []).size = 0 := rfl; omega⟩) rfl rfl rfl ?_
  rintro _ _ ⟨rfl, rfl⟩
  refine J.norm rfl <| J.p rfl (Q.neq rfl rfl) <| J.m rfl ?_
  refine J.kases 12 rfl (fun hb12 => ?_) (fun hb12 => ?_)
  ·
   refine J.k rfl <| J.k rfl <| J.k rfl <| J.p rfl (Q.pick_t rfl rfl) <| J.m rfl <| J.k rfl <| J.k rfl <| J.k rfl <| J.p rfl (Q.pick_t rfl rfl) <| J.m rfl <| J.k rfl <| J.k rfl <| J.k rfl <| J.p rfl (Q.pick_t rfl rfl) <| J.m rfl <| J.k rfl <| J.k rfl <| J.k rfl <| J.k rfl ?_
   refine J.k rfl <| J.k rfl <| J.p rfl (Q.pick_t rfl rfl) <| J.m rfl <| J.k rfl <| J.k rfl <| J.k rfl <| J.p rfl (Q.pick_t rfl rfl) <| J.m rfl <| J.k rfl <| J.k rfl <| J.k rfl <| J.p rfl (Q.pick_t rfl rfl) <| J.m rfl <| J.k rfl <| J.k rfl <| J.k rfl <| J.k rfl <| J.k rfl ?_
   refine J.k rfl <| J.k rfl <| J.k rfl <| J.k rfl <| J.p rfl (Q.pick_t rfl rfl) <| J.nil <| J.then_n <| J.cond_t rfl <| J.seq <| J.region <| J.p rfl (Q.asg rfl) <| J.nil <| J.then_n <| J.cret <| J.then_r ?_
   first
    | (refine J.ret1I [G] rfl rfl ⟨by rw [right_node hn (by first | omega | (intro q; omega))], rfl⟩)
    | (refine J.ret1I [G] rfl rfl ⟨by rw [right_yes hc (List.take_of_length_le (by omega)) hal hlen (by omega)], rfl⟩)
    | (refine J.ret1I [G] rfl rfl ⟨by rw [right_not (fun q0 q1 => by first | omega | (rw [show (bareW (getO z.o)).o = getO z.o from rfl, q0] at hb12; simp at hb12))], rfl⟩)
  refine J.p rfl (Q.fa (n := 4) runUnderlying67 rfl rfl sizeOf3 rfl) ?_
  refine J.p rfl (Q.ldI isAgg3 rfl) ?_
  refine J.p rfl (Q.lss rfl rfl) <| J.p rfl (Q.pick_f rfl rfl) <| J.m rfl ?_
  refine J.kases 17 rfl (fun hb17 => ?_) (fun hb17 => ?_)
  ·
   refine J.k rfl <| J.k rfl <| J.k rfl <| J.p rfl (Q.pick_t rfl rfl) <| J.m rfl <| J.k rfl <| J.k rfl <| J.k rfl <| J.p rfl (Q.pick_t rfl rfl) <| J.m rfl <| J.k rfl <| J.k rfl <| J.k rfl <| J.k rfl <| J.k rfl <| J.k rfl <| J.p rfl (Q.pick_t rfl rfl) <| J.m rfl <| J.k rfl ?_
   refine J.k rfl <| J.k rfl <| J.p rfl (Q.pick_t rfl rfl) <| J.m rfl <| J.k rfl <| J.k rfl <| J.k rfl <| J.p rfl (Q.pick_t rfl rfl) <| J.m rfl <| J.k rfl <| J.k rfl <| J.k rfl <| J.k rfl <| J.k rfl <| J.k rfl <| J.k rfl <| J.k rfl <| J.k rfl <| J.p rfl (Q.pick_t rfl rfl) ?_
   refine J.nil <| J.then_n <| J.cond_t rfl <| J.seq <| J.region <| J.p rfl (Q.asg rfl) <| J.nil <| J.then_n <| J.cret <| J.then_r ?_
   first
    | (refine J.ret1I [G] rfl rfl ⟨by rw [right_node hn (by first | omega | (intro q; omega))], rfl⟩)
    | (refine J.ret1I [G] rfl rfl ⟨by rw [right_yes hc (List.take_of_length_le (by omega)) hal hlen (by omega)], rfl⟩)
    | (refine J.ret1I [G] rfl rfl ⟨by rw [right_not (fun q0 q1 => by first | omega | (rw [show (bareW (getO z.o)).o = getO z.o from rfl, q0] at hb12; simp at hb12))], rfl⟩)
  refine J.p rfl (Q.fa (n := 5) runUnderlying67 rfl rfl sizeOf3 rfl) ?_
  refine J.p rfl (Q.ldI isAgg3 rfl) ?_
  refine J.p rfl (Q.lss rfl rfl) <| J.p rfl (Q.pick_f rfl rfl) <| J.m rfl ?_
  refine J.kases 22 rfl (fun hb22 => ?_) (fun hb22 => ?_)
  ·
   refine J.k rfl <| J.k rfl <| J.k rfl <| J.p rfl (Q.pick_t rfl rfl) <| J.m rfl <| J.k rfl <| J.k rfl <| J.k rfl <| J.k rfl <| J.k rfl <| J.k rfl <| J.p rfl (Q.pick_t rfl rfl) <| J.m rfl <| J.k rfl <| J.k rfl <| J.k rfl <| J.p rfl (Q.pick_t rfl rfl) <| J.m rfl <| J.k rfl ?_
   refine J.k rfl <| J.k rfl <| J.p rfl (Q.pick_t rfl rfl) <| J.m rfl <| J.k rfl <| J.k rfl <| J.k rfl <| J.k rfl <| J.k rfl <| J.k rfl <| J.k rfl <| J.k rfl <| J.k rfl <| J.p rfl (Q.pick_t rfl rfl) <| J.nil <| J.then_n <| J.cond_t rfl <| J.seq <| J.region <| J.p rfl (Q.asg rfl) <| J.nil <| J.then_n <| J.cret ?_
   refine J.then_r ?_
   first
    | (refine J.ret1I [G] rfl rfl ⟨by rw [right_node hn (by first | omega | (intro q; omega))], rfl⟩)
    | (refine J.ret1I [G] rfl rfl ⟨by rw [right_yes hc (List.take_of_length_le (by omega)) hal hlen (by omega)], rfl⟩)
    | (refine J.ret1I [G] rfl rfl ⟨by rw [right_not (fun q0 q1 => by first | omega | (rw [show (bareW (getO z.o)).o = getO z.o from rfl, q0] at hb12; simp at hb12))], rfl⟩)
  refine J.p rfl (Q.fa (n := 4) runUnderlying67 rfl rfl sizeOf3 rfl) ?_
  refine J.p rfl (Q.ldI isAgg3 rfl) ?_
  refine J.p rfl (Q.gtr rfl rfl) <| J.p rfl (Q.pick_f rfl rfl) <| J.m rfl ?_
  refine J.kases 27 rfl (fun hb27 => ?_) (fun hb27 => ?_)
  ·
   refine J.k rfl <| J.k rfl <| J.k rfl <| J.k rfl <| J.k rfl <| J.k rfl <| J.p rfl (Q.pick_t rfl rfl) <| J.m rfl <| J.k rfl <| J.k rfl <| J.k rfl <| J.p rfl (Q.pick_t rfl rfl) <| J.m rfl <| J.k rfl <| J.k rfl <| J.k rfl <| J.p rfl (Q.pick_t rfl rfl) <| J.m rfl <| J.k rfl ?_
   refine J.k rfl <| J.k rfl <| J.k rfl <| J.k rfl <| J.k rfl <| J.k rfl <| J.k rfl <| J.k rfl <| J.p rfl (Q.pick_t rfl rfl) <| J.nil <| J.then_n <| J.cond_t rfl <| J.seq <| J.region <| J.p rfl (Q.asg rfl) <| J.nil <| J.then_n <| J.cret <| J.then_r ?_
   first
    | (refine J.ret1I [G] rfl rfl ⟨by rw [right_node hn (by first | omega | (intro q; omega))], rfl⟩)
    | (refine J.ret1I [G] rfl rfl ⟨by rw [right_yes hc (List.take_of_length_le (by omega)) hal hlen (by omega)], rfl⟩)
    | (refine J.ret1I [G] rfl rfl ⟨by rw [right_not (fun q0 q1 => by first | omega | (rw [show (bareW (getO z.o)).o = getO z.o from rfl, q0] at hb12; simp at hb12))], rfl⟩)
  refine J.p rfl (Q.fa (n := 4) runUnderlying67 rfl rfl sizeOf3 rfl) ?_
  refine J.p rfl (Q.ldI isAgg3 rfl) ?_
  refine J.p rfl (Q.fa (n := 5) runUnderlying67 rfl rfl sizeOf3 rfl) ?_
  refine J.p rfl (Q.ldI isAgg3 rfl) ?_
  refine J.p rfl (Q.add64 rfl rfl (by omega)) <| J.p rfl (Q.gtr rfl rfl) <| J.p rfl (Q.pick_f rfl rfl) <| J.m rfl ?_
  refine J.kases 35 rfl (fun hb35 => ?_) (fun hb35 => ?_)
  ·
   refine J.k rfl <| J.k rfl <| J.k rfl <| J.p rfl (Q.pick_t rfl rfl) <| J.m rfl <| J.k rfl <| J.k rfl <| J.k rfl <| J.p rfl (Q.pick_t rfl rfl) <| J.m rfl <| J.k rfl <| J.k rfl <| J.k rfl <| J.k rfl <| J.k rfl <| J.k rfl <| J.k rfl <| J.k rfl <| J.k rfl <| J.p rfl (Q.pick_t rfl rfl) ?_
   refine J.nil <| J.then_n <| J.cond_t rfl <| J.seq <| J.region <| J.p rfl (Q.asg rfl) <| J.nil <| J.then_n <| J.cret <| J.then_r ?_
   first
    | (refine J.ret1I [G] rfl rfl ⟨by rw [right_node hn (by first | omega | (intro q; omega))], rfl⟩)
    | (refine J.ret1I [G] rfl rfl ⟨by rw [right_yes hc (List.take_of_length_le (by omega)) hal hlen (by omega)], rfl⟩)
    | (refine J.ret1I [G] rfl rfl ⟨by rw [right_not (fun q0 q1 => by first | omega | (rw [show (bareW (getO z.o)).o = getO z.o from rfl, q0] at hb12; simp at hb12))], rfl⟩)
  refine J.p rfl (Q.fa (n := 6) runUnderlying67 rfl rfl sizeOf3 rfl) ?_
  refine J.p rfl (Q.ldI isAgg3 rfl) ?_
  refine J.p rfl (Q.lss rfl rfl) <| J.p rfl (Q.pick_f rfl rfl) <| J.m rfl ?_
  refine J.kases 40 rfl (fun hb40 => ?_) (fun hb40 => ?_)
  ·
   refine J.k rfl <| J.k rfl <| J.k rfl <| J.p rfl (Q.pick_t rfl rfl) <| J.m rfl <| J.k rfl <| J.k rfl <| J.k rfl <| J.k rfl <| J.k rfl <| J.k rfl <| J.k rfl <| J.k rfl <| J.k rfl <| J.p rfl (Q.pick_t rfl rfl) <| J.nil <| J.then_n <| J.cond_t rfl <| J.seq <| J.region <| J.p rfl (Q.asg rfl) <| J.nil ?_
   refine J.then_n <| J.cret <| J.then_r ?_
   first
    | (refine J.ret1I [G] rfl rfl ⟨by rw [right_node hn (by first | omega | (intro q; omega))], rfl⟩)
    | (refine J.ret1I [G] rfl rfl ⟨by rw [right_yes hc (List.take_of_length_le (by omega)) hal hlen (by omega)], rfl⟩)
    | (refine J.ret1I [G] rfl rfl ⟨by rw [right_not (fun q0 q1 => by first | omega | (rw [show (bareW (getO z.o)).o = getO z.o from rfl, q0] at hb12; simp at hb12))], rfl⟩)
  refine J.p rfl (Q.fa (n := 6) runUnderlying67 rfl rfl sizeOf3 rfl) ?_
  refine J.p rfl (Q.ldI isAgg3 rfl) ?_
  refine J.p rfl (Q.gtr rfl rfl) <| J.p rfl (Q.pick_f rfl rfl) <| J.m rfl ?_
  refine J.kases 45 rfl (fun hb45 => ?_) (fun hb45 => ?_)
  ·
   refine J.k rfl <| J.k rfl <| J.k rfl <| J.k rfl <| J.k rfl <| J.k rfl <| J.k rfl <| J.k rfl <| J.k rfl <| J.p rfl (Q.pick_t rfl rfl) <| J.nil <| J.then_n <| J.cond_t rfl <| J.seq <| J.region <| J.p rfl (Q.asg rfl) <| J.nil <| J.then_n <| J.cret <| J.then_r ?_
   first
    | (refine J.ret1I [G] rfl rfl ⟨by rw [right_node hn (by first | omega | (intro q; omega))], rfl⟩)
    | (refine J.ret1I [G] rfl rfl ⟨by rw [right_yes hc (List.take_of_length_le (by omega)) hal hlen (by omega)], rfl⟩)
    | (refine J.ret1I [G] rfl rfl ⟨by rw [right_not (fun q0 q1 => by first | omega | (rw [show (bareW (getO z.o)).o = getO z.o from rfl, q0] at hb12; simp at hb12))], rfl⟩)
  refine J.p rfl (Q.fa (n := 8) runUnderlying67 rfl rfl sizeOf50 rfl) ?_
  refine J.p rfl (Q.ldI isAgg50 rfl) ?_
  refine J.p rfl (Q.lenSl runUnderlying50 rfl) <| J.p rfl (Q.fa (n := 4) runUnderlying67 rfl rfl sizeOf3 rfl) ?_
  refine J.p rfl (Q.ldI isAgg3 rfl) ?_
  refine J.p rfl (Q.fa (n := 5) runUnderlying67 rfl rfl sizeOf3 rfl) ?_
  refine J.p rfl (Q.ldI isAgg3 rfl) ?_
  refine J.p rfl (Q.add64 rfl rfl (by omega)) <| J.p rfl (Q.neq rfl rfl) <| J.p rfl (Q.pick_f rfl rfl) <| J.nil <| J.then_n ?_
  refine J.kases 55 rfl (fun hc55 => ?_) (fun hc55 => ?_)
  ·
   refine J.cond_t rfl <| J.seq <| J.region <| J.p rfl (Q.asg rfl) <| J.nil <| J.then_n <| J.cret <| J.then_r ?_
   first
    | (refine J.ret1I [G] rfl rfl ⟨by rw [right_node hn (by first | omega | (intro q; omega))], rfl⟩)
    | (refine J.ret1I [G] rfl rfl ⟨by rw [right_yes hc (List.take_of_length_le (by omega)) hal hlen (by omega)], rfl⟩)
    | (refine J.ret1I [G] rfl rfl ⟨by rw [right_not (fun q0 q1 => by first | omega | (rw [show (bareW (getO z.o)).o = getO z.o from rfl, q0] at hb12; simp at hb12))], rfl⟩)
  refine J.cond_f rfl <| J.cskip <| J.then_n <| J.seq <| J.seq <| J.region <| J.p rfl (Q.fa (n := 8) runUnderlying67 rfl rfl sizeOf50 rfl) ?_
  refine J.p rfl (Q.ldI isAgg50 rfl) ?_
  refine J.p rfl (Q.lenSl runUnderlying50 rfl) <| J.m rfl <| J.nil <| J.then_n <| J.block ?_
  have hc : (getO z.o).chkB = true := by
   cases h : (getO z.o).chkB with
   | true => rfl
   | false => rw [show (bareW (getO z.o)).o = getO z.o from rfl, h] at hb12; simp at hb12
  have hlen : (z.o.nodes.length : Int) = z.o.k + z.o.m := by omega
  refine J.keepI [G, F] ?_
  refine J.loop (fun i : Nat => i ≤ z.o.nodes.length ∧ (z.o.nodes.take i).all nodeB = true) (fun i => z.o.nodes.length - i) (fun i => [(57, .slice z.np z.o.nodes.length z.nc), (58, .int .i64 z.o.nodes.length), (59, .int .i64 i)]) (fun _ => [G, F]) 0 ⟨Nat.zero_le _, rfl⟩ ⟨rfl, rfl, rfl, trivial⟩ rfl fun i hi => ?_
  obtain ⟨hi, hal⟩ := hi
  refine J.seq <| J.region <| J.p rfl (Q.lss rfl rfl) <| J.nil <| J.then_n <| J.seq ?_
  refine J.kases 60 rfl (fun hc60 => ?_) (fun hc60 => ?_)
  ·
   refine J.cond_t rfl <| J.cskip <| J.then_n <| J.seq <| J.block <| J.seq ?_
   have hil : i < z.o.nodes.length := by omega
   obtain ⟨b, off, hzp, hrd⟩ := hz.some_ (by omega)
   obtain ⟨n, hn⟩ : ∃ n, z.o.nodes[i]? = some n := ⟨_, List.getElem?_eq_getElem (by omega)⟩
   refine J.slot 57 (.slice (some ⟨b, off, none⟩) z.o.nodes.length z.nc) rfl (by rw [hzp]) ?_
   refine J.region <| J.p rfl (Q.ia runUnderlying50 sizeOf3 rfl rfl (by omega) (by omega)) <| J.p rfl (Q.ld isAgg3 rfl (((hrd i (.int .i64 n) (by simp [hn])).cast (by simp)).inI)) <| J.p rfl (Q.asg rfl) <| J.nil <| J.then_n <| J.seq <| J.region <| J.m rfl <| J.p rfl (Q.lss rfl rfl) <| J.m rfl ?_
   refine J.kases 65 rfl (fun hb65 => ?_) (fun hb65 => ?_)
   ·
    refine J.k rfl <| J.k rfl <| J.p rfl (Q.pick_t rfl rfl) <| J.nil <| J.then_n <| J.cond_t rfl <| J.seq <| J.region <| J.p rfl (Q.asg rfl) <| J.nil <| J.then_n <| J.cret <| J.blk_r <| J.then_r <| J.lp_r <| J.blk_r <| J.then_r ?_
    first
     | (refine J.ret1I [G] rfl rfl ⟨by rw [right_node hn (by first | omega | (intro q; omega))], rfl⟩)
     | (refine J.ret1I [G] rfl rfl ⟨by rw [right_yes hc (List.take_of_length_le (by omega)) hal hlen (by omega)], rfl⟩)
     | (refine J.ret1I [G] rfl rfl ⟨by rw [right_not (fun q0 q1 => by first | omega | (rw [show (bareW (getO z.o)).o = getO z.o from rfl, q0] at hb12; simp at hb12))], rfl⟩)
   refine J.m rfl <| J.p rfl (Q.geq rfl rfl) <| J.p rfl (Q.pick_f rfl rfl) <| J.nil <| J.then_n ?_
   refine J.kases 68 rfl (fun hc68 => ?_) (fun hc68 => ?_)
   ·
    refine J.cond_t rfl <| J.seq <| J.region <| J.p rfl (Q.asg rfl) <| J.nil <| J.then_n <| J.cret <| J.blk_r <| J.then_r <| J.lp_r <| J.blk_r <| J.then_r ?_
    first
     | (refine J.ret1I [G] rfl rfl ⟨by rw [right_node hn (by first | omega | (intro q; omega))], rfl⟩)
     | (refine J.ret1I [G] rfl rfl ⟨by rw [right_yes hc (List.take_of_length_le (by omega)) hal hlen (by omega)], rfl⟩)
     | (refine J.ret1I [G] rfl rfl ⟨by rw [right_not (fun q0 q1 => by first | omega | (rw [show (bareW (getO z.o)).o = getO z.o from rfl, q0] at hb12; simp at hb12))], rfl⟩)
   refine J.cond_f rfl <| J.cskip <| J.blk_n <| J.then_n <| J.region <| J.p rfl (Q.add64 rfl rfl (by omega)) <| J.m rfl <| J.nil ?_
   have hnb : nodeB n = true := by unfold nodeB; rw [decide_eq_true (show 0 ≤ n by omega), decide_eq_true (show n < 16 by omega)]; rfl
   refine J.againI (i + 1) ⟨by show i + 1 ≤ _; omega, ?_⟩ (by show z.o.nodes.length - (i + 1) < z.o.nodes.length - i; omega) ⟨(by show _ = some (Value.slice z.np z.o.nodes.length z.nc); rw [hzp]; rfl), rfl, rfl, trivial⟩
   obtain ⟨h1, h2⟩ := List.getElem?_eq_some_iff.1 hn
   rw [List.take_succ_eq_append_getElem h1, h2, List.all_append, hal]; simp [hnb]
  refine J.cond_f rfl <| J.exit <| J.then_x <| J.lp_x <| J.blk_x <| J.then_n <| J.seq <| J.region <| J.p rfl (Q.asg rfl) <| J.nil <| J.then_n <| J.cret ?_
  first
   | (refine J.ret1I [G] rfl rfl ⟨by rw [right_node hn (by first | omega | (intro q; omega))], rfl⟩)
   | (refine J.ret1I [G] rfl rfl ⟨by rw [right_yes hc (List.take_of_length_le (by omega)) hal hlen (by omega)], rfl⟩)
   | (refine J.ret1I [G] rfl rfl ⟨by rw [right_not (fun q0 q1 => by first | omega | (rw [show (bareW (getO z.o)).o = getO z.o from rfl, q0] at hb12; simp at hb12))], rfl⟩)

def decM (bs : List UInt8) : DM :=
  if (RS.num ⟨bs, false⟩).1 = 1 then
    if !(RS.op (RS.num ⟨bs, false⟩).2).2.bad && (RS.op (RS.num ⟨bs, false⟩).2).1.chkB && decide (opB (RS.op (RS.num ⟨bs, false⟩).2).1 = bs) then ⟨(RS.op (RS.num ⟨bs, false⟩).2).1, false, false⟩ else ⟨O0, false, true⟩
  else if (RS.num ⟨bs, false⟩).1 = 2 then
    if !(RS.ptr (RS.num ⟨bs, false⟩).2).2.bad && rightP (RS.ptr (RS.num ⟨bs, false⟩).2).1 && decide (ptrB (RS.ptr (RS.num ⟨bs, false⟩).2).1 = bs) then ⟨O0, true, false⟩ else ⟨O0, false, true⟩
  else ⟨O0, false, true⟩
end Go.Proofs.YtidbcaimgahllaaGreat
namespace Go.Proofs.YtidbcaimgahllaaGreat
open Go.X

theorem RS.text_size (s : RS) : s.text.1.size ≤ s.b.length := by
  have := s.bytes_len.2
  show (bt s.bytes.1).size ≤ _
  have e : (bt s.bytes.1).size = s.bytes.1.length := by simp [bt, ByteArray.size]
  omega
theorem RS.text_len (s : RS) : s.text.2.b.length ≤ s.b.length := s.bytes_len.1
theorem RS.ints_len (s : RS) : s.ints.1.length ≤ 1099511627776 := by
  have key : ∀ (n : Nat) (t : RS), (RS.intsGo n t).1.length ≤ n := by
    intro n
    induction n with
    | zero => intro t; simp [RS.intsGo]
    | succ n ih =>
      intro t
      unfold RS.intsGo
      split
      · simp
      · simp only [List.length_cons]; have := ih t.int.2; omega
  have := key s.int.1 s.int.2
  have := s.int_bd
  unfold RS.ints; omega
theorem rnB {D : List Assn} {b : Nat} {l vs : List Value} {e : TypeId} {z : Nat × Nat} {KK : Obj → List Assn} [h : AtPt D b (.cells l.toArray e z) KK] (hv : vs = l) : ReadsN D b 0 vs := hv ▸ rnI
theorem two_nilI : star [own 3 1 (.slice none 0 0) ([] : List Value), own 5 1 (.slice none 0 0) ([] : List Value)] (fun _ => none) :=
  ⟨fun _ => none, fun _ => none, own.nil _ _ _, ⟨fun _ => none, fun _ => none, own.nil _ _ _, trivial, fun _ => .inl rfl, Sub.refl _, Sub.refl _⟩, fun _ => .inl rfl, Sub.refl _, Sub.refl _⟩
theorem o0_ok (G : Assn) : (bareW O0).ok G := ⟨.inl ⟨none, 0, rfl, rfl⟩, .inl ⟨none, 0, rfl, rfl⟩, by refine ⟨?_, ?_, ?_, ?_, ?_⟩ <;> exact Nat.le_of_ble_eq_true rfl⟩

set_option maxHeartbeats 1000000 in
theorem decode_any (bs : List UInt8) (hbs : bs.length ≤ 1099511627776) : DecIs bs (decM bs) := by
  intro G p c hs
  obtain ⟨s0, e0⟩ : ∃ s : RS, s = ⟨bs, false⟩ := ⟨_, rfl⟩
  have hs0 : SlP G p c s0.b := by rw [e0]; exact hs
  have el : bs.length = s0.b.length := by rw [e0]
  obtain ⟨s1, e1⟩ : ∃ s, s = s0.num.2 := ⟨_, rfl⟩
  obtain ⟨hd, hdd⟩ : ∃ d, d = decM bs := ⟨_, rfl⟩
  have hdm : hd = (if s0.num.1 = 1 then
      if !(RS.op s1).2.bad && (RS.op s1).1.chkB && decide (opB (RS.op s1).1 = s0.b) then ⟨(RS.op s1).1, false, false⟩ else ⟨O0, false, true⟩
    else if s0.num.1 = 2 then
      if !(RS.ptr s1).2.bad && rightP (RS.ptr s1).1 && decide (ptrB (RS.ptr s1).1 = s0.b) then ⟨O0, true, false⟩ else ⟨O0, false, true⟩
    else ⟨O0, false, true⟩) := by rw [hdd, e1, e0]; rfl
  rw [← hdd, el]
  refine FSpec.of Tryz.func19 rfl Tryz.ntmps19 rfl fun W0 F => ?_
  refine J.seq <| J.region ?_
  refine J.c rfl rfl (C.alloc (l := [_, _, _, _, _, _, _, _, _]) Tryz.zeroValue52 rfl) ?_
  rintro _ _ ⟨b2, rfl, rfl⟩
  refine J.norm rfl ?_
  refine J.c rfl rfl (C.alloc (l := [_, _, _, _, _, _, _, _, _]) Tryz.zeroValue67 rfl) ?_
  rintro _ _ ⟨b3, rfl, rfl⟩
  refine J.norm rfl <| J.p rfl (Q.asg rfl) <| J.p rfl (Q.asg rfl) <| J.nil <| J.then_n <| J.seq <| J.region <| J.m rfl <| J.p rfl (Q.bld (l := [_, _]) Tryz.runUnderlying116 Tryz.zeroValue116 Tryz.places116 rfl rfl) ?_
  refine J.c rfl rfl (C.box (l := [_, _]) rfl rfl) ?_
  rintro _ _ ⟨b9, rfl, rfl⟩
  refine J.norm rfl ?_
  refine J.conv (Y := rdA b9 p c s0) 0 rfl (fun _ h => by rw [e0] at h ⊢; exact h) ?_
  refine J.p rfl (Q.asg rfl) <| J.nil <| J.then_n <| J.seq <| J.seq <| J.region <| J.m rfl ?_
  refine J.callI Tryz.call41 (rnumber_spec G b9 p c s0 hs0) rfl rfl rfl ?_
  rintro _ _ ⟨p1, c1, rfl, hs1, rfl⟩
  refine J.norm rfl ?_
  rw [← e1] at hs1 ⊢
  refine J.nil <| J.then_n <| J.block <| J.seq <| J.region <| J.p rfl (Q.eql rfl rfl) <| J.p rfl (Q.asg rfl) <| J.nil <| J.then_n ?_
  refine J.kases 12 rfl (fun hc12 => ?_) (fun hc12 => ?_)
  ·
   refine J.cond_t rfl <| J.seq ?_
   have hn1 : s0.num.1 = 1 := by omega
   rw [if_pos hn1] at hdm
   refine J.region <| J.m rfl ?_
   refine J.callI Tryz.call41 (rnumber_spec G b9 p1 c1 s1 hs1) rfl rfl rfl ?_
   rintro _ _ ⟨p2, c2, rfl, hs2, rfl⟩
   refine J.norm rfl ?_
   obtain ⟨s2, e2⟩ : ∃ s, s = s1.num.2 := ⟨_, rfl⟩
   rw [← e2] at hs2 ⊢
   refine J.m rfl ?_
   refine J.callI Tryz.call42 (rint_spec G b9 p2 c2 s2 hs2) rfl rfl rfl ?_
   rintro _ _ ⟨p3, c3, rfl, hs3, rfl⟩
   refine J.norm rfl ?_
   obtain ⟨s3, e3⟩ : ∃ s, s = s2.int.2 := ⟨_, rfl⟩
   rw [← e3] at hs3 ⊢
   refine J.m rfl ?_
   refine J.callI Tryz.call43 (rtext_spec G b9 p3 c3 s3 hs3) rfl rfl rfl ?_
   rintro _ _ ⟨p4, c4, rfl, hs4, rfl⟩
   refine J.norm rfl ?_
   obtain ⟨s4, e4⟩ : ∃ s, s = s3.text.2 := ⟨_, rfl⟩
   rw [← e4] at hs4 ⊢
   refine J.m rfl ?_
   refine J.callI Tryz.call43 (rtext_spec G b9 p4 c4 s4 hs4) rfl rfl rfl ?_
   rintro _ _ ⟨p5, c5, rfl, hs5, rfl⟩
   refine J.norm rfl ?_
   obtain ⟨s5, e5⟩ : ∃ s, s = s4.text.2 := ⟨_, rfl⟩
   rw [← e5] at hs5 ⊢
   refine J.m rfl ?_
   refine J.callI Tryz.call43 (rtext_spec G b9 p5 c5 s5 hs5) rfl rfl rfl ?_
   rintro _ _ ⟨p6, c6, rfl, hs6, rfl⟩
   refine J.norm rfl ?_
   obtain ⟨s6, e6⟩ : ∃ s, s = s5.text.2 := ⟨_, rfl⟩
   rw [← e6] at hs6 ⊢
   refine J.m rfl ?_
   refine J.callI Tryz.call42 (rint_spec G b9 p6 c6 s6 hs6) rfl rfl rfl ?_
   rintro _ _ ⟨p7, c7, rfl, hs7, rfl⟩
   refine J.norm rfl ?_
   obtain ⟨s7, e7⟩ : ∃ s, s = s6.int.2 := ⟨_, rfl⟩
   rw [← e7] at hs7 ⊢
   refine J.m rfl ?_
   refine J.callI Tryz.call41 (rnumber_spec G b9 p7 c7 s7 hs7) rfl rfl rfl ?_
   rintro _ _ ⟨p8, c8, rfl, hs8, rfl⟩
   refine J.norm rfl ?_
   obtain ⟨s8, e8⟩ : ∃ s, s = s7.num.2 := ⟨_, rfl⟩
   rw [← e8] at hs8 ⊢
   refine J.m rfl ?_
   refine J.callI Tryz.call44 (rints_spec G b9 p8 c8 s8 hs8) rfl rfl rfl ?_
   rintro _ _ ⟨p9, c9, q29, d29, rfl, hs9, rfl⟩
   refine J.norm rfl ?_
   obtain ⟨s9, e9⟩ : ∃ s, s = s8.ints.2 := ⟨_, rfl⟩
   rw [← e9] at hs9 ⊢
   refine J.m rfl ?_
   refine J.callI Tryz.call45 (rbytes_spec G b9 p9 c9 s9 hs9) rfl rfl rfl ?_
   rintro _ _ ⟨p10, c10, q31, d31, rfl, hs10, rfl⟩
   refine J.norm rfl ?_
   obtain ⟨s10, e10⟩ : ∃ s, s = s9.bytes.2 := ⟨_, rfl⟩
   rw [← e10] at hs10 ⊢
   have hop : RS.op s1 = (⟨s1.num.1, s2.int.1, s3.text.1, s4.text.1, s5.text.1, s6.int.1, s7.num.1, s8.ints.1.map Int.ofNat, s9.bytes.1⟩, s10) := by
    unfold RS.op
    dsimp only
    rw [← e2, ← e3, ← e4, ← e5, ← e6, ← e7, ← e8, ← e9, ← e10]
   obtain ⟨y, hy⟩ : ∃ y : OW, y = ⟨(RS.op s1).1, q29, d29, q31, d31⟩ := ⟨_, rfl⟩
   have hyo : y.o = (RS.op s1).1 := by rw [hy]
   have hyi : y.o.id ≤ 18446744073709551615 := by rw [hyo, hop]; exact s1.num_bd
   have hyu : y.o.upload ≤ 18446744073709551615 := by rw [hyo, hop]; exact s7.num_bd
   have hyc : y.cells = [.int .u64 s1.num.1, .int .i64 s2.int.1, .string s3.text.1, .string s4.text.1, .string s5.text.1, .int .i64 s6.int.1, .int .u64 s7.num.1, .slice q29 s8.ints.1.length d29, .slice q31 s9.bytes.1.length d31] := by rw [hy, hop]; simp [OW.cells]
   have hys : y.o.bucket.size ≤ 9223372036854775807 ∧ y.o.key.size ≤ 9223372036854775807 ∧ y.o.after.size ≤ 9223372036854775807 ∧ y.o.parts.length ≤ 9223372036854775807 ∧ y.o.data.length ≤ 9223372036854775807 := by
    rw [hyo, hop]
    have z1 := s3.text_size; have z2 := s4.text_size; have z3 := s5.text_size; have z4 := s8.ints_len; have z5 := s9.bytes_len.2
    have y1 := hs3.n; have y2 := hs4.n; have y3 := hs5.n; have y5 := hs9.n
    simp only [List.length_map]
    omega
   have hya : ∀ h, HSat h [own 3 1 (.slice q29 s8.ints.1.length d29) (s8.ints.1.map fun v : Nat => Value.int .i64 (v : Int)), own 5 1 (.slice q31 s9.bytes.1.length d31) (bytesV s9.bytes.1)] → y.asn h := by
    intro h hh
    have e : y.asns = [own 3 1 (.slice q29 s8.ints.1.length d29) (s8.ints.1.map fun v : Nat => Value.int .i64 (v : Int)), own 5 1 (.slice q31 s9.bytes.1.length d31) (bytesV s9.bytes.1)] := by rw [hy, hop]; simp [OW.asns, Function.comp_def]
    show HSat h y.asns
    rw [e]; exact hh
   refine J.shutI [own 3 1 (.slice q29 s8.ints.1.length d29) (s8.ints.1.map fun v : Nat => Value.int .i64 (v : Int)), own 5 1 (.slice q31 s9.bytes.1.length d31) (bytesV s9.bytes.1)] y.asn hya ?_
   have hbd : s10 = (RS.op s1).2 := by rw [hop]
   rw [← hyo, ← hbd] at hdm
   refine J.p rfl (Q.bld (l := [.int .u64 s1.num.1, .int .i64 s2.int.1, .string s3.text.1, .string s4.text.1, .string s5.text.1, .int .i64 s6.int.1, .int .u64 s7.num.1, .slice q29 s8.ints.1.length d29, .slice q31 s9.bytes.1.length d31]) Tryz.runUnderlying52 Tryz.zeroValue52 Tryz.places52 rfl (by kernel_rfl)) ?_
   refine J.slot 32 (.agg y.cells.toArray) rfl (by rw [hyc]) ?_
   refine J.stAJ (vs := [_, _, _, _, _, _, _, _, _]) rfl Tryz.sizeOf52 rfl rfl ?_
   refine J.nil <| J.then_n <| J.seq ?_
   refine J.tellsI y.asn (oasn_ok hys) fun hyk => ?_
   refine J.region <| J.m rfl <| J.p rfl (Q.nil_ rfl) <| J.p rfl (Q.fa (n := 1) Tryz.runUnderlying116 rfl rfl Tryz.sizeOf4 rfl) ?_
   refine J.p rfl (Q.ldI Tryz.isAgg4 rfl) ?_
   refine J.p rfl (Q.not rfl) <| J.m rfl ?_
   refine J.kases 38 rfl (fun hb38 => ?_) (fun hb38 => ?_)
   ·
    refine J.p rfl (Q.ldN (vs := [_, _, _, _, _, _, _, _, _]) Tryz.isAgg52 Tryz.sizeOf52 rfl rnI) ?_
    refine J.callI Tryz.call46 (check_spec y.asn y hyk) rfl rfl rfl ?_
    rintro _ _ ⟨rfl, rfl⟩
    refine J.norm rfl <| J.p rfl (Q.eql rfl rfl) <| J.p rfl (Q.pick_t rfl rfl) <| J.m rfl ?_
    refine J.kases 43 rfl (fun hb43 => ?_) (fun hb43 => ?_)
    ·
     have hychk : y.o.chkB = true := by
      cases h : y.o.chkB with
      | true => rfl
      | false => rw [h] at hb43; simp at hb43
     refine J.p rfl (Q.ldN (vs := [_, _, _, _, _, _, _, _, _]) Tryz.isAgg52 Tryz.sizeOf52 rfl rnI) ?_
     refine J.callI Tryz.call14 (opCommand_spec y.asn y hyk (chk_fine hychk hyi hyu)) rfl rfl rfl ?_
     rintro _ _ ⟨q45, d45, rfl, rfl⟩
     refine J.norm rfl ?_
     refine J.slrI (E0 := 5) (sz := 1) (p := q45) (n := (opB y.o).length) (c := d45) (xs := bytesV (opB y.o)) fun hsq => ?_
     refine J.m rfl ?_
     refine J.callI Tryz.call47 (bequal_spec (wrO q45 d45 (opB y.o)) G q45 p d45 c (opB y.o) s0.b hsq hs0.sl) rfl rfl rfl ?_
     rintro _ _ ⟨rfl, rfl⟩
     refine J.norm rfl <| J.p rfl (Q.pick_t rfl rfl) <| J.nil <| J.then_n ?_
     refine J.kases 48 rfl (fun hc48 => ?_) (fun hc48 => ?_)
     ·
      refine J.cond_t rfl <| J.seq <| J.region ?_
      refine J.p rfl (Q.ldN (vs := [_, _, _, _, _, _, _, _, _]) Tryz.isAgg52 Tryz.sizeOf52 rfl rnI) ?_
      refine J.p rfl (Q.bld (l := [_, _, _, _, _, _, _, _, _]) Tryz.runUnderlying67 Tryz.zeroValue67 Tryz.places67 rfl rfl) ?_
      refine J.stAJ (vs := [_, _, _, _, _, _, _, _, _]) rfl Tryz.sizeOf52 rfl rfl ?_
      refine J.stAJ (vs := [_, _, _, _, _, _, _, _, _]) rfl Tryz.sizeOf67 rfl rfl ?_
      refine J.p rfl (Q.asg rfl) <| J.p rfl (Q.asg rfl) <| J.nil <| J.then_n <| J.cret <| J.blk_r <| J.then_r ?_
      have hdf : hd = ⟨y.o, false, false⟩ := by
       rw [hdm, if_pos]
       rw [show s10.bad = false by simpa using hb38, hychk, show decide (opB y.o = s0.b) = true from by simpa using hc48]; rfl
      rw [hdf]
      refine J.retC4I (vs := y.cells) (vs2 := P0.cells) [y.asn, G] rfl rfl rfl rfl rfl Tryz.isAgg52 Tryz.sizeOf52 rnI Tryz.isAgg67 Tryz.sizeOf67 rnI ⟨y, P0, rfl, rfl, hyk, rfl⟩
     refine J.cond_f rfl <| J.cskip <| J.blk_n <| J.then_n <| J.seq ?_
     have hdf : hd = ⟨O0, false, true⟩ := by
      rw [hdm]
      first
       | (rw [if_neg]
          rintro h
          simp only [Bool.and_eq_true, decide_eq_true_eq] at h
          obtain ⟨⟨k1, k2⟩, k3⟩ := h
          first
           | (rw [show s10.bad = true by simpa using hb38] at k1; cases k1; done)
           | (rw [k2] at hb43; simp at hb43; done)
           | exact (by simpa using hc48 : ¬ opB y.o = s0.b) k3)
       | (rw [if_neg]
          rintro h
          simp only [Bool.and_eq_true, decide_eq_true_eq] at h
          obtain ⟨⟨k1, k2⟩, k3⟩ := h
          first
           | (rw [show s2.bad = true by simpa using hb60] at k1; cases k1; done)
           | (rw [show rightP z.o = false from hb64] at k2; cases k2; done)
           | exact (by simpa using hc69 : ¬ ptrB z.o = s0.b) k3)
       | (rw [if_neg (show ¬ s0.num.1 = 1 by omega), if_neg (show ¬ s0.num.1 = 2 by omega)])
     refine J.region <| J.p rfl (Q.bld (l := [_, _, _, _, _, _, _, _, _]) Tryz.runUnderlying52 Tryz.zeroValue52 Tryz.places52 rfl rfl) <| J.p rfl (Q.bld (l := [_, _, _, _, _, _, _, _, _]) Tryz.runUnderlying67 Tryz.zeroValue67 Tryz.places67 rfl rfl) ?_
     refine J.stAJ (vs := [_, _, _, _, _, _, _, _, _]) rfl Tryz.sizeOf52 rfl rfl ?_
     refine J.stAJ (vs := [_, _, _, _, _, _, _, _, _]) rfl Tryz.sizeOf67 rfl rfl ?_
     refine J.p rfl (Q.asg rfl) <| J.p rfl (Q.asg rfl) <| J.nil <| J.then_n <| J.cret ?_
     rw [hdf]
     refine J.give (X := OW.asn (bareW O0)) two_nilI ?_
     first
      | refine J.retC4I (vs := (bareW O0).cells) (vs2 := P0.cells) [OW.asn (bareW O0), G] rfl rfl rfl rfl rfl Tryz.isAgg52 Tryz.sizeOf52 (rnB rfl) Tryz.isAgg67 Tryz.sizeOf67 (rnB rfl) ⟨bareW O0, P0, rfl, rfl, o0_ok _, rfl⟩
      | refine J.retC4I (vs := (bareW O0).cells) (vs2 := z.cells) [OW.asn (bareW O0), G] rfl rfl rfl rfl rfl Tryz.isAgg52 Tryz.sizeOf52 (rnB rfl) Tryz.isAgg67 Tryz.sizeOf67 rnI ⟨bareW O0, z, rfl, rfl, o0_ok _, rfl⟩
    refine J.k rfl <| J.k rfl <| J.k rfl <| J.k rfl <| J.p rfl (Q.pick_f rfl rfl) <| J.nil <| J.then_n <| J.cond_f rfl <| J.cskip <| J.blk_n <| J.then_n <| J.seq ?_
    have hdf : hd = ⟨O0, false, true⟩ := by
     rw [hdm]
     first
      | (rw [if_neg]
         rintro h
         simp only [Bool.and_eq_true, decide_eq_true_eq] at h
         obtain ⟨⟨k1, k2⟩, k3⟩ := h
         first
          | (rw [show s10.bad = true by simpa using hb38] at k1; cases k1; done)
          | (rw [k2] at hb43; simp at hb43; done)
          | exact (by simpa using hc48 : ¬ opB y.o = s0.b) k3)
      | (rw [if_neg]
         rintro h
         simp only [Bool.and_eq_true, decide_eq_true_eq] at h
         obtain ⟨⟨k1, k2⟩, k3⟩ := h
         first
          | (rw [show s2.bad = true by simpa using hb60] at k1; cases k1; done)
          | (rw [show rightP z.o = false from hb64] at k2; cases k2; done)
          | exact (by simpa using hc69 : ¬ ptrB z.o = s0.b) k3)
      | (rw [if_neg (show ¬ s0.num.1 = 1 by omega), if_neg (show ¬ s0.num.1 = 2 by omega)])
    refine J.region <| J.p rfl (Q.bld (l := [_, _, _, _, _, _, _, _, _]) Tryz.runUnderlying52 Tryz.zeroValue52 Tryz.places52 rfl rfl) <| J.p rfl (Q.bld (l := [_, _, _, _, _, _, _, _, _]) Tryz.runUnderlying67 Tryz.zeroValue67 Tryz.places67 rfl rfl) ?_
    refine J.stAJ (vs := [_, _, _, _, _, _, _, _, _]) rfl Tryz.sizeOf52 rfl rfl ?_
    refine J.stAJ (vs := [_, _, _, _, _, _, _, _, _]) rfl Tryz.sizeOf67 rfl rfl ?_
    refine J.p rfl (Q.asg rfl) <| J.p rfl (Q.asg rfl) <| J.nil <| J.then_n <| J.cret ?_
    rw [hdf]
    refine J.give (X := OW.asn (bareW O0)) two_nilI ?_
    first
     | refine J.retC4I (vs := (bareW O0).cells) (vs2 := P0.cells) [OW.asn (bareW O0), G] rfl rfl rfl rfl rfl Tryz.isAgg52 Tryz.sizeOf52 (rnB rfl) Tryz.isAgg67 Tryz.sizeOf67 (rnB rfl) ⟨bareW O0, P0, rfl, rfl, o0_ok _, rfl⟩
     | refine J.retC4I (vs := (bareW O0).cells) (vs2 := z.cells) [OW.asn (bareW O0), G] rfl rfl rfl rfl rfl Tryz.isAgg52 Tryz.sizeOf52 (rnB rfl) Tryz.isAgg67 Tryz.sizeOf67 rnI ⟨bareW O0, z, rfl, rfl, o0_ok _, rfl⟩
   refine J.k rfl <| J.k rfl <| J.k rfl <| J.p rfl (Q.pick_f rfl rfl) <| J.m rfl <| J.k rfl <| J.k rfl <| J.k rfl <| J.k rfl <| J.p rfl (Q.pick_f rfl rfl) <| J.nil <| J.then_n <| J.cond_f rfl <| J.cskip <| J.blk_n <| J.then_n <| J.seq ?_
   have hdf : hd = ⟨O0, false, true⟩ := by
    rw [hdm]
    first
     | (rw [if_neg]
        rintro h
        simp only [Bool.and_eq_true, decide_eq_true_eq] at h
        obtain ⟨⟨k1, k2⟩, k3⟩ := h
        first
         | (rw [show s10.bad = true by simpa using hb38] at k1; cases k1; done)
         | (rw [k2] at hb43; simp at hb43; done)
         | exact (by simpa using hc48 : ¬ opB y.o = s0.b) k3)
     | (rw [if_neg]
        rintro h
        simp only [Bool.and_eq_true, decide_eq_true_eq] at h
        obtain ⟨⟨k1, k2⟩, k3⟩ := h
        first
         | (rw [show s2.bad = true by simpa using hb60] at k1; cases k1; done)
         | (rw [show rightP z.o = false from hb64] at k2; cases k2; done)
         | exact (by simpa using hc69 : ¬ ptrB z.o = s0.b) k3)
     | (rw [if_neg (show ¬ s0.num.1 = 1 by omega), if_neg (show ¬ s0.num.1 = 2 by omega)])
   refine J.region <| J.p rfl (Q.bld (l := [_, _, _, _, _, _, _, _, _]) Tryz.runUnderlying52 Tryz.zeroValue52 Tryz.places52 rfl rfl) <| J.p rfl (Q.bld (l := [_, _, _, _, _, _, _, _, _]) Tryz.runUnderlying67 Tryz.zeroValue67 Tryz.places67 rfl rfl) ?_
   refine J.stAJ (vs := [_, _, _, _, _, _, _, _, _]) rfl Tryz.sizeOf52 rfl rfl ?_
   refine J.stAJ (vs := [_, _, _, _, _, _, _, _, _]) rfl Tryz.sizeOf67 rfl rfl ?_
   refine J.p rfl (Q.asg rfl) <| J.p rfl (Q.asg rfl) <| J.nil <| J.then_n <| J.cret ?_
   rw [hdf]
   refine J.give (X := OW.asn (bareW O0)) two_nilI ?_
   first
    | refine J.retC4I (vs := (bareW O0).cells) (vs2 := P0.cells) [OW.asn (bareW O0), G] rfl rfl rfl rfl rfl Tryz.isAgg52 Tryz.sizeOf52 (rnB rfl) Tryz.isAgg67 Tryz.sizeOf67 (rnB rfl) ⟨bareW O0, P0, rfl, rfl, o0_ok _, rfl⟩
    | refine J.retC4I (vs := (bareW O0).cells) (vs2 := z.cells) [OW.asn (bareW O0), G] rfl rfl rfl rfl rfl Tryz.isAgg52 Tryz.sizeOf52 (rnB rfl) Tryz.isAgg67 Tryz.sizeOf67 rnI ⟨bareW O0, z, rfl, rfl, o0_ok _, rfl⟩
  refine J.cond_f rfl <| J.seq <| J.region <| J.p rfl (Q.eql rfl rfl) <| J.p rfl (Q.asg rfl) <| J.nil <| J.then_n ?_
  refine J.kases 51 rfl (fun hc51 => ?_) (fun hc51 => ?_)
  ·
   refine J.cond_t rfl <| J.seq ?_
   have hn1 : ¬ s0.num.1 = 1 := by omega
   have hn2 : s0.num.1 = 2 := by omega
   rw [if_neg hn1, if_pos hn2] at hdm
   refine J.region <| J.m rfl ?_
   refine J.callI Tryz.call48 (rpointer_spec G b9 p1 c1 s1 hs1) rfl rfl rfl ?_
   rintro _ _ ⟨p2, c2, z, rfl, hzo, hs2, rfl⟩
   refine J.norm rfl ?_
   rw [← hzo] at hdm
   obtain ⟨s2, e2⟩ : ∃ s, s = s1.ptr.2 := ⟨_, rfl⟩
   rw [← e2] at hs2 hdm ⊢
   have hzb : (0 ≤ z.o.k ∧ z.o.k ≤ 1099511627776 ∧ 0 ≤ z.o.m ∧ z.o.m ≤ 1099511627776) ∧ z.o.nodes.length ≤ 1099511627776 ∧ (z.o.bucket.size ≤ 1099511627776 ∧ z.o.key.size ≤ 1099511627776) ∧ (z.o.version ≤ 18446744073709551615 ∧ z.o.stripe ≤ 18446744073709551615 ∧ z.o.sum ≤ 4294967295) := by
    rw [hzo]
    unfold RS.ptr
    dsimp only
    have i1 := RS.int_bd s1.text.2.text.2.num.2.num.2
    have i2 := RS.int_bd s1.text.2.text.2.num.2.num.2.int.2
    have i3 := RS.text_size s1
    have i4 := RS.text_size s1.text.2
    have i5 := RS.text_len s1
    have i6 := RS.num_bd s1.text.2.text.2
    have i7 := RS.num_bd s1.text.2.text.2.num.2
    have i8 := hs1.n
    refine ⟨by omega, ?_, by omega, i6, i7, by omega⟩
    rw [List.length_map]; exact RS.ints_len _
   refine J.stAJ (vs := [_, _, _, _, _, _, _, _, _]) rfl Tryz.sizeOf67 rfl rfl ?_
   refine J.nil <| J.then_n <| J.seq ?_
   refine J.convI z.own (own 3 1 (.slice z.np z.o.nodes.length z.nc) (z.o.nodes.map (Value.int .i64))) (fun _ h => h) ?_
   refine J.slrI (E0 := 3) (sz := 1) (p := z.np) (n := z.o.nodes.length) (c := z.nc) (xs := z.o.nodes.map (Value.int .i64)) fun hsn => ?_
   refine J.region <| J.m rfl <| J.p rfl (Q.nil_ rfl) <| J.p rfl (Q.fa (n := 1) Tryz.runUnderlying116 rfl rfl Tryz.sizeOf4 rfl) ?_
   refine J.p rfl (Q.ldI Tryz.isAgg4 rfl) ?_
   refine J.p rfl (Q.not rfl) <| J.m rfl ?_
   refine J.kases 60 rfl (fun hb60 => ?_) (fun hb60 => ?_)
   ·
    refine J.p rfl (Q.ldN (vs := [_, _, _, _, _, _, _, _, _]) Tryz.isAgg67 Tryz.sizeOf67 rfl rnI) ?_
    refine J.callI Tryz.call49 (right_spec (own 3 1 (.slice z.np z.o.nodes.length z.nc) (z.o.nodes.map (Value.int .i64))) z hsn hzb.1 hzb.2.1 hzb.2.2.1) rfl rfl rfl ?_
    rintro _ _ ⟨rfl, rfl⟩
    refine J.norm rfl <| J.p rfl (Q.pick_t rfl rfl) <| J.m rfl ?_
    refine J.kases 64 rfl (fun hb64 => ?_) (fun hb64 => ?_)
    ·
     have hzr : rightP z.o = true := hb64
     have hzk : z.ok (own 3 1 (.slice z.np z.o.nodes.length z.nc) (z.o.nodes.map (Value.int .i64))) := by
      simp only [rightP, Bool.and_eq_true, decide_eq_true_eq] at hzr
      have hf := chk_fine hzr.1.1.1.1.1.1.1.1 (by show 0 ≤ _; omega) (by show 0 ≤ _; omega)
      have ht := hf.texts
      exact ⟨hsn, ⟨by have : z.o.bucket.size ≤ 1024 := ht.1
                      omega, by have : z.o.key.size ≤ 1024 := ht.2.1
                                omega, by omega⟩, hzb.2.2.2⟩
     refine J.p rfl (Q.ldN (vs := [_, _, _, _, _, _, _, _, _]) Tryz.isAgg67 Tryz.sizeOf67 rfl rnI) ?_
     refine J.callI Tryz.call18 (pointCommand_spec (own 3 1 (.slice z.np z.o.nodes.length z.nc) (z.o.nodes.map (Value.int .i64))) z hzk) rfl rfl rfl ?_
     rintro _ _ ⟨q66, d66, rfl, rfl⟩
     refine J.norm rfl ?_
     refine J.slrI (E0 := 5) (sz := 1) (p := q66) (n := (ptrB z.o).length) (c := d66) (xs := bytesV (ptrB z.o)) fun hsq => ?_
     refine J.m rfl ?_
     refine J.callI Tryz.call47 (bequal_spec (wrO q66 d66 (ptrB z.o)) G q66 p d66 c (ptrB z.o) s0.b hsq hs0.sl) rfl rfl rfl ?_
     rintro _ _ ⟨rfl, rfl⟩
     refine J.norm rfl <| J.p rfl (Q.pick_t rfl rfl) <| J.nil <| J.then_n ?_
     refine J.kases 69 rfl (fun hc69 => ?_) (fun hc69 => ?_)
     ·
      refine J.cond_t rfl <| J.seq ?_
      have hdf : hd = ⟨O0, true, false⟩ := by
       rw [hdm, if_pos]
       rw [show s2.bad = false by simpa using hb60, hzr, show decide (ptrB z.o = s0.b) = true from by simpa using hc69]; rfl
      refine J.pickI [pt b3 (.cells z.cells.toArray 67 (0, 0))] ?_
      refine J.norm rfl ?_
      refine J.drawE [2, 3, 4, 5] 1 Tryz.mixed (by kernel_rfl) rfl rfl fun hR => ?_
      refine RG.p 0 hR rfl (Q.bld (l := [_, _, _, _, _, _, _, _, _]) Tryz.runUnderlying52 Tryz.zeroValue52 Tryz.places52 rfl rfl) ?_
      refine RG.p 1 hR rfl (Q.ldN (vs := [_, _, _, _, _, _, _, _, _]) Tryz.isAgg67 Tryz.sizeOf67 rfl rnI) ?_
      refine RG.stAkI (vs := [_, _, _, _, _, _, _, _, _]) 2 hR rfl rfl rfl rfl Tryz.sizeOf52 rfl rfl (by exact rfl) (by exact rfl) (by exact rfl) ?_
      refine RG.stAI (vs := [_, _, _, _, _, _, _, _, _]) 3 hR rfl rfl rfl rfl rfl Tryz.sizeOf67 rfl rfl (by exact rfl) (by exact rfl) (by exact rfl) ?_
      refine RG.bar 4 hR rfl rfl rfl rfl rfl rfl (Q.asg rfl).toC ?_
      rintro _ _ ⟨rfl, rfl⟩
      refine RG.norm rfl ?_
      refine RG.bar 5 hR rfl rfl rfl rfl rfl rfl (Q.asg rfl).toC ?_
      rintro _ _ ⟨rfl, rfl⟩
      refine RG.norm rfl ?_
      refine RG.fin hR rfl ?_
      refine J.norm rfl <| J.then_n <| J.cret <| J.blk_r <| J.then_r ?_
      rw [hdf]
      refine J.give (X := OW.asn (bareW O0)) two_nilI ?_
      first
       | refine J.retC4I (vs := (bareW O0).cells) (vs2 := P0.cells) [OW.asn (bareW O0), G] rfl rfl rfl rfl rfl Tryz.isAgg52 Tryz.sizeOf52 (rnB rfl) Tryz.isAgg67 Tryz.sizeOf67 (rnB rfl) ⟨bareW O0, P0, rfl, rfl, o0_ok _, rfl⟩
       | refine J.retC4I (vs := (bareW O0).cells) (vs2 := z.cells) [OW.asn (bareW O0), G] rfl rfl rfl rfl rfl Tryz.isAgg52 Tryz.sizeOf52 (rnB rfl) Tryz.isAgg67 Tryz.sizeOf67 rnI ⟨bareW O0, z, rfl, rfl, o0_ok _, rfl⟩
     refine J.cond_f rfl <| J.cskip <| J.blk_n <| J.then_n <| J.seq ?_
     have hdf : hd = ⟨O0, false, true⟩ := by
      rw [hdm]
      first
       | (rw [if_neg]
          rintro h
          simp only [Bool.and_eq_true, decide_eq_true_eq] at h
          obtain ⟨⟨k1, k2⟩, k3⟩ := h
          first
           | (rw [show s10.bad = true by simpa using hb38] at k1; cases k1; done)
           | (rw [k2] at hb43; simp at hb43; done)
           | exact (by simpa using hc48 : ¬ opB y.o = s0.b) k3)
       | (rw [if_neg]
          rintro h
          simp only [Bool.and_eq_true, decide_eq_true_eq] at h
          obtain ⟨⟨k1, k2⟩, k3⟩ := h
          first
           | (rw [show s2.bad = true by simpa using hb60] at k1; cases k1; done)
           | (rw [show rightP z.o = false from hb64] at k2; cases k2; done)
           | exact (by simpa using hc69 : ¬ ptrB z.o = s0.b) k3)
       | (rw [if_neg (show ¬ s0.num.1 = 1 by omega), if_neg (show ¬ s0.num.1 = 2 by omega)])
     refine J.region <| J.p rfl (Q.bld (l := [_, _, _, _, _, _, _, _, _]) Tryz.runUnderlying52 Tryz.zeroValue52 Tryz.places52 rfl rfl) <| J.p rfl (Q.bld (l := [_, _, _, _, _, _, _, _, _]) Tryz.runUnderlying67 Tryz.zeroValue67 Tryz.places67 rfl rfl) ?_
     refine J.stAJ (vs := [_, _, _, _, _, _, _, _, _]) rfl Tryz.sizeOf52 rfl rfl ?_
     refine J.stAJ (vs := [_, _, _, _, _, _, _, _, _]) rfl Tryz.sizeOf67 rfl rfl ?_
     refine J.p rfl (Q.asg rfl) <| J.p rfl (Q.asg rfl) <| J.nil <| J.then_n <| J.cret ?_
     rw [hdf]
     refine J.give (X := OW.asn (bareW O0)) two_nilI ?_
     first
      | refine J.retC4I (vs := (bareW O0).cells) (vs2 := P0.cells) [OW.asn (bareW O0), G] rfl rfl rfl rfl rfl Tryz.isAgg52 Tryz.sizeOf52 (rnB rfl) Tryz.isAgg67 Tryz.sizeOf67 (rnB rfl) ⟨bareW O0, P0, rfl, rfl, o0_ok _, rfl⟩
      | refine J.retC4I (vs := (bareW O0).cells) (vs2 := z.cells) [OW.asn (bareW O0), G] rfl rfl rfl rfl rfl Tryz.isAgg52 Tryz.sizeOf52 (rnB rfl) Tryz.isAgg67 Tryz.sizeOf67 rnI ⟨bareW O0, z, rfl, rfl, o0_ok _, rfl⟩
    refine J.k rfl <| J.k rfl <| J.k rfl <| J.k rfl <| J.p rfl (Q.pick_f rfl rfl) <| J.nil <| J.then_n <| J.cond_f rfl <| J.cskip <| J.blk_n <| J.then_n <| J.seq ?_
    have hdf : hd = ⟨O0, false, true⟩ := by
     rw [hdm]
     first
      | (rw [if_neg]
         rintro h
         simp only [Bool.and_eq_true, decide_eq_true_eq] at h
         obtain ⟨⟨k1, k2⟩, k3⟩ := h
         first
          | (rw [show s10.bad = true by simpa using hb38] at k1; cases k1; done)
          | (rw [k2] at hb43; simp at hb43; done)
          | exact (by simpa using hc48 : ¬ opB y.o = s0.b) k3)
      | (rw [if_neg]
         rintro h
         simp only [Bool.and_eq_true, decide_eq_true_eq] at h
         obtain ⟨⟨k1, k2⟩, k3⟩ := h
         first
          | (rw [show s2.bad = true by simpa using hb60] at k1; cases k1; done)
          | (rw [show rightP z.o = false from hb64] at k2; cases k2; done)
          | exact (by simpa using hc69 : ¬ ptrB z.o = s0.b) k3)
      | (rw [if_neg (show ¬ s0.num.1 = 1 by omega), if_neg (show ¬ s0.num.1 = 2 by omega)])
    refine J.region <| J.p rfl (Q.bld (l := [_, _, _, _, _, _, _, _, _]) Tryz.runUnderlying52 Tryz.zeroValue52 Tryz.places52 rfl rfl) <| J.p rfl (Q.bld (l := [_, _, _, _, _, _, _, _, _]) Tryz.runUnderlying67 Tryz.zeroValue67 Tryz.places67 rfl rfl) ?_
    refine J.stAJ (vs := [_, _, _, _, _, _, _, _, _]) rfl Tryz.sizeOf52 rfl rfl ?_
    refine J.stAJ (vs := [_, _, _, _, _, _, _, _, _]) rfl Tryz.sizeOf67 rfl rfl ?_
    refine J.p rfl (Q.asg rfl) <| J.p rfl (Q.asg rfl) <| J.nil <| J.then_n <| J.cret ?_
    rw [hdf]
    refine J.give (X := OW.asn (bareW O0)) two_nilI ?_
    first
     | refine J.retC4I (vs := (bareW O0).cells) (vs2 := P0.cells) [OW.asn (bareW O0), G] rfl rfl rfl rfl rfl Tryz.isAgg52 Tryz.sizeOf52 (rnB rfl) Tryz.isAgg67 Tryz.sizeOf67 (rnB rfl) ⟨bareW O0, P0, rfl, rfl, o0_ok _, rfl⟩
     | refine J.retC4I (vs := (bareW O0).cells) (vs2 := z.cells) [OW.asn (bareW O0), G] rfl rfl rfl rfl rfl Tryz.isAgg52 Tryz.sizeOf52 (rnB rfl) Tryz.isAgg67 Tryz.sizeOf67 rnI ⟨bareW O0, z, rfl, rfl, o0_ok _, rfl⟩
   refine J.k rfl <| J.k rfl <| J.p rfl (Q.pick_f rfl rfl) <| J.m rfl <| J.k rfl <| J.k rfl <| J.k rfl <| J.k rfl <| J.p rfl (Q.pick_f rfl rfl) <| J.nil <| J.then_n <| J.cond_f rfl <| J.cskip <| J.blk_n <| J.then_n <| J.seq ?_
   have hdf : hd = ⟨O0, false, true⟩ := by
    rw [hdm]
    first
     | (rw [if_neg]
        rintro h
        simp only [Bool.and_eq_true, decide_eq_true_eq] at h
        obtain ⟨⟨k1, k2⟩, k3⟩ := h
        first
         | (rw [show s10.bad = true by simpa using hb38] at k1; cases k1; done)
         | (rw [k2] at hb43; simp at hb43; done)
         | exact (by simpa using hc48 : ¬ opB y.o = s0.b) k3)
     | (rw [if_neg]
        rintro h
        simp only [Bool.and_eq_true, decide_eq_true_eq] at h
        obtain ⟨⟨k1, k2⟩, k3⟩ := h
        first
         | (rw [show s2.bad = true by simpa using hb60] at k1; cases k1; done)
         | (rw [show rightP z.o = false from hb64] at k2; cases k2; done)
         | exact (by simpa using hc69 : ¬ ptrB z.o = s0.b) k3)
     | (rw [if_neg (show ¬ s0.num.1 = 1 by omega), if_neg (show ¬ s0.num.1 = 2 by omega)])
   refine J.region <| J.p rfl (Q.bld (l := [_, _, _, _, _, _, _, _, _]) Tryz.runUnderlying52 Tryz.zeroValue52 Tryz.places52 rfl rfl) <| J.p rfl (Q.bld (l := [_, _, _, _, _, _, _, _, _]) Tryz.runUnderlying67 Tryz.zeroValue67 Tryz.places67 rfl rfl) ?_
   refine J.stAJ (vs := [_, _, _, _, _, _, _, _, _]) rfl Tryz.sizeOf52 rfl rfl ?_
   refine J.stAJ (vs := [_, _, _, _, _, _, _, _, _]) rfl Tryz.sizeOf67 rfl rfl ?_
   refine J.p rfl (Q.asg rfl) <| J.p rfl (Q.asg rfl) <| J.nil <| J.then_n <| J.cret ?_
   rw [hdf]
   refine J.give (X := OW.asn (bareW O0)) two_nilI ?_
   first
    | refine J.retC4I (vs := (bareW O0).cells) (vs2 := P0.cells) [OW.asn (bareW O0), G] rfl rfl rfl rfl rfl Tryz.isAgg52 Tryz.sizeOf52 (rnB rfl) Tryz.isAgg67 Tryz.sizeOf67 (rnB rfl) ⟨bareW O0, P0, rfl, rfl, o0_ok _, rfl⟩
    | refine J.retC4I (vs := (bareW O0).cells) (vs2 := z.cells) [OW.asn (bareW O0), G] rfl rfl rfl rfl rfl Tryz.isAgg52 Tryz.sizeOf52 (rnB rfl) Tryz.isAgg67 Tryz.sizeOf67 rnI ⟨bareW O0, z, rfl, rfl, o0_ok _, rfl⟩
  refine J.cond_f rfl <| J.cskip <| J.blk_n <| J.then_n <| J.seq ?_
  have hdf : hd = ⟨O0, false, true⟩ := by
   rw [hdm]
   first
    | (rw [if_neg]
       rintro h
       simp only [Bool.and_eq_true, decide_eq_true_eq] at h
       obtain ⟨⟨k1, k2⟩, k3⟩ := h
       first
        | (rw [show s10.bad = true by simpa using hb38] at k1; cases k1; done)
        | (rw [k2] at hb43; simp at hb43; done)
        | exact (by simpa using hc48 : ¬ opB y.o = s0.b) k3)
    | (rw [if_neg]
       rintro h
       simp only [Bool.and_eq_true, decide_eq_true_eq] at h
       obtain ⟨⟨k1, k2⟩, k3⟩ := h
       first
        | (rw [show s2.bad = true by simpa using hb60] at k1; cases k1; done)
        | (rw [show rightP z.o = false from hb64] at k2; cases k2; done)
        | exact (by simpa using hc69 : ¬ ptrB z.o = s0.b) k3)
    | (rw [if_neg (show ¬ s0.num.1 = 1 by omega), if_neg (show ¬ s0.num.1 = 2 by omega)])
  refine J.region <| J.p rfl (Q.bld (l := [_, _, _, _, _, _, _, _, _]) Tryz.runUnderlying52 Tryz.zeroValue52 Tryz.places52 rfl rfl) <| J.p rfl (Q.bld (l := [_, _, _, _, _, _, _, _, _]) Tryz.runUnderlying67 Tryz.zeroValue67 Tryz.places67 rfl rfl) ?_
  refine J.stAJ (vs := [_, _, _, _, _, _, _, _, _]) rfl Tryz.sizeOf52 rfl rfl ?_
  refine J.stAJ (vs := [_, _, _, _, _, _, _, _, _]) rfl Tryz.sizeOf67 rfl rfl ?_
  refine J.p rfl (Q.asg rfl) <| J.p rfl (Q.asg rfl) <| J.nil <| J.then_n <| J.cret ?_
  rw [hdf]
  refine J.give (X := OW.asn (bareW O0)) two_nilI ?_
  first
   | refine J.retC4I (vs := (bareW O0).cells) (vs2 := P0.cells) [OW.asn (bareW O0), G] rfl rfl rfl rfl rfl Tryz.isAgg52 Tryz.sizeOf52 (rnB rfl) Tryz.isAgg67 Tryz.sizeOf67 (rnB rfl) ⟨bareW O0, P0, rfl, rfl, o0_ok _, rfl⟩
   | refine J.retC4I (vs := (bareW O0).cells) (vs2 := z.cells) [OW.asn (bareW O0), G] rfl rfl rfl rfl rfl Tryz.isAgg52 Tryz.sizeOf52 (rnB rfl) Tryz.isAgg67 Tryz.sizeOf67 rnI ⟨bareW O0, z, rfl, rfl, o0_ok _, rfl⟩
end Go.Proofs.YtidbcaimgahllaaGreat

