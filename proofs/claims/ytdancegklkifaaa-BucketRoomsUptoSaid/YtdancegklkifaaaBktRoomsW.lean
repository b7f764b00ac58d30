/-
  BucketRooms: the walk.
-/
import Derived.Test.YtdancegklkifaaaBktR
import Derived.Test.YtdancegklkifaaaBktFew
namespace Go.Proofs.Ytdancegklkifaaa
set_option linter.unusedSectionVars false
set_option linter.unusedSimpArgs false
set_option linter.unusedVariables false
open Go.X
open Go.X.G (Ord3 ord3_nat ord3_int ord3_str ltB sget sput sdel Srtd MapAt MapHole plainRep)

theorem same_own (x y : RW) (sx : x.r.keys.length ≤ 1099511627776 ∧ x.r.data.length ≤ 1099511627776) (sy : y.r.keys.length ≤ 1099511627776 ∧ y.r.data.length ≤ 1099511627776) :
    FSpec Try.prog 15 [.agg x.cells.toArray, .agg y.cells.toArray] [x.asn, y.asn] (fun v B => v = .bool (sameM x.r y.r) ∧ B = [x.asn, y.asn]) := by
  refine ⟨fun W0 w F s => ?_⟩
  obtain ⟨k1, h1, _⟩ := s.heap.at_ (i := 0) rfl
  obtain ⟨k2, h2, _⟩ := s.heap.at_ (i := 1) rfl
  have hx := asn_ok sx k1 h1
  have hy := asn_ok sy k2 h2
  refine ((same_spec (star [x.asn, y.asn]) x y ⟨hx.keys.into 0 rfl, hx.data.into 0 rfl, hx.small⟩ ⟨hy.keys.into 1 rfl, hy.data.into 1 rfl, hy.small⟩).call W0 w F ⟨s.os, s.tape, s.out, HSat.pack (As := [x.asn, y.asn]) (Bs := [F]) s.heap⟩).mono ?_
  rintro e w' ⟨v, B, rfl, ⟨rfl, rfl⟩, t⟩
  exact ⟨_, _, rfl, ⟨rfl, rfl⟩, ⟨t.os, t.tape, t.out, HSat.unpack (As := [x.asn, y.asn]) (Bs := [F]) t.heap⟩⟩

/-- A set of numbers as a map to bools. -/
structure SetOf (S : List (Nat × Value)) (f : Nat → Bool) : Prop where
  srt : Srtd ltN S
  get : ∀ i, sget i S = if f i = true then some (.bool true) else none
theorem SetOf.nil : SetOf [] (fun _ => false) := ⟨List.Pairwise.nil, fun _ => rfl⟩
theorem SetOf.put {S : List (Nat × Value)} {f : Nat → Bool} (h : SetOf S f) (a : Nat) : SetOf (sput ltN a (.bool true) S) (seenUp f a) := by
  refine ⟨X.G.srtd_put ord3_nat h.srt _ _, fun i => ?_⟩
  rw [X.G.sget_put ord3_nat]
  unfold seenUp
  by_cases e : i = a
  · rw [if_pos e, if_pos e]; rfl
  · rw [if_neg e, if_neg e]; exact h.get i
theorem lkSet {L : Slots} {D : List Assn} {ty : TypeId} {x y : Operand} {r k : Nat} {S : List (Nat × Value)} {f : Nat → Bool} (i : Nat) (h : SetOf S f) (ex : ev L x = some (.map (some r))) (ey : ev L y = some (encU k)) (hA : D[i]? = some (MapAt encU plainRep r S)) :
    OpQ Try.prog (.lookup 47 x y false) ty L D (.bool (f k)) := by
  cases hf : f k with
  | true => exact X.G.Q.lkPlain (i := i) ord3_nat h.srt Try.runUnderlying47 keyU Try.zeroValue4 ex ey hA (by rw [h.get, if_pos hf])
  | false => exact X.G.Q.lkNo (i := i) Try.runUnderlying47 keyU Try.zeroValue4 ex ey hA (by rw [h.get, hf]; rfl)

theorem here_eq {name : ByteArray} {mine : Nat → Bool} {o : OM} (hc : o.chkB = true) : ((!decide (o.bucket.data.toList = [])) && decide (o.bucket.data.toList = name.data.toList) || decide (o.bucket.data.toList = []) && mine o.upload) = hereB name mine o := by
  have hin := chk_in hc
  have hout := chk_out hc
  unfold hereB
  rw [bytes_eq]
  by_cases hk : o.kind ≤ 7
  · rw [if_pos hk, decide_eq_false (hin hk)]
    cases decide (o.bucket = name) <;> rfl
  · rw [if_neg hk, decide_eq_true (hout hk)]
    cases mine o.upload <;> rfl

theorem rooms_spec (G : Assn) (lp : Option Addr) (ln lc : Nat) (l : List OW) (hl : Ops G lp ln lc l) (hb : bulks l ≤ 1048576) (name : ByteArray) : FSpec Try.prog 5 [.slice lp ln lc, .string name] [G] (fun v B => v = .bool true ∧ B = [G]) := by
  have hlen := hl.len
  refine FSpec.of Try.func5 rfl Try.ntmps5 rfl fun W0 F => ?_
  refine J.seq ?_
  refine J.region ?_
  refine J.q rfl rfl (Q.asg rfl) ?_
  refine J.nil ?_
  refine J.then_n ?_
  refine J.seq ?_
  refine J.seq ?_
  refine J.region ?_
  refine J.call Try.call6 (known_spec) [] rfl rfl rfl rfl ?_
  rintro _ _ ⟨rfl, rfl⟩
  refine J.norm rfl ?_
  refine J.q rfl rfl (Q.not rfl) ?_
  refine J.nil ?_
  refine J.then_n ?_
  refine J.cases 17 rfl (fun hc17 => ?_) (fun hc17 => ?_)
  ·
    first | replace hc17 := X.tt_dec hc17 | replace hc17 := X.tt_not hc17 | replace hc17 := X.ff_dec hc17 | replace hc17 := X.ff_not hc17 | skip
    try (first | (cases hc17; done) | (exfalso; simp at hc17; done))
    all_goals
      refine J.cond_t rfl ?_
      refine J.seq ?_
      refine J.region ?_
      refine J.q rfl rfl (Q.asg rfl) ?_
      refine J.nil ?_
      refine J.then_n ?_
      refine J.cret ?_
      refine J.then_r ?_
      refine J.keep [0, 1] rfl ?_
      refine J.ret1 (B := [G]) rfl rfl ⟨rfl, rfl⟩ rfl
  ·
    first | replace hc17 := X.tt_dec hc17 | replace hc17 := X.tt_not hc17 | replace hc17 := X.ff_dec hc17 | replace hc17 := X.ff_not hc17 | skip
    try (first | (cases hc17; done) | (exfalso; simp at hc17; done))
    all_goals
      refine J.cond_f rfl ?_
      refine J.cskip ?_
      refine J.then_n ?_
      refine J.seq ?_
      refine J.seq ?_
      refine J.region ?_
      refine J.q rfl rfl (Q.mv rfl) ?_
      refine J.call Try.call14 (few_spec G lp ln lc l hl hb) [0] rfl rfl rfl rfl ?_
      rintro _ _ ⟨few, hfew, rfl, rfl⟩
      refine J.norm rfl ?_
      refine J.q rfl rfl (Q.not rfl) ?_
      refine J.nil ?_
      refine J.then_n ?_
      refine J.cases 20 rfl (fun hc20 => ?_) (fun hc20 => ?_)
      ·
        first | replace hc20 := X.tt_dec hc20 | replace hc20 := X.tt_not hc20 | replace hc20 := X.ff_dec hc20 | replace hc20 := X.ff_not hc20 | skip
        try (first | (cases hc20; done) | (exfalso; simp at hc20; done))
        all_goals
          refine J.cond_t rfl ?_
          refine J.seq ?_
          refine J.region ?_
          refine J.q rfl rfl (Q.asg rfl) ?_
          refine J.nil ?_
          refine J.then_n ?_
          refine J.cret ?_
          refine J.then_r ?_
          refine J.keep [0, 1] rfl ?_
          refine J.ret1 (B := [G]) rfl rfl ⟨rfl, rfl⟩ rfl
      ·
        first | replace hc20 := X.tt_dec hc20 | replace hc20 := X.tt_not hc20 | replace hc20 := X.ff_dec hc20 | replace hc20 := X.ff_not hc20 | skip
        try (first | (cases hc20; done) | (exfalso; simp at hc20; done))
        all_goals
          refine J.cond_f rfl ?_
          refine J.cskip ?_
          refine J.then_n ?_
          refine J.seq ?_
          have hl4 : ln ≤ 400 := hfew (by simpa using hc20)
          refine J.region ?_
          refine J.call Try.call11 (new_spec) [] rfl rfl rfl rfl ?_
          rintro _ _ ⟨m, rfl, rfl⟩
          refine J.norm rfl ?_
          refine J.q rfl rfl (Q.asg rfl) ?_
          refine J.nil ?_
          refine J.then_n ?_
          refine J.seq ?_
          refine J.region ?_
          refine J.call Try.call11 (new_spec) [] rfl rfl rfl rfl ?_
          rintro _ _ ⟨n, rfl, rfl⟩
          refine J.norm rfl ?_
          refine J.q rfl rfl (Q.asg rfl) ?_
          refine J.nil ?_
          refine J.then_n ?_
          refine J.seq ?_
          refine J.seq ?_
          refine J.region ?_
          refine J.q rfl rfl (Q.mv rfl) ?_
          refine J.q rfl rfl (Q.eqlp Try.runUnderlying34 rfl rfl) ?_
          refine J.q rfl rfl (Q.mv rfl) ?_
          refine J.cases 25 rfl (fun hb25 => ?_) (fun hb25 => ?_)
          ·
            first | replace hb25 := X.tt_dec hb25 | replace hb25 := X.tt_not hb25 | replace hb25 := X.ff_dec hb25 | replace hb25 := X.ff_not hb25 | skip
            try (first | (cases hb25; done) | (exfalso; simp at hb25; done))
            all_goals
              refine J.skip rfl rfl ?_
              refine J.skip rfl rfl ?_
              refine J.q rfl rfl (Q.pick_t rfl rfl) ?_
              refine J.nil ?_
              refine J.then_n ?_
              refine J.cond_t rfl ?_
              refine J.seq ?_
              refine J.region ?_
              refine J.q rfl rfl (Q.asg rfl) ?_
              refine J.nil ?_
              refine J.then_n ?_
              refine J.cret ?_
              refine J.then_r ?_
              first
                | (exfalso
                   have hsm : sameM y.r y'.r = true := (sameM_iff _ _).2 (by rw [hy, hy']; exact hs1)
                   rw [hsm] at hc94
                   simp at hc94
                   done)
                | (exfalso; simp_all; done)
                | (refine J.keep [6, 7] rfl ?_
                   refine J.ret1 (B := [G]) rfl rfl ⟨rfl, rfl⟩ rfl)
          ·
            first | replace hb25 := X.tt_dec hb25 | replace hb25 := X.tt_not hb25 | replace hb25 := X.ff_dec hb25 | replace hb25 := X.ff_not hb25 | skip
            try (first | (cases hb25; done) | (exfalso; simp at hb25; done))
            all_goals
              refine J.q rfl rfl (Q.mv rfl) ?_
              refine J.q rfl rfl (Q.eqlp Try.runUnderlying34 rfl rfl) ?_
              refine J.q rfl rfl (Q.pick_f rfl rfl) ?_
              refine J.nil ?_
              refine J.then_n ?_
              refine J.cases 28 rfl (fun hc28 => ?_) (fun hc28 => ?_)
              ·
                first | replace hc28 := X.tt_dec hc28 | replace hc28 := X.tt_not hc28 | replace hc28 := X.ff_dec hc28 | replace hc28 := X.ff_not hc28 | skip
                try (first | (cases hc28; done) | (exfalso; simp at hc28; done))
                all_goals
                  refine J.cond_t rfl ?_
                  refine J.seq ?_
                  refine J.region ?_
                  refine J.q rfl rfl (Q.asg rfl) ?_
                  refine J.nil ?_
                  refine J.then_n ?_
                  refine J.cret ?_
                  refine J.then_r ?_
                  first
                    | (exfalso
                       have hsm : sameM y.r y'.r = true := (sameM_iff _ _).2 (by rw [hy, hy']; exact hs1)
                       rw [hsm] at hc94
                       simp at hc94
                       done)
                    | (exfalso; simp_all; done)
                    | (refine J.keep [6, 7] rfl ?_
                       refine J.ret1 (B := [G]) rfl rfl ⟨rfl, rfl⟩ rfl)
              ·
                first | replace hc28 := X.tt_dec hc28 | replace hc28 := X.tt_not hc28 | replace hc28 := X.ff_dec hc28 | replace hc28 := X.ff_not hc28 | skip
                try (first | (cases hc28; done) | (exfalso; simp at hc28; done))
                all_goals
                  refine J.cond_f rfl ?_
                  refine J.cskip ?_
                  refine J.then_n ?_
                  refine J.seq ?_
                  refine J.region ?_
                  refine J.c rfl rfl C.mkMap ?_
                  rintro _ _ ⟨b29, rfl, rfl⟩
                  refine J.norm rfl ?_
                  refine J.q rfl rfl (Q.asg rfl) ?_
                  refine J.nil ?_
                  refine J.then_n ?_
                  refine J.seq ?_
                  refine J.region ?_
                  refine J.c rfl rfl C.mkMap ?_
                  rintro _ _ ⟨b30, rfl, rfl⟩
                  refine J.norm rfl ?_
                  refine J.q rfl rfl (Q.asg rfl) ?_
                  refine J.nil ?_
                  refine J.then_n ?_
                  refine J.seq ?_
                  refine J.seq ?_
                  refine J.region ?_
                  refine J.q rfl rfl (Q.asg rfl) ?_
                  refine J.nil ?_
                  refine J.then_n ?_
                  refine J.block ?_
                  refine J.conv (Y := MapAt encU plainRep b30 []) 0 rfl MapAt.new ?_
                  refine J.conv (Y := MapAt encU plainRep b29 []) 1 rfl MapAt.new ?_
                  refine J.pick [3, 2, 1, 0, 4, 5] rfl ?_
                  refine J.loop (fun z : Nat × BM × BM × (Nat → Bool) × (Nat → Bool) × List (Nat × Value) × List (Nat × Value) => z.1 ≤ ln ∧ Room name z.2.2.2.1 z.2.2.2.2.1 z.2.1 z.2.2.1 ∧ (z.2.1.ok z.1 ∧ z.2.2.1.ok z.1) ∧ (z.2.1.kok ∧ z.2.2.1.kok) ∧ SetOf z.2.2.2.2.2.1 z.2.2.2.1 ∧ SetOf z.2.2.2.2.2.2 z.2.2.2.2.1) (fun z => ln - z.1) (fun z => [(0, .slice lp ln lc), (1, .string name), (5, .pointer (some ⟨m, 0, none⟩)), (6, .pointer (some ⟨n, 0, none⟩)), (7, .map (some b29)), (8, .map (some b30)), (9, .int .i64 z.1)])
                    (fun z => [BktAt m z.2.1, BktAt n z.2.2.1, MapAt encU plainRep b30 z.2.2.2.2.2.1, MapAt encU plainRep b29 z.2.2.2.2.2.2, G, F]) (0, ⟨[], [], []⟩, ⟨[], [], []⟩, (fun _ => false), (fun _ => false), [], []) ⟨Nat.zero_le _, Room.new name, ⟨BM.ok.new, BM.ok.new⟩, ⟨kok_new, kok_new⟩, SetOf.nil, SetOf.nil⟩ ⟨rfl, rfl, rfl, rfl, rfl, rfl, rfl, trivial⟩ rfl fun z hz => ?_
                  obtain ⟨i, M, N, seen, mine, S, T⟩ := z
                  obtain ⟨hi, hR, ⟨hM, hN⟩, ⟨kM, kN⟩, hS, hT⟩ := hz
                  dsimp only at hi hR hM hN kM kN hS hT
                  refine J.seq ?_
                  refine J.seq ?_
                  refine J.region ?_
                  refine J.q rfl rfl (Q.mv rfl) ?_
                  refine J.q rfl rfl (Q.mv rfl) ?_
                  refine J.q rfl rfl (Q.lenSl Try.runUnderlying45 rfl) ?_
                  refine J.q rfl rfl (Q.lss rfl rfl) ?_
                  refine J.nil ?_
                  refine J.then_n ?_
                  refine J.cases 34 rfl (fun hc34 => ?_) (fun hc34 => ?_)
                  ·
                    first | replace hc34 := X.tt_dec hc34 | replace hc34 := X.tt_not hc34 | replace hc34 := X.ff_dec hc34 | replace hc34 := X.ff_not hc34 | skip
                    try (first | (cases hc34; done) | (exfalso; simp at hc34; done))
                    all_goals
                      refine J.cond_t rfl ?_
                      refine J.cskip ?_
                      refine J.then_n ?_
                      refine J.seq ?_
                      refine J.block ?_
                      refine J.seq ?_
                      obtain ⟨b, off, hlp, hrd⟩ := hl.rd.some_ (by omega)
                      obtain ⟨x, hx⟩ : ∃ x, l[i]? = some x := ⟨_, List.getElem?_eq_getElem (by omega)⟩
                      have hxo := hl.ok x (List.mem_of_getElem? hx)
                      refine J.slot 0 (.slice (some ⟨b, off, none⟩) ln lc) rfl (by rw [hlp]) ?_
                      refine J.region ?_
                      refine J.q rfl rfl (Q.mv rfl) ?_
                      refine J.q rfl rfl (Q.mv rfl) ?_
                      refine J.q rfl rfl (Q.ia Try.runUnderlying45 Try.sizeOf26 rfl rfl (by omega) (by omega)) ?_
                      refine J.q rfl rfl (Q.ldN (vs := [_, _, _, _, _, _, _, _, _]) Try.isAgg26 Try.sizeOf26 rfl ((rd_elem OW.cells_length hrd hx (by simp)).within (i := 4) rfl)) ?_
                      refine J.c rfl rfl (C.alloc (l := [_, _, _, _, _, _, _, _, _]) Try.zeroValue26 rfl) ?_
                      rintro _ _ ⟨b10, rfl, rfl⟩
                      refine J.norm rfl ?_
                      first | refine J.c0 rfl (C.stA (i := 0) (vs := [_, _, _, _, _, _, _, _, _]) Try.sizeOf26 rfl rfl rfl rfl rfl rfl) ?_ | refine J.c0 rfl (C.stA (i := 1) (vs := [_, _, _, _, _, _, _, _, _]) Try.sizeOf26 rfl rfl rfl rfl rfl rfl) ?_ | refine J.c0 rfl (C.stA (i := 2) (vs := [_, _, _, _, _, _, _, _, _]) Try.sizeOf26 rfl rfl rfl rfl rfl rfl) ?_ | refine J.c0 rfl (C.stA (i := 3) (vs := [_, _, _, _, _, _, _, _, _]) Try.sizeOf26 rfl rfl rfl rfl rfl rfl) ?_ | refine J.c0 rfl (C.stA (i := 4) (vs := [_, _, _, _, _, _, _, _, _]) Try.sizeOf26 rfl rfl rfl rfl rfl rfl) ?_ | refine J.c0 rfl (C.stA (i := 5) (vs := [_, _, _, _, _, _, _, _, _]) Try.sizeOf26 rfl rfl rfl rfl rfl rfl) ?_ | refine J.c0 rfl (C.stA (i := 6) (vs := [_, _, _, _, _, _, _, _, _]) Try.sizeOf26 rfl rfl rfl rfl rfl rfl) ?_ | refine J.c0 rfl (C.stA (i := 7) (vs := [_, _, _, _, _, _, _, _, _]) Try.sizeOf26 rfl rfl rfl rfl rfl rfl) ?_ | refine J.c0 rfl (C.stA (i := 8) (vs := [_, _, _, _, _, _, _, _, _]) Try.sizeOf26 rfl rfl rfl rfl rfl rfl) ?_ | refine J.c0 rfl (C.stA (i := 9) (vs := [_, _, _, _, _, _, _, _, _]) Try.sizeOf26 rfl rfl rfl rfl rfl rfl) ?_ | refine J.c0 rfl (C.stA (i := 10) (vs := [_, _, _, _, _, _, _, _, _]) Try.sizeOf26 rfl rfl rfl rfl rfl rfl) ?_ | refine J.c0 rfl (C.stA (i := 11) (vs := [_, _, _, _, _, _, _, _, _]) Try.sizeOf26 rfl rfl rfl rfl rfl rfl) ?_ | refine J.c0 rfl (C.stA (i := 12) (vs := [_, _, _, _, _, _, _, _, _]) Try.sizeOf26 rfl rfl rfl rfl rfl rfl) ?_ | refine J.c0 rfl (C.stA (i := 13) (vs := [_, _, _, _, _, _, _, _, _]) Try.sizeOf26 rfl rfl rfl rfl rfl rfl) ?_ | refine J.c0 rfl (C.stA (i := 14) (vs := [_, _, _, _, _, _, _, _, _]) Try.sizeOf26 rfl rfl rfl rfl rfl rfl) ?_ | refine J.c0 rfl (C.stA (i := 15) (vs := [_, _, _, _, _, _, _, _, _]) Try.sizeOf26 rfl rfl rfl rfl rfl rfl) ?_
                      rintro _ _ ⟨rfl, rfl⟩
                      refine J.nil ?_
                      refine J.then_n ?_
                      refine J.seq ?_
                      refine J.seq ?_
                      refine J.region ?_
                      refine J.q rfl rfl (Q.mv rfl) ?_
                      refine J.q rfl rfl (Q.fa (n := 0) Try.runUnderlying26 rfl rfl Try.sizeOf22 rfl) ?_
                      refine J.q rfl rfl (Q.ld Try.isAgg22 rfl (by first | exact Reads.pt 0 rfl rfl | exact Reads.pt 1 rfl rfl | exact Reads.pt 2 rfl rfl | exact Reads.pt 3 rfl rfl | exact Reads.pt 4 rfl rfl | exact Reads.pt 5 rfl rfl | exact Reads.pt 6 rfl rfl | exact Reads.pt 7 rfl rfl | exact Reads.pt 8 rfl rfl | exact Reads.pt 9 rfl rfl | exact Reads.pt 10 rfl rfl | exact Reads.pt 11 rfl rfl | exact Reads.pt 12 rfl rfl | exact Reads.pt 13 rfl rfl)) ?_
                      refine J.q rfl rfl (lkSet 3 hS rfl rfl rfl) ?_
                      refine J.q rfl rfl (Q.mv rfl) ?_
                      refine J.cases 45 rfl (fun hb45 => ?_) (fun hb45 => ?_)
                      ·
                        first | replace hb45 := X.tt_dec hb45 | replace hb45 := X.tt_not hb45 | replace hb45 := X.ff_dec hb45 | replace hb45 := X.ff_not hb45 | skip
                        try (first | (cases hb45; done) | (exfalso; simp at hb45; done))
                        all_goals
                          refine J.skip rfl rfl ?_
                          refine J.skip rfl rfl ?_
                          refine J.skip rfl rfl ?_
                          refine J.q rfl rfl (Q.pick_t rfl rfl) ?_
                          refine J.nil ?_
                          refine J.then_n ?_
                          refine J.cond_t rfl ?_
                          refine J.exit ?_
                          refine J.then_x ?_
                          refine J.blk_x ?_
                          refine J.then_n ?_
                          refine J.region ?_
                          refine J.q rfl rfl (Q.mv rfl) ?_
                          refine J.q rfl rfl (Q.add64 rfl rfl (by omega)) ?_
                          refine J.q rfl rfl (Q.asg rfl) ?_
                          refine J.nil ?_
                          refine J.keep [1, 2, 3, 4, 5, 6] rfl ?_
                          refine J.again (i + 1, M, N, seen, mine, S, T) ⟨by show i + 1 ≤ ln; omega, hR, ⟨hM.mono (Nat.le_succ i), hN.mono (Nat.le_succ i)⟩, ⟨kM, kN⟩, hS, hT⟩ (by show ln - (i + 1) < ln - i; omega) ⟨(by show _ = some (Value.slice lp ln lc); rw [hlp]; rfl), rfl, rfl, rfl, rfl, rfl, rfl, trivial⟩ rfl
                      ·
                        first | replace hb45 := X.tt_dec hb45 | replace hb45 := X.tt_not hb45 | replace hb45 := X.ff_dec hb45 | replace hb45 := X.ff_not hb45 | skip
                        try (first | (cases hb45; done) | (exfalso; simp at hb45; done))
                        all_goals
                          refine J.q rfl rfl (Q.ldN (vs := [_, _, _, _, _, _, _, _, _]) Try.isAgg26 Try.sizeOf26 rfl (by first | exact ReadsN.pt 0 rfl | exact ReadsN.pt 1 rfl | exact ReadsN.pt 2 rfl | exact ReadsN.pt 3 rfl | exact ReadsN.pt 4 rfl | exact ReadsN.pt 5 rfl | exact ReadsN.pt 6 rfl | exact ReadsN.pt 7 rfl | exact ReadsN.pt 8 rfl | exact ReadsN.pt 9 rfl | exact ReadsN.pt 10 rfl | exact ReadsN.pt 11 rfl | exact ReadsN.pt 12 rfl | exact ReadsN.pt 13 rfl)) ?_
                          refine J.call Try.call7 (check_spec G x hxo) [5] rfl rfl rfl rfl ?_
                          rintro _ _ ⟨rfl, rfl⟩
                          refine J.norm rfl ?_
                          refine J.pick [1, 2, 3, 4, 5, 0, 6] rfl ?_
                          refine J.q rfl rfl (Q.neq rfl rfl) ?_
                          refine J.q rfl rfl (Q.pick_f rfl rfl) ?_
                          refine J.nil ?_
                          refine J.then_n ?_
                          refine J.cases 49 rfl (fun hc49 => ?_) (fun hc49 => ?_)
                          ·
                            first | replace hc49 := X.tt_dec hc49 | replace hc49 := X.tt_not hc49 | replace hc49 := X.ff_dec hc49 | replace hc49 := X.ff_not hc49 | skip
                            try (first | (cases hc49; done) | (exfalso; simp at hc49; done))
                            all_goals
                              refine J.cond_t rfl ?_
                              refine J.exit ?_
                              refine J.then_x ?_
                              refine J.blk_x ?_
                              refine J.then_n ?_
                              refine J.region ?_
                              refine J.q rfl rfl (Q.mv rfl) ?_
                              refine J.q rfl rfl (Q.add64 rfl rfl (by omega)) ?_
                              refine J.q rfl rfl (Q.asg rfl) ?_
                              refine J.nil ?_
                              refine J.keep [1, 2, 3, 4, 5, 6] rfl ?_
                              refine J.again (i + 1, M, N, seen, mine, S, T) ⟨by show i + 1 ≤ ln; omega, hR, ⟨hM.mono (Nat.le_succ i), hN.mono (Nat.le_succ i)⟩, ⟨kM, kN⟩, hS, hT⟩ (by show ln - (i + 1) < ln - i; omega) ⟨(by show _ = some (Value.slice lp ln lc); rw [hlp]; rfl), rfl, rfl, rfl, rfl, rfl, rfl, trivial⟩ rfl
                          ·
                            first | replace hc49 := X.tt_dec hc49 | replace hc49 := X.tt_not hc49 | replace hc49 := X.ff_dec hc49 | replace hc49 := X.ff_not hc49 | skip
                            try (first | (cases hc49; done) | (exfalso; simp at hc49; done))
                            all_goals
                              refine J.cond_f rfl ?_
                              refine J.cskip ?_
                              refine J.then_n ?_
                              refine J.seq ?_
                              have hck : x.o.chkB = true := by
                                cases h : x.o.chkB with
                                | true => rfl
                                | false => rw [h] at hc49; exact absurd hc49 (by decide)
                              refine J.region ?_
                              refine J.q rfl rfl (Q.mv rfl) ?_
                              refine J.q rfl rfl (Q.fa (n := 0) Try.runUnderlying26 rfl rfl Try.sizeOf22 rfl) ?_
                              refine J.q rfl rfl (Q.ld Try.isAgg22 rfl (by first | exact Reads.pt 0 rfl rfl | exact Reads.pt 1 rfl rfl | exact Reads.pt 2 rfl rfl | exact Reads.pt 3 rfl rfl | exact Reads.pt 4 rfl rfl | exact Reads.pt 5 rfl rfl | exact Reads.pt 6 rfl rfl | exact Reads.pt 7 rfl rfl | exact Reads.pt 8 rfl rfl | exact Reads.pt 9 rfl rfl | exact Reads.pt 10 rfl rfl | exact Reads.pt 11 rfl rfl | exact Reads.pt 12 rfl rfl | exact Reads.pt 13 rfl rfl)) ?_
                              refine J.c0 rfl (X.G.C.mapPut (rep := plainRep) 3 (.bool true) ord3_nat hS.srt Try.runUnderlying47 keyU rfl rfl rfl rfl) ?_
                              rintro _ _ ⟨rfl, rfl⟩
                              refine J.norm rfl ?_
                              refine J.conv (Y := MapAt encU plainRep b30 (sput ltN x.o.id (.bool true) (sput ltN x.o.id (.bool true) S))) 3 rfl (X.G.plain_shut ord3_nat (X.G.srtd_put ord3_nat hS.srt _ _)) ?_
                              rw [X.G.sput_put ord3_nat hS.srt]
                              refine J.nil ?_
                              refine J.then_n ?_
                              refine J.seq ?_
                              refine J.region ?_
                              refine J.q rfl rfl (Q.mv rfl) ?_
                              refine J.q rfl rfl (Q.ldN (vs := [_, _, _, _, _, _, _, _, _]) Try.isAgg26 Try.sizeOf26 rfl (by first | exact ReadsN.pt 0 rfl | exact ReadsN.pt 1 rfl | exact ReadsN.pt 2 rfl | exact ReadsN.pt 3 rfl | exact ReadsN.pt 4 rfl | exact ReadsN.pt 5 rfl | exact ReadsN.pt 6 rfl | exact ReadsN.pt 7 rfl | exact ReadsN.pt 8 rfl | exact ReadsN.pt 9 rfl | exact ReadsN.pt 10 rfl | exact ReadsN.pt 11 rfl | exact ReadsN.pt 12 rfl | exact ReadsN.pt 13 rfl)) ?_
                              refine J.call Try.call13 (do_all m M hM kM (by omega) x G hxo) [2, 5] rfl rfl rfl rfl ?_
                              rintro _ _ ⟨y, rfl, hy, rfl⟩
                              refine J.norm rfl ?_
                              refine J.c rfl rfl (C.alloc (l := [_, _, _, _, _]) Try.zeroValue41 rfl) ?_
                              rintro _ _ ⟨b11, rfl, rfl⟩
                              refine J.norm rfl ?_
                              first | refine J.c0 rfl (C.stA (i := 0) (vs := [_, _, _, _, _]) Try.sizeOf41 rfl rfl rfl rfl rfl rfl) ?_ | refine J.c0 rfl (C.stA (i := 1) (vs := [_, _, _, _, _]) Try.sizeOf41 rfl rfl rfl rfl rfl rfl) ?_ | refine J.c0 rfl (C.stA (i := 2) (vs := [_, _, _, _, _]) Try.sizeOf41 rfl rfl rfl rfl rfl rfl) ?_ | refine J.c0 rfl (C.stA (i := 3) (vs := [_, _, _, _, _]) Try.sizeOf41 rfl rfl rfl rfl rfl rfl) ?_ | refine J.c0 rfl (C.stA (i := 4) (vs := [_, _, _, _, _]) Try.sizeOf41 rfl rfl rfl rfl rfl rfl) ?_ | refine J.c0 rfl (C.stA (i := 5) (vs := [_, _, _, _, _]) Try.sizeOf41 rfl rfl rfl rfl rfl rfl) ?_ | refine J.c0 rfl (C.stA (i := 6) (vs := [_, _, _, _, _]) Try.sizeOf41 rfl rfl rfl rfl rfl rfl) ?_ | refine J.c0 rfl (C.stA (i := 7) (vs := [_, _, _, _, _]) Try.sizeOf41 rfl rfl rfl rfl rfl rfl) ?_ | refine J.c0 rfl (C.stA (i := 8) (vs := [_, _, _, _, _]) Try.sizeOf41 rfl rfl rfl rfl rfl rfl) ?_ | refine J.c0 rfl (C.stA (i := 9) (vs := [_, _, _, _, _]) Try.sizeOf41 rfl rfl rfl rfl rfl rfl) ?_ | refine J.c0 rfl (C.stA (i := 10) (vs := [_, _, _, _, _]) Try.sizeOf41 rfl rfl rfl rfl rfl rfl) ?_ | refine J.c0 rfl (C.stA (i := 11) (vs := [_, _, _, _, _]) Try.sizeOf41 rfl rfl rfl rfl rfl rfl) ?_ | refine J.c0 rfl (C.stA (i := 12) (vs := [_, _, _, _, _]) Try.sizeOf41 rfl rfl rfl rfl rfl rfl) ?_ | refine J.c0 rfl (C.stA (i := 13) (vs := [_, _, _, _, _]) Try.sizeOf41 rfl rfl rfl rfl rfl rfl) ?_ | refine J.c0 rfl (C.stA (i := 14) (vs := [_, _, _, _, _]) Try.sizeOf41 rfl rfl rfl rfl rfl rfl) ?_ | refine J.c0 rfl (C.stA (i := 15) (vs := [_, _, _, _, _]) Try.sizeOf41 rfl rfl rfl rfl rfl rfl) ?_
                              rintro _ _ ⟨rfl, rfl⟩
                              refine J.nil ?_
                              refine J.then_n ?_
                              refine J.cut (fun _ : Unit => True) (fun _ => [(0, .slice (some ⟨b, off, none⟩) ln lc), (1, .string name), (5, .pointer (some ⟨m, 0, none⟩)), (6, .pointer (some ⟨n, 0, none⟩)), (7, .map (some b29)), (8, .map (some b30)), (9, .int .i64 i), (10, .pointer (some ⟨b10, 0, none⟩)), (11, .pointer (some ⟨b11, 0, none⟩)), (12, .bool (hereB name mine x.o))]) (fun _ => [pt b11 (.cells y.cells.toArray 41 (0, 0)), BktAt m (M.run x.o).2, y.asn, G, MapAt encU plainRep b30 (sput ltN x.o.id (.bool true) S), pt b10 (.cells x.cells.toArray 26 (0, 0)), BktAt n N, MapAt encU plainRep b29 T, F]) ?_ fun _ _ => ?_
                              ·
                                refine J.region ?_
                                refine J.q rfl rfl (Q.fa (n := 2) Try.runUnderlying26 rfl rfl Try.sizeOf9 rfl) ?_
                                refine J.q rfl rfl (Q.ld Try.isAgg9 rfl (by first | exact Reads.pt 0 rfl rfl | exact Reads.pt 1 rfl rfl | exact Reads.pt 2 rfl rfl | exact Reads.pt 3 rfl rfl | exact Reads.pt 4 rfl rfl | exact Reads.pt 5 rfl rfl | exact Reads.pt 6 rfl rfl | exact Reads.pt 7 rfl rfl | exact Reads.pt 8 rfl rfl | exact Reads.pt 9 rfl rfl | exact Reads.pt 10 rfl rfl | exact Reads.pt 11 rfl rfl | exact Reads.pt 12 rfl rfl | exact Reads.pt 13 rfl rfl)) ?_
                                refine J.q rfl rfl (Q.neqs rfl rfl) ?_
                                refine J.q rfl rfl (Q.mv rfl) ?_
                                refine J.cases 59 rfl (fun hb59 => ?_) (fun hb59 => ?_)
                                ·
                                  first | replace hb59 := X.tt_dec hb59 | replace hb59 := X.tt_not hb59 | replace hb59 := X.ff_dec hb59 | replace hb59 := X.ff_not hb59 | skip
                                  try (first | (cases hb59; done) | (exfalso; simp at hb59; done))
                                  all_goals
                                    refine J.q rfl rfl (Q.fa (n := 2) Try.runUnderlying26 rfl rfl Try.sizeOf9 rfl) ?_
                                    refine J.q rfl rfl (Q.ld Try.isAgg9 rfl (by first | exact Reads.pt 0 rfl rfl | exact Reads.pt 1 rfl rfl | exact Reads.pt 2 rfl rfl | exact Reads.pt 3 rfl rfl | exact Reads.pt 4 rfl rfl | exact Reads.pt 5 rfl rfl | exact Reads.pt 6 rfl rfl | exact Reads.pt 7 rfl rfl | exact Reads.pt 8 rfl rfl | exact Reads.pt 9 rfl rfl | exact Reads.pt 10 rfl rfl | exact Reads.pt 11 rfl rfl | exact Reads.pt 12 rfl rfl | exact Reads.pt 13 rfl rfl)) ?_
                                    refine J.q rfl rfl (Q.mv rfl) ?_
                                    refine J.q rfl rfl (Q.eqls rfl rfl) ?_
                                    refine J.q rfl rfl (Q.pick_t rfl rfl) ?_
                                    refine J.q rfl rfl (Q.mv rfl) ?_
                                    refine J.cases 65 rfl (fun hb65 => ?_) (fun hb65 => ?_)
                                    ·
                                      first | replace hb65 := X.tt_dec hb65 | replace hb65 := X.tt_not hb65 | replace hb65 := X.ff_dec hb65 | replace hb65 := X.ff_not hb65 | skip
                                      try (first | (cases hb65; done) | (exfalso; simp at hb65; done))
                                      all_goals
                                        refine J.skip rfl rfl ?_
                                        refine J.skip rfl rfl ?_
                                        refine J.skip rfl rfl ?_
                                        refine J.skip rfl rfl ?_
                                        refine J.skip rfl rfl ?_
                                        refine J.skip rfl rfl ?_
                                        refine J.skip rfl rfl ?_
                                        refine J.skip rfl rfl ?_
                                        refine J.skip rfl rfl ?_
                                        refine J.q rfl rfl (Q.pick_t rfl rfl) ?_
                                        refine J.q rfl rfl (Q.asg rfl) ?_
                                        refine J.nil ?_
                                        refine J.slot 12 (.bool (hereB name mine x.o)) rfl (by rw [← here_eq hck]; first | rfl | (simp_all; done)) ?_
                                        refine J.meet () trivial ⟨rfl, rfl, rfl, rfl, rfl, rfl, rfl, rfl, rfl, rfl, trivial⟩ rfl
                                    ·
                                      first | replace hb65 := X.tt_dec hb65 | replace hb65 := X.tt_not hb65 | replace hb65 := X.ff_dec hb65 | replace hb65 := X.ff_not hb65 | skip
                                      try (first | (cases hb65; done) | (exfalso; simp at hb65; done))
                                      all_goals
                                        refine J.q rfl rfl (Q.fa (n := 2) Try.runUnderlying26 rfl rfl Try.sizeOf9 rfl) ?_
                                        refine J.q rfl rfl (Q.ld Try.isAgg9 rfl (by first | exact Reads.pt 0 rfl rfl | exact Reads.pt 1 rfl rfl | exact Reads.pt 2 rfl rfl | exact Reads.pt 3 rfl rfl | exact Reads.pt 4 rfl rfl | exact Reads.pt 5 rfl rfl | exact Reads.pt 6 rfl rfl | exact Reads.pt 7 rfl rfl | exact Reads.pt 8 rfl rfl | exact Reads.pt 9 rfl rfl | exact Reads.pt 10 rfl rfl | exact Reads.pt 11 rfl rfl | exact Reads.pt 12 rfl rfl | exact Reads.pt 13 rfl rfl)) ?_
                                        refine J.q rfl rfl (Q.eqls rfl rfl) ?_
                                        refine J.q rfl rfl (Q.mv rfl) ?_
                                        refine J.cases 69 rfl (fun hb69 => ?_) (fun hb69 => ?_)
                                        ·
                                          first | replace hb69 := X.tt_dec hb69 | replace hb69 := X.tt_not hb69 | replace hb69 := X.ff_dec hb69 | replace hb69 := X.ff_not hb69 | skip
                                          try (first | (cases hb69; done) | (exfalso; simp at hb69; done))
                                          all_goals
                                            refine J.q rfl rfl (Q.mv rfl) ?_
                                            refine J.q rfl rfl (Q.fa (n := 6) Try.runUnderlying26 rfl rfl Try.sizeOf22 rfl) ?_
                                            refine J.q rfl rfl (Q.ld Try.isAgg22 rfl (by first | exact Reads.pt 0 rfl rfl | exact Reads.pt 1 rfl rfl | exact Reads.pt 2 rfl rfl | exact Reads.pt 3 rfl rfl | exact Reads.pt 4 rfl rfl | exact Reads.pt 5 rfl rfl | exact Reads.pt 6 rfl rfl | exact Reads.pt 7 rfl rfl | exact Reads.pt 8 rfl rfl | exact Reads.pt 9 rfl rfl | exact Reads.pt 10 rfl rfl | exact Reads.pt 11 rfl rfl | exact Reads.pt 12 rfl rfl | exact Reads.pt 13 rfl rfl)) ?_
                                            refine J.q rfl rfl (lkSet 7 hT rfl rfl rfl) ?_
                                            refine J.q rfl rfl (Q.pick_t rfl rfl) ?_
                                            refine J.q rfl rfl (Q.pick_f rfl rfl) ?_
                                            refine J.q rfl rfl (Q.asg rfl) ?_
                                            refine J.nil ?_
                                            refine J.slot 12 (.bool (hereB name mine x.o)) rfl (by rw [← here_eq hck]; first | rfl | (simp_all; done)) ?_
                                            refine J.meet () trivial ⟨rfl, rfl, rfl, rfl, rfl, rfl, rfl, rfl, rfl, rfl, trivial⟩ rfl
                                        ·
                                          first | replace hb69 := X.tt_dec hb69 | replace hb69 := X.tt_not hb69 | replace hb69 := X.ff_dec hb69 | replace hb69 := X.ff_not hb69 | skip
                                          try (first | (cases hb69; done) | (exfalso; simp at hb69; done))
                                          all_goals
                                            refine J.skip rfl rfl ?_
                                            refine J.skip rfl rfl ?_
                                            refine J.skip rfl rfl ?_
                                            refine J.skip rfl rfl ?_
                                            refine J.q rfl rfl (Q.pick_f rfl rfl) ?_
                                            refine J.q rfl rfl (Q.pick_f rfl rfl) ?_
                                            refine J.q rfl rfl (Q.asg rfl) ?_
                                            refine J.nil ?_
                                            refine J.slot 12 (.bool (hereB name mine x.o)) rfl (by rw [← here_eq hck]; first | rfl | (simp_all; done)) ?_
                                            refine J.meet () trivial ⟨rfl, rfl, rfl, rfl, rfl, rfl, rfl, rfl, rfl, rfl, trivial⟩ rfl
                                ·
                                  first | replace hb59 := X.tt_dec hb59 | replace hb59 := X.tt_not hb59 | replace hb59 := X.ff_dec hb59 | replace hb59 := X.ff_not hb59 | skip
                                  try (first | (cases hb59; done) | (exfalso; simp at hb59; done))
                                  all_goals
                                    refine J.skip rfl rfl ?_
                                    refine J.skip rfl rfl ?_
                                    refine J.skip rfl rfl ?_
                                    refine J.skip rfl rfl ?_
                                    refine J.q rfl rfl (Q.pick_f rfl rfl) ?_
                                    refine J.q rfl rfl (Q.mv rfl) ?_
                                    refine J.q rfl rfl (Q.fa (n := 2) Try.runUnderlying26 rfl rfl Try.sizeOf9 rfl) ?_
                                    refine J.q rfl rfl (Q.ld Try.isAgg9 rfl (by first | exact Reads.pt 0 rfl rfl | exact Reads.pt 1 rfl rfl | exact Reads.pt 2 rfl rfl | exact Reads.pt 3 rfl rfl | exact Reads.pt 4 rfl rfl | exact Reads.pt 5 rfl rfl | exact Reads.pt 6 rfl rfl | exact Reads.pt 7 rfl rfl | exact Reads.pt 8 rfl rfl | exact Reads.pt 9 rfl rfl | exact Reads.pt 10 rfl rfl | exact Reads.pt 11 rfl rfl | exact Reads.pt 12 rfl rfl | exact Reads.pt 13 rfl rfl)) ?_
                                    refine J.q rfl rfl (Q.eqls rfl rfl) ?_
                                    refine J.q rfl rfl (Q.mv rfl) ?_
                                    refine J.cases 69 rfl (fun hb69 => ?_) (fun hb69 => ?_)
                                    ·
                                      first | replace hb69 := X.tt_dec hb69 | replace hb69 := X.tt_not hb69 | replace hb69 := X.ff_dec hb69 | replace hb69 := X.ff_not hb69 | skip
                                      try (first | (cases hb69; done) | (exfalso; simp at hb69; done))
                                      all_goals
                                        refine J.q rfl rfl (Q.mv rfl) ?_
                                        refine J.q rfl rfl (Q.fa (n := 6) Try.runUnderlying26 rfl rfl Try.sizeOf22 rfl) ?_
                                        refine J.q rfl rfl (Q.ld Try.isAgg22 rfl (by first | exact Reads.pt 0 rfl rfl | exact Reads.pt 1 rfl rfl | exact Reads.pt 2 rfl rfl | exact Reads.pt 3 rfl rfl | exact Reads.pt 4 rfl rfl | exact Reads.pt 5 rfl rfl | exact Reads.pt 6 rfl rfl | exact Reads.pt 7 rfl rfl | exact Reads.pt 8 rfl rfl | exact Reads.pt 9 rfl rfl | exact Reads.pt 10 rfl rfl | exact Reads.pt 11 rfl rfl | exact Reads.pt 12 rfl rfl | exact Reads.pt 13 rfl rfl)) ?_
                                        refine J.q rfl rfl (lkSet 7 hT rfl rfl rfl) ?_
                                        refine J.q rfl rfl (Q.pick_t rfl rfl) ?_
                                        refine J.q rfl rfl (Q.pick_f rfl rfl) ?_
                                        refine J.q rfl rfl (Q.asg rfl) ?_
                                        refine J.nil ?_
                                        refine J.slot 12 (.bool (hereB name mine x.o)) rfl (by rw [← here_eq hck]; first | rfl | (simp_all; done)) ?_
                                        refine J.meet () trivial ⟨rfl, rfl, rfl, rfl, rfl, rfl, rfl, rfl, rfl, rfl, trivial⟩ rfl
                                    ·
                                      first | replace hb69 := X.tt_dec hb69 | replace hb69 := X.tt_not hb69 | replace hb69 := X.ff_dec hb69 | replace hb69 := X.ff_not hb69 | skip
                                      try (first | (cases hb69; done) | (exfalso; simp at hb69; done))
                                      all_goals
                                        refine J.skip rfl rfl ?_
                                        refine J.skip rfl rfl ?_
                                        refine J.skip rfl rfl ?_
                                        refine J.skip rfl rfl ?_
                                        refine J.q rfl rfl (Q.pick_f rfl rfl) ?_
                                        refine J.q rfl rfl (Q.pick_f rfl rfl) ?_
                                        refine J.q rfl rfl (Q.asg rfl) ?_
                                        refine J.nil ?_
                                        refine J.slot 12 (.bool (hereB name mine x.o)) rfl (by rw [← here_eq hck]; first | rfl | (simp_all; done)) ?_
                                        refine J.meet () trivial ⟨rfl, rfl, rfl, rfl, rfl, rfl, rfl, rfl, rfl, rfl, trivial⟩ rfl
                              ·
                                refine J.seq ?_
                                refine J.seq ?_
                                refine J.region ?_
                                refine J.q rfl rfl (Q.mv rfl) ?_
                                refine J.q rfl rfl (Q.not rfl) ?_
                                refine J.nil ?_
                                refine J.then_n ?_
                                refine J.cases 77 rfl (fun hc77 => ?_) (fun hc77 => ?_)
                                ·
                                  first | replace hc77 := X.tt_dec hc77 | replace hc77 := X.tt_not hc77 | replace hc77 := X.ff_dec hc77 | replace hc77 := X.ff_not hc77 | skip
                                  try (first | (cases hc77; done) | (exfalso; simp at hc77; done))
                                  all_goals
                                    refine J.cond_t rfl ?_
                                    refine J.exit ?_
                                    refine J.then_x ?_
                                    refine J.blk_x ?_
                                    refine J.then_n ?_
                                    refine J.region ?_
                                    refine J.q rfl rfl (Q.mv rfl) ?_
                                    refine J.q rfl rfl (Q.add64 rfl rfl (by omega)) ?_
                                    refine J.q rfl rfl (Q.asg rfl) ?_
                                    refine J.nil ?_
                                    have hh : hereB name mine x.o = false := by simpa using hc77
                                    refine J.keep [1, 6, 4, 7, 3, 8] rfl ?_
                                    refine J.again (i + 1, (M.run x.o).2, N, seenUp seen x.o.id, mine, sput ltN x.o.id (.bool true) S, T) ⟨by show i + 1 ≤ ln; omega, hR.off hck hb45 hh, ⟨run_ok hM _, hN.mono (Nat.le_succ i)⟩, ⟨run_kok hM kM _, kN⟩, hS.put _, hT⟩ (by show ln - (i + 1) < ln - i; omega) ⟨(by show _ = some (Value.slice lp ln lc); rw [hlp]; rfl), rfl, rfl, rfl, rfl, rfl, rfl, trivial⟩ rfl
                                ·
                                  first | replace hc77 := X.tt_dec hc77 | replace hc77 := X.tt_not hc77 | replace hc77 := X.ff_dec hc77 | replace hc77 := X.ff_not hc77 | skip
                                  try (first | (cases hc77; done) | (exfalso; simp at hc77; done))
                                  all_goals
                                    refine J.cond_f rfl ?_
                                    refine J.cskip ?_
                                    refine J.then_n ?_
                                    refine J.cut (fun T' : List (Nat × Value) => SetOf T' (mineUp mine x.o (M.run x.o).1)) (fun _ => [(0, .slice (some ⟨b, off, none⟩) ln lc), (1, .string name), (5, .pointer (some ⟨m, 0, none⟩)), (6, .pointer (some ⟨n, 0, none⟩)), (7, .map (some b29)), (8, .map (some b30)), (9, .int .i64 i), (10, .pointer (some ⟨b10, 0, none⟩)), (11, .pointer (some ⟨b11, 0, none⟩))]) (fun T' => [pt b11 (.cells y.cells.toArray 41 (0, 0)), pt b10 (.cells x.cells.toArray 26 (0, 0)), BktAt n N, G, BktAt m (M.run x.o).2, y.asn, MapAt encU plainRep b30 (sput ltN x.o.id (.bool true) S), MapAt encU plainRep b29 T', F]) ?_ fun T' hT' => ?_
                                    ·
                                      refine J.seq ?_
                                      refine J.region ?_
                                      refine J.q rfl rfl (Q.fa (n := 1) Try.runUnderlying26 rfl rfl Try.sizeOf3 rfl) ?_
                                      refine J.q rfl rfl (Q.ld Try.isAgg3 rfl (by first | exact Reads.pt 0 rfl rfl | exact Reads.pt 1 rfl rfl | exact Reads.pt 2 rfl rfl | exact Reads.pt 3 rfl rfl | exact Reads.pt 4 rfl rfl | exact Reads.pt 5 rfl rfl | exact Reads.pt 6 rfl rfl | exact Reads.pt 7 rfl rfl | exact Reads.pt 8 rfl rfl | exact Reads.pt 9 rfl rfl | exact Reads.pt 10 rfl rfl | exact Reads.pt 11 rfl rfl | exact Reads.pt 12 rfl rfl | exact Reads.pt 13 rfl rfl)) ?_
                                      refine J.q rfl rfl (Q.eql rfl rfl) ?_
                                      refine J.q rfl rfl (Q.mv rfl) ?_
                                      refine J.cases 81 rfl (fun hb81 => ?_) (fun hb81 => ?_)
                                      ·
                                        first | replace hb81 := X.tt_dec hb81 | replace hb81 := X.tt_not hb81 | replace hb81 := X.ff_dec hb81 | replace hb81 := X.ff_not hb81 | skip
                                        try (first | (cases hb81; done) | (exfalso; simp at hb81; done))
                                        all_goals
                                          refine J.q rfl rfl (Q.fa (n := 0) Try.runUnderlying41 rfl rfl Try.sizeOf3 rfl) ?_
                                          refine J.q rfl rfl (Q.ld Try.isAgg3 rfl (by first | exact Reads.pt 0 rfl rfl | exact Reads.pt 1 rfl rfl | exact Reads.pt 2 rfl rfl | exact Reads.pt 3 rfl rfl | exact Reads.pt 4 rfl rfl | exact Reads.pt 5 rfl rfl | exact Reads.pt 6 rfl rfl | exact Reads.pt 7 rfl rfl | exact Reads.pt 8 rfl rfl | exact Reads.pt 9 rfl rfl | exact Reads.pt 10 rfl rfl | exact Reads.pt 11 rfl rfl | exact Reads.pt 12 rfl rfl | exact Reads.pt 13 rfl rfl)) ?_
                                          refine J.q rfl rfl (Q.eql rfl rfl) ?_
                                          refine J.q rfl rfl (Q.pick_t rfl rfl) ?_
                                          refine J.nil ?_
                                          refine J.then_n ?_
                                          refine J.cases 85 rfl (fun hc85 => ?_) (fun hc85 => ?_)
                                          ·
                                            first | replace hc85 := X.tt_dec hc85 | replace hc85 := X.tt_not hc85 | replace hc85 := X.ff_dec hc85 | replace hc85 := X.ff_not hc85 | skip
                                            try (first | (cases hc85; done) | (exfalso; simp at hc85; done))
                                            all_goals
                                              refine J.cond_t rfl ?_
                                              refine J.region ?_
                                              refine J.q rfl rfl (Q.mv rfl) ?_
                                              refine J.q rfl rfl (Q.fa (n := 0) Try.runUnderlying26 rfl rfl Try.sizeOf22 rfl) ?_
                                              refine J.q rfl rfl (Q.ld Try.isAgg22 rfl (by first | exact Reads.pt 0 rfl rfl | exact Reads.pt 1 rfl rfl | exact Reads.pt 2 rfl rfl | exact Reads.pt 3 rfl rfl | exact Reads.pt 4 rfl rfl | exact Reads.pt 5 rfl rfl | exact Reads.pt 6 rfl rfl | exact Reads.pt 7 rfl rfl | exact Reads.pt 8 rfl rfl | exact Reads.pt 9 rfl rfl | exact Reads.pt 10 rfl rfl | exact Reads.pt 11 rfl rfl | exact Reads.pt 12 rfl rfl | exact Reads.pt 13 rfl rfl)) ?_
                                              refine J.c0 rfl (X.G.C.mapPut (rep := plainRep) 7 (.bool true) ord3_nat hT.srt Try.runUnderlying47 keyU rfl rfl rfl rfl) ?_
                                              rintro _ _ ⟨rfl, rfl⟩
                                              refine J.norm rfl ?_
                                              refine J.conv (Y := MapAt encU plainRep b29 (sput ltN x.o.id (.bool true) (sput ltN x.o.id (.bool true) T))) 7 rfl (X.G.plain_shut ord3_nat (X.G.srtd_put ord3_nat hT.srt _ _)) ?_
                                              rw [X.G.sput_put ord3_nat hT.srt]
                                              refine J.pick [1, 2, 3, 4, 5, 6, 7, 0, 8] rfl ?_
                                              refine J.nil ?_
                                              refine J.pick [0, 5, 6, 3, 1, 2, 4, 7, 8] rfl ?_
                                              first
                                                | (have h1 : x.o.kind = 7 ∧ (M.run x.o).1.status = 200 := by rw [← hy]; exact ⟨by assumption, by assumption⟩
                                                   have h2 : mineUp mine x.o (M.run x.o).1 = seenUp mine x.o.id := by funext j; unfold mineUp seenUp; by_cases e : j = x.o.id <;> simp [h1, e]
                                                   refine J.meet (sput ltN x.o.id (.bool true) T) (by rw [h2]; exact hT.put _) ⟨rfl, rfl, rfl, rfl, rfl, rfl, rfl, rfl, rfl, trivial⟩ rfl)
                                                | (have h1 : ¬ (x.o.kind = 7 ∧ (M.run x.o).1.status = 200) := by rw [← hy]; rintro ⟨a, c⟩; first | exact absurd a (by assumption) | exact absurd c (by assumption)
                                                   have h2 : mineUp mine x.o (M.run x.o).1 = mine := by funext j; unfold mineUp; rw [if_neg (fun a => h1 ⟨a.1, a.2.1⟩)]
                                                   refine J.meet T (by rw [h2]; exact hT) ⟨rfl, rfl, rfl, rfl, rfl, rfl, rfl, rfl, rfl, trivial⟩ rfl)
                                          ·
                                            first | replace hc85 := X.tt_dec hc85 | replace hc85 := X.tt_not hc85 | replace hc85 := X.ff_dec hc85 | replace hc85 := X.ff_not hc85 | skip
                                            try (first | (cases hc85; done) | (exfalso; simp at hc85; done))
                                            all_goals
                                              refine J.cond_f rfl ?_
                                              refine J.cskip ?_
                                              refine J.pick [0, 5, 6, 3, 1, 2, 4, 7, 8] rfl ?_
                                              first
                                                | (have h1 : x.o.kind = 7 ∧ (M.run x.o).1.status = 200 := by rw [← hy]; exact ⟨by assumption, by assumption⟩
                                                   have h2 : mineUp mine x.o (M.run x.o).1 = seenUp mine x.o.id := by funext j; unfold mineUp seenUp; by_cases e : j = x.o.id <;> simp [h1, e]
                                                   refine J.meet (sput ltN x.o.id (.bool true) T) (by rw [h2]; exact hT.put _) ⟨rfl, rfl, rfl, rfl, rfl, rfl, rfl, rfl, rfl, trivial⟩ rfl)
                                                | (have h1 : ¬ (x.o.kind = 7 ∧ (M.run x.o).1.status = 200) := by rw [← hy]; rintro ⟨a, c⟩; first | exact absurd a (by assumption) | exact absurd c (by assumption)
                                                   have h2 : mineUp mine x.o (M.run x.o).1 = mine := by funext j; unfold mineUp; rw [if_neg (fun a => h1 ⟨a.1, a.2.1⟩)]
                                                   refine J.meet T (by rw [h2]; exact hT) ⟨rfl, rfl, rfl, rfl, rfl, rfl, rfl, rfl, rfl, trivial⟩ rfl)
                                      ·
                                        first | replace hb81 := X.tt_dec hb81 | replace hb81 := X.tt_not hb81 | replace hb81 := X.ff_dec hb81 | replace hb81 := X.ff_not hb81 | skip
                                        try (first | (cases hb81; done) | (exfalso; simp at hb81; done))
                                        all_goals
                                          refine J.skip rfl rfl ?_
                                          refine J.skip rfl rfl ?_
                                          refine J.skip rfl rfl ?_
                                          refine J.q rfl rfl (Q.pick_f rfl rfl) ?_
                                          refine J.nil ?_
                                          refine J.then_n ?_
                                          refine J.cond_f rfl ?_
                                          refine J.cskip ?_
                                          refine J.pick [0, 5, 6, 3, 1, 2, 4, 7, 8] rfl ?_
                                          first
                                            | (have h1 : x.o.kind = 7 ∧ (M.run x.o).1.status = 200 := by rw [← hy]; exact ⟨by assumption, by assumption⟩
                                               have h2 : mineUp mine x.o (M.run x.o).1 = seenUp mine x.o.id := by funext j; unfold mineUp seenUp; by_cases e : j = x.o.id <;> simp [h1, e]
                                               refine J.meet (sput ltN x.o.id (.bool true) T) (by rw [h2]; exact hT.put _) ⟨rfl, rfl, rfl, rfl, rfl, rfl, rfl, rfl, rfl, trivial⟩ rfl)
                                            | (have h1 : ¬ (x.o.kind = 7 ∧ (M.run x.o).1.status = 200) := by rw [← hy]; rintro ⟨a, c⟩; first | exact absurd a (by assumption) | exact absurd c (by assumption)
                                               have h2 : mineUp mine x.o (M.run x.o).1 = mine := by funext j; unfold mineUp; rw [if_neg (fun a => h1 ⟨a.1, a.2.1⟩)]
                                               refine J.meet T (by rw [h2]; exact hT) ⟨rfl, rfl, rfl, rfl, rfl, rfl, rfl, rfl, rfl, trivial⟩ rfl)
                                    ·
                                      have hh : hereB name mine x.o = true := by simpa using hc77
                                      obtain ⟨hs1, hs2⟩ := hR.here hM hN hck hb45 hh
                                      refine J.seq ?_
                                      refine J.drawE [3, 4] 2 Try.mixed (by kernel_rfl) rfl rfl fun hR => ?_
                                      refine RG.q 0 hR rfl rfl rfl rfl rfl rfl (Q.ldN (vs := [_, _, _, _, _]) Try.isAgg41 Try.sizeOf41 rfl (by first | exact ReadsN.pt 0 rfl | exact ReadsN.pt 1 rfl | exact ReadsN.pt 2 rfl | exact ReadsN.pt 3 rfl | exact ReadsN.pt 4 rfl | exact ReadsN.pt 5 rfl | exact ReadsN.pt 6 rfl | exact ReadsN.pt 7 rfl | exact ReadsN.pt 8 rfl | exact ReadsN.pt 9 rfl | exact ReadsN.pt 10 rfl | exact ReadsN.pt 11 rfl | exact ReadsN.pt 12 rfl | exact ReadsN.pt 13 rfl)) ?_
                                      refine RG.q 1 hR rfl rfl rfl rfl rfl rfl (Q.mv rfl) ?_
                                      refine RG.q 2 hR rfl rfl rfl rfl rfl rfl (Q.ldN (vs := [_, _, _, _, _, _, _, _, _]) Try.isAgg26 Try.sizeOf26 rfl (by first | exact ReadsN.pt 0 rfl | exact ReadsN.pt 1 rfl | exact ReadsN.pt 2 rfl | exact ReadsN.pt 3 rfl | exact ReadsN.pt 4 rfl | exact ReadsN.pt 5 rfl | exact ReadsN.pt 6 rfl | exact ReadsN.pt 7 rfl | exact ReadsN.pt 8 rfl | exact ReadsN.pt 9 rfl | exact ReadsN.pt 10 rfl | exact ReadsN.pt 11 rfl | exact ReadsN.pt 12 rfl | exact ReadsN.pt 13 rfl)) ?_
                                      refine RG.callk 3 hR rfl rfl rfl rfl rfl Try.call13 (do_all n N hN kN (by omega) x G hxo) [2, 3] rfl rfl ?_
                                      rintro _ _ ⟨y', rfl, hy', rfl⟩
                                      refine ⟨_, X.pick_perm (is := [3, 4]) rfl, ?_⟩
                                      refine RG.call 4 hR rfl rfl rfl rfl rfl rfl Try.call15 (same_own y y' (by rw [hy]; have := run_small hM x.o; omega) (by rw [hy']; have := run_small hN x.o; omega)) [6, 3] rfl rfl ?_
                                      rintro _ _ ⟨rfl, rfl⟩
                                      refine RG.norm rfl ?_
                                      refine RG.q 5 hR rfl rfl rfl rfl rfl rfl (Q.not rfl) ?_
                                      refine RG.fin hR rfl ?_
                                      refine J.norm rfl ?_
                                      refine J.then_n ?_
                                      refine J.cases 94 rfl (fun hc94 => ?_) (fun hc94 => ?_)
                                      ·
                                        first | replace hc94 := X.tt_dec hc94 | replace hc94 := X.tt_not hc94 | replace hc94 := X.ff_dec hc94 | replace hc94 := X.ff_not hc94 | skip
                                        try (first | (cases hc94; done) | (exfalso; simp at hc94; done))
                                        all_goals
                                          refine J.cond_t rfl ?_
                                          refine J.seq ?_
                                          refine J.region ?_
                                          refine J.q rfl rfl (Q.asg rfl) ?_
                                          refine J.nil ?_
                                          refine J.then_n ?_
                                          refine J.cret ?_
                                          refine J.blk_r ?_
                                          refine J.then_r ?_
                                          refine J.lp_r ?_
                                          refine J.blk_r ?_
                                          refine J.then_r ?_
                                          first
                                            | (exfalso
                                               have hsm : sameM y.r y'.r = true := (sameM_iff _ _).2 (by rw [hy, hy']; exact hs1)
                                               rw [hsm] at hc94
                                               simp at hc94
                                               done)
                                            | (exfalso; simp_all; done)
                                            | (refine J.keep [6, 7] rfl ?_
                                               refine J.ret1 (B := [G]) rfl rfl ⟨rfl, rfl⟩ rfl)
                                      ·
                                        first | replace hc94 := X.tt_dec hc94 | replace hc94 := X.tt_not hc94 | replace hc94 := X.ff_dec hc94 | replace hc94 := X.ff_not hc94 | skip
                                        try (first | (cases hc94; done) | (exfalso; simp at hc94; done))
                                        all_goals
                                          refine J.cond_f rfl ?_
                                          refine J.cskip ?_
                                          refine J.blk_n ?_
                                          refine J.then_n ?_
                                          refine J.region ?_
                                          refine J.q rfl rfl (Q.mv rfl) ?_
                                          refine J.q rfl rfl (Q.add64 rfl rfl (by omega)) ?_
                                          refine J.q rfl rfl (Q.asg rfl) ?_
                                          refine J.nil ?_
                                          refine J.keep [6, 4, 7, 8, 5, 9] rfl ?_
                                          refine J.again (i + 1, (M.run x.o).2, (N.run x.o).2, seenUp seen x.o.id, mineUp mine x.o (M.run x.o).1, sput ltN x.o.id (.bool true) S, T') ⟨by show i + 1 ≤ ln; omega, hs2, ⟨run_ok hM _, run_ok hN _⟩, ⟨run_kok hM kM _, run_kok hN kN _⟩, hS.put _, hT'⟩ (by show ln - (i + 1) < ln - i; omega) ⟨(by show _ = some (Value.slice lp ln lc); rw [hlp]; rfl), rfl, rfl, rfl, rfl, rfl, rfl, trivial⟩ rfl
                  ·
                    first | replace hc34 := X.tt_dec hc34 | replace hc34 := X.tt_not hc34 | replace hc34 := X.ff_dec hc34 | replace hc34 := X.ff_not hc34 | skip
                    try (first | (cases hc34; done) | (exfalso; simp at hc34; done))
                    all_goals
                      refine J.cond_f rfl ?_
                      refine J.exit ?_
                      refine J.then_x ?_
                      refine J.lp_x ?_
                      refine J.blk_x ?_
                      refine J.then_n ?_
                      refine J.seq ?_
                      refine J.region ?_
                      refine J.q rfl rfl (Q.mv rfl) ?_
                      refine J.q rfl rfl (Q.mv rfl) ?_
                      refine J.call Try.call16 (objects_spec m M hM kM (by omega) name) [0] rfl rfl rfl rfl ?_
                      rintro _ _ ⟨pa, ca, rfl, rfl⟩
                      refine J.norm rfl ?_
                      refine J.q rfl rfl (Q.asg rfl) ?_
                      refine J.nil ?_
                      refine J.then_n ?_
                      refine J.seq ?_
                      refine J.region ?_
                      refine J.q rfl rfl (Q.mv rfl) ?_
                      refine J.q rfl rfl (Q.mv rfl) ?_
                      refine J.call Try.call16 (objects_spec n N hN kN (by omega) name) [2] rfl rfl rfl rfl ?_
                      rintro _ _ ⟨pb, cb, rfl, rfl⟩
                      refine J.norm rfl ?_
                      rw [← hR.keys]
                      obtain ⟨ks, hks⟩ : ∃ ks, ks = keysM M name := ⟨_, rfl⟩
                      rw [← hks]
                      refine J.slr1 0 rfl fun hsb => ?_
                      refine J.slr1 2 rfl fun hsa => ?_
                      have hkl : ks.length ≤ 9223372036854775807 := by
                        have e : ks.length ≤ 400 := by
                          rw [hks]; unfold keysM
                          cases hB : sget name M.buckets with
                          | none => exact Nat.zero_le _
                          | some o => have := (hM.os _ _ hB).2.1; simp only [List.length_map]; omega
                        omega
                      refine J.q rfl rfl (Q.asg rfl) ?_
                      refine J.nil ?_
                      refine J.then_n ?_
                      refine J.seq ?_
                      refine J.seq ?_
                      refine J.region ?_
                      refine J.q rfl rfl (Q.mv rfl) ?_
                      refine J.q rfl rfl (Q.lenSl Try.runUnderlying39 rfl) ?_
                      refine J.q rfl rfl (Q.mv rfl) ?_
                      refine J.q rfl rfl (Q.lenSl Try.runUnderlying39 rfl) ?_
                      refine J.q rfl rfl (Q.neq rfl rfl) ?_
                      refine J.nil ?_
                      refine J.then_n ?_
                      refine J.cases 105 rfl (fun hc105 => ?_) (fun hc105 => ?_)
                      ·
                        first | replace hc105 := X.tt_dec hc105 | replace hc105 := X.tt_not hc105 | replace hc105 := X.ff_dec hc105 | replace hc105 := X.ff_not hc105 | skip
                        try (first | (cases hc105; done) | (exfalso; simp at hc105; done))
                        all_goals
                          refine J.cond_t rfl ?_
                          refine J.seq ?_
                          refine J.region ?_
                          refine J.q rfl rfl (Q.asg rfl) ?_
                          refine J.nil ?_
                          refine J.then_n ?_
                          refine J.cret ?_
                          refine J.then_r ?_
                          first
                            | (exfalso
                               have hsm : sameM y.r y'.r = true := (sameM_iff _ _).2 (by rw [hy, hy']; exact hs1)
                               rw [hsm] at hc94
                               simp at hc94
                               done)
                            | (exfalso; simp_all; done)
                            | (refine J.keep [6, 7] rfl ?_
                               refine J.ret1 (B := [G]) rfl rfl ⟨rfl, rfl⟩ rfl)
                      ·
                        first | replace hc105 := X.tt_dec hc105 | replace hc105 := X.tt_not hc105 | replace hc105 := X.ff_dec hc105 | replace hc105 := X.ff_not hc105 | skip
                        try (first | (cases hc105; done) | (exfalso; simp at hc105; done))
                        all_goals
                          refine J.cond_f rfl ?_
                          refine J.cskip ?_
                          refine J.then_n ?_
                          refine J.seq ?_
                          refine J.seq ?_
                          refine J.region ?_
                          refine J.q rfl rfl (Q.asg rfl) ?_
                          refine J.nil ?_
                          refine J.then_n ?_
                          refine J.block ?_
                          refine J.loop (fun j : Nat => j ≤ ks.length) (fun j => ks.length - j) (fun j => [(13, .slice pa ks.length ca), (14, .slice pb ks.length cb), (15, .int .i64 j)]) (fun _ => [own 9 1 (.slice pb ks.length cb) (ks.map Value.string), BktAt n N, own 9 1 (.slice pa ks.length ca) (ks.map Value.string), BktAt m M, MapAt encU plainRep b30 S, MapAt encU plainRep b29 T, G, F]) 0 (Nat.zero_le _) ⟨rfl, rfl, rfl, trivial⟩ rfl fun j hj => ?_
                          refine J.seq ?_
                          refine J.seq ?_
                          refine J.region ?_
                          refine J.q rfl rfl (Q.mv rfl) ?_
                          refine J.q rfl rfl (Q.mv rfl) ?_
                          refine J.q rfl rfl (Q.lenSl Try.runUnderlying39 rfl) ?_
                          refine J.q rfl rfl (Q.lss rfl rfl) ?_
                          refine J.nil ?_
                          refine J.then_n ?_
                          refine J.cases 109 rfl (fun hc109 => ?_) (fun hc109 => ?_)
                          ·
                            first | replace hc109 := X.tt_dec hc109 | replace hc109 := X.tt_not hc109 | replace hc109 := X.ff_dec hc109 | replace hc109 := X.ff_not hc109 | skip
                            try (first | (cases hc109; done) | (exfalso; simp at hc109; done))
                            all_goals
                              refine J.cond_t rfl ?_
                              refine J.cskip ?_
                              refine J.then_n ?_
                              refine J.seq ?_
                              refine J.block ?_
                              refine J.seq ?_
                              obtain ⟨ba, oa, hpa, hra⟩ := hsa.some_ (by omega)
                              obtain ⟨bb, ob, hpb, hrb⟩ := hsb.some_ (by omega)
                              obtain ⟨a, hka⟩ : ∃ a, ks[j]? = some a := ⟨_, List.getElem?_eq_getElem (by omega)⟩
                              refine J.slot 13 (.slice (some ⟨ba, oa, none⟩) ks.length ca) rfl (by rw [hpa]) ?_
                              refine J.slot 14 (.slice (some ⟨bb, ob, none⟩) ks.length cb) rfl (by rw [hpb]) ?_
                              refine J.draw [] Try.mixed (by kernel_rfl) fun hR => ?_
                              refine RG.q 0 hR rfl rfl rfl rfl rfl rfl (Q.mv rfl) ?_
                              refine RG.q 1 hR rfl rfl rfl rfl rfl rfl (Q.mv rfl) ?_
                              refine RG.q 2 hR rfl rfl rfl rfl rfl rfl (Q.ia Try.runUnderlying39 Try.sizeOf9 rfl rfl (by omega) (by omega)) ?_
                              refine RG.q 3 hR rfl rfl rfl rfl rfl rfl (Q.ld Try.isAgg9 rfl (((hra j (.string a) (by simp [hka])).within (i := 2) rfl).cast (by simp))) ?_
                              refine RG.q 4 hR rfl rfl rfl rfl rfl rfl (Q.mv rfl) ?_
                              refine RG.q 5 hR rfl rfl rfl rfl rfl rfl (Q.mv rfl) ?_
                              refine RG.q 6 hR rfl rfl rfl rfl rfl rfl (Q.ia Try.runUnderlying39 Try.sizeOf9 rfl rfl (by omega) (by omega)) ?_
                              refine RG.q 7 hR rfl rfl rfl rfl rfl rfl (Q.ld Try.isAgg9 rfl (((hrb j (.string a) (by simp [hka])).within (i := 0) rfl).cast (by simp))) ?_
                              refine RG.q 8 hR rfl rfl rfl rfl rfl rfl (Q.neqs rfl rfl) ?_
                              refine RG.fin hR rfl ?_
                              refine J.norm rfl ?_
                              refine J.then_n ?_
                              refine J.cases 120 rfl (fun hc120 => ?_) (fun hc120 => ?_)
                              ·
                                first | replace hc120 := X.tt_dec hc120 | replace hc120 := X.tt_not hc120 | replace hc120 := X.ff_dec hc120 | replace hc120 := X.ff_not hc120 | skip
                                try (first | (cases hc120; done) | (exfalso; simp at hc120; done))
                                all_goals
                                  refine J.cond_t rfl ?_
                                  refine J.seq ?_
                                  refine J.region ?_
                                  refine J.q rfl rfl (Q.asg rfl) ?_
                                  refine J.nil ?_
                                  refine J.then_n ?_
                                  refine J.cret ?_
                                  refine J.blk_r ?_
                                  refine J.then_r ?_
                                  refine J.lp_r ?_
                                  refine J.blk_r ?_
                                  refine J.then_r ?_
                                  first
                                    | (exfalso
                                       have hsm : sameM y.r y'.r = true := (sameM_iff _ _).2 (by rw [hy, hy']; exact hs1)
                                       rw [hsm] at hc94
                                       simp at hc94
                                       done)
                                    | (exfalso; simp_all; done)
                                    | (refine J.keep [6, 7] rfl ?_
                                       refine J.ret1 (B := [G]) rfl rfl ⟨rfl, rfl⟩ rfl)
                              ·
                                first | replace hc120 := X.tt_dec hc120 | replace hc120 := X.tt_not hc120 | replace hc120 := X.ff_dec hc120 | replace hc120 := X.ff_not hc120 | skip
                                try (first | (cases hc120; done) | (exfalso; simp at hc120; done))
                                all_goals
                                  refine J.cond_f rfl ?_
                                  refine J.cskip ?_
                                  refine J.blk_n ?_
                                  refine J.then_n ?_
                                  refine J.region ?_
                                  refine J.q rfl rfl (Q.mv rfl) ?_
                                  refine J.q rfl rfl (Q.add64 rfl rfl (by omega)) ?_
                                  refine J.q rfl rfl (Q.asg rfl) ?_
                                  refine J.nil ?_
                                  refine J.again (j + 1) (by show j + 1 ≤ _; omega) (by show ks.length - (j + 1) < ks.length - j; omega) ⟨(by show _ = some (Value.slice pa _ _); rw [hpa]; rfl), (by show _ = some (Value.slice pb _ _); rw [hpb]; rfl), rfl, trivial⟩ rfl
                          ·
                            first | replace hc109 := X.tt_dec hc109 | replace hc109 := X.tt_not hc109 | replace hc109 := X.ff_dec hc109 | replace hc109 := X.ff_not hc109 | skip
                            try (first | (cases hc109; done) | (exfalso; simp at hc109; done))
                            all_goals
                              refine J.cond_f rfl ?_
                              refine J.exit ?_
                              refine J.then_x ?_
                              refine J.lp_x ?_
                              refine J.blk_x ?_
                              refine J.then_n ?_
                              refine J.seq ?_
                              refine J.region ?_
                              refine J.q rfl rfl (Q.asg rfl) ?_
                              refine J.nil ?_
                              refine J.then_n ?_
                              refine J.cret ?_
                              first
                                | (exfalso
                                   have hsm : sameM y.r y'.r = true := (sameM_iff _ _).2 (by rw [hy, hy']; exact hs1)
                                   rw [hsm] at hc94
                                   simp at hc94
                                   done)
                                | (exfalso; simp_all; done)
                                | (refine J.keep [6, 7] rfl ?_
                                   refine J.ret1 (B := [G]) rfl rfl ⟨rfl, rfl⟩ rfl)
end Go.Proofs.Ytdancegklkifaaa
