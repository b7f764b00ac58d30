/-
  slices.Sort over strings, as a contract over assertions.
-/
import Derived.Test.YtkekcdcmmggbaaaShelf
import Derived.Test.YtkekcdcmmggbaaaXt
import Derived.Test.YtkekcdcmmggbaaaXj
namespace Go.Proofs.Ytkekcdcmmggbaaa
open Go.X

def sortN (l : List (List UInt8)) : List (List UInt8) := l.mergeSort fun x y => decide (x ≤ y)
theorem sortN_perm (l : List (List UInt8)) : (sortN l).Perm l := List.mergeSort_perm l _
theorem sortN_length (l : List (List UInt8)) : (sortN l).length = l.length := (sortN_perm l).length_eq

/-- A contract of the shelf's make: the world is as it was. -/
theorem FSpec_of_calls {P : Program} {f : FuncId} {args : List Value} {v : Value} (h : ∀ w, Calls P f args.toArray w fun e w' => e = .returned v ∧ w' = w) : FSpec P f args [] (fun u B => u = v ∧ B = []) :=
  ⟨fun W0 w F s => (h w).mono (by rintro e w' ⟨rfl, rfl⟩; exact ⟨v, [], rfl, ⟨rfl, rfl⟩, s⟩)⟩

theorem len0_spec : FSpec Try.prog 57 [.int .u64 0] [] (fun u B => u = .int .i64 0 ∧ B = []) :=
  FSpec_of_calls (args := [.int .u64 0]) fun w => (Try.bits_Len 0 w (by omega) (by omega)).mono (by rintro e w' ⟨rfl, rfl⟩; exact ⟨rfl, rfl⟩)

theorem insert_nil : FSpec Try.prog 58 [.slice none 0 0, .int .i64 0, .int .i64 0] [] (fun u B => u = .tuple #[] ∧ B = []) := by
  refine FSpec.of Try.func58 rfl Try.ntmps58 rfl fun W0 F => ?_
  refine J.seq ?_
  refine J.region ?_
  refine J.q rfl rfl (Q.mv rfl) ?_
  refine J.q rfl rfl (Q.add64 rfl rfl (by omega)) ?_
  refine J.q rfl rfl (Q.asg rfl) ?_
  refine J.nil ?_
  refine J.then_n ?_
  refine J.block ?_
  refine J.loop (fun _ : Unit => True) (fun _ => 0) (fun _ => [(6, .int .i64 1), (2, .int .i64 0)]) (fun _ => [F]) () trivial ⟨rfl, rfl, trivial⟩ rfl fun _ _ => ?_
  refine J.seq ?_
  refine J.seq ?_
  refine J.region ?_
  refine J.q rfl rfl (Q.mv rfl) ?_
  refine J.q rfl rfl (Q.mv rfl) ?_
  refine J.q rfl rfl (Q.lss rfl rfl) ?_
  refine J.nil ?_
  refine J.then_n ?_
  refine J.cond rfl (fun hc12 => ?_) (fun hc12 => ?_)
  ·
    exact absurd hc12 (by decide)
  ·
    first | replace hc12 := X.tt_dec hc12 | replace hc12 := X.tt_not hc12 | replace hc12 := X.ff_dec hc12 | replace hc12 := X.ff_not hc12 | skip
    skip
    refine J.exit ?_
    refine J.then_x ?_
    refine J.lp_x ?_
    refine J.blk_x ?_
    refine J.end0 (B := []) rfl ⟨rfl, rfl⟩ rfl

theorem pdq_nil : FSpec Try.prog 56 [.slice none 0 0, .int .i64 0, .int .i64 0, .int .i64 0] [] (fun u B => u = .tuple #[] ∧ B = []) := by
  refine FSpec.of Try.func56 rfl Try.ntmps56 rfl fun W0 F => ?_
  refine J.seq ?_
  refine J.region ?_
  refine J.q rfl rfl (Q.asg rfl) ?_
  refine J.nil ?_
  refine J.then_n ?_
  refine J.seq ?_
  refine J.region ?_
  refine J.q rfl rfl (Q.asg rfl) ?_
  refine J.nil ?_
  refine J.then_n ?_
  refine J.block ?_
  refine J.loop (fun _ : Unit => True) (fun _ => 0) (fun _ => [(0, .slice none 0 0), (1, .int .i64 0), (2, .int .i64 0)]) (fun _ => [F]) () trivial ⟨rfl, rfl, rfl, trivial⟩ rfl fun _ _ => ?_
  refine J.block ?_
  refine J.seq ?_
  refine J.region ?_
  refine J.q rfl rfl (Q.mv rfl) ?_
  refine J.q rfl rfl (Q.mv rfl) ?_
  refine J.q rfl rfl (Q.sub64 rfl rfl (by omega)) ?_
  refine J.q rfl rfl (Q.asg rfl) ?_
  refine J.nil ?_
  refine J.then_n ?_
  refine J.seq ?_
  refine J.seq ?_
  refine J.region ?_
  refine J.q rfl rfl (Q.mv rfl) ?_
  refine J.q rfl rfl (Q.leq rfl rfl) ?_
  refine J.nil ?_
  refine J.then_n ?_
  refine J.cond rfl (fun hc23 => ?_) (fun hc23 => ?_)
  ·
    first | replace hc23 := X.tt_dec hc23 | replace hc23 := X.tt_not hc23 | replace hc23 := X.ff_dec hc23 | replace hc23 := X.ff_not hc23 | skip
    skip
    refine J.seq ?_
    refine J.region ?_
    refine J.q rfl rfl (Q.mv rfl) ?_
    refine J.q rfl rfl (Q.mv rfl) ?_
    refine J.q rfl rfl (Q.mv rfl) ?_
    refine J.call Try.call58 (insert_nil) [] rfl rfl rfl rfl ?_
    rintro _ _ ⟨rfl, rfl⟩
    refine J.norm rfl ?_
    refine J.nil ?_
    refine J.then_n ?_
    refine J.cret ?_
    refine J.then_r ?_
    refine J.blk_r ?_
    refine J.lp_r ?_
    refine J.blk_r ?_
    refine J.ret0 (B := []) rfl ⟨rfl, rfl⟩ rfl
  ·
    exact absurd hc23 (by decide)

theorem sort_nil : FSpec Try.prog 45 [.slice none 0 0] [] (fun u B => u = .tuple #[] ∧ B = []) := by
  refine FSpec.of Try.func45 rfl Try.ntmps45 rfl fun W0 F => ?_
  refine J.seq ?_
  refine J.region ?_
  refine J.q rfl rfl (Q.mv rfl) ?_
  refine J.q rfl rfl (Q.lenSl Try.runUnderlying28 rfl) ?_
  refine J.q rfl rfl (Q.asg rfl) ?_
  refine J.nil ?_
  refine J.then_n ?_
  refine J.region ?_
  refine J.q rfl rfl (Q.mv rfl) ?_
  refine J.q rfl rfl (Q.mv rfl) ?_
  refine J.q rfl rfl (Q.mv rfl) ?_
  refine J.q rfl rfl (Q.conv Try.runUnderlying3 Try.runUnderlying90 rfl) ?_
  refine J.slot 8 (.int .u64 0) rfl (congrArg (Value.int .u64) (by decide)) ?_
  refine J.call Try.call57 (len0_spec) [] rfl rfl rfl rfl ?_
  rintro _ _ ⟨rfl, rfl⟩
  refine J.norm rfl ?_
  refine J.call Try.call56 (pdq_nil) [] rfl rfl rfl rfl ?_
  rintro _ _ ⟨rfl, rfl⟩
  refine J.norm rfl ?_
  refine J.nil ?_
  refine J.end0 (B := []) rfl ⟨rfl, rfl⟩ rfl

theorem hp_grow (w : World) (os : Array Obj) : Sub (hp w) (hp (Go.Sort.grow w os)) := by
  intro b o h
  simp only [hp, Go.Sort.grow] at h ⊢
  rw [Array.getElem?_append_left]
  · exact h
  · rcases Nat.lt_or_ge b w.heap.size with q | q
    · exact q
    · rw [Array.getElem?_eq_none q] at h; cases h

theorem sort_spec (sp : Option Addr) (sc : Nat) (ss : List (List UInt8)) (hsz : ss.length < 4611686018427387904) :
    FSpec Try.prog 45 [.slice sp ss.length sc] [own 9 1 (.slice sp ss.length sc) (ss.map encStr)] (fun v B => v = .tuple #[] ∧ B = [own 9 1 (.slice sp ss.length sc) ((sortN ss).map encStr)]) := by
  refine ⟨fun W0 w F s => ?_⟩
  obtain ⟨k, hk, hs'⟩ := s.heap.at_ (i := 0) rfl
  rcases hk with ⟨e1, e2⟩ | ⟨o', ho', _⟩
  · simp only [Value.slice.injEq] at e1
    obtain ⟨rfl, e3, rfl⟩ := e1
    have hss : ss = [] := List.length_eq_zero_iff.1 e3
    subst hss
    refine (sort_nil.call W0 w (star [own 9 1 (.slice none 0 0) [], F]) ⟨s.os, s.tape, s.out, HSat.pack (As := [own 9 1 (.slice none 0 0) [], F]) (Bs := []) s.heap⟩).mono ?_
    rintro e w' ⟨v, B, rfl, ⟨rfl, rfl⟩, t⟩
    have h0 : sortN [] = [] := by simp [sortN]
    refine ⟨_, _, rfl, ⟨rfl, rfl⟩, ⟨t.os, t.tape, t.out, ?_⟩⟩
    rw [h0]
    exact HSat.unpack (As := [own 9 1 (.slice none 0 0) [], F]) (Bs := []) t.heap
  · have hv' := ho'.val
    obtain ⟨o, ho, hh⟩ := open_at (i := 0) (p := fun o : Lies => o.ok 1 (.slice sp ss.length sc) (ss.map encStr)) (Y := fun o => pt o.b (.cells o.l.toArray 9 o.z)) s.heap rfl (by
      rintro k (⟨e1, _⟩ | h)
      · rw [hv'] at e1; cases e1
      · exact h)
    have hval := ho.val
    simp only [Value.slice.injEq] at hval
    obtain ⟨rfl, hlen, rfl⟩ := hval
    have s1 : Sat W0 w [pt o.b (.cells o.l.toArray 9 o.z), F] := ⟨s.os, s.tape, s.out, hh⟩
    have hb := s1.at_ (i := 0) rfl
    have hfit := ho.fits
    have hcap := ho.cap
    have hblk : o.b < w.heap.size := by
      rcases Nat.lt_or_ge o.b w.heap.size with q | q
      · exact q
      · rw [Array.getElem?_eq_none q] at hb; cases hb
    have hlt : ∀ j, j < ss.length → o.l[o.off + j]? = some (encStr ss.toArray[j]!) := by
      intro j hj
      refine ho.get j _ ?_
      simp [hj]
    have hH : Go.Sort.Holds encStr w o.b o.off ss.toArray := by
      intro j hj
      have hj' : j < ss.length := by simpa using hj
      refine ⟨by simp [World.cell?, hb, hlt j hj'], ?_⟩
      have := ho.free (o.off + j) (by have := (List.getElem?_eq_some_iff.1 (hlt j hj')).1; exact this)
      simp only [World.frozen?, hb]; exact this
    refine (Try.slices_Sort_string o.b o.off o.cap ss w hH hblk hsz).mono ?_
    rintro e w' ⟨rfl, n, os, rfl⟩
    refine ⟨_, _, rfl, ⟨rfl, rfl⟩, ?_⟩
    -- the block behind the sort
    have hlist : ∃ l2 : List Value, (Go.Sort.putCells encStr o.off (sortN ss).toArray o.l.toArray) = l2.toArray ∧ l2.length = o.l.length ∧ ∀ j u, ((sortN ss).map encStr)[j]? = some u → l2[o.off + j]? = some u := by
      refine ⟨(Go.Sort.putCells encStr o.off (sortN ss).toArray o.l.toArray).toList, by simp, by simp [Go.Sort.putCells], ?_⟩
      intro j u hj
      have hjl : j < (sortN ss).length := by simpa using (List.getElem?_eq_some_iff.1 hj).1
      have hjl' : j < ss.length := by rw [← sortN_length]; exact hjl
      have hin : o.off + j < o.l.length := (List.getElem?_eq_some_iff.1 (hlt j hjl')).1
      rw [List.getElem?_map, List.getElem?_eq_getElem hjl] at hj
      simp only [Option.map_some, Option.some.injEq] at hj
      have hcond : o.off ≤ o.off + j ∧ o.off + j < o.off + (sortN ss).length := by omega
      simp [Go.Sort.putCells, hin, hcond, hjl, ← hj]
    obtain ⟨l2, h1, h2, h3⟩ := hlist
    have hpw : hp (Go.Sort.putRow encStr (Go.Sort.ahead w n) o.b o.off (sortN ss).toArray) = upd (hp w) o.b (.cells l2.toArray 9 o.z) := by
      unfold Go.Sort.putRow Go.Sort.mapBlock
      rw [hp_modify (Go.Sort.ahead w n) o.b _ (.cells o.l.toArray 9 o.z) hb]
      rw [← h1]; rfl
    have s2 : Sat W0 (Go.Sort.putRow encStr (Go.Sort.ahead w n) o.b o.off (sortN ss).toArray) [pt o.b (.cells l2.toArray 9 o.z), F] := s1.set (i := 0) rfl _ rfl rfl rfl hpw
    refine ⟨s2.os, s2.tape, s2.out, HSat.mono (HSat.imp s2.heap ?_) (hp_grow _ os)⟩
    intro k hk
    exact .inr ⟨{ o with l := l2 }, ⟨by rw [hlen], by simp [sortN_length, hlen], hcap, by rw [h2]; exact hfit, h3, by rw [h2]; exact ho.free⟩, hk⟩

end Go.Proofs.Ytkekcdcmmggbaaa
