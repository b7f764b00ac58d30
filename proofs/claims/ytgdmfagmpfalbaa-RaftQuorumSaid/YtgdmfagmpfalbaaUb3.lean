/-
  What the proof of the last of these texts leans on: part 3 of 5.
-/
import Derived.Test.YtgdmfagmpfalbaaRows
import Derived.Shelf.SortM.Plain
import Derived.Shelf.SortM.SortNone
import Derived.Ground.SlgmProg
import Derived.Test.YtgdmfagmpfalbaaUb2
set_option linter.unusedSectionVars false
set_option linter.unusedVariables false
set_option linter.unusedSimpArgs false
namespace Go.Proofs.Ytgdmfagmpfalbaa
open Go.Proofs.Try
open Go.X

section
variable (G : Assn) (r : Nat) (p : Option Addr) (n c : Nat) (bs rest : List UInt8) (v : Nat) (hr : SlR [G] 1 (.slice p n c) (bytesV bs)) (hbs : bs = numB v ++ rest) (hn : n ≤ 1099511627776) (hc : n ≤ c)
include hr hbs hn hc
theorem upTo_r (most : Nat) (hv : v ≤ most) (hm : most ≤ 1099511627776) :
    FSpec Try.prog 48 [.pointer (some ⟨r, 0, none⟩), .int .u64 most] [rdA r p n c, G] (fun u B => ∃ p' n' c', u = .int .i64 v ∧ SlR [G] 1 (.slice p' n' c') (bytesV rest) ∧ n' ≤ 1099511627776 ∧ n' ≤ c' ∧ B = [rdA r p' n' c', G]) := by
  refine FSpec.of func48 rfl ntmps48 rfl fun W0 F => ?_
  refine J.seq <| J.region <| J.p rfl (Q.asg rfl) <| J.nil <| J.then_n <| J.seq <| J.region <| J.m rfl ?_
  refine J.call call45 (number_r G r p n c bs rest v hr hbs (by omega) hn hc) [0, 1] rfl rfl rfl rfl ?_
  rintro _ _ ⟨p', n', c', rfl, hs', hn', hc', rfl⟩
  refine J.norm rfl ?_
  refine J.conv (Y := pt r (.cells [Value.slice p' n' c', .int .i64 0].toArray 107 (0, 0))) 0 rfl (fun _ h => h) ?_
  refine J.p rfl (Q.asg rfl) <| J.nil <| J.then_n <| J.seq <| J.seq <| J.region <| J.m rfl <| J.p rfl (Q.nil_ rfl) <| J.p rfl (Q.fa (n := 1) runUnderlying107 rfl rfl sizeOf38 rfl) ?_
  refine J.p rfl (Q.ldI isAgg38 rfl) ?_
  refine J.p rfl (Q.eql rfl rfl) <| J.m rfl ?_
  refine J.kases 13 rfl (fun hb13 => ?_) (fun hb13 => ?_)
  ·
   refine J.m rfl <| J.m rfl <| J.p rfl (Q.gtr rfl rfl) <| J.p rfl (Q.pick_t rfl rfl) <| J.nil <| J.then_n ?_
   refine J.cases 17 rfl (fun hc17 => ?_) (fun hc17 => ?_)
   ·
    exact absurd (of_decide_eq_true hc17) (by omega)
   replace hc17 := X.nm hc17
   refine J.cond_f rfl <| J.cskip <| J.then_n <| J.seq <| J.region <| J.m rfl <| J.p rfl (Q.conv64 runUnderlying56 runUnderlying3 rfl (by omega)) ?_
   refine J.slot 22 (.int .i64 (v : Int)) rfl rfl ?_
   refine J.p rfl (Q.asg rfl) <| J.nil <| J.then_n <| J.cret ?_
   refine J.ret1 (B := [rdA r p' n' c', G]) rfl rfl ⟨p', n', c', rfl, hs', hn', hc', rfl⟩ rfl
  refine J.k rfl <| J.k rfl <| J.k rfl <| J.p rfl (Q.pick_f rfl rfl) <| J.nil <| J.then_n <| J.cond_f rfl <| J.cskip <| J.then_n <| J.seq <| J.region <| J.m rfl <| J.p rfl (Q.conv64 runUnderlying56 runUnderlying3 rfl (by omega)) ?_
  refine J.slot 22 (.int .i64 (v : Int)) rfl rfl ?_
  refine J.p rfl (Q.asg rfl) <| J.nil <| J.then_n <| J.cret ?_
  refine J.ret1 (B := [rdA r p' n' c', G]) rfl rfl ⟨p', n', c', rfl, hs', hn', hc', rfl⟩ rfl
theorem small_r (hv : v ≤ 1099511627776) :
    FSpec Try.prog 44 [.pointer (some ⟨r, 0, none⟩)] [rdA r p n c, G] (fun u B => ∃ p' n' c', u = .int .i64 v ∧ SlR [G] 1 (.slice p' n' c') (bytesV rest) ∧ n' ≤ 1099511627776 ∧ n' ≤ c' ∧ B = [rdA r p' n' c', G]) := by
  refine FSpec.of func44 rfl ntmps44 rfl fun W0 F => ?_
  refine J.seq <| J.region <| J.p rfl (Q.asg rfl) <| J.nil <| J.then_n <| J.seq <| J.region <| J.m rfl ?_
  refine J.call call48 (upTo_r G r p n c bs rest v hr hbs hn hc 1099511627776 hv (Nat.le_refl _)) [0, 1] rfl rfl rfl rfl ?_
  rintro _ _ ⟨p', n', c', rfl, hs', hn', hc', rfl⟩
  refine J.norm rfl <| J.p rfl (Q.asg rfl) <| J.nil <| J.then_n <| J.cret ?_
  refine J.ret1 (B := [rdA r p' n' c', G]) rfl rfl ⟨p', n', c', rfl, hs', hn', hc', rfl⟩ rfl
end
end Go.Proofs.Ytgdmfagmpfalbaa
namespace Go.Proofs.Ytgdmfagmpfalbaa
open Go.Proofs.Try
open Go.X
open Go.Rf (Rec XM Ms Nd)

theorem openHd {P : Program} {f : FuncId} {args : List Value} {R : Value → List Assn → Prop} {α : Type} {U : Assn} {Bs : α → List Assn} {p : α → Prop} {As : List Assn} (g : ∀ h, U h → ∃ x, p x ∧ HSat h (Bs x)) (k : ∀ x, p x → FSpec P f args (Bs x ++ As) R) : FSpec P f args (U :: As) R := by
  refine ⟨fun W0 w F s => ?_⟩
  obtain ⟨h1, h2, a, b, d, u, v⟩ := s.heap
  obtain ⟨x, px, hx⟩ := g h1 a
  refine (k x px).call W0 w F ⟨s.os, s.tape, s.out, ?_⟩
  rw [List.append_assoc]
  exact HSat.of_append hx b d u v

theorem slr_part {D : List Assn} {b off n c k m : Nat} {xs : List Value} (h : ReadsN D b off xs) (hl : xs.length = n) (hk : k + m ≤ n) (hc : n ≤ c) :
    ∃ (o2 : Option Addr) (d2 : Nat), SlR D 1 (.slice o2 m d2) ((xs.drop k).take m) ∧ Value.slice (some ⟨b, off + (if c = k then 0 else k) * 1, none⟩) (k + m - k) (c - k) = .slice o2 m d2 := by
  refine ⟨_, _, ?_, by rw [Nat.add_sub_cancel_left]⟩
  by_cases e : m = 0
  · subst e
    exact .inl ⟨_, c - k, rfl, rfl⟩
  · rw [if_neg (by omega), Nat.mul_one]
    refine .inr ⟨b, off + k, m, c - k, rfl, by rw [List.length_take, List.length_drop]; omega, fun j u hu => ?_⟩
    have hj : j < m := by
      have := (List.getElem?_eq_some_iff.1 hu).1
      rw [List.length_take] at this; omega
    rw [List.getElem?_take_of_lt hj, List.getElem?_drop] at hu
    have := h (k + j) u hu
    rwa [← Nat.add_assoc] at this

theorem readBytes_w (G : Assn) (p : Option Addr) (n c : Nat) (bs rest v : List UInt8) (hr : SlR [G] 1 (.slice p n c) (bytesV bs)) (hbs : bs = encB v ++ rest) (hv : v.length ≤ 65536) (hn : n ≤ 1099511627776) (hc : n ≤ c) :
    FSpec Try.prog 61 [.slice p n c, .int .i64 67108864] [G] (fun u B => ∃ q d, u = .tuple #[.slice q v.length d, .int .i64 ((encB v).length : Nat), .int .i64 0] ∧ B = [own 5 1 (.slice q v.length d) (bytesV v), G]) := by
  have hlen : bs.length = n := by have := hr.len; simp [bytesV] at this; omega
  have hl2 : (numB v.length).length + v.length + rest.length = n := by rw [← hlen, hbs]; simp only [encB, List.length_append]
  have hn0 : 0 < (numB v.length).length := by obtain ⟨c0, q, f1, _⟩ := numB_first v.length; rw [f1]; simp
  obtain ⟨b, off, rfl, hrd⟩ := hr.some_ (by omega)
  refine FSpec.of func61 rfl ntmps61 rfl fun W0 F => ?_
  refine J.seq <| J.region <| J.p rfl (Q.asg rfl) <| J.p rfl (Q.asg rfl) <| J.p rfl (Q.asg rfl) <| J.nil <| J.then_n <| J.seq <| J.region <| J.m rfl ?_
  refine J.callI call54 (readNumber_spec G (some ⟨b, off, none⟩) n c bs (v ++ rest) v.length hr (by rw [hbs, encB, List.append_assoc]) (by omega) hn) rfl rfl rfl ?_
  rintro _ _ ⟨rfl, rfl⟩
  refine J.norm rfl <| J.m rfl <| J.p rfl (Q.ext rfl rfl) <| J.p rfl (Q.ext rfl rfl) <| J.p rfl (Q.ext rfl rfl) <| J.p rfl (Q.asg rfl) <| J.p rfl (Q.asg rfl) <| J.p rfl (Q.asg rfl) <| J.nil <| J.then_n <| J.seq <| J.block <| J.seq <| J.region <| J.m rfl <| J.p rfl (Q.neq rfl rfl) <| J.p rfl (Q.asg rfl) <| J.nil <| J.then_n ?_
  refine J.kases 17 rfl (fun hc17 => ?_) (fun hc17 => ?_)
  ·
   simp at hc17
  refine J.cond_f rfl <| J.seq <| J.region <| J.m rfl <| J.m rfl <| J.p rfl (Q.maxI rfl) ?_
  refine J.slot 24 (.int .i64 67108864) rfl rfl ?_
  refine J.p rfl (Q.conv runUnderlying3 runUnderlying56 rfl) ?_
  refine J.slot 25 (.int .u64 67108864) rfl rfl ?_
  refine J.p rfl (Q.gtr rfl rfl) <| J.p rfl (Q.asg rfl) <| J.nil <| J.then_n ?_
  refine J.cases 21 rfl (fun hc21 => ?_) (fun hc21 => ?_)
  ·
   exact absurd (of_decide_eq_true hc21) (by omega)
  replace hc21 := X.nm hc21
  refine J.cond_f rfl <| J.seq <| J.region <| J.m rfl <| J.m rfl <| J.p rfl (Q.lenSl runUnderlying41 rfl) <| J.m rfl <| J.p rfl (Q.sub64 rfl rfl (by omega)) <| J.p rfl (Q.conv runUnderlying3 runUnderlying56 rfl) ?_
  refine J.slot 33 (.int .u64 ((n - (numB v.length).length : Nat) : Int)) rfl (by
    rw [show (n : Int) - ((numB v.length).length : Int) = ((n - (numB v.length).length : Nat) : Int) by omega, wrap64 (by omega)]) ?_
  refine J.p rfl (Q.gtr rfl rfl) <| J.p rfl (Q.asg rfl) <| J.nil <| J.then_n ?_
  refine J.cases 27 rfl (fun hc27 => ?_) (fun hc27 => ?_)
  ·
   exact absurd (of_decide_eq_true hc27) (by omega)
  replace hc27 := X.nm hc27
  refine J.cond_f rfl <| J.cskip <| J.blk_n <| J.then_n <| J.seq <| J.region <| J.m rfl <| J.m rfl <| J.p rfl (Q.conv64 runUnderlying56 runUnderlying3 rfl (by omega)) ?_
  refine J.slot 37 (.int .i64 (v.length : Int)) rfl (by congr 1) ?_
  refine J.p rfl (Q.add64 rfl rfl (by omega)) ?_
  refine J.slot 38 (.int .i64 (((numB v.length).length + v.length : Nat) : Int)) rfl (by rw [Int.natCast_add]) ?_
  refine J.p rfl (Q.asg rfl) <| J.nil <| J.then_n <| J.seq <| J.region <| J.m rfl <| J.m rfl <| J.m rfl <| J.p rfl (Q.slLH runUnderlying41 sizeOf5 rfl rfl rfl (by omega) (by omega) (by omega)) ?_
  obtain ⟨o2, d2, hsl, hval⟩ := slr_part hrd (show (bytesV bs).length = n by simp [bytesV, hlen]) (show (numB v.length).length + v.length ≤ n by omega) hc
  have hdr : ((bytesV bs).drop (numB v.length).length).take v.length = bytesV v := by
   rw [hbs]; simp [bytesV, encB]
  rw [hdr] at hsl
  refine J.slot 42 (.slice o2 v.length d2) rfl (by rw [← hval]; simp; omega) ?_
  refine J.callI call32 (clone_spec G o2 d2 v hsl (by omega)) rfl rfl rfl ?_
  rintro _ _ ⟨q, d, rfl, rfl⟩
  refine J.norm rfl <| J.m rfl <| J.p rfl (Q.asg rfl) <| J.p rfl (Q.asg rfl) <| J.p rfl (Q.asg rfl) <| J.nil <| J.then_n <| J.cret ?_
  refine J.keepI ([own 5 1 (.slice q v.length d) (bytesV v), G] ++ [F]) ?_
  refine J.ret3 (B := [own 5 1 (.slice q v.length d) (bytesV v), G]) rfl rfl rfl rfl ⟨q, d, by simp [encB], rfl⟩ rfl

theorem bytes_r (G : Assn) (r : Nat) (p : Option Addr) (n c : Nat) (bs rest v : List UInt8) (hr : SlR [G] 1 (.slice p n c) (bytesV bs)) (hbs : bs = encB v ++ rest) (hv : v.length ≤ 65536) (hn : n ≤ 1099511627776) (hc : n ≤ c) :
    FSpec Try.prog 55 [.pointer (some ⟨r, 0, none⟩)] [rdA r p n c, G] (fun u B => ∃ q d p' n' c', u = .slice q v.length d ∧ (SlR [G] 1 (.slice p' n' c') (bytesV rest) ∧ n' ≤ 1099511627776 ∧ n' ≤ c') ∧ B = [own 5 1 (.slice q v.length d) (bytesV v), rdA r p' n' c', G]) := by
  have hlen : bs.length = n := by have := hr.len; simp [bytesV] at this; omega
  have hnl : (encB v).length ≤ n := by rw [← hlen, hbs, List.length_append]; omega
  have hn0 : 0 < (encB v).length := by obtain ⟨c0, q, f1, _⟩ := numB_first v.length; rw [encB, f1]; simp
  obtain ⟨b, off, rfl, hrd⟩ := hr.some_ (by omega)
  refine FSpec.of func55 rfl ntmps55 rfl fun W0 F => ?_
  refine J.conv (Y := pt r (.cells [Value.slice (some ⟨b, off, none⟩) n c, .int .i64 0].toArray 107 (0, 0))) 0 rfl (fun _ h => h) ?_
  refine J.seq <| J.region <| J.p rfl (Q.asg rfl) <| J.nil <| J.then_n <| J.seq <| J.seq <| J.region <| J.m rfl <| J.p rfl (Q.nil_ rfl) <| J.p rfl (Q.fa (n := 1) runUnderlying107 rfl rfl sizeOf38 rfl) ?_
  refine J.p rfl (Q.ldI isAgg38 rfl) ?_
  refine J.p rfl (Q.neq rfl rfl) <| J.nil <| J.then_n ?_
  refine J.cases 10 rfl (fun hc10 => ?_) (fun hc10 => ?_)
  ·
   cases hc10
  replace hc10 := X.nm hc10
  refine J.cond_f rfl <| J.cskip <| J.then_n <| J.seq <| J.region <| J.m rfl <| J.p rfl (Q.nil_ rfl) <| J.p rfl (Q.fa (n := 0) runUnderlying107 rfl rfl sizeOf41 rfl) ?_
  refine J.p rfl (Q.ldI isAgg41 rfl) ?_
  refine J.callI call61 (readBytes_w G (some ⟨b, off, none⟩) n c bs rest v hr hbs hv hn hc) rfl rfl rfl ?_
  rintro _ _ ⟨q, d, rfl, rfl⟩
  refine J.norm rfl <| J.m rfl <| J.p rfl (Q.ext rfl rfl) <| J.p rfl (Q.ext rfl rfl) <| J.p rfl (Q.ext rfl rfl) <| J.p rfl (Q.asg rfl) <| J.p rfl (Q.asg rfl) <| J.p rfl (Q.asg rfl) <| J.nil <| J.then_n <| J.seq <| J.region <| J.m rfl <| J.m rfl <| J.p rfl (Q.nil_ rfl) <| J.p rfl (Q.fa (n := 1) runUnderlying107 rfl rfl sizeOf38 rfl) ?_
  refine J.stJ rfl sizeOf38 rfl rfl rfl ?_
  refine J.nil <| J.then_n <| J.seq <| J.region <| J.m rfl <| J.m rfl <| J.p rfl (Q.nil_ rfl) <| J.p rfl (Q.fa (n := 0) runUnderlying107 rfl rfl sizeOf41 rfl) ?_
  refine J.p rfl (Q.ldI isAgg41 rfl) ?_
  refine J.m rfl <| J.p rfl (Q.slL runUnderlying41 sizeOf5 rfl rfl (by omega) (by omega)) <| J.p rfl (Q.nil_ rfl) <| J.p rfl (Q.fa (n := 0) runUnderlying107 rfl rfl sizeOf41 rfl) ?_
  refine J.stJ rfl sizeOf41 rfl rfl rfl ?_
  refine J.nil <| J.then_n <| J.seq <| J.region <| J.m rfl <| J.p rfl (Q.asg rfl) <| J.nil <| J.then_n <| J.cret ?_
  have hsl := slr_drop (k := (encB v).length) hrd (by simp [bytesV, hlen]) hnl hc
  have hdr : (bytesV bs).drop (encB v).length = bytesV rest := by rw [hbs]; simp [bytesV]
  rw [hdr] at hsl
  simp only [Int.toNat_natCast]
  refine J.ret1I [own 5 1 (.slice q v.length d) (bytesV v), rdA r _ _ _, G] rfl rfl ⟨q, d, _, _, _, rfl, ⟨hsl, by omega, by omega⟩, rfl⟩

def RdAt (G : Assn) (r : Nat) (bs : List UInt8) : Assn := fun h => ∃ z : Option Addr × Nat × Nat, (SlR [G] 1 (.slice z.1 z.2.1 z.2.2) (bytesV bs) ∧ z.2.1 ≤ 1099511627776 ∧ z.2.1 ≤ z.2.2) ∧ HSat h [rdA r z.1 z.2.1 z.2.2]
theorem RdAt.mk {G : Assn} {r : Nat} {bs : List UInt8} {p : Option Addr} {n c : Nat} (h1 : SlR [G] 1 (.slice p n c) (bytesV bs)) (h2 : n ≤ 1099511627776) (h3 : n ≤ c) : ∀ h, rdA r p n c h → RdAt G r bs h := fun h hh => ⟨(p, n, c), ⟨h1, h2, h3⟩, ⟨h, fun _ => none, hh, trivial, fun b => .inr rfl, Sub.refl _, fun b o e => by cases e⟩⟩

section
variable (G : Assn) (r : Nat) (rest : List UInt8)
theorem number_R (v : Nat) (hv : v ≤ 18446744073709551615) : FSpec Try.prog 45 [.pointer (some ⟨r, 0, none⟩)] [RdAt G r (numB v ++ rest), G] (fun u B => u = .int .u64 v ∧ B = [RdAt G r rest, G]) := by
  refine openHd (fun _ h => h) fun z hz => ?_
  refine (number_r G r z.1 z.2.1 z.2.2 _ rest v hz.1 rfl hv hz.2.1 hz.2.2).conv (fun _ s => s) ?_
  rintro _ _ ⟨p', n', c', rfl, h1, h2, h3, rfl⟩
  exact ⟨_, ⟨rfl, rfl⟩, fun k s => s.imp (RdAt.mk h1 h2 h3)⟩
theorem upTo_R (v most : Nat) (hv : v ≤ most) (hm : most ≤ 1099511627776) : FSpec Try.prog 48 [.pointer (some ⟨r, 0, none⟩), .int .u64 most] [RdAt G r (numB v ++ rest), G] (fun u B => u = .int .i64 v ∧ B = [RdAt G r rest, G]) := by
  refine openHd (fun _ h => h) fun z hz => ?_
  refine (upTo_r G r z.1 z.2.1 z.2.2 _ rest v hz.1 rfl hz.2.1 hz.2.2 most hv hm).conv (fun _ s => s) ?_
  rintro _ _ ⟨p', n', c', rfl, h1, h2, h3, rfl⟩
  exact ⟨_, ⟨rfl, rfl⟩, fun k s => s.imp (RdAt.mk h1 h2 h3)⟩
theorem small_R (v : Nat) (hv : v ≤ 1099511627776) : FSpec Try.prog 44 [.pointer (some ⟨r, 0, none⟩)] [RdAt G r (numB v ++ rest), G] (fun u B => u = .int .i64 v ∧ B = [RdAt G r rest, G]) := by
  refine openHd (fun _ h => h) fun z hz => ?_
  refine (small_r G r z.1 z.2.1 z.2.2 _ rest v hz.1 rfl hz.2.1 hz.2.2 hv).conv (fun _ s => s) ?_
  rintro _ _ ⟨p', n', c', rfl, h1, h2, h3, rfl⟩
  exact ⟨_, ⟨rfl, rfl⟩, fun k s => s.imp (RdAt.mk h1 h2 h3)⟩
theorem bytes_R (v : List UInt8) (hv : v.length ≤ 65536) : FSpec Try.prog 55 [.pointer (some ⟨r, 0, none⟩)] [RdAt G r (encB v ++ rest), G] (fun u B => ∃ q d, u = .slice q v.length d ∧ B = [own 5 1 (.slice q v.length d) (bytesV v), RdAt G r rest, G]) := by
  refine openHd (fun _ h => h) fun z hz => ?_
  refine (bytes_r G r z.1 z.2.1 z.2.2 _ rest v hz.1 rfl hv hz.2.1 hz.2.2).conv (fun _ s => s) ?_
  rintro _ _ ⟨q, d, p', n', c', rfl, ⟨h1, h2, h3⟩, rfl⟩
  exact ⟨_, ⟨q, d, rfl, rfl⟩, fun k s => s.under fun _ s => s.imp (RdAt.mk h1 h2 h3)⟩
end

def RecsAt (q : Option Addr) (d : Nat) (rs : List Rec) : Assn := fun h => ∃ z : List RecW × Assn, (z.1.map RecW.r = rs ∧ ∀ w, w ∈ z.1 → w.ok z.2) ∧ HSat h [own 81 2 (.slice q rs.length d) (z.1.flatMap RecW.cells), z.2]
theorem RecsAt.nil : RecsAt none 0 [] (fun _ => none) := ⟨([], fact True), ⟨rfl, fun _ h => by cases h⟩, ⟨fun _ => none, fun _ => none, own.nil _ _ _, ⟨fun _ => none, fun _ => none, trivial, trivial, fun b => .inr rfl, Sub.refl _, Sub.refl _⟩, fun b => .inr rfl, Sub.refl _, Sub.refl _⟩⟩
theorem RecW.ok.mono {G H : Assn} {w : RecW} (h : w.ok G) (f : ∀ k, H k → ∃ j, G j ∧ Sub j k) : w.ok H := ⟨by
  have h1 := h.rd
  rcases h1 with x | ⟨b, off, len, cap, e, h2, h3⟩
  · exact .inl x
  · refine .inr ⟨b, off, len, cap, e, h2, fun i v hv k hk => ?_⟩
    obtain ⟨k1, k2, a, _, _, s, _⟩ := hk
    obtain ⟨j, hj, hs⟩ := f k1 a
    obtain ⟨c, e, z, q1, q2⟩ := h3 i v hv j ⟨j, fun _ => none, hj, trivial, fun b => .inr rfl, Sub.refl _, fun b o e => by cases e⟩
    exact ⟨c, e, z, s _ _ (hs _ _ q1), q2⟩, h.n, h.t⟩
theorem star_fst {A B : Assn} : ∀ k, star [A, B] k → ∃ j, A j ∧ Sub j k := fun k ⟨h1, _, a, _, _, s, _⟩ => ⟨h1, a, s⟩
theorem star_snd {A B : Assn} : ∀ k, star [A, B] k → ∃ j, B j ∧ Sub j k := fun k ⟨_, h2, _, ⟨h3, _, b, _, _, s', _⟩, _, _, s⟩ => ⟨h3, b, s'.trans s⟩

theorem RecsAt.snoc {y : List RecW × Assn} {l : List Rec} {x : Rec} {p q : Option Addr} {c d : Nat} (hy : y.1.map RecW.r = l ∧ ∀ w, w ∈ y.1 → w.ok y.2) (h1 : x.bs.length ≤ 65536) (h2 : x.term ≤ 1048576) :
    ∀ h, HSat h [own 81 2 (.slice p (l.length + 1) c) (y.1.flatMap RecW.cells ++ [.int .u64 x.term, .slice q x.bs.length d]), y.2, own 5 1 (.slice q x.bs.length d) (bytesV x.bs)] → RecsAt p c (l ++ [x]) h := by
  intro h s
  obtain ⟨k, hk⟩ : ∃ k, HSat k [own 5 1 (.slice q x.bs.length d) (bytesV x.bs)] := by
    obtain ⟨_, h2, _, ⟨_, h4, _, b, _⟩, _⟩ := s
    exact ⟨_, b⟩
  have hs := own.slr (D := [own 5 1 (.slice q x.bs.length d) (bytesV x.bs)]) (i := 0) rfl ⟨k, hk⟩
  refine ⟨(y.1 ++ [⟨x, q, d⟩], star [y.2, own 5 1 (.slice q x.bs.length d) (bytesV x.bs)]), ⟨by rw [List.map_append, hy.1]; rfl, fun w hw => ?_⟩, ?_⟩
  · rcases List.mem_append.1 hw with e | e
    · exact (hy.2 w e).mono star_fst
    · obtain rfl := List.mem_singleton.1 e
      exact ⟨hs.into 1 rfl, h1, h2⟩
  · have := s.under fun _ s => HSat.pack (As := [y.2, own 5 1 (.slice q x.bs.length d) (bytesV x.bs)]) (Bs := []) s
    rw [List.length_append, List.flatMap_append]
    exact this

section
variable (G : Assn) (r : Nat) (rest : List UInt8)
theorem records_R (rs : List Rec) (hl : rs.length ≤ 1048576) (hrs : ∀ x, x ∈ rs → x.bs.length ≤ 65536 ∧ x.term ≤ 1048576) : FSpec Try.prog 46 [.pointer (some ⟨r, 0, none⟩)] [RdAt G r (recsB rs ++ rest), G] (fun u B => ∃ q d, u = .slice q rs.length d ∧ B = [RecsAt q d rs, RdAt G r rest, G]) := by
  rw [show recsB rs ++ rest = numB rs.length ++ (rs.flatMap recB ++ rest) by rw [recsB, List.append_assoc]]
  refine FSpec.of func46 rfl ntmps46 rfl fun W0 F => ?_
  refine J.seq <| J.region <| J.p rfl (Q.asg rfl) <| J.nil <| J.then_n <| J.seq <| J.region <| J.p rfl (Q.asg rfl) <| J.nil <| J.then_n <| J.seq <| J.seq <| J.region <| J.m rfl ?_
  refine J.callI call48 (upTo_R G r (rs.flatMap recB ++ rest) rs.length 1048576 hl (by decide)) rfl rfl rfl ?_
  rintro _ _ ⟨rfl, rfl⟩
  refine J.norm rfl <| J.p rfl (Q.asg rfl) <| J.nil <| J.then_n <| J.block ?_
  refine J.give (X := RecsAt none 0 []) RecsAt.nil ?_
  refine J.keepI [RecsAt none 0 [], RdAt G r (rs.flatMap recB ++ rest), G, F] ?_
  refine J.loop3 (fun (i : Nat) (_ : Option Addr) (_ : Nat) => i ≤ rs.length) (fun i _ _ => rs.length - i) (fun i q d => [(0, .pointer (some ⟨r, 0, none⟩)), (3, .slice q (rs.take i).length d), (4, .int .i64 ((rs.length - i : Nat) : Int))]) (fun i q d => [RecsAt q d (rs.take i), RdAt G r ((rs.drop i).flatMap recB ++ rest), G, F]) 0 none 0 (Nat.zero_le _) ⟨rfl, rfl, rfl, trivial⟩ rfl fun i q d hi => ?_
  refine J.seq <| J.seq ?_
  refine J.openI (RdAt G r ((rs.drop i).flatMap recB ++ rest)) (fun _ h => h) fun z hz => ?_
  refine J.norm rfl <| J.region <| J.m rfl <| J.p rfl (Q.gtr rfl rfl) <| J.m rfl ?_
  refine J.kases 9 rfl (fun hb9 => ?_) (fun hb9 => ?_)
  ·
   refine J.m rfl <| J.p rfl (Q.nil_ rfl) <| J.p rfl (Q.fa (n := 1) runUnderlying107 rfl rfl sizeOf38 rfl) ?_
   refine J.p rfl (Q.ldI isAgg38 rfl) ?_
   refine J.p rfl (Q.eql rfl rfl) <| J.p rfl (Q.pick_t rfl rfl) ?_
   refine J.shutI [rdA r z.1 z.2.1 z.2.2] (RdAt G r ((rs.drop i).flatMap recB ++ rest)) (fun h hh => ⟨z, hz, hh⟩) ?_
   refine J.nil <| J.then_n ?_
   refine J.kases 15 rfl (fun hc15 => ?_) (fun hc15 => ?_)
   ·
    refine J.cond_t rfl <| J.cskip <| J.then_n <| J.seq <| J.block ?_
    obtain ⟨x, hx⟩ : ∃ x, rs[i]? = some x := ⟨_, List.getElem?_eq_getElem (by omega)⟩
    have hdr : rs.drop i = x :: rs.drop (i + 1) := by
      obtain ⟨h1, h2⟩ := List.getElem?_eq_some_iff.1 hx
      rw [List.drop_eq_getElem_cons h1, h2]
    have hb := hrs x (List.mem_of_getElem? hx)
    have hl1 := Rf.take_more hx
    rw [show (rs.drop i).flatMap recB ++ rest = numB x.term ++ (encB x.bs ++ ((rs.drop (i + 1)).flatMap recB ++ rest)) by rw [hdr, List.flatMap_cons, recB, List.append_assoc, List.append_assoc]]
    refine J.region <| J.m rfl <| J.m rfl ?_
    refine J.callI call45 (number_R G r (encB x.bs ++ ((rs.drop (i + 1)).flatMap recB ++ rest)) x.term (by omega)) rfl rfl rfl ?_
    rintro _ _ ⟨rfl, rfl⟩
    refine J.norm rfl <| J.m rfl ?_
    refine J.callI call55 (bytes_R G r ((rs.drop (i + 1)).flatMap recB ++ rest) x.bs hb.1) rfl rfl rfl ?_
    rintro _ _ ⟨q22, d22, rfl, rfl⟩
    refine J.norm rfl <| J.p rfl (Q.bld (l := [_, _]) runUnderlying81 zeroValue81 places81 rfl rfl) ?_
    refine J.c rfl rfl (C.bslG (l := [_, _]) runUnderlying62 sizeOf81 zeroValue81 (by decide) rfl rfl rfl rfl rfl) ?_
    rintro _ _ ⟨b24, rfl, rfl⟩
    refine J.norm rfl ?_
    refine J.openI (RecsAt q d (rs.take i)) (fun _ h => h) fun y hy => ?_
    refine J.norm rfl ?_
    refine J.c rfl rfl (C.appI runUnderlying62 runUnderlying62 typeInfo81 sizeOf81 zeroValue81 rfl rfl (SlR.ptI rfl) (RecW.one ⟨x, q22, d22⟩) (by simp [Try.t81] <;> omega) (by decide)) ?_
    rintro _ _ ⟨p25, c25, rfl, rfl⟩
    refine J.norm rfl ?_
    refine J.shutI [own 81 2 (.slice p25 ((rs.take i).length + 1) c25) (y.1.flatMap RecW.cells ++ [.int .u64 x.term, .slice q22 x.bs.length d22]), y.2, own 5 1 (.slice q22 x.bs.length d22) (bytesV x.bs)] (RecsAt p25 c25 (rs.take i ++ [x])) (RecsAt.snoc hy hb.1 hb.2) ?_
    refine J.p rfl (Q.asg rfl) <| J.nil <| J.blk_n <| J.then_n <| J.region <| J.m rfl <| J.p rfl (Q.sub64 rfl rfl (by omega)) ?_
    refine J.slot 17 (.int .i64 ((rs.length - (i + 1) : Nat) : Int)) rfl (by congr 1; omega) ?_
    refine J.p rfl (Q.asg rfl) <| J.nil ?_
    have e1 : (rs.take i).length + 1 = (rs.take (i + 1)).length := by rw [hl1, List.length_append]; rfl
    rw [← hl1]
    refine J.againI (i + 1, p25, c25) (by show i + 1 ≤ rs.length; omega) (by show rs.length - (i + 1) < rs.length - i; omega) ⟨rfl, (by show some (Value.slice p25 ((rs.take i).length + 1) c25) = _; rw [e1]), rfl, trivial⟩
   simp at hc15
  refine J.k rfl <| J.k rfl <| J.k rfl <| J.k rfl <| J.k rfl <| J.p rfl (Q.pick_f rfl rfl) ?_
  refine J.shutI [rdA r z.1 z.2.1 z.2.2] (RdAt G r ((rs.drop i).flatMap recB ++ rest)) (fun h hh => ⟨z, hz, hh⟩) ?_
  refine J.nil <| J.then_n <| J.cond_f rfl <| J.exit <| J.then_x <| J.lp_x <| J.blk_x <| J.then_n <| J.seq <| J.region <| J.m rfl <| J.p rfl (Q.asg rfl) <| J.nil <| J.then_n <| J.cret ?_
  have hin : i = rs.length := by omega
  subst hin
  rw [List.take_length, List.drop_length, show ([] : List Rec).flatMap recB ++ rest = rest from rfl]
  refine J.ret1I [RecsAt q d rs, RdAt G r rest, G] rfl rfl ⟨q, d, rfl, rfl⟩
end

structure Rises (rs : List Rec) (lt last : Nat) : Prop where
  srt : rs.Pairwise fun a b => a.term ≤ b.term
  r : ∀ x, x ∈ rs → 1 ≤ x.term ∧ lt ≤ x.term ∧ x.term ≤ last

theorem rises_T (q : Option Addr) (d : Nat) (rs : List Rec) (lt last : Nat) (h : Rises rs lt last) (hl : rs.length ≤ 1048576) : FSpec Try.prog 47 [.slice q rs.length d, .int .u64 lt, .int .u64 last] [RecsAt q d rs] (fun u B => u = .bool true ∧ B = [RecsAt q d rs]) := by
  refine openHd (Bs := fun z : List RecW × Assn => [own 81 2 (.slice q rs.length d) (z.1.flatMap RecW.cells), z.2]) (fun _ h => h) fun z hz => ?_
  have hzl : z.1.length = rs.length := by rw [← hz.1, List.length_map]
  refine FSpec.of func47 rfl ntmps47 rfl fun W0 F => ?_
  refine J.norm rfl ?_
  refine J.slrI (E0 := 81) (sz := 2) (p := q) (n := rs.length) (c := d) (xs := z.1.flatMap RecW.cells) fun hsl => ?_
  refine J.seq <| J.region <| J.p rfl (Q.asg rfl) <| J.nil <| J.then_n <| J.seq <| J.seq <| J.region <| J.m rfl <| J.p rfl (Q.lenSl runUnderlying62 rfl) <| J.m rfl <| J.nil <| J.then_n <| J.block ?_
  refine J.loop2 (fun (i : Nat) (f : Nat) => i ≤ rs.length ∧ ∀ (j : Nat) x, i ≤ j → rs[j]? = some x → f ≤ x.term) (fun i _ => rs.length - i) (fun i f => [(1, .int .u64 (f : Nat)), (2, .int .u64 (last : Nat)), (9, .slice q rs.length d), (10, .int .i64 (rs.length : Nat)), (11, .int .i64 (i : Nat))]) (fun i f => [own 81 2 (.slice q rs.length d) (z.1.flatMap RecW.cells), z.2, F]) 0 lt ⟨Nat.zero_le _, fun j x _ e => (h.r x (List.mem_of_getElem? e)).2.1⟩ ⟨rfl, rfl, rfl, rfl, rfl, trivial⟩ rfl fun i f hi => ?_
  obtain ⟨hi, hf⟩ := hi
  refine J.seq <| J.region <| J.p rfl (Q.lss rfl rfl) <| J.nil <| J.then_n <| J.seq ?_
  refine J.kases 12 rfl (fun hc12 => ?_) (fun hc12 => ?_)
  ·
   refine J.cond_t rfl <| J.cskip <| J.then_n <| J.seq <| J.block <| J.seq ?_
   obtain ⟨b, off, hqb, hrd⟩ := hsl.some_ (by omega)
   obtain ⟨w, hw⟩ : ∃ w, z.1[i]? = some w := ⟨_, List.getElem?_eq_getElem (by omega)⟩
   have hx : rs[i]? = some w.r := by rw [← hz.1, List.getElem?_map, hw]; rfl
   have h1 := h.r w.r (List.mem_of_getElem? hx)
   have h2 := hf i w.r (Nat.le_refl _) hx
   refine J.slot 9 (.slice (some ⟨b, off, none⟩) rs.length d) rfl (by rw [hqb]) ?_
   refine J.region <| J.p rfl (Q.ia runUnderlying62 sizeOf81 rfl rfl (by omega) (by omega)) <| J.p rfl (Q.ldN (vs := [_, _]) isAgg81 sizeOf81 rfl ((rd_elem RecW.len hrd hw (by simp)).inI)) ?_
   refine J.c rfl rfl (C.alloc (l := [_, _]) zeroValue81 rfl) ?_
   rintro _ _ ⟨b8, rfl, rfl⟩
   refine J.norm rfl ?_
   refine J.stAJ (vs := [_, _]) rfl sizeOf81 rfl rfl ?_
   refine J.nil <| J.then_n <| J.seq <| J.seq <| J.region <| J.p rfl (Q.fa (n := 0) runUnderlying81 rfl rfl sizeOf56 rfl) ?_
   refine J.p rfl (Q.ldI isAgg56 rfl) ?_
   refine J.m rfl <| J.p rfl (Q.maxI rfl) ?_
   refine J.slot 18 (.int .u64 ((max f 1 : Nat) : Int)) rfl (by congr 1; simp only [Nat.max_def]; split <;> split <;> omega) ?_
   refine J.p rfl (Q.lss rfl rfl) <| J.m rfl ?_
   refine J.kases 20 rfl (fun hb20 => ?_) (fun hb20 => ?_)
   ·
    refine J.k rfl <| J.k rfl <| J.k rfl <| J.k rfl <| J.p rfl (Q.pick_t rfl rfl) <| J.nil <| J.then_n <| J.cond_t rfl <| J.seq <| J.region <| J.p rfl (Q.asg rfl) <| J.nil <| J.then_n <| J.cret <| J.then_r <| J.blk_r <| J.then_r <| J.lp_r <| J.blk_r <| J.then_r ?_
    exfalso; omega
   refine J.p rfl (Q.fa (n := 0) runUnderlying81 rfl rfl sizeOf56 rfl) ?_
   refine J.p rfl (Q.ldI isAgg56 rfl) ?_
   refine J.m rfl <| J.p rfl (Q.gtr rfl rfl) <| J.p rfl (Q.pick_f rfl rfl) <| J.nil <| J.then_n ?_
   refine J.kases 25 rfl (fun hc25 => ?_) (fun hc25 => ?_)
   ·
    refine J.cond_t rfl <| J.seq <| J.region <| J.p rfl (Q.asg rfl) <| J.nil <| J.then_n <| J.cret <| J.then_r <| J.blk_r <| J.then_r <| J.lp_r <| J.blk_r <| J.then_r ?_
    exfalso; omega
   refine J.cond_f rfl <| J.cskip <| J.then_n <| J.region <| J.p rfl (Q.fa (n := 0) runUnderlying81 rfl rfl sizeOf56 rfl) ?_
   refine J.p rfl (Q.ldI isAgg56 rfl) ?_
   refine J.p rfl (Q.asg rfl) <| J.nil <| J.blk_n <| J.then_n <| J.region <| J.p rfl (Q.add64 rfl rfl (by omega)) <| J.m rfl <| J.nil ?_
   refine J.againI (i + 1, w.r.term) ⟨by show i + 1 ≤ rs.length; omega, fun j x hj e => ?_⟩ (by show rs.length - (i + 1) < rs.length - i; omega) ⟨rfl, rfl, (by show _ = some (Value.slice q rs.length d); rw [hqb]; rfl), rfl, rfl, trivial⟩
   exact (List.pairwise_iff_getElem.1 h.srt i j (Rf.get_lt hx) (Rf.get_lt e) (by show i < j; have : i + 1 ≤ j := hj; omega)) |> fun t => by rw [(List.getElem?_eq_some_iff.1 hx).2, (List.getElem?_eq_some_iff.1 e).2] at t; exact t
  refine J.cond_f rfl <| J.exit <| J.then_x <| J.lp_x <| J.blk_x <| J.then_n <| J.seq <| J.region <| J.p rfl (Q.asg rfl) <| J.nil <| J.then_n <| J.cret ?_
  refine J.shutI [own 81 2 (.slice q rs.length d) (z.1.flatMap RecW.cells), z.2] (RecsAt q d rs) (fun h hh => ⟨z, hz, hh⟩) ?_
  refine J.ret1I [RecsAt q d rs] rfl rfl ⟨rfl, rfl⟩

theorem records_w (L G : Assn) (q : Option Addr) (e : Nat) (ws : List RecW) (hr : SlR [L] 2 (.slice q ws.length e) (ws.flatMap RecW.cells)) (hok : ∀ w, w ∈ ws → w.ok G) (hl : ws.length ≤ 1048576) (p : Option Addr) (c : Nat) (acc : List UInt8) (ha : acc.length ≤ 1048576) :
    FSpec Try.prog 49 [.slice p acc.length c, .slice q ws.length e] [own 5 1 (.slice p acc.length c) (bytesV acc), L, G]
    (fun u B => ∃ p' c', u = .slice p' (acc ++ recsB (ws.map RecW.r)).length c' ∧ B = [own 5 1 (.slice p' (acc ++ recsB (ws.map RecW.r)).length c') (bytesV (acc ++ recsB (ws.map RecW.r))), L, G]) := by
  refine FSpec.of func49 rfl ntmps49 rfl fun W0 F => ?_
  refine J.seq <| J.region <| J.p rfl (Q.asg rfl) <| J.nil <| J.then_n <| J.seq <| J.region <| J.m rfl <| J.m rfl <| J.p rfl (Q.lenSl runUnderlying62 rfl) <| J.p rfl (Q.conv runUnderlying3 runUnderlying56 rfl) ?_
  refine J.slot 10 (.int .u64 (ws.length : Nat)) rfl (by congr 1; exact wrap64 (by omega)) ?_
  refine J.callI call56 (number_spec p c acc ws.length (by omega) (by omega)) rfl rfl rfl ?_
  rintro _ _ ⟨p1, c1, rfl, rfl⟩
  refine J.norm rfl ?_
  have hn1 := numB_len ws.length (by omega)
  refine J.p rfl (Q.asg rfl) <| J.nil <| J.then_n <| J.seq <| J.seq <| J.region <| J.m rfl <| J.p rfl (Q.lenSl runUnderlying62 rfl) <| J.m rfl <| J.nil <| J.then_n <| J.block ?_
  refine J.keepI [own 5 1 (.slice p1 (acc ++ numB ws.length).length c1) (bytesV (acc ++ numB ws.length)), L, G, F] ?_
  refine J.loop3 (fun (i : Nat) (_ : Option Addr) (_ : Nat) => i ≤ ws.length) (fun i _ _ => ws.length - i) (fun i p' c' => [(0, .slice p' ((acc ++ numB ws.length) ++ (ws.take i).flatMap fun w => recB w.r).length c'), (12, .slice q ws.length e), (13, .int .i64 (ws.length : Nat)), (14, .int .i64 (i : Nat))]) (fun i p' c' => [own 5 1 (.slice p' ((acc ++ numB ws.length) ++ (ws.take i).flatMap fun w => recB w.r).length c') (bytesV ((acc ++ numB ws.length) ++ (ws.take i).flatMap fun w => recB w.r)), L, G, F]) 0 p1 c1 (Nat.zero_le _) ⟨(by show _ = some (Value.slice p1 ((acc ++ numB ws.length) ++ []).length c1); rw [List.append_nil]; rfl), rfl, rfl, rfl, trivial⟩ (by show _ = [own 5 1 (.slice p1 ((acc ++ numB ws.length) ++ []).length c1) (bytesV ((acc ++ numB ws.length) ++ [])), _, _, _]; rw [List.append_nil]) fun i p' c' hi => ?_
  refine J.seq <| J.region <| J.p rfl (Q.lss rfl rfl) <| J.nil <| J.then_n <| J.seq ?_
  refine J.kases 15 rfl (fun hc15 => ?_) (fun hc15 => ?_)
  ·
   refine J.cond_t rfl <| J.cskip <| J.then_n <| J.seq <| J.block <| J.seq ?_
   obtain ⟨b, off, hqb, hrd⟩ := hr.some_ (by omega)
   obtain ⟨w, hw⟩ : ∃ w, ws[i]? = some w := ⟨_, List.getElem?_eq_getElem (by omega)⟩
   have hwk := hok w (List.mem_of_getElem? hw)
   have hlen : (acc ++ numB ws.length ++ (ws.take i).flatMap fun w => recB w.r).length ≤ 70368744000000 := by
     have := recs_len (ws.take i) fun x hx => ⟨(hok x (List.mem_of_mem_take hx)).n, (hok x (List.mem_of_mem_take hx)).t⟩
     have h3 := List.length_take_le i ws
     rw [List.length_append, List.length_append]; omega
   obtain ⟨z, hz⟩ : ∃ z, z = acc ++ numB ws.length ++ (ws.take i).flatMap fun w => recB w.r := ⟨_, rfl⟩
   rw [← hz] at hlen ⊢
   have hwn := hwk.n
   have hwt := hwk.t
   have hn2 := numB_len w.r.term (by omega)
   refine J.slot 12 (.slice (some ⟨b, off, none⟩) ws.length e) rfl (by rw [hqb]) ?_
   refine J.region <| J.p rfl (Q.ia runUnderlying62 sizeOf81 rfl rfl (by omega) (by omega)) <| J.p rfl (Q.ldN (vs := [_, _]) isAgg81 sizeOf81 rfl ((rd_elem RecW.len hrd hw (by simp)).inI)) ?_
   refine J.c rfl rfl (C.alloc (l := [_, _]) zeroValue81 rfl) ?_
   rintro _ _ ⟨b6, rfl, rfl⟩
   refine J.norm rfl ?_
   refine J.stAJ (vs := [_, _]) rfl sizeOf81 rfl rfl ?_
   refine J.nil <| J.then_n ?_
   refine J.pickI [pt b6 (.cells w.cells.toArray 81 (0, 0))] ?_
   refine J.norm rfl ?_
   refine J.drawE [3, 6, 7, 8] 1 Try.mixed (by kernel_rfl) rfl rfl fun hR => ?_
   refine RG.p 0 hR rfl (Q.mv rfl) <| RG.p 1 hR rfl (Q.fa (n := 0) runUnderlying81 rfl rfl sizeOf56 rfl) ?_
   refine RG.p 2 hR rfl (Q.ldI isAgg56 rfl) ?_
   refine RG.p 4 hR rfl (Q.fa (n := 1) runUnderlying81 rfl rfl sizeOf41 rfl) ?_
   refine RG.p 5 hR rfl (Q.ldI isAgg41 rfl) ?_
   refine RG.many hR 3 [6] rfl ⟨?_, ⟨?_, trivial⟩⟩
   ·
    refine RGi.callkI rfl rfl rfl rfl call56 (number_spec p' c' z w.r.term (by omega) (by omega)) rfl ?_
    rintro _ _ ⟨p2, c2, rfl, rfl⟩
    refine RG.normE rfl ?_
    refine RG.made 6 hR rfl rfl rfl rfl rfl (C.bslG (l := [_]) runUnderlying32 sizeOf41 zeroValue41 (by decide) rfl rfl rfl rfl rfl) ?_
    rintro b24
    refine RG.callI 7 hR rfl rfl rfl rfl rfl rfl call57 (bytes_spec G w.p w.c w.r.bs hwk.rd (by omega) b24 p2 c2 (z ++ numB w.r.term) (by rw [List.length_append]; omega)) rfl ?_
    rintro _ _ ⟨p3, c3, rfl, rfl⟩
    refine RG.norm rfl ?_
    refine RG.bar 8 hR rfl rfl rfl rfl rfl rfl (Q.asg rfl).toC ?_
    rintro _ _ ⟨rfl, rfl⟩
    refine RG.norm rfl ?_
    refine RG.fin hR rfl ?_
    refine J.norm rfl <| J.blk_n <| J.then_n <| J.region <| J.p rfl (Q.add64 rfl rfl (by omega)) <| J.m rfl <| J.nil ?_
    have e1 : z ++ numB w.r.term ++ encB w.r.bs = acc ++ numB ws.length ++ (ws.take (i + 1)).flatMap fun w => recB w.r := by
     rw [hz, Rf.take_more hw, List.flatMap_append, List.flatMap_cons, List.flatMap_nil, List.append_nil, recB]; simp only [List.append_assoc]
    rw [e1]
    refine J.againI (i + 1, p3, c3) (by show i + 1 ≤ ws.length; omega) (by show ws.length - (i + 1) < ws.length - i; omega) ⟨rfl, (by show _ = some (Value.slice q ws.length e); rw [hqb]; rfl), rfl, rfl, trivial⟩
   ·
    refine RGi.made rfl rfl rfl rfl (C.bslG (l := [_]) runUnderlying32 sizeOf41 zeroValue41 (by decide) rfl rfl rfl rfl rfl) ?_
    rintro b24
    refine RG.callkI 3 hR rfl rfl rfl rfl rfl call56 (number_spec p' c' z w.r.term (by omega) (by omega)) rfl ?_
    rintro _ _ ⟨p2, c2, rfl, rfl⟩
    refine RG.normE rfl ?_
    refine RG.callI 7 hR rfl rfl rfl rfl rfl rfl call57 (bytes_spec G w.p w.c w.r.bs hwk.rd (by omega) b24 p2 c2 (z ++ numB w.r.term) (by rw [List.length_append]; omega)) rfl ?_
    rintro _ _ ⟨p3, c3, rfl, rfl⟩
    refine RG.norm rfl ?_
    refine RG.bar 8 hR rfl rfl rfl rfl rfl rfl (Q.asg rfl).toC ?_
    rintro _ _ ⟨rfl, rfl⟩
    refine RG.norm rfl ?_
    refine RG.fin hR rfl ?_
    refine J.norm rfl <| J.blk_n <| J.then_n <| J.region <| J.p rfl (Q.add64 rfl rfl (by omega)) <| J.m rfl <| J.nil ?_
    have e1 : z ++ numB w.r.term ++ encB w.r.bs = acc ++ numB ws.length ++ (ws.take (i + 1)).flatMap fun w => recB w.r := by
     rw [hz, Rf.take_more hw, List.flatMap_append, List.flatMap_cons, List.flatMap_nil, List.append_nil, recB]; simp only [List.append_assoc]
    rw [e1]
    refine J.againI (i + 1, p3, c3) (by show i + 1 ≤ ws.length; omega) (by show ws.length - (i + 1) < ws.length - i; omega) ⟨rfl, (by show _ = some (Value.slice q ws.length e); rw [hqb]; rfl), rfl, rfl, trivial⟩
  refine J.cond_f rfl <| J.exit <| J.then_x <| J.lp_x <| J.blk_x <| J.then_n <| J.seq <| J.region <| J.m rfl <| J.p rfl (Q.asg rfl) <| J.nil <| J.then_n <| J.cret ?_
  have hin : i = ws.length := by omega
  have e2 : acc ++ numB ws.length ++ ((ws.take i).flatMap fun w => recB w.r) = acc ++ recsB (ws.map RecW.r) := by
   rw [hin, List.take_length, recsB, List.length_map, List.flatMap_map, List.append_assoc]
  rw [e2]
  refine J.ret1I [own 5 1 (.slice p' (acc ++ recsB (ws.map RecW.r)).length c') (bytesV (acc ++ recsB (ws.map RecW.r))), L, G] rfl rfl ⟨p', c', rfl, rfl⟩

def XM.vAsk (t n : Nat) : Value := .iface 77 (.agg #[.int .u64 t, .int .i64 n])
def XM.vVote (g : Bool) : Value := .iface 89 (.agg #[.bool g])
def XM.vTake (a lt c : Nat) (q : Option Addr) (n d : Nat) : Value := .iface 92 (.agg #[.int .i64 a, .int .u64 lt, .int .i64 c, .slice q n d])
def XM.vTook (ok : Bool) (n : Nat) : Value := .iface 95 (.agg #[.bool ok, .int .i64 n])
def XM.vOlder : Value := .iface 86 (.agg #[])

def Wr (As : List Assn) (xv : Value) (x : XM) : Prop := ∀ f t term : Nat, f ≤ 9 → t ≤ 9 → term ≤ 1048576 → FSpec Try.prog 42 [.int .i64 f, .int .i64 t, .int .u64 term, xv] As
    (fun u B => ∃ p c, u = .slice p (msgB ⟨f, t, term, x⟩).length c ∧ B = own 5 1 (.slice p (msgB ⟨f, t, term, x⟩).length c) (bytesV (msgB ⟨f, t, term, x⟩)) :: As)

theorem head_len {f t term : Nat} (hf : f ≤ 9) (ht : t ≤ 9) (hterm : term ≤ 1048576) : ([f, t, term].flatMap numB).length ≤ 30 := by
  have := numB_len f (by omega)
  have := numB_len t (by omega)
  have := numB_len term (by omega)
  simp; omega

theorem write_ask (a n : Nat) (ha : a ≤ 1048576) (hn : n ≤ 1048576) : Wr [] (XM.vAsk a n) (.ask a n) := by
  intro f t term hf ht hterm
  refine FSpec.of func42 rfl ntmps42 rfl fun W0 F => ?_
  refine J.seq <| J.region <| J.p rfl (Q.asg rfl) <| J.nil <| J.then_n <| J.seq <| J.region <| J.m rfl <| J.p rfl (Q.conv runUnderlying3 runUnderlying56 rfl) ?_
  refine J.slot 15 (.int .u64 f) rfl (by rw [u64_in (by omega)]) ?_
  refine J.m rfl <| J.p rfl (Q.conv runUnderlying3 runUnderlying56 rfl) ?_
  refine J.slot 17 (.int .u64 t) rfl (by rw [u64_in (by omega)]) ?_
  refine J.m rfl ?_
  refine J.c rfl rfl (C.bslG (l := [_, _, _]) runUnderlying124 sizeOf56 zeroValue56 (by decide) rfl rfl rfl rfl rfl) ?_
  rintro _ _ ⟨b19, rfl, rfl⟩
  refine J.norm rfl ?_
  refine J.give (own.nil 5 1 _) ?_
  refine J.call call50 (numbers_spec (pt b19 (.cells [.int .u64 ((f : Nat) : Int), .int .u64 ((t : Nat) : Int), .int .u64 ((term : Nat) : Int)].toArray 56 (0, 0))) none 0 [] (some ⟨b19, 0, none⟩) 3 3 [f, t, term] (lit_slr rfl) (by decide) (Nat.le_of_ble_eq_true rfl) (by intro v hv; simp at hv; omega)) [0, 1] rfl rfl rfl rfl ?_
  rintro _ _ ⟨p20, c20, rfl, rfl⟩
  refine J.norm rfl ?_
  have hh := head_len hf ht hterm
  refine J.p rfl (Q.asg rfl) <| J.nil <| J.then_n <| J.seq <| J.seq <| J.region <| J.m rfl <| J.nil <| J.then_n <| J.block <| J.seq <| J.region <| J.p rfl (Q.asYes runUnderlying77 (by intro m h; cases h) rfl) <| J.p rfl (Q.ext rfl rfl) <| J.p rfl (Q.ext rfl rfl) <| J.nil <| J.then_n ?_
  refine J.cases 23 rfl (fun hc23 => ?_) (fun hc23 => ?_)
  ·
   replace hc23 := X.nm hc23
   skip
   refine J.cond_t rfl <| J.seq <| J.region ?_
   refine J.c rfl rfl (C.alloc (l := [_, _]) zeroValue77 rfl) ?_
   rintro _ _ ⟨b10, rfl, rfl⟩
   refine J.norm rfl ?_
   refine J.stAJ (vs := [_, _]) rfl sizeOf77 rfl rfl ?_
   refine J.nil <| J.then_n <| J.seq <| J.region <| J.m rfl <| J.p rfl (Q.fa (n := 0) runUnderlying77 rfl rfl sizeOf56 rfl) ?_
   refine J.p rfl (Q.ldI isAgg56 rfl) ?_
   refine J.p rfl (Q.fa (n := 1) runUnderlying77 rfl rfl sizeOf3 rfl) ?_
   refine J.p rfl (Q.ldI isAgg3 rfl) ?_
   refine J.p rfl (Q.conv runUnderlying3 runUnderlying56 rfl) ?_
   refine J.slot 30 (.int .u64 n) rfl (by rw [u64_in (by omega)]) ?_
   refine J.c rfl rfl (C.bslG (l := [_, _, _]) runUnderlying124 sizeOf56 zeroValue56 (by decide) rfl rfl rfl rfl rfl) ?_
   rintro _ _ ⟨b31, rfl, rfl⟩
   refine J.norm rfl ?_
   refine J.callI call50 (numbers_spec (pt b31 (.cells [.int .u64 1, .int .u64 ((a : Nat) : Int), .int .u64 ((n : Nat) : Int)].toArray 56 (0, 0))) p20 c20 ([] ++ [f, t, term].flatMap numB) (some ⟨b31, 0, none⟩) 3 3 [1, a, n] (lit_slr rfl) (by rw [List.nil_append]; omega) (Nat.le_of_ble_eq_true rfl) (by intro v hv; simp at hv; omega)) rfl rfl rfl ?_
   rintro _ _ ⟨p32, c32, rfl, rfl⟩
   refine J.norm rfl <| J.p rfl (Q.asg rfl) <| J.nil <| J.then_n <| J.cret <| J.blk_r <| J.then_r ?_
   have e1 : [] ++ [f, t, term].flatMap numB ++ [1, a, n].flatMap numB = msgB ⟨f, t, term, .ask a n⟩ := rfl
   rw [e1]
   refine J.ret1I (own 5 1 (.slice p32 (msgB ⟨f, t, term, .ask a n⟩).length c32) (bytesV (msgB ⟨f, t, term, .ask a n⟩)) :: []) rfl rfl ⟨p32, c32, rfl, rfl⟩
  cases hc23
theorem write_vote (g : Bool) : Wr [] (XM.vVote g) (.vote g) := by
  intro f t term hf ht hterm
  refine FSpec.of func42 rfl ntmps42 rfl fun W0 F => ?_
  refine J.seq <| J.region <| J.p rfl (Q.asg rfl) <| J.nil <| J.then_n <| J.seq <| J.region <| J.m rfl <| J.p rfl (Q.conv runUnderlying3 runUnderlying56 rfl) ?_
  refine J.slot 15 (.int .u64 f) rfl (by rw [u64_in (by omega)]) ?_
  refine J.m rfl <| J.p rfl (Q.conv runUnderlying3 runUnderlying56 rfl) ?_
  refine J.slot 17 (.int .u64 t) rfl (by rw [u64_in (by omega)]) ?_
  refine J.m rfl ?_
  refine J.c rfl rfl (C.bslG (l := [_, _, _]) runUnderlying124 sizeOf56 zeroValue56 (by decide) rfl rfl rfl rfl rfl) ?_
  rintro _ _ ⟨b19, rfl, rfl⟩
  refine J.norm rfl ?_
  refine J.give (own.nil 5 1 _) ?_
  refine J.call call50 (numbers_spec (pt b19 (.cells [.int .u64 ((f : Nat) : Int), .int .u64 ((t : Nat) : Int), .int .u64 ((term : Nat) : Int)].toArray 56 (0, 0))) none 0 [] (some ⟨b19, 0, none⟩) 3 3 [f, t, term] (lit_slr rfl) (by decide) (Nat.le_of_ble_eq_true rfl) (by intro v hv; simp at hv; omega)) [0, 1] rfl rfl rfl rfl ?_
  rintro _ _ ⟨p20, c20, rfl, rfl⟩
  refine J.norm rfl ?_
  have hh := head_len hf ht hterm
  refine J.p rfl (Q.asg rfl) <| J.nil <| J.then_n <| J.seq <| J.seq <| J.region <| J.m rfl <| J.nil <| J.then_n <| J.block <| J.seq <| J.region <| J.p rfl (Q.asNo runUnderlying77 (by intro m h; cases h) zeroValue77 (by decide) rfl) <| J.p rfl (Q.ext rfl rfl) <| J.p rfl (Q.ext rfl rfl) <| J.nil <| J.then_n ?_
  refine J.cases 23 rfl (fun hc23 => ?_) (fun hc23 => ?_)
  ·
   cases hc23
  replace hc23 := X.nm hc23
  refine J.cond_f rfl <| J.seq <| J.region <| J.p rfl (Q.asYes runUnderlying89 (by intro m h; cases h) rfl) <| J.p rfl (Q.ext rfl rfl) <| J.p rfl (Q.ext rfl rfl) <| J.nil <| J.then_n ?_
  refine J.cases 34 rfl (fun hc34 => ?_) (fun hc34 => ?_)
  ·
   replace hc34 := X.nm hc34
   skip
   refine J.cond_t rfl <| J.seq <| J.region ?_
   refine J.c rfl rfl (C.alloc (l := [_]) zeroValue89 rfl) ?_
   rintro _ _ ⟨b11, rfl, rfl⟩
   refine J.norm rfl ?_
   refine J.stAJ (vs := [_]) rfl sizeOf89 rfl rfl ?_
   refine J.nil <| J.then_n <| J.seq <| J.region <| J.m rfl <| J.p rfl (Q.fa (n := 0) runUnderlying89 rfl rfl sizeOf4 rfl) ?_
   refine J.p rfl (Q.ldI isAgg4 rfl) ?_
   refine J.callI call51 (flag_spec g) rfl rfl rfl ?_
   rintro _ _ ⟨rfl, rfl⟩
   refine J.norm rfl ?_
   refine J.c rfl rfl (C.bslG (l := [_, _]) runUnderlying124 sizeOf56 zeroValue56 (by decide) rfl rfl rfl rfl rfl) ?_
   rintro _ _ ⟨b40, rfl, rfl⟩
   refine J.norm rfl ?_
   refine J.callI call50 (numbers_spec (pt b40 (.cells [.int .u64 2, .int .u64 ((flagN g : Nat) : Int)].toArray 56 (0, 0))) p20 c20 ([] ++ [f, t, term].flatMap numB) (some ⟨b40, 0, none⟩) 2 2 [2, flagN g] (lit_slr rfl) (by rw [List.nil_append]; omega) (Nat.le_of_ble_eq_true rfl) (by intro v hv; simp at hv; unfold flagN at hv; split at hv <;> omega)) rfl rfl rfl ?_
   rintro _ _ ⟨p41, c41, rfl, rfl⟩
   refine J.norm rfl <| J.p rfl (Q.asg rfl) <| J.nil <| J.then_n <| J.cret <| J.blk_r <| J.then_r ?_
   have e1 : [] ++ [f, t, term].flatMap numB ++ [2, flagN g].flatMap numB = msgB ⟨f, t, term, .vote g⟩ := rfl
   rw [e1]
   refine J.ret1I (own 5 1 (.slice p41 (msgB ⟨f, t, term, .vote g⟩).length c41) (bytesV (msgB ⟨f, t, term, .vote g⟩)) :: []) rfl rfl ⟨p41, c41, rfl, rfl⟩
  cases hc34
theorem write_take (L G : Assn) (a lt c : Nat) (ha : a ≤ 1048576) (hlt : lt ≤ 1048576) (hc : c ≤ 1048576) (q : Option Addr) (e : Nat) (ws : List RecW) (hr : SlR [L] 2 (.slice q ws.length e) (ws.flatMap RecW.cells)) (hok : ∀ w, w ∈ ws → w.ok G) (hl : ws.length ≤ 1048576) :
    Wr [L, G] (XM.vTake a lt c q ws.length e) (.take a lt c (ws.map RecW.r)) := by
  intro f t term hf ht hterm
  refine FSpec.of func42 rfl ntmps42 rfl fun W0 F => ?_
  refine J.seq <| J.region <| J.p rfl (Q.asg rfl) <| J.nil <| J.then_n <| J.seq <| J.region <| J.m rfl <| J.p rfl (Q.conv runUnderlying3 runUnderlying56 rfl) ?_
  refine J.slot 15 (.int .u64 f) rfl (by rw [u64_in (by omega)]) ?_
  refine J.m rfl <| J.p rfl (Q.conv runUnderlying3 runUnderlying56 rfl) ?_
  refine J.slot 17 (.int .u64 t) rfl (by rw [u64_in (by omega)]) ?_
  refine J.m rfl ?_
  refine J.c rfl rfl (C.bslG (l := [_, _, _]) runUnderlying124 sizeOf56 zeroValue56 (by decide) rfl rfl rfl rfl rfl) ?_
  rintro _ _ ⟨b19, rfl, rfl⟩
  refine J.norm rfl ?_
  refine J.give (own.nil 5 1 _) ?_
  refine J.call call50 (numbers_spec (pt b19 (.cells [.int .u64 ((f : Nat) : Int), .int .u64 ((t : Nat) : Int), .int .u64 ((term : Nat) : Int)].toArray 56 (0, 0))) none 0 [] (some ⟨b19, 0, none⟩) 3 3 [f, t, term] (lit_slr rfl) (by decide) (Nat.le_of_ble_eq_true rfl) (by intro v hv; simp at hv; omega)) [0, 1] rfl rfl rfl rfl ?_
  rintro _ _ ⟨p20, c20, rfl, rfl⟩
  refine J.norm rfl ?_
  have hh := head_len hf ht hterm
  refine J.p rfl (Q.asg rfl) <| J.nil <| J.then_n <| J.seq <| J.seq <| J.region <| J.m rfl <| J.nil <| J.then_n <| J.block <| J.seq <| J.region <| J.p rfl (Q.asNo runUnderlying77 (by intro m h; cases h) zeroValue77 (by decide) rfl) <| J.p rfl (Q.ext rfl rfl) <| J.p rfl (Q.ext rfl rfl) <| J.nil <| J.then_n ?_
  refine J.cases 23 rfl (fun hc23 => ?_) (fun hc23 => ?_)
  ·
   cases hc23
  replace hc23 := X.nm hc23
  refine J.cond_f rfl <| J.seq <| J.region <| J.p rfl (Q.asNo runUnderlying89 (by intro m h; cases h) zeroValue89 (by decide) rfl) <| J.p rfl (Q.ext rfl rfl) <| J.p rfl (Q.ext rfl rfl) <| J.nil <| J.then_n ?_
  refine J.cases 34 rfl (fun hc34 => ?_) (fun hc34 => ?_)
  ·
   cases hc34
  replace hc34 := X.nm hc34
  refine J.cond_f rfl <| J.seq <| J.region <| J.p rfl (Q.asYes runUnderlying92 (by intro m h; cases h) rfl) <| J.p rfl (Q.ext rfl rfl) <| J.p rfl (Q.ext rfl rfl) <| J.nil <| J.then_n ?_
  refine J.cases 43 rfl (fun hc43 => ?_) (fun hc43 => ?_)
  ·
   replace hc43 := X.nm hc43
   skip
   refine J.cond_t rfl <| J.seq <| J.region ?_
   refine J.c rfl rfl (C.alloc (l := [_, _, _, _]) zeroValue92 rfl) ?_
   rintro _ _ ⟨b12, rfl, rfl⟩
   refine J.norm rfl ?_
   refine J.stAJ (vs := [_, _, _, _]) rfl sizeOf92 rfl rfl ?_
   refine J.nil <| J.then_n <| J.seq ?_
   refine J.pickI [pt b12 (.cells [.int .i64 a, .int .u64 lt, .int .i64 c, .slice q ws.length e].toArray 92 (0, 0))] ?_
   refine J.norm rfl ?_
   refine J.drawE [9, 10, 13, 14] 1 Try.mixed (by kernel_rfl) rfl rfl fun hR => ?_
   refine RG.p 0 hR rfl (Q.mv rfl) <| RG.p 1 hR rfl (Q.fa (n := 0) runUnderlying92 rfl rfl sizeOf3 rfl) ?_
   refine RG.p 2 hR rfl (Q.ldI isAgg3 rfl) ?_
   refine RG.p 3 hR rfl (Q.conv runUnderlying3 runUnderlying56 rfl) ?_
   refine RG.slot 48 (.int .u64 a) rfl (by rw [u64_in (by omega)]) ?_
   refine RG.p 4 hR rfl (Q.fa (n := 1) runUnderlying92 rfl rfl sizeOf56 rfl) ?_
   refine RG.p 5 hR rfl (Q.ldI isAgg56 rfl) ?_
   refine RG.p 6 hR rfl (Q.fa (n := 2) runUnderlying92 rfl rfl sizeOf3 rfl) ?_
   refine RG.p 7 hR rfl (Q.ldI isAgg3 rfl) ?_
   refine RG.p 8 hR rfl (Q.conv runUnderlying3 runUnderlying56 rfl) ?_
   refine RG.slot 53 (.int .u64 c) rfl (by rw [u64_in (by omega)]) ?_
   refine RG.p 11 hR rfl (Q.fa (n := 3) runUnderlying92 rfl rfl sizeOf62 rfl) ?_
   refine RG.p 12 hR rfl (Q.ldI isAgg62 rfl) ?_
   refine RG.made 9 hR rfl rfl rfl rfl rfl (C.bslG (l := [_, _, _, _]) runUnderlying124 sizeOf56 zeroValue56 (by decide) rfl rfl rfl rfl rfl) ?_
   rintro b54
   refine RG.callkI 10 hR rfl rfl rfl rfl rfl call50 (numbers_spec (pt b54 (.cells [.int .u64 3, .int .u64 ((a : Nat) : Int), .int .u64 ((lt : Nat) : Int), .int .u64 ((c : Nat) : Int)].toArray 56 (0, 0))) p20 c20 ([] ++ [f, t, term].flatMap numB) (some ⟨b54, 0, none⟩) 4 4 [3, a, lt, c] (lit_slr rfl) (by rw [List.nil_append]; omega) (Nat.le_of_ble_eq_true rfl) (by intro v hv; simp at hv; omega)) rfl ?_
   rintro _ _ ⟨p55, c55, rfl, rfl⟩
   refine RG.normE rfl ?_
   have hx4 : ([3, a, lt, c].flatMap numB).length ≤ 40 := by
    have := numB_len 3 (by omega)
    have := numB_len a (by omega)
    have := numB_len lt (by omega)
    have := numB_len c (by omega)
    simp; omega
   refine RG.callI 13 hR rfl rfl rfl rfl rfl rfl call49 (records_w L G q e ws hr hok hl p55 c55 ([] ++ [f, t, term].flatMap numB ++ [3, a, lt, c].flatMap numB) (by rw [List.nil_append, List.length_append]; omega)) rfl ?_
   rintro _ _ ⟨p58, c58, rfl, rfl⟩
   refine RG.norm rfl ?_
   refine RG.bar 14 hR rfl rfl rfl rfl rfl rfl (Q.asg rfl).toC ?_
   rintro _ _ ⟨rfl, rfl⟩
   refine RG.norm rfl ?_
   refine RG.fin hR rfl ?_
   refine J.norm rfl <| J.then_n <| J.cret <| J.blk_r <| J.then_r ?_
   have e1 : [] ++ [f, t, term].flatMap numB ++ [3, a, lt, c].flatMap numB ++ recsB (ws.map RecW.r) = msgB ⟨f, t, term, .take a lt c (ws.map RecW.r)⟩ := by rw [List.nil_append, msgB, xB, List.append_assoc]
   rw [e1]
   refine J.ret1I (own 5 1 (.slice p58 (msgB ⟨f, t, term, .take a lt c (ws.map RecW.r)⟩).length c58) (bytesV (msgB ⟨f, t, term, .take a lt c (ws.map RecW.r)⟩)) :: [L, G]) rfl rfl ⟨p58, c58, rfl, rfl⟩
  cases hc43
theorem write_took (ok : Bool) (n : Nat) (hn : n ≤ 1048576) : Wr [] (XM.vTook ok n) (.took ok n) := by
  intro f t term hf ht hterm
  refine FSpec.of func42 rfl ntmps42 rfl fun W0 F => ?_
  refine J.seq <| J.region <| J.p rfl (Q.asg rfl) <| J.nil <| J.then_n <| J.seq <| J.region <| J.m rfl <| J.p rfl (Q.conv runUnderlying3 runUnderlying56 rfl) ?_
  refine J.slot 15 (.int .u64 f) rfl (by rw [u64_in (by omega)]) ?_
  refine J.m rfl <| J.p rfl (Q.conv runUnderlying3 runUnderlying56 rfl) ?_
  refine J.slot 17 (.int .u64 t) rfl (by rw [u64_in (by omega)]) ?_
  refine J.m rfl ?_
  refine J.c rfl rfl (C.bslG (l := [_, _, _]) runUnderlying124 sizeOf56 zeroValue56 (by decide) rfl rfl rfl rfl rfl) ?_
  rintro _ _ ⟨b19, rfl, rfl⟩
  refine J.norm rfl ?_
  refine J.give (own.nil 5 1 _) ?_
  refine J.call call50 (numbers_spec (pt b19 (.cells [.int .u64 ((f : Nat) : Int), .int .u64 ((t : Nat) : Int), .int .u64 ((term : Nat) : Int)].toArray 56 (0, 0))) none 0 [] (some ⟨b19, 0, none⟩) 3 3 [f, t, term] (lit_slr rfl) (by decide) (Nat.le_of_ble_eq_true rfl) (by intro v hv; simp at hv; omega)) [0, 1] rfl rfl rfl rfl ?_
  rintro _ _ ⟨p20, c20, rfl, rfl⟩
  refine J.norm rfl ?_
  have hh := head_len hf ht hterm
  refine J.p rfl (Q.asg rfl) <| J.nil <| J.then_n <| J.seq <| J.seq <| J.region <| J.m rfl <| J.nil <| J.then_n <| J.block <| J.seq <| J.region <| J.p rfl (Q.asNo runUnderlying77 (by intro m h; cases h) zeroValue77 (by decide) rfl) <| J.p rfl (Q.ext rfl rfl) <| J.p rfl (Q.ext rfl rfl) <| J.nil <| J.then_n ?_
  refine J.cases 23 rfl (fun hc23 => ?_) (fun hc23 => ?_)
  ·
   cases hc23
  replace hc23 := X.nm hc23
  refine J.cond_f rfl <| J.seq <| J.region <| J.p rfl (Q.asNo runUnderlying89 (by intro m h; cases h) zeroValue89 (by decide) rfl) <| J.p rfl (Q.ext rfl rfl) <| J.p rfl (Q.ext rfl rfl) <| J.nil <| J.then_n ?_
  refine J.cases 34 rfl (fun hc34 => ?_) (fun hc34 => ?_)
  ·
   cases hc34
  replace hc34 := X.nm hc34
  refine J.cond_f rfl <| J.seq <| J.region <| J.p rfl (Q.asNo runUnderlying92 (by intro m h; cases h) zeroValue92 (by decide) rfl) <| J.p rfl (Q.ext rfl rfl) <| J.p rfl (Q.ext rfl rfl) <| J.nil <| J.then_n ?_
  refine J.cases 43 rfl (fun hc43 => ?_) (fun hc43 => ?_)
  ·
   cases hc43
  replace hc43 := X.nm hc43
  refine J.cond_f rfl <| J.seq <| J.region <| J.p rfl (Q.asYes runUnderlying95 (by intro m h; cases h) rfl) <| J.p rfl (Q.ext rfl rfl) <| J.p rfl (Q.ext rfl rfl) <| J.nil <| J.then_n ?_
  refine J.cases 60 rfl (fun hc60 => ?_) (fun hc60 => ?_)
  ·
   replace hc60 := X.nm hc60
   skip
   refine J.cond_t rfl <| J.seq <| J.region ?_
   refine J.c rfl rfl (C.alloc (l := [_, _]) zeroValue95 rfl) ?_
   rintro _ _ ⟨b13, rfl, rfl⟩
   refine J.norm rfl ?_
   refine J.stAJ (vs := [_, _]) rfl sizeOf95 rfl rfl ?_
   refine J.nil <| J.then_n <| J.seq ?_
   refine J.pickI [pt b13 (.cells [.bool ok, .int .i64 n].toArray 95 (0, 0))] ?_
   refine J.norm rfl ?_
   refine J.drawE [3, 7, 8, 9] 1 Try.mixed (by kernel_rfl) rfl rfl fun hR => ?_
   refine RG.p 0 hR rfl (Q.mv rfl) <| RG.p 1 hR rfl (Q.fa (n := 0) runUnderlying95 rfl rfl sizeOf4 rfl) ?_
   refine RG.p 2 hR rfl (Q.ldI isAgg4 rfl) ?_
   refine RG.p 4 hR rfl (Q.fa (n := 1) runUnderlying95 rfl rfl sizeOf3 rfl) ?_
   refine RG.p 5 hR rfl (Q.ldI isAgg3 rfl) ?_
   refine RG.p 6 hR rfl (Q.conv runUnderlying3 runUnderlying56 rfl) ?_
   refine RG.slot 68 (.int .u64 n) rfl (by rw [u64_in (by omega)]) ?_
   refine RG.callkI 3 hR rfl rfl rfl rfl rfl call51 (flag_spec ok) rfl ?_
   rintro _ _ ⟨rfl, rfl⟩
   refine RG.normE rfl ?_
   refine RG.made 7 hR rfl rfl rfl rfl rfl (C.bslG (l := [_, _, _]) runUnderlying124 sizeOf56 zeroValue56 (by decide) rfl rfl rfl rfl rfl) ?_
   rintro b69
   refine RG.callI 8 hR rfl rfl rfl rfl rfl rfl call50 (numbers_spec (pt b69 (.cells [.int .u64 4, .int .u64 ((flagN ok : Nat) : Int), .int .u64 ((n : Nat) : Int)].toArray 56 (0, 0))) p20 c20 ([] ++ [f, t, term].flatMap numB) (some ⟨b69, 0, none⟩) 3 3 [4, flagN ok, n] (lit_slr rfl) (by rw [List.nil_append]; omega) (Nat.le_of_ble_eq_true rfl) (by intro v hv; simp at hv; unfold flagN at hv; split at hv <;> omega)) rfl ?_
   rintro _ _ ⟨p70, c70, rfl, rfl⟩
   refine RG.norm rfl ?_
   refine RG.bar 9 hR rfl rfl rfl rfl rfl rfl (Q.asg rfl).toC ?_
   rintro _ _ ⟨rfl, rfl⟩
   refine RG.norm rfl ?_
   refine RG.fin hR rfl ?_
   refine J.norm rfl <| J.then_n <| J.cret <| J.blk_r <| J.then_r ?_
   have e1 : [] ++ [f, t, term].flatMap numB ++ [4, flagN ok, n].flatMap numB = msgB ⟨f, t, term, .took ok n⟩ := rfl
   rw [e1]
   refine J.ret1I (own 5 1 (.slice p70 (msgB ⟨f, t, term, .took ok n⟩).length c70) (bytesV (msgB ⟨f, t, term, .took ok n⟩)) :: []) rfl rfl ⟨p70, c70, rfl, rfl⟩
  cases hc60
theorem write_older : Wr [] XM.vOlder .older := by
  intro f t term hf ht hterm
  refine FSpec.of func42 rfl ntmps42 rfl fun W0 F => ?_
  refine J.seq <| J.region <| J.p rfl (Q.asg rfl) <| J.nil <| J.then_n <| J.seq <| J.region <| J.m rfl <| J.p rfl (Q.conv runUnderlying3 runUnderlying56 rfl) ?_
  refine J.slot 15 (.int .u64 f) rfl (by rw [u64_in (by omega)]) ?_
  refine J.m rfl <| J.p rfl (Q.conv runUnderlying3 runUnderlying56 rfl) ?_
  refine J.slot 17 (.int .u64 t) rfl (by rw [u64_in (by omega)]) ?_
  refine J.m rfl ?_
  refine J.c rfl rfl (C.bslG (l := [_, _, _]) runUnderlying124 sizeOf56 zeroValue56 (by decide) rfl rfl rfl rfl rfl) ?_
  rintro _ _ ⟨b19, rfl, rfl⟩
  refine J.norm rfl ?_
  refine J.give (own.nil 5 1 _) ?_
  refine J.call call50 (numbers_spec (pt b19 (.cells [.int .u64 ((f : Nat) : Int), .int .u64 ((t : Nat) : Int), .int .u64 ((term : Nat) : Int)].toArray 56 (0, 0))) none 0 [] (some ⟨b19, 0, none⟩) 3 3 [f, t, term] (lit_slr rfl) (by decide) (Nat.le_of_ble_eq_true rfl) (by intro v hv; simp at hv; omega)) [0, 1] rfl rfl rfl rfl ?_
  rintro _ _ ⟨p20, c20, rfl, rfl⟩
  refine J.norm rfl ?_
  have hh := head_len hf ht hterm
  refine J.p rfl (Q.asg rfl) <| J.nil <| J.then_n <| J.seq <| J.seq <| J.region <| J.m rfl <| J.nil <| J.then_n <| J.block <| J.seq <| J.region <| J.p rfl (Q.asNo runUnderlying77 (by intro m h; cases h) zeroValue77 (by decide) rfl) <| J.p rfl (Q.ext rfl rfl) <| J.p rfl (Q.ext rfl rfl) <| J.nil <| J.then_n ?_
  refine J.cases 23 rfl (fun hc23 => ?_) (fun hc23 => ?_)
  ·
   cases hc23
  replace hc23 := X.nm hc23
  refine J.cond_f rfl <| J.seq <| J.region <| J.p rfl (Q.asNo runUnderlying89 (by intro m h; cases h) zeroValue89 (by decide) rfl) <| J.p rfl (Q.ext rfl rfl) <| J.p rfl (Q.ext rfl rfl) <| J.nil <| J.then_n ?_
  refine J.cases 34 rfl (fun hc34 => ?_) (fun hc34 => ?_)
  ·
   cases hc34
  replace hc34 := X.nm hc34
  refine J.cond_f rfl <| J.seq <| J.region <| J.p rfl (Q.asNo runUnderlying92 (by intro m h; cases h) zeroValue92 (by decide) rfl) <| J.p rfl (Q.ext rfl rfl) <| J.p rfl (Q.ext rfl rfl) <| J.nil <| J.then_n ?_
  refine J.cases 43 rfl (fun hc43 => ?_) (fun hc43 => ?_)
  ·
   cases hc43
  replace hc43 := X.nm hc43
  refine J.cond_f rfl <| J.seq <| J.region <| J.p rfl (Q.asNo runUnderlying95 (by intro m h; cases h) zeroValue95 (by decide) rfl) <| J.p rfl (Q.ext rfl rfl) <| J.p rfl (Q.ext rfl rfl) <| J.nil <| J.then_n ?_
  refine J.cases 60 rfl (fun hc60 => ?_) (fun hc60 => ?_)
  ·
   cases hc60
  replace hc60 := X.nm hc60
  refine J.cond_f rfl <| J.cskip <| J.blk_n <| J.then_n <| J.seq <| J.region <| J.m rfl ?_
  refine J.c rfl rfl (C.bslG (l := [_]) runUnderlying124 sizeOf56 zeroValue56 (by decide) rfl rfl rfl rfl rfl) ?_
  rintro _ _ ⟨b72, rfl, rfl⟩
  refine J.norm rfl ?_
  refine J.callI call50 (numbers_spec (pt b72 (.cells [.int .u64 5].toArray 56 (0, 0))) p20 c20 ([] ++ [f, t, term].flatMap numB) (some ⟨b72, 0, none⟩) 1 1 [5] (lit_slr rfl) (by rw [List.nil_append]; omega) (Nat.le_of_ble_eq_true rfl) (by intro v hv; simp at hv; omega)) rfl rfl rfl ?_
  rintro _ _ ⟨p73, c73, rfl, rfl⟩
  refine J.norm rfl <| J.p rfl (Q.asg rfl) <| J.nil <| J.then_n <| J.cret ?_
  have e1 : [] ++ [f, t, term].flatMap numB ++ [5].flatMap numB = msgB ⟨f, t, term, .older⟩ := rfl
  rw [e1]
  refine J.ret1I (own 5 1 (.slice p73 (msgB ⟨f, t, term, .older⟩).length c73) (bytesV (msgB ⟨f, t, term, .older⟩)) :: []) rfl rfl ⟨p73, c73, rfl, rfl⟩

def XVal (x : XM) (xv : Value) (E : Assn) : Prop := match x with
  | .ask t n => xv = XM.vAsk t n ∧ E = fact True
  | .vote g => xv = XM.vVote g ∧ E = fact True
  | .take a lt c rs => ∃ q d, xv = XM.vTake a lt c q rs.length d ∧ E = RecsAt q d rs
  | .took ok n => xv = XM.vTook ok n ∧ E = fact True
  | .older => xv = XM.vOlder ∧ E = fact True
theorem XVal.if {x : XM} {xv : Value} {E : Assn} (h : XVal x xv E) : ∃ T v, xv = .iface T v := by
  cases x with
  | take a lt c rs => obtain ⟨q, d, e, _⟩ := h; exact ⟨_, _, e⟩
  | ask t n => exact ⟨_, _, h.1⟩
  | vote g => exact ⟨_, _, h.1⟩
  | took ok n => exact ⟨_, _, h.1⟩
  | older => exact ⟨_, _, h.1⟩
structure RecsFit (rs : List Rec) : Prop where
  len : rs.length ≤ 1048576
  r : ∀ x, x ∈ rs → x.bs.length ≤ 65536 ∧ x.term ≤ 1048576
def XFit (term : Nat) : XM → Prop
  | .ask t n => t ≤ 1048576 ∧ n ≤ 1048576
  | .vote _ => True
  | .take a lt c rs => a ≤ 1048576 ∧ lt ≤ 1048576 ∧ c ≤ 1048576 ∧ RecsFit rs ∧ Rises rs lt term
  | .took _ n => n ≤ 1048576
  | .older => True
structure MFit (m : Ms) : Prop where
  src : m.src ≤ 9
  dst : m.dst ≤ 9
  term : m.term ≤ 1048576
  x : XFit m.term m.x

def tagN : XM → Nat
  | .ask .. => 1
  | .vote _ => 2
  | .take .. => 3
  | .took .. => 4
  | .older => 5
def xR : XM → List UInt8
  | .ask t n => numB t ++ (numB n ++ [])
  | .vote g => numB (flagN g) ++ []
  | .take a lt c rs => numB a ++ (numB lt ++ (numB c ++ (recsB rs ++ [])))
  | .took ok n => numB (flagN ok) ++ (numB n ++ [])
  | .older => []
theorem xB_eq (x : XM) : xB x = numB (tagN x) ++ xR x := by
  cases x <;> simp [xB, tagN, xR]
theorem tagN_le (x : XM) : tagN x ≤ 5 := by cases x <;> simp [tagN]
theorem tag1 {x : XM} (h : (tagN x : Int) = 1) : ∃ t n, x = .ask t n := by cases x <;> simp_all [tagN]
theorem tag2 {x : XM} (h : (tagN x : Int) = 2) : ∃ g, x = .vote g := by cases x <;> simp_all [tagN]
theorem tag3 {x : XM} (h : (tagN x : Int) = 3) : ∃ a lt c rs, x = .take a lt c rs := by cases x <;> simp_all [tagN]
theorem tag4 {x : XM} (h : (tagN x : Int) = 4) : ∃ ok n, x = .took ok n := by cases x <;> simp_all [tagN]
theorem tag5 {x : XM} (h : (tagN x : Int) = 5) : x = .older := by cases x <;> simp_all [tagN]
theorem flagN_le (b : Bool) : flagN b ≤ 1 := by cases b <;> decide
theorem flagN_is (b : Bool) : decide ((flagN b : Int) = 1) = b := by cases b <;> decide

theorem read_spec (G : Assn) (p : Option Addr) (n c : Nat) (src dst term : Nat) (x : XM) (hr : SlR [G] 1 (.slice p n c) (bytesV (msgB ⟨src, dst, term, x⟩))) (hn : n ≤ 1099511627776) (hc : n ≤ c) (hf : MFit ⟨src, dst, term, x⟩) :
    FSpec Try.prog 33 [.slice p n c] [G] (fun u B => ∃ xv E, XVal x xv E ∧ u = .tuple #[.int .i64 src, .int .i64 dst, .int .u64 term, xv, .bool true] ∧ B = [E, G]) := by
  have e0 : msgB ⟨src, dst, term, x⟩ = numB src ++ (numB dst ++ (numB term ++ (numB (tagN x) ++ xR x))) := by
   rw [msgB, xB_eq]; simp
  rw [e0] at hr
  have hs := hf.src
  have hd := hf.dst
  have ht := hf.term
  have hx := hf.x
  dsimp only at hs hd ht hx
  have htg := tagN_le x
  refine FSpec.of func33 rfl ntmps33 rfl fun W0 F => ?_
  refine J.seq <| J.region <| J.p rfl (Q.asg rfl) <| J.p rfl (Q.asg rfl) <| J.p rfl (Q.asg rfl) <| J.p rfl (Q.asg rfl) <| J.p rfl (Q.asg rfl) <| J.nil <| J.then_n <| J.seq <| J.region <| J.m rfl <| J.p rfl (Q.bld (l := [.slice p n c, .int .i64 0]) runUnderlying107 zeroValue107 places107 rfl (by kernel_rfl)) ?_
  refine J.c rfl rfl (C.box (l := [_, _]) rfl rfl) ?_
  rintro _ _ ⟨b11, rfl, rfl⟩
  refine J.norm rfl ?_
  refine J.convI (pt b11 (.cells [.slice p n c, .int .i64 0].toArray 107 (0, 0))) (RdAt G b11 (numB src ++ (numB dst ++ (numB term ++ (numB (tagN x) ++ xR x))))) (RdAt.mk hr hn hc) ?_
  refine J.p rfl (Q.asg rfl) <| J.nil <| J.then_n <| J.seq <| J.region <| J.m rfl ?_
  refine J.callI call44 (small_R G b11 (numB dst ++ (numB term ++ (numB (tagN x) ++ xR x))) src (by omega)) rfl rfl rfl ?_
  rintro _ _ ⟨rfl, rfl⟩
  refine J.norm rfl <| J.m rfl ?_
  refine J.callI call44 (small_R G b11 (numB term ++ (numB (tagN x) ++ xR x)) dst (by omega)) rfl rfl rfl ?_
  rintro _ _ ⟨rfl, rfl⟩
  refine J.norm rfl <| J.m rfl ?_
  refine J.callI call45 (number_R G b11 (numB (tagN x) ++ xR x) term (by omega)) rfl rfl rfl ?_
  rintro _ _ ⟨rfl, rfl⟩
  refine J.norm rfl <| J.p rfl (Q.asg rfl) <| J.p rfl (Q.asg rfl) <| J.p rfl (Q.asg rfl) <| J.nil <| J.then_n ?_
  refine J.cut (fun z : Value × Assn => XVal x z.1 z.2) (fun z => [(2, .int .i64 (src : Nat)), (3, .int .i64 (dst : Nat)), (4, .int .u64 (term : Nat)), (5, z.1), (7, .pointer (some ⟨b11, 0, none⟩))]) (fun z => [RdAt G b11 [], z.2, G, F]) ?_ fun z hz => ?_
  ·
   refine J.seq <| J.region <| J.m rfl ?_
   refine J.callI call45 (number_R G b11 (xR x) (tagN x) (by omega)) rfl rfl rfl ?_
   rintro _ _ ⟨rfl, rfl⟩
   refine J.norm rfl <| J.nil <| J.then_n <| J.block <| J.seq <| J.region <| J.p rfl (Q.eql rfl rfl) <| J.p rfl (Q.asg rfl) <| J.nil <| J.then_n ?_
   refine J.kases 20 rfl (fun hc20 => ?_) (fun hc20 => ?_)
   ·
    obtain ⟨at_, an, rfl⟩ := tag1 hc20
    refine J.cond_t rfl ?_
    rw [show xR (.ask at_ an) = numB at_ ++ (numB an ++ []) from rfl]
    refine J.region <| J.m rfl ?_
    refine J.callI call45 (number_R G b11 (numB an ++ []) at_ (by have := hx.1; omega)) rfl rfl rfl ?_
    rintro _ _ ⟨rfl, rfl⟩
    refine J.norm rfl <| J.m rfl ?_
    refine J.callI call44 (small_R G b11 [] an (by have := hx.2; omega)) rfl rfl rfl ?_
    rintro _ _ ⟨rfl, rfl⟩
    refine J.norm rfl <| J.p rfl (Q.bld (l := [_, _]) runUnderlying77 zeroValue77 places77 rfl rfl) <| J.p rfl (Q.mkif runUnderlying77 (by intro m h; cases h) rfl) <| J.p rfl (Q.asg rfl) <| J.nil <| J.blk_n ?_
    refine J.give (X := fact True) trivial ?_
    exact J.meetI (XM.vAsk at_ an, fact True) ⟨rfl, rfl⟩ ⟨rfl, rfl, rfl, rfl, rfl, trivial⟩
   refine J.cond_f rfl <| J.seq <| J.region <| J.p rfl (Q.eql rfl rfl) <| J.p rfl (Q.asg rfl) <| J.nil <| J.then_n ?_
   refine J.kases 28 rfl (fun hc28 => ?_) (fun hc28 => ?_)
   ·
    obtain ⟨vg, rfl⟩ := tag2 hc28
    refine J.cond_t rfl ?_
    rw [show xR (.vote vg) = numB (flagN vg) ++ [] from rfl]
    refine J.region <| J.m rfl ?_
    refine J.callI call45 (number_R G b11 [] (flagN vg) (by have := flagN_le vg; omega)) rfl rfl rfl ?_
    rintro _ _ ⟨rfl, rfl⟩
    refine J.norm rfl <| J.p rfl (Q.eql rfl rfl) ?_
    refine J.slot 32 (.bool vg) rfl (by rw [flagN_is]) ?_
    refine J.p rfl (Q.bld (l := [_]) runUnderlying89 zeroValue89 places89 rfl rfl) <| J.p rfl (Q.mkif runUnderlying89 (by intro m h; cases h) rfl) <| J.p rfl (Q.asg rfl) <| J.nil <| J.blk_n ?_
    refine J.give (X := fact True) trivial ?_
    exact J.meetI (XM.vVote vg, fact True) ⟨rfl, rfl⟩ ⟨rfl, rfl, rfl, rfl, rfl, trivial⟩
   refine J.cond_f rfl <| J.seq <| J.region <| J.p rfl (Q.eql rfl rfl) <| J.p rfl (Q.asg rfl) <| J.nil <| J.then_n ?_
   refine J.kases 35 rfl (fun hc35 => ?_) (fun hc35 => ?_)
   ·
    obtain ⟨ta, tl, tc, rs, rfl⟩ := tag3 hc35; obtain ⟨hx1, hx2, hx3, hx4, hx5⟩ := hx
    refine J.cond_t rfl <| J.seq ?_
    rw [show xR (.take ta tl tc rs) = numB ta ++ (numB tl ++ (numB tc ++ (recsB rs ++ []))) from rfl]
    refine J.region <| J.m rfl ?_
    refine J.callI call44 (small_R G b11 (numB tl ++ (numB tc ++ (recsB rs ++ []))) ta (by omega)) rfl rfl rfl ?_
    rintro _ _ ⟨rfl, rfl⟩
    refine J.norm rfl <| J.m rfl ?_
    refine J.callI call45 (number_R G b11 (numB tc ++ (recsB rs ++ [])) tl (by omega)) rfl rfl rfl ?_
    rintro _ _ ⟨rfl, rfl⟩
    refine J.norm rfl <| J.m rfl ?_
    refine J.callI call44 (small_R G b11 (recsB rs ++ []) tc (by omega)) rfl rfl rfl ?_
    rintro _ _ ⟨rfl, rfl⟩
    refine J.norm rfl <| J.p rfl (Q.bld (l := [_, _, _, _]) runUnderlying92 zeroValue92 places92 rfl rfl) ?_
    refine J.c rfl rfl (C.alloc (l := [_, _, _, _]) zeroValue92 rfl) ?_
    rintro _ _ ⟨b8, rfl, rfl⟩
    refine J.norm rfl ?_
    refine J.stAJ (vs := [_, _, _, _]) rfl sizeOf92 rfl rfl ?_
    refine J.nil <| J.then_n <| J.seq <| J.region <| J.m rfl ?_
    refine J.callI call46 (records_R G b11 [] rs hx4.len hx4.r) rfl rfl rfl ?_
    rintro _ _ ⟨q45, d45, rfl, rfl⟩
    refine J.norm rfl <| J.p rfl (Q.fa (n := 3) runUnderlying92 rfl rfl sizeOf62 rfl) ?_
    refine J.stJ rfl sizeOf62 rfl rfl rfl ?_
    refine J.nil <| J.then_n <| J.seq <| J.region <| J.p rfl (Q.fa (n := 3) runUnderlying92 rfl rfl sizeOf62 rfl) ?_
    refine J.p rfl (Q.ldI isAgg62 rfl) ?_
    refine J.p rfl (Q.fa (n := 1) runUnderlying92 rfl rfl sizeOf56 rfl) ?_
    refine J.p rfl (Q.ldI isAgg56 rfl) ?_
    refine J.m rfl ?_
    refine J.callI call47 (rises_T q45 d45 rs tl term hx5 hx4.len) rfl rfl rfl ?_
    rintro _ _ ⟨rfl, rfl⟩
    refine J.norm rfl <| J.nil <| J.then_n ?_
    refine J.cases 52 rfl (fun hc52 => ?_) (fun hc52 => ?_)
    ·
     replace hc52 := X.nm hc52
     skip
     refine J.cond_t rfl <| J.region ?_
     refine J.p rfl (Q.ldN (vs := [_, _, _, _]) isAgg92 sizeOf92 rfl rnI) ?_
     refine J.p rfl (Q.mkif runUnderlying92 (by intro m h; cases h) rfl) <| J.p rfl (Q.asg rfl) <| J.nil <| J.blk_n ?_
     exact J.meetI (XM.vTake ta tl tc q45 rs.length d45, RecsAt q45 d45 rs) ⟨q45, d45, rfl, rfl⟩ ⟨rfl, rfl, rfl, rfl, rfl, trivial⟩
    cases hc52
   refine J.cond_f rfl <| J.seq <| J.region <| J.p rfl (Q.eql rfl rfl) <| J.p rfl (Q.asg rfl) <| J.nil <| J.then_n ?_
   refine J.kases 55 rfl (fun hc55 => ?_) (fun hc55 => ?_)
   ·
    obtain ⟨ko, kn, rfl⟩ := tag4 hc55
    refine J.cond_t rfl ?_
    rw [show xR (.took ko kn) = numB (flagN ko) ++ (numB kn ++ []) from rfl]
    refine J.region <| J.m rfl ?_
    refine J.callI call45 (number_R G b11 (numB kn ++ []) (flagN ko) (by have := flagN_le ko; omega)) rfl rfl rfl ?_
    rintro _ _ ⟨rfl, rfl⟩
    refine J.norm rfl <| J.p rfl (Q.eql rfl rfl) ?_
    refine J.slot 59 (.bool ko) rfl (by rw [flagN_is]) ?_
    refine J.m rfl ?_
    refine J.callI call44 (small_R G b11 [] kn (by have h : kn ≤ 1048576 := hx; omega)) rfl rfl rfl ?_
    rintro _ _ ⟨rfl, rfl⟩
    refine J.norm rfl <| J.p rfl (Q.bld (l := [_, _]) runUnderlying95 zeroValue95 places95 rfl rfl) <| J.p rfl (Q.mkif runUnderlying95 (by intro m h; cases h) rfl) <| J.p rfl (Q.asg rfl) <| J.nil <| J.blk_n ?_
    refine J.give (X := fact True) trivial ?_
    exact J.meetI (XM.vTook ko kn, fact True) ⟨rfl, rfl⟩ ⟨rfl, rfl, rfl, rfl, rfl, trivial⟩
   refine J.cond_f rfl <| J.seq <| J.region <| J.p rfl (Q.eql rfl rfl) <| J.p rfl (Q.asg rfl) <| J.nil <| J.then_n ?_
   refine J.cases 64 rfl (fun hc64 => ?_) (fun hc64 => ?_)
   ·
    replace hc64 := X.nm hc64
    obtain rfl := tag5 hc64
    refine J.cond_t rfl ?_
    rw [show xR XM.older = [] from rfl]
    refine J.region <| J.p rfl (Q.bld (l := []) runUnderlying86 zeroValue86 places86 rfl rfl) <| J.p rfl (Q.mkif runUnderlying86 (by intro m h; cases h) rfl) <| J.p rfl (Q.asg rfl) <| J.nil <| J.blk_n ?_
    refine J.give (X := fact True) trivial ?_
    exact J.meetI (XM.vOlder, fact True) ⟨rfl, rfl⟩ ⟨rfl, rfl, rfl, rfl, rfl, trivial⟩
   exfalso; cases x <;> simp [tagN] at * <;> omega
  obtain ⟨xv, E⟩ := z
  obtain ⟨T, iv, hiv⟩ := XVal.if hz
  dsimp only at hz hiv
  refine J.norm rfl ?_
  refine J.openI (RdAt G b11 []) (fun _ h => h) fun y hy => ?_
  refine J.norm rfl ?_
  have hy0 : y.2.1 = 0 := by have := hy.1.len; simp [bytesV] at this; omega
  refine J.slot 5 (.iface T iv) rfl hiv ?_
  refine J.seq ?_
  refine J.draw [21, 22, 23, 24, 25] Try.mixed (by kernel_rfl) fun hR => ?_
  refine RG.p 0 hR rfl (Q.mv rfl) <| RG.p 1 hR rfl (Q.mv rfl) <| RG.p 2 hR rfl (Q.mv rfl) <| RG.p 3 hR rfl (Q.mv rfl) <| RG.p 4 hR rfl (Q.mv rfl) <| RG.p 5 hR rfl (Q.neqnil runUnderlying20 rfl rfl) <| RG.p 6 hR rfl (Q.mv rfl) ?_
  refine RG.cases 74 rfl (fun hb74 => ?_) (fun hb74 => ?_)
  ·
   replace hb74 := X.nm hb74
   refine RG.p 7 hR rfl (Q.mv rfl) <| RG.p 8 hR rfl (Q.nil_ rfl) <| RG.p 9 hR rfl (Q.fa (n := 1) runUnderlying107 rfl rfl sizeOf38 rfl) ?_
   refine RG.p 10 hR rfl (Q.ldI isAgg38 rfl) ?_
   refine RG.p 11 hR rfl (Q.eql rfl rfl) <| RG.p 12 hR rfl (Q.pick_t rfl rfl) <| RG.p 13 hR rfl (Q.mv rfl) ?_
   refine RG.cases 81 rfl (fun hb81 => ?_) (fun hb81 => ?_)
   ·
    replace hb81 := X.nm hb81
    refine RG.p 14 hR rfl (Q.mv rfl) <| RG.p 15 hR rfl (Q.nil_ rfl) <| RG.p 16 hR rfl (Q.fa (n := 0) runUnderlying107 rfl rfl sizeOf41 rfl) ?_
    refine RG.p 17 hR rfl (Q.ldI isAgg41 rfl) ?_
    refine RG.p 18 hR rfl (Q.lenSl runUnderlying41 rfl) <| RG.p 19 hR rfl (Q.eql rfl rfl) <| RG.p 20 hR rfl (Q.pick_t rfl rfl) ?_
    refine RG.keep 21 hR rfl rfl rfl rfl rfl (Q.asg rfl) ?_
    refine RG.keep 22 hR rfl rfl rfl rfl rfl (Q.asg rfl) ?_
    refine RG.keep 23 hR rfl rfl rfl rfl rfl (Q.asg rfl) ?_
    refine RG.keep 24 hR rfl rfl rfl rfl rfl (Q.asg rfl) ?_
    refine RG.bar 25 hR rfl rfl rfl rfl rfl rfl (Q.asg rfl).toC ?_
    rintro _ _ ⟨rfl, rfl⟩
    refine RG.norm rfl ?_
    refine RG.fin hR rfl ?_
    refine J.norm rfl <| J.then_n <| J.cret ?_
    refine J.slot 6 (.bool true) rfl (by rw [hy0]; rfl) ?_
    refine J.keepI ([E, G] ++ [F]) ?_
    refine J.ret5 (B := [E, G]) rfl rfl rfl rfl rfl rfl ⟨xv, E, hz, by rw [hiv], rfl⟩ rfl
   replace hb81 := X.nm hb81
   simp at hb81
  replace hb74 := X.nm hb74
  cases hb74
end Go.Proofs.Ytgdmfagmpfalbaa
namespace Go.Proofs.Ytgdmfagmpfalbaa
open Go.Proofs.Try
open Go.X
open Go.Rf (Rec XM Ms Nd lastT)

def intV (n : Nat) : Value := .int .i64 n
abbrev coreCells (s : Nd) (lp : Option Addr) (lc : Nat) (vp : Option Addr) (vc : Nat) : List Value := [.int .i64 s.id, .int .i64 s.n, .int .u64 s.term, .int .i64 s.vote, .slice lp s.log.length lc, .int .i64 s.commit, .int .i64 s.role, .int .i64 s.leader, .slice vp s.votes.length vc]
abbrev coreA (c : Nat) (s : Nd) (lp : Option Addr) (lc : Nat) (vp : Option Addr) (vc : Nat) : Assn := pt c (.cells (coreCells s lp lc vp vc).toArray 70 (0, 0))
abbrev leadL (l c : Nat) (np : Option Addr) (nc : Nat) (mp : Option Addr) (mc : Nat) (nx mt : List Nat) : List Assn := [pt l (.cells [.pointer (some ⟨c, 0, none⟩), .slice np nx.length nc, .slice mp mt.length mc].toArray 103 (0, 0)), own 3 1 (.slice np nx.length nc) (nx.map intV), own 3 1 (.slice mp mt.length mc) (mt.map intV)]
def LeadAt (c : Nat) (lv : Value) : Option (List Nat × List Nat) → Assn
  | none => fact (lv = .pointer none)
  | some (nx, mt) => fun h => ∃ (l : Nat) (np : Option Addr) (nc : Nat) (mp : Option Addr) (mc : Nat), lv = .pointer (some ⟨l, 0, none⟩) ∧ HSat h (leadL l c np nc mp mc nx mt)
abbrev nodeL (p c : Nat) (lv : Value) (lp : Option Addr) (lc : Nat) (vp : Option Addr) (vc : Nat) (s : Nd) : List Assn := [pt p (.cells [.pointer (some ⟨c, 0, none⟩), lv].toArray 68 (0, 0)), coreA c s lp lc vp vc, RecsAt lp lc s.log, own 4 1 (.slice vp s.votes.length vc) (s.votes.map Value.bool), LeadAt c lv s.lead]
def NodeAt (p : Nat) (s : Nd) : Assn := fun h => ∃ (c : Nat) (lv : Value) (lp : Option Addr) (lc : Nat) (vp : Option Addr) (vc : Nat), HSat h (nodeL p c lv lp lc vp vc s)
theorem nodeL_lead {p c : Nat} {lv : Value} {lp : Option Addr} {lc : Nat} {vp : Option Addr} {vc : Nat} {s : Nd} {x : Option (List Nat × List Nat)} (h : s.lead = x) : nodeL p c lv lp lc vp vc s = [pt p (.cells [.pointer (some ⟨c, 0, none⟩), lv].toArray 68 (0, 0)), coreA c s lp lc vp vc, RecsAt lp lc s.log, own 4 1 (.slice vp s.votes.length vc) (s.votes.map Value.bool), LeadAt c lv x] := by rw [← h]
theorem NodeAt.shut {p c : Nat} {lv : Value} {lp : Option Addr} {lc : Nat} {vp : Option Addr} {vc : Nat} {s : Nd} : ∀ h, HSat h (nodeL p c lv lp lc vp vc s) → NodeAt p s h := fun _ h => ⟨c, lv, lp, lc, vp, vc, h⟩
theorem openNode {P : Program} {f : FuncId} {args : List Value} {R : Value → List Assn → Prop} {As : List Assn} {p : Nat} {s : Nd} (k : ∀ c lv lp lc vp vc, FSpec P f args (nodeL p c lv lp lc vp vc s ++ As) R) : FSpec P f args (NodeAt p s :: As) R :=
  openHd (α := Nat × Value × Option Addr × Nat × Option Addr × Nat) (p := fun _ => True) (Bs := fun z => nodeL p z.1 z.2.1 z.2.2.1 z.2.2.2.1 z.2.2.2.2.1 z.2.2.2.2.2 s) (fun h ⟨c, lv, lp, lc, vp, vc, hh⟩ => ⟨(c, lv, lp, lc, vp, vc), trivial, hh⟩) fun z _ => k ..
theorem J.openNode {W0 : World} {N : Nat} {L : Slots} {A D : List Assn} {G : Act → World → Prop} (p : Nat) (s : Nd) [h : PickO A (NodeAt p s) D] (j : ∀ c lv lp lc vp vc, J W0 N L (nodeL p c lv lp lc vp vc s ++ D) G) : J W0 N L A G :=
  J.openI (α := Nat × Value × Option Addr × Nat × Option Addr × Nat) (p := fun _ => True) (Bs := fun z => nodeL p z.1 z.2.1 z.2.2.1 z.2.2.2.1 z.2.2.2.2.1 z.2.2.2.2.2 s) (NodeAt p s) (fun h ⟨c, lv, lp, lc, vp, vc, hh⟩ => ⟨(c, lv, lp, lc, vp, vc), trivial, hh⟩) fun z _ => j ..
theorem LeadAt.nil {c : Nat} {h : Hp} : LeadAt c (.pointer none) none h := rfl
theorem LeadAt.shut {c l : Nat} {np : Option Addr} {nc : Nat} {mp : Option Addr} {mc : Nat} {nx mt : List Nat} : ∀ h, HSat h (leadL l c np nc mp mc nx mt) → LeadAt c (.pointer (some ⟨l, 0, none⟩)) (some (nx, mt)) h := fun _ h => ⟨l, np, nc, mp, mc, rfl, h⟩
theorem J.openLead {W0 : World} {N : Nat} {L : Slots} {A D : List Assn} {G : Act → World → Prop} (c : Nat) (lv : Value) (nx mt : List Nat) [h : PickO A (LeadAt c lv (some (nx, mt))) D] (j : ∀ l np nc mp mc, lv = .pointer (some ⟨l, 0, none⟩) → J W0 N L (leadL l c np nc mp mc nx mt ++ D) G) : J W0 N L A G :=
  J.openI (α := Nat × Option Addr × Nat × Option Addr × Nat) (p := fun z => lv = .pointer (some ⟨z.1, 0, none⟩)) (Bs := fun z => leadL z.1 c z.2.1 z.2.2.1 z.2.2.2.1 z.2.2.2.2 nx mt) (LeadAt c lv (some (nx, mt))) (fun h ⟨l, np, nc, mp, mc, e, hh⟩ => ⟨(l, np, nc, mp, mc), e, hh⟩) fun z e => j _ _ _ _ _ e
theorem J.noLead {W0 : World} {N : Nat} {L : Slots} {A D : List Assn} {G : Act → World → Prop} (c : Nat) (lv : Value) [h : PickO A (LeadAt c lv none) D] (j : lv = .pointer none → J W0 N L A G) : J W0 N L A G :=
  J.know (p := lv = .pointer none) (fun k s => by
    obtain ⟨_, _, a, _⟩ := s.perm h.perm
    exact a) j

theorem J.convPt {W0 : World} {N : Nat} {L : Slots} {A : List Assn} {G : Act → World → Prop} (b : Nat) {o : Obj} (o' : Obj) {KK : Obj → List Assn} [h : AtPt A b o KK] (e : o = o') (k : J W0 N L (KK o') G) : J W0 N L A G := by
  obtain ⟨i, h1, h2⟩ := h.at_
  subst e
  have : A = KK o := by
    rw [← h2]
    refine List.ext_getElem? fun j => ?_
    rw [List.getElem?_set]
    split
    · rename_i q
      subst q
      rw [h1, if_pos (List.getElem?_eq_some_iff.1 h1).1]
    · rfl
  rw [this]; exact k
theorem noBits (h : Hp) : own 4 1 (.slice none ([] : List Bool).length 0) (([] : List Bool).map Value.bool) h := own.nil _ _ _
def Wr1 (X : Assn) (xv : Value) (x : XM) : Prop := ∀ f t term : Nat, f ≤ 9 → t ≤ 9 → term ≤ 1048576 → FSpec Try.prog 42 [.int .i64 f, .int .i64 t, .int .u64 term, xv] [X]
    (fun u B => ∃ p c, u = .slice p (msgB ⟨f, t, term, x⟩).length c ∧ B = [own 5 1 (.slice p (msgB ⟨f, t, term, x⟩).length c) (bytesV (msgB ⟨f, t, term, x⟩)), X])
theorem Wr.one {As : List Assn} {xv : Value} {x : XM} (h : Wr As xv x) : Wr1 (star As) xv x := by
  intro f t term hf ht hterm
  refine (h f t term hf ht hterm).conv (fun k s => by simpa using HSat.unpack (Bs := []) s) ?_
  rintro _ _ ⟨p, c, rfl, rfl⟩
  exact ⟨_, ⟨p, c, rfl, rfl⟩, fun k s => s.under fun _ s => HSat.pack (Bs := []) (by simpa using s)⟩

section
variable (c : Nat) (s : Nd) (lp : Option Addr) (lc : Nat) (vp : Option Addr) (vc : Nat)
theorem last_spec (hl : s.log.length ≤ 1048576) : FSpec Try.prog 27 [.pointer (some ⟨c, 0, none⟩)] [coreA c s lp lc vp vc, RecsAt lp lc s.log] (fun u B => u = .tuple #[.int .u64 (lastT s.log : Nat), .int .i64 (s.log.length : Nat)] ∧ B = [coreA c s lp lc vp vc, RecsAt lp lc s.log]) := by
  refine FSpec.of func27 rfl ntmps27 rfl fun W0 F => ?_
  refine J.seq <| J.region <| J.p rfl (Q.asg rfl) <| J.p rfl (Q.asg rfl) <| J.nil <| J.then_n <| J.seq <| J.region <| J.m rfl <| J.p rfl (Q.nil_ rfl) <| J.p rfl (Q.fa (n := 2) runUnderlying70 rfl rfl sizeOf64 rfl) <| J.p rfl (Q.fa (n := 2) runUnderlying64 rfl rfl sizeOf62 rfl) ?_
  refine J.p rfl (Q.ldI isAgg62 rfl) ?_
  refine J.p rfl (Q.lenSl runUnderlying62 rfl) <| J.p rfl (Q.asg rfl) <| J.nil <| J.then_n <| J.seq <| J.seq <| J.region <| J.m rfl <| J.p rfl (Q.eql rfl rfl) <| J.nil <| J.then_n ?_
  refine J.kases 12 rfl (fun hc12 => ?_) (fun hc12 => ?_)
  ·
   refine J.cond_t rfl <| J.seq <| J.region <| J.p rfl (Q.asg rfl) <| J.p rfl (Q.asg rfl) <| J.nil <| J.then_n <| J.cret <| J.then_r ?_
   have h0 : s.log = [] := List.length_eq_zero_iff.1 (by omega)
   have e : lastT s.log = 0 := by rw [h0]; rfl
   rw [e, show s.log.length = 0 by omega]
   refine J.ret2I [_, _] rfl rfl rfl ⟨rfl, rfl⟩
  refine J.cond_f rfl <| J.cskip <| J.then_n <| J.seq ?_
  refine J.openI (RecsAt lp lc s.log) (fun _ h => h) fun z hz => ?_
  refine J.norm rfl ?_
  refine J.slrI (E0 := 81) (sz := 2) (p := lp) (n := s.log.length) (c := lc) (xs := z.1.flatMap RecW.cells) fun hsl => ?_
  have hzl : z.1.length = s.log.length := by rw [← hz.1, List.length_map]
  obtain ⟨b, off, rfl, hrd⟩ := hsl.some_ (by omega)
  obtain ⟨w, hw⟩ : ∃ w, z.1[s.log.length - 1]? = some w := ⟨_, List.getElem?_eq_getElem (by omega)⟩
  have hlt : lastT s.log = w.r.term := by
   unfold lastT
   rw [← hz.1, List.getElem?_map, List.length_map, hzl, hw]; rfl
  refine J.region <| J.m rfl <| J.p rfl (Q.nil_ rfl) <| J.p rfl (Q.fa (n := 2) runUnderlying70 rfl rfl sizeOf64 rfl) <| J.p rfl (Q.fa (n := 2) runUnderlying64 rfl rfl sizeOf62 rfl) ?_
  refine J.p rfl (Q.ldI isAgg62 rfl) ?_
  refine J.m rfl <| J.p rfl (Q.sub64 rfl rfl (by omega)) <| J.p rfl (Q.ia runUnderlying62 sizeOf81 rfl rfl (by omega) (by omega)) <| J.p rfl (Q.fa (n := 0) runUnderlying81 rfl rfl sizeOf56 rfl) <| J.p rfl (Q.ld isAgg56 rfl ((rd_field RecW.len hrd hw (k := 0) (u := .int .u64 w.r.term) rfl (by omega)).inI)) <| J.m rfl <| J.p rfl (Q.asg rfl) ?_
  refine J.p rfl (Q.asg rfl) <| J.nil <| J.then_n <| J.cret ?_
  refine J.shutI [own 81 2 (.slice (some ⟨b, off, none⟩) s.log.length lc) (z.1.flatMap RecW.cells), z.2] (RecsAt (some ⟨b, off, none⟩) lc s.log) (fun h hh => ⟨z, hz, hh⟩) ?_
  rw [hlt]
  refine J.ret2I [coreA c s (some ⟨b, off, none⟩) lc vp vc, RecsAt (some ⟨b, off, none⟩) lc s.log] rfl rfl rfl ⟨rfl, rfl⟩

def othersTo (s : Nd) (i : Nat) : List Nat := (List.range i).filter fun j => !(j == s.id)
theorem othersTo_len (s : Nd) (i : Nat) : (othersTo s i).length ≤ i := by
  have := List.length_filter_le (fun j => !(j == s.id)) (List.range i)
  rw [List.length_range] at this; exact this
theorem others_spec (hn : s.n ≤ 9) (hi : s.id ≤ 9) : FSpec Try.prog 28 [.pointer (some ⟨c, 0, none⟩)] [coreA c s lp lc vp vc] (fun u B => ∃ q d, u = .slice q s.others.length d ∧ B = [own 3 1 (.slice q s.others.length d) (s.others.map intV), coreA c s lp lc vp vc]) := by
  refine FSpec.of func28 rfl ntmps28 rfl fun W0 F => ?_
  refine J.seq <| J.region <| J.p rfl (Q.asg rfl) <| J.nil <| J.then_n <| J.seq <| J.region <| J.p rfl (Q.asg rfl) <| J.nil <| J.then_n <| J.seq <| J.seq <| J.region <| J.m rfl <| J.p rfl (Q.nil_ rfl) <| J.p rfl (Q.fa (n := 1) runUnderlying70 rfl rfl sizeOf3 rfl) ?_
  refine J.p rfl (Q.ldI isAgg3 rfl) ?_
  refine J.m rfl <| J.nil <| J.then_n <| J.block ?_
  refine J.give (own.nil 3 1 _) ?_
  refine J.keepI [own 3 1 (.slice none 0 0) [], coreA c s lp lc vp vc, F] ?_
  refine J.loop3 (fun (i : Nat) (_ : Option Addr) (_ : Nat) => i ≤ s.n) (fun i _ _ => s.n - i) (fun i q d => [(0, .pointer (some ⟨c, 0, none⟩)), (3, .slice q (othersTo s i).length d), (8, .int .i64 (s.n : Nat)), (9, .int .i64 (i : Nat))]) (fun i q d => [own 3 1 (.slice q (othersTo s i).length d) ((othersTo s i).map intV), coreA c s lp lc vp vc, F]) 0 none 0 (Nat.zero_le _) ⟨rfl, rfl, rfl, rfl, trivial⟩ rfl fun i q d hi => ?_
  refine J.seq <| J.region <| J.p rfl (Q.lss rfl rfl) <| J.nil <| J.then_n <| J.seq ?_
  refine J.kases 10 rfl (fun hc10 => ?_) (fun hc10 => ?_)
  ·
   refine J.cond_t rfl <| J.cskip <| J.then_n <| J.seq <| J.block <| J.seq <| J.region <| J.m rfl <| J.p rfl (Q.asg rfl) <| J.nil <| J.then_n <| J.seq <| J.region <| J.m rfl <| J.m rfl <| J.p rfl (Q.nil_ rfl) <| J.p rfl (Q.fa (n := 0) runUnderlying70 rfl rfl sizeOf3 rfl) ?_
   refine J.p rfl (Q.ldI isAgg3 rfl) ?_
   refine J.p rfl (Q.neq rfl rfl) <| J.nil <| J.then_n ?_
   refine J.kases 17 rfl (fun hc17 => ?_) (fun hc17 => ?_)
   ·
    refine J.cond_t rfl <| J.region <| J.m rfl <| J.m rfl ?_
    refine J.c rfl rfl (C.bslG (l := [_]) runUnderlying22 sizeOf3 zeroValue3 (by decide) rfl rfl rfl rfl rfl) ?_
    rintro _ _ ⟨b20, rfl, rfl⟩
    refine J.norm rfl ?_
    have hol := othersTo_len s i
    refine J.c rfl rfl (C.appI runUnderlying22 runUnderlying22 typeInfo3 sizeOf3 zeroValue3 rfl rfl (SlR.ptI rfl) (by intro v hv; obtain rfl := List.mem_singleton.1 hv; rfl) (by simp [Try.t3] <;> omega) (by decide)) ?_
    rintro _ _ ⟨p21, c21, rfl, rfl⟩
    refine J.norm rfl ?_
    have hol := othersTo_len s i
    have e1 : othersTo s (i + 1) = othersTo s i ++ [i] := by
     unfold othersTo
     rw [List.range_succ, List.filter_append]
     simp only [List.filter_cons, List.filter_nil]
     rw [if_pos (by simp; omega)]
    have e2 : (othersTo s i).length + 1 = (othersTo s (i + 1)).length := by rw [e1, List.length_append]; rfl
    have e3 : (othersTo s i).map intV ++ [.int .i64 (i : Nat)] = (othersTo s (i + 1)).map intV := by rw [e1, List.map_append]; rfl
    rw [e2, e3]
    refine J.p rfl (Q.asg rfl) <| J.nil <| J.blk_n <| J.then_n <| J.region <| J.p rfl (Q.add64 rfl rfl (by omega)) <| J.m rfl <| J.nil ?_
    refine J.againI (i + 1, p21, c21) (by show i + 1 ≤ s.n; omega) (by show s.n - (i + 1) < s.n - i; omega) ⟨rfl, rfl, rfl, rfl, trivial⟩
   refine J.cond_f rfl <| J.cskip <| J.blk_n <| J.then_n <| J.region <| J.p rfl (Q.add64 rfl rfl (by omega)) <| J.m rfl <| J.nil ?_
   have e1 : othersTo s (i + 1) = othersTo s i := by
    unfold othersTo
    rw [List.range_succ, List.filter_append]
    simp only [List.filter_cons, List.filter_nil]
    rw [if_neg (by simp; omega), List.append_nil]
   rw [← e1]
   refine J.againI (i + 1, q, d) (by show i + 1 ≤ s.n; omega) (by show s.n - (i + 1) < s.n - i; omega) ⟨rfl, rfl, rfl, rfl, trivial⟩
  refine J.cond_f rfl <| J.exit <| J.then_x <| J.lp_x <| J.blk_x <| J.then_n <| J.seq <| J.region <| J.m rfl <| J.p rfl (Q.asg rfl) <| J.nil <| J.then_n <| J.cret ?_
  have e : othersTo s i = s.others := by
   have : i = s.n := by omega
   rw [this]; rfl
  rw [e]
  refine J.ret1I [own 3 1 (.slice q s.others.length d) (s.others.map intV), coreA c s lp lc vp vc] rfl rfl ⟨q, d, rfl, rfl⟩

theorem send_spec (X : Assn) (xv : Value) (x : XM) (hw : Wr1 X xv x) (to : Nat) (ht : to ≤ 9) (hi : s.id ≤ 9) (hterm : s.term ≤ 1048576) : FSpec Try.prog 29 [.pointer (some ⟨c, 0, none⟩), .int .i64 to, xv] [coreA c s lp lc vp vc, X]
    (fun u B => ∃ q d, u = .agg #[.int .i64 (s.id : Nat), .int .i64 to, .slice q (msgB (s.msg to x)).length d] ∧ B = [own 5 1 (.slice q (msgB (s.msg to x)).length d) (bytesV (msgB (s.msg to x))), coreA c s lp lc vp vc, X]) := by
  refine FSpec.of func29 rfl ntmps29 rfl fun W0 F => ?_
  refine J.seq <| J.region ?_
  refine J.c rfl rfl (C.alloc (l := [_, _, _]) zeroValue53 rfl) ?_
  rintro _ _ ⟨b6, rfl, rfl⟩
  refine J.norm rfl <| J.nil <| J.then_n <| J.seq ?_
  refine J.pickI [coreA c s lp lc vp vc, pt b6 (.cells [.int .i64 0, .int .i64 0, .slice none 0 0].toArray 53 (0, 0))] ?_
  refine J.norm rfl ?_
  refine J.drawE [16, 18] 1 Try.mixed (by kernel_rfl) rfl rfl fun hR => ?_
  refine RG.p 0 hR rfl (Q.mv rfl) <| RG.p 1 hR rfl (Q.nil_ rfl) <| RG.p 2 hR rfl (Q.fa (n := 0) runUnderlying70 rfl rfl sizeOf3 rfl) ?_
  refine RG.p 3 hR rfl (Q.ldI isAgg3 rfl) ?_
  refine RG.p 4 hR rfl (Q.mv rfl) <| RG.p 5 hR rfl (Q.mv rfl) <| RG.p 6 hR rfl (Q.nil_ rfl) <| RG.p 7 hR rfl (Q.fa (n := 0) runUnderlying70 rfl rfl sizeOf3 rfl) ?_
  refine RG.p 8 hR rfl (Q.ldI isAgg3 rfl) ?_
  refine RG.p 9 hR rfl (Q.mv rfl) <| RG.p 10 hR rfl (Q.mv rfl) <| RG.p 11 hR rfl (Q.nil_ rfl) <| RG.p 12 hR rfl (Q.fa (n := 2) runUnderlying70 rfl rfl sizeOf64 rfl) <| RG.p 13 hR rfl (Q.fa (n := 0) runUnderlying64 rfl rfl sizeOf56 rfl) ?_
  refine RG.p 14 hR rfl (Q.ldI isAgg56 rfl) ?_
  refine RG.p 15 hR rfl (Q.mv rfl) ?_
  refine RG.callkI 16 hR rfl rfl rfl rfl rfl call42 (hw s.id to s.term hi ht hterm) rfl ?_
  rintro _ _ ⟨q, d, rfl, rfl⟩
  refine RG.normE rfl <| RG.p 17 hR rfl (Q.bld (l := [.int .i64 (s.id : Nat), .int .i64 to, .slice q (msgB (s.msg to x)).length d]) runUnderlying53 zeroValue53 places53 rfl (by kernel_rfl)) ?_
  refine RG.stAI (vs := [_, _, _]) 18 hR rfl rfl rfl rfl rfl sizeOf53 rfl rfl (by exact rfl) (by exact rfl) (by exact rfl) ?_
  refine RG.fin hR rfl ?_
  refine J.norm rfl <| J.then_n <| J.cret ?_
  refine J.retCI [own 5 1 (.slice q (msgB (s.msg to x)).length d) (bytesV (msgB (s.msg to x))), coreA c s lp lc vp vc, X] (vs := [.int .i64 (s.id : Nat), .int .i64 to, .slice q (msgB (s.msg to x)).length d]) rfl rfl isAgg53 sizeOf53 rnI ⟨q, d, rfl, rfl⟩
end

theorem follow_spec (p : Nat) (s : Nd) (t : Nat) : FSpec Try.prog 25 [.pointer (some ⟨p, 0, none⟩), .int .u64 t] [NodeAt p s] (fun u B => u = .tuple #[] ∧ B = [NodeAt p (s.follow t)]) := by
  refine openNode fun c lv lp lc vp vc => ?_
  refine FSpec.of func25 rfl ntmps25 rfl fun W0 F => ?_
  refine J.norm rfl <| J.seq <| J.seq <| J.region <| J.m rfl <| J.m rfl <| J.p rfl (Q.nil_ rfl) <| J.p rfl (Q.fa (n := 0) runUnderlying68 rfl rfl sizeOf65 rfl) ?_
  refine J.p rfl (Q.ldI isAgg65 rfl) ?_
  refine J.p rfl (Q.nil_ rfl) <| J.p rfl (Q.fa (n := 2) runUnderlying70 rfl rfl sizeOf64 rfl) <| J.p rfl (Q.fa (n := 0) runUnderlying64 rfl rfl sizeOf56 rfl) ?_
  refine J.p rfl (Q.ldI isAgg56 rfl) ?_
  refine J.p rfl (Q.gtr rfl rfl) <| J.nil <| J.then_n ?_
  refine J.kases 13 rfl (fun hc13 => ?_) (fun hc13 => ?_)
  ·
   refine J.cond_t rfl ?_
   refine J.draw [16, 20, 23] Try.mixed (by kernel_rfl) fun hR => ?_
   refine RG.p 0 hR rfl (Q.mv rfl) <| RG.p 1 hR rfl (Q.nil_ rfl) <| RG.p 2 hR rfl (Q.fa (n := 0) runUnderlying68 rfl rfl sizeOf65 rfl) ?_
   refine RG.p 3 hR rfl (Q.ldI isAgg65 rfl) ?_
   refine RG.p 4 hR rfl (Q.mv rfl) <| RG.p 5 hR rfl (Q.nil_ rfl) <| RG.p 6 hR rfl (Q.fa (n := 0) runUnderlying68 rfl rfl sizeOf65 rfl) ?_
   refine RG.p 7 hR rfl (Q.ldI isAgg65 rfl) ?_
   refine RG.p 8 hR rfl (Q.mv rfl) <| RG.p 9 hR rfl (Q.nil_ rfl) <| RG.p 10 hR rfl (Q.fa (n := 0) runUnderlying68 rfl rfl sizeOf65 rfl) ?_
   refine RG.p 11 hR rfl (Q.ldI isAgg65 rfl) ?_
   refine RG.p 12 hR rfl (Q.mv rfl) <| RG.p 13 hR rfl (Q.nil_ rfl) <| RG.p 14 hR rfl (Q.fa (n := 2) runUnderlying70 rfl rfl sizeOf64 rfl) <| RG.p 15 hR rfl (Q.fa (n := 0) runUnderlying64 rfl rfl sizeOf56 rfl) ?_
   refine RG.stI 16 hR rfl rfl rfl rfl rfl sizeOf56 rfl rfl rfl (by exact rfl) (by exact rfl) (by exact rfl) ?_
   refine RG.p 17 hR rfl (Q.nil_ rfl) <| RG.p 18 hR rfl (Q.fa (n := 2) runUnderlying70 rfl rfl sizeOf64 rfl) <| RG.p 19 hR rfl (Q.fa (n := 1) runUnderlying64 rfl rfl sizeOf3 rfl) ?_
   refine RG.stI 20 hR rfl rfl rfl rfl rfl sizeOf3 rfl rfl rfl (by exact rfl) (by exact rfl) (by exact rfl) ?_
   refine RG.p 21 hR rfl (Q.nil_ rfl) <| RG.p 22 hR rfl (Q.fa (n := 7) runUnderlying70 rfl rfl sizeOf3 rfl) ?_
   refine RG.stI 23 hR rfl rfl rfl rfl rfl sizeOf3 rfl rfl rfl (by exact rfl) (by exact rfl) (by exact rfl) ?_
   refine RG.fin hR rfl ?_
   refine J.norm rfl <| J.then_n ?_
   refine J.pickI [pt p (.cells [.pointer (some ⟨c, 0, none⟩), lv].toArray 68 (0, 0))] ?_
   refine J.norm rfl ?_
   refine J.drawE [11, 14, 17] 1 Try.mixed (by kernel_rfl) rfl rfl fun hR => ?_
   refine RG.p 0 hR rfl (Q.mv rfl) <| RG.p 1 hR rfl (Q.nil_ rfl) <| RG.p 2 hR rfl (Q.fa (n := 0) runUnderlying68 rfl rfl sizeOf65 rfl) ?_
   refine RG.p 3 hR rfl (Q.ldI isAgg65 rfl) ?_
   refine RG.p 4 hR rfl (Q.mv rfl) <| RG.p 5 hR rfl (Q.mv rfl) <| RG.p 6 hR rfl (Q.nil_ rfl) <| RG.p 7 hR rfl (Q.fa (n := 0) runUnderlying68 rfl rfl sizeOf65 rfl) ?_
   refine RG.p 8 hR rfl (Q.ldI isAgg65 rfl) ?_
   refine RG.p 9 hR rfl (Q.nil_ rfl) <| RG.p 10 hR rfl (Q.fa (n := 6) runUnderlying70 rfl rfl sizeOf3 rfl) ?_
   refine RG.stkI 11 hR rfl rfl rfl rfl sizeOf3 rfl rfl rfl (by exact rfl) (by exact rfl) (by exact rfl) ?_
   refine RG.p 12 hR rfl (Q.nil_ rfl) <| RG.p 13 hR rfl (Q.fa (n := 1) runUnderlying68 rfl rfl sizeOf66 rfl) ?_
   refine RG.stI 14 hR rfl rfl rfl rfl rfl sizeOf66 rfl rfl rfl (by exact rfl) (by exact rfl) (by exact rfl) ?_
   refine RG.p 15 hR rfl (Q.nil_ rfl) <| RG.p 16 hR rfl (Q.fa (n := 8) runUnderlying70 rfl rfl sizeOf51 rfl) ?_
   refine RG.stI 17 hR rfl rfl rfl rfl rfl sizeOf51 rfl rfl rfl (by exact rfl) (by exact rfl) (by exact rfl) ?_
   refine RG.fin hR rfl ?_
   refine J.norm rfl ?_
   first
    | (have e : s.follow t = { s with term := t, vote := 0, leader := 0, role := 1, lead := none, votes := [] } := by unfold Rf.Nd.follow; simp only [if_pos (show s.term < t by omega)]
       refine J.give (X := LeadAt c (.pointer none) none) LeadAt.nil ?_
       refine J.give (noBits _) ?_
       refine J.convPt c (.cells (coreCells (s.follow t) lp lc none 0).toArray 70 (0, 0)) (by rw [e]; rfl) ?_
       rw [e]
       refine J.shutI (nodeL p c (.pointer none) lp lc none 0 { s with term := t, vote := 0, leader := 0, role := 1, lead := none, votes := [] }) (NodeAt p { s with term := t, vote := 0, leader := 0, role := 1, lead := none, votes := [] }) NodeAt.shut ?_
       rw [← e]
       refine J.ret0I [NodeAt p (s.follow t)] rfl ⟨rfl, rfl⟩)
    | (have e : s.follow t = { s with role := 1, lead := none, votes := [] } := by unfold Rf.Nd.follow; simp only [if_neg (show ¬ s.term < t by omega)]
       refine J.give (X := LeadAt c (.pointer none) none) LeadAt.nil ?_
       refine J.give (noBits _) ?_
       refine J.convPt c (.cells (coreCells (s.follow t) lp lc none 0).toArray 70 (0, 0)) (by rw [e]; rfl) ?_
       rw [e]
       refine J.shutI (nodeL p c (.pointer none) lp lc none 0 { s with role := 1, lead := none, votes := [] }) (NodeAt p { s with role := 1, lead := none, votes := [] }) NodeAt.shut ?_
       rw [← e]
       refine J.ret0I [NodeAt p (s.follow t)] rfl ⟨rfl, rfl⟩)
  refine J.cond_f rfl <| J.cskip <| J.then_n ?_
  refine J.pickI [pt p (.cells [.pointer (some ⟨c, 0, none⟩), lv].toArray 68 (0, 0))] ?_
  refine J.norm rfl ?_
  refine J.drawE [11, 14, 17] 1 Try.mixed (by kernel_rfl) rfl rfl fun hR => ?_
  refine RG.p 0 hR rfl (Q.mv rfl) <| RG.p 1 hR rfl (Q.nil_ rfl) <| RG.p 2 hR rfl (Q.fa (n := 0) runUnderlying68 rfl rfl sizeOf65 rfl) ?_
  refine RG.p 3 hR rfl (Q.ldI isAgg65 rfl) ?_
  refine RG.p 4 hR rfl (Q.mv rfl) <| RG.p 5 hR rfl (Q.mv rfl) <| RG.p 6 hR rfl (Q.nil_ rfl) <| RG.p 7 hR rfl (Q.fa (n := 0) runUnderlying68 rfl rfl sizeOf65 rfl) ?_
  refine RG.p 8 hR rfl (Q.ldI isAgg65 rfl) ?_
  refine RG.p 9 hR rfl (Q.nil_ rfl) <| RG.p 10 hR rfl (Q.fa (n := 6) runUnderlying70 rfl rfl sizeOf3 rfl) ?_
  refine RG.stkI 11 hR rfl rfl rfl rfl sizeOf3 rfl rfl rfl (by exact rfl) (by exact rfl) (by exact rfl) ?_
  refine RG.p 12 hR rfl (Q.nil_ rfl) <| RG.p 13 hR rfl (Q.fa (n := 1) runUnderlying68 rfl rfl sizeOf66 rfl) ?_
  refine RG.stI 14 hR rfl rfl rfl rfl rfl sizeOf66 rfl rfl rfl (by exact rfl) (by exact rfl) (by exact rfl) ?_
  refine RG.p 15 hR rfl (Q.nil_ rfl) <| RG.p 16 hR rfl (Q.fa (n := 8) runUnderlying70 rfl rfl sizeOf51 rfl) ?_
  refine RG.stI 17 hR rfl rfl rfl rfl rfl sizeOf51 rfl rfl rfl (by exact rfl) (by exact rfl) (by exact rfl) ?_
  refine RG.fin hR rfl ?_
  refine J.norm rfl ?_
  first
   | (have e : s.follow t = { s with term := t, vote := 0, leader := 0, role := 1, lead := none, votes := [] } := by unfold Rf.Nd.follow; simp only [if_pos (show s.term < t by omega)]
      refine J.give (X := LeadAt c (.pointer none) none) LeadAt.nil ?_
      refine J.give (noBits _) ?_
      refine J.convPt c (.cells (coreCells (s.follow t) lp lc none 0).toArray 70 (0, 0)) (by rw [e]; rfl) ?_
      rw [e]
      refine J.shutI (nodeL p c (.pointer none) lp lc none 0 { s with term := t, vote := 0, leader := 0, role := 1, lead := none, votes := [] }) (NodeAt p { s with term := t, vote := 0, leader := 0, role := 1, lead := none, votes := [] }) NodeAt.shut ?_
      rw [← e]
      refine J.ret0I [NodeAt p (s.follow t)] rfl ⟨rfl, rfl⟩)
   | (have e : s.follow t = { s with role := 1, lead := none, votes := [] } := by unfold Rf.Nd.follow; simp only [if_neg (show ¬ s.term < t by omega)]
      refine J.give (X := LeadAt c (.pointer none) none) LeadAt.nil ?_
      refine J.give (noBits _) ?_
      refine J.convPt c (.cells (coreCells (s.follow t) lp lc none 0).toArray 70 (0, 0)) (by rw [e]; rfl) ?_
      rw [e]
      refine J.shutI (nodeL p c (.pointer none) lp lc none 0 { s with role := 1, lead := none, votes := [] }) (NodeAt p { s with role := 1, lead := none, votes := [] }) NodeAt.shut ?_
      rw [← e]
      refine J.ret0I [NodeAt p (s.follow t)] rfl ⟨rfl, rfl⟩)
end Go.Proofs.Ytgdmfagmpfalbaa
namespace Go.Proofs
open Go.Shelf
def Try.sort59_ren : Go.Shelf.Ren := ⟨fun | 5 => 59 | 8 => 66 | 7 => 65 | 19 => 76 | 20 => 77 | 10 => 67 | 11 => 68 | 12 => 69 | 13 => 70 | 14 => 71 | 15 => 72 | 16 => 73 | 17 => 74 | 18 => 75 | 30 => 78 | 31 => 79 | 32 => 80 | 33 => 81 | 34 => 82 | 35 => 83 | 40 => 84 | n => n, fun | 23 => 22 | 25 => 3 | 3 => 3 | 32 => 128 | 22 => 22 | 0 => 0 | 44 => 142 | 46 => 56 | 4 => 4 | 36 => 135 | 35 => 134 | 41 => 82 | 5 => 5 | 9 => 9 | 53 => 143 | 57 => 146 | 63 => 148 | 64 => 149 | n => n, fun | n => n⟩
theorem Try.sort59 : Go.Proofs.SlLaysM.n5 Try.prog Try.sort59_ren := {
  mixed := by kernel_rfl
  f5 := ⟨Try.f59.name, by decide, Try.func59.trans (congrArg some (by kernel_rfl))⟩
  f7 := ⟨Try.f65.name, by decide, Try.func65.trans (congrArg some (by kernel_rfl))⟩
  f8 := Try.func66.trans (congrArg some (by kernel_rfl))
  f10 := ⟨Try.f67.name, by decide, Try.func67.trans (congrArg some (by kernel_rfl))⟩
  f11 := ⟨Try.f68.name, by decide, Try.func68.trans (congrArg some (by kernel_rfl))⟩
  f12 := ⟨Try.f69.name, by decide, Try.func69.trans (congrArg some (by kernel_rfl))⟩
  f13 := ⟨Try.f70.name, by decide, Try.func70.trans (congrArg some (by kernel_rfl))⟩
  f14 := ⟨Try.f71.name, by decide, Try.func71.trans (congrArg some (by kernel_rfl))⟩
  f15 := ⟨Try.f72.name, by decide, Try.func72.trans (congrArg some (by kernel_rfl))⟩
  f16 := ⟨Try.f73.name, by decide, Try.func73.trans (congrArg some (by kernel_rfl))⟩
  f17 := ⟨Try.f74.name, by decide, Try.func74.trans (congrArg some (by kernel_rfl))⟩
  f18 := ⟨Try.f75.name, by decide, Try.func75.trans (congrArg some (by kernel_rfl))⟩
  f19 := Try.func76.trans (congrArg some (by kernel_rfl))
  f20 := Try.func77.trans (congrArg some (by kernel_rfl))
  f30 := ⟨Try.f78.name, by decide, Try.func78.trans (congrArg some (by kernel_rfl))⟩
  f31 := Try.func79.trans (congrArg some (by kernel_rfl))
  f32 := Try.func80.trans (congrArg some (by kernel_rfl))
  f33 := ⟨Try.f81.name, by decide, Try.func81.trans (congrArg some (by kernel_rfl))⟩
  f34 := ⟨Try.f82.name, by decide, Try.func82.trans (congrArg some (by kernel_rfl))⟩
  f35 := ⟨Try.f83.name, by decide, Try.func83.trans (congrArg some (by kernel_rfl))⟩
  f40 := ⟨Try.f84.name, by decide, Try.func84.trans (congrArg some (by kernel_rfl))⟩
  t0 := Try.underlying0
  a0 := Try.isAgg0
  z0 := Try.sizeOf0
  v0 := Try.zeroValue0
  t3 := Try.underlying3
  a3 := Try.isAgg3
  z3 := Try.sizeOf3
  v3 := Try.zeroValue3
  t4 := Try.underlying4
  a4 := Try.isAgg4
  z4 := Try.sizeOf4
  v4 := Try.zeroValue4
  t5 := Try.underlying5
  a5 := Try.isAgg5
  z5 := Try.sizeOf5
  v5 := Try.zeroValue5
  t9 := Try.underlying9
  a9 := Try.isAgg9
  z9 := Try.sizeOf9
  v9 := Try.zeroValue9
  t22 := Try.underlying22
  a22 := Try.isAgg22
  z22 := Try.sizeOf22
  v22 := Try.zeroValue22
  t23 := Try.underlying22
  a23 := Try.isAgg22
  z23 := Try.sizeOf22
  v23 := Try.zeroValue22
  t25 := Try.underlying3
  a25 := Try.isAgg3
  z25 := Try.sizeOf3
  v25 := Try.zeroValue3
  t32 := Try.underlying128
  a32 := Try.isAgg128
  z32 := Try.sizeOf128
  v32 := Try.zeroValue128
  t35 := Try.underlying134
  a35 := Try.isAgg134
  z35 := Try.sizeOf134
  v35 := Try.zeroValue134
  t36 := Try.underlying135
  a36 := Try.isAgg135
  z36 := Try.sizeOf135
  v36 := Try.zeroValue135
  t41 := Try.underlying82
  a41 := Try.isAgg82
  z41 := Try.sizeOf82
  v41 := Try.zeroValue82
  t44 := Try.underlying142
  a44 := Try.isAgg142
  z44 := Try.sizeOf142
  v44 := Try.zeroValue142
  t46 := Try.underlying56
  a46 := Try.isAgg56
  z46 := Try.sizeOf56
  v46 := Try.zeroValue56
  t53 := Try.underlying143
  a53 := Try.isAgg143
  z53 := Try.sizeOf143
  v53 := Try.zeroValue143
  t57 := Try.underlying146
  a57 := Try.isAgg146
  z57 := Try.sizeOf146
  v57 := Try.zeroValue146
  t63 := Try.underlying148
  a63 := Try.isAgg148
  z63 := Try.sizeOf148
  v63 := Try.zeroValue148
  t64 := Try.underlying149
  a64 := Try.isAgg149
  z64 := Try.sizeOf149
  v64 := Try.zeroValue149 }
end Go.Proofs
namespace Go.Proofs.Ytgdmfagmpfalbaa
open Go.Proofs.Try
open Go.X

def boxOwnI (b : Nat) (xs : List Int) : Assn := fun h => ∃ z : Option Addr × Nat, HSat h [pt b (.cells [.slice z.1 xs.length z.2].toArray 22 (0, 0)), own 3 1 (.slice z.1 xs.length z.2) (xs.map (Value.int .i64))]

theorem appendSeqI (gf : FuncId) (lb : List Value) (G : Assn) (S : List Int → Prop) (ok : List Int → Int → Prop) (eg : ∀ (args : Array Value) (w : World), (callFunc gf args).run Try.prog w = .ok (.enter gf args) w)
    (hit : ItSpec Try.prog gf lb (fun x : Int => [(Value.int .i64) x]) [G] S ok) (hok : ∀ pre x, ok pre x → pre.length < 1099511627776) :
    FSpec Try.prog 64 [.slice none 0 0, .func (.func gf) #[] lb.toArray] [G] (fun v B => ∃ (xs : List Int) (p : Option Addr) (c : Nat), S xs ∧ v = .slice p xs.length c ∧ B = [own 3 1 (.slice p xs.length c) (xs.map (Value.int .i64)), G]) := by
  refine FSpec.ofM func64 rfl ntmps64 rfl fun W0 F => ?_
  refine JI.seq ?_
  refine JI.region ?_
  refine JI.c rfl rfl (fun _ e => nomatch e) (C.box (l := [_]) rfl rfl) ?_
  rintro _ _ ⟨b2, rfl, rfl⟩
  refine J.norm rfl ?_
  refine JI.q rfl rfl (fun _ e => nomatch e) (Q.asg rfl) ?_
  refine JI.nil ?_
  refine JI.then_n ?_
  refine JI.seq ?_
  refine JI.seq ?_
  refine JI.region ?_
  refine JI.q rfl rfl (fun _ e => nomatch e) (Q.mv rfl) ?_
  refine JI.nil ?_
  refine JI.then_n ?_
  refine JI.block ?_
  refine J.give (own.nil 3 1 _) ?_
  refine J.shut [1, 0] (boxOwnI b2 []) rfl (fun h s => ⟨(none, 0), s⟩) ?_
  refine J.sub [(2, .pointer (some ⟨b2, 0, none⟩)), (6, .func (.func gf) #[] lb.toArray)] ⟨rfl, rfl, trivial⟩ ?_
  refine JI.rangeFunc gf lb (fun x : Int => [(Value.int .i64) x]) S ok (fun pre => [boxOwnI b2 pre]) (fun x => [(5, (Value.int .i64) x), (2, .pointer (some ⟨b2, 0, none⟩))]) rfl eg hit (by decide) (fun _ => rfl) [0, 1] rfl ?_ ?_ ?_
  · intro l W1 F1 pre x _
    refine JI.region ?_
    refine JI.q rfl rfl (fun _ e => nomatch e) (Q.asg rfl) ?_
    refine JI.nil ?_
    exact JI.asgEnd ⟨rfl, rfl, trivial⟩ rfl
  · intro l W1 F1 pre x hk
    have hlen := hok pre x hk
    refine JI.block ?_
    refine JI.region ?_
    refine J.open_ 0 (p := fun _ => True) rfl rfl (fun h hh => by obtain ⟨z, hz⟩ := hh; exact ⟨z, trivial, hz⟩) fun z _ => ?_
    refine J.norm rfl ?_
    refine JI.q rfl rfl (fun _ e => nomatch e) (Q.ld isAgg22 rfl (Reads.pt 0 rfl rfl)) ?_
    refine JI.q rfl rfl (fun _ e => nomatch e) (Q.mv rfl) ?_
    refine JI.c rfl rfl (fun _ e => nomatch e) (C.bslG (l := [_]) runUnderlying22 sizeOf3 zeroValue3 (by decide) rfl rfl rfl rfl rfl) ?_
    rintro _ _ ⟨b10, rfl, rfl⟩
    refine J.norm rfl ?_
    refine JI.c rfl rfl (fun _ e => nomatch e) (C.app (i := 2) runUnderlying22 runUnderlying22 typeInfo3 sizeOf3 zeroValue3 rfl rfl rfl (SlR.pt 0 rfl rfl (xs := [(Value.int .i64) x]) (fun j u h => by rw [Nat.zero_add]; exact h)) (by intro v hv; obtain rfl := List.mem_singleton.1 hv; rfl) (by simp [Try.t3]; omega) (by decide)) ?_
    rintro _ _ ⟨p11, c11, rfl, rfl⟩
    refine J.norm rfl ?_
    refine JI.c0 rfl (fun _ e => nomatch e) (C.stl (i := 1) sizeOf22 rfl rfl rfl rfl rfl rfl rfl) ?_
    rintro _ _ ⟨rfl, rfl⟩
    refine JI.nil ?_
    refine JI.blk_n ?_
    refine J.shut [1, 2] (boxOwnI b2 (pre ++ [x])) rfl (fun h s => ⟨(p11, c11), by simpa [List.length_append] using s⟩) ?_
    refine J.keep [0, 2] rfl ?_
    exact JI.bodyEnd rfl
  · intro D xs hS
    refine J.norm rfl ?_
    refine JI.blk_n ?_
    refine JI.then_n ?_
    refine JI.seq ?_
    refine JI.region ?_
    refine J.open_ 1 (p := fun _ => True) rfl rfl (fun h hh => by obtain ⟨z, hz⟩ := hh; exact ⟨z, trivial, hz⟩) fun z _ => ?_
    refine J.norm rfl ?_
    refine JI.q rfl rfl (fun _ e => nomatch e) (Q.ld isAgg22 rfl (Reads.pt 0 rfl rfl)) ?_
    refine JI.q rfl rfl (fun _ e => nomatch e) (Q.asg rfl) ?_
    refine JI.nil ?_
    refine JI.then_n ?_
    refine JI.ret ?_
    refine J.keep [2, 1, 3, 4] rfl ?_
    exact JI.ret1 rfl rfl ⟨xs, z.1, z.2, hS, rfl, rfl⟩ rfl

theorem collectI (gf : FuncId) (lb : List Value) (G : Assn) (S : List Int → Prop) (ok : List Int → Int → Prop) (eg : ∀ (args : Array Value) (w : World), (callFunc gf args).run Try.prog w = .ok (.enter gf args) w)
    (hit : ItSpec Try.prog gf lb (fun x : Int => [(Value.int .i64) x]) [G] S ok) (hok : ∀ pre x, ok pre x → pre.length < 1099511627776) :
    FSpec Try.prog 58 [.func (.func gf) #[] lb.toArray] [G] (fun v B => ∃ (xs : List Int) (p : Option Addr) (c : Nat), S xs ∧ v = .slice p xs.length c ∧ B = [own 3 1 (.slice p xs.length c) (xs.map (Value.int .i64)), G]) := by
  refine FSpec.of func58 rfl ntmps58 rfl fun W0 F => ?_
  refine J.seq <| J.region <| J.p rfl (Q.asg rfl) <| J.nil <| J.then_n <| J.seq <| J.region <| J.m rfl ?_
  refine J.call call64 (appendSeqI gf lb G S ok eg hit hok) [0] rfl rfl rfl rfl ?_
  rintro _ _ ⟨xs, p, c, hS, rfl, rfl⟩
  refine J.norm rfl <| J.p rfl (Q.asg rfl) <| J.nil <| J.then_n <| J.cret ?_
  refine J.ret1 (B := [_, G]) rfl rfl ⟨xs, p, c, hS, rfl, rfl⟩ rfl
end Go.Proofs.Ytgdmfagmpfalbaa
namespace Go.Proofs.Ytgdmfagmpfalbaa
open Go.Proofs.Try
open Go.X
open Go.Sort (Holds putRow putCells grow mapBlock onCells)

section
variable {α : Type} [Inhabited α] {enc : α → Value} {W0 w : World} {E b off n c : Nat} {zs zs' : List α} {F : List Assn}
theorem own_open (s : Sat W0 w (own E 1 (.slice (some ⟨b, off, none⟩) n c) (zs.map enc) :: F)) : ∃ o : Lies, o.ok 1 (.slice (some ⟨b, off, none⟩) n c) (zs.map enc) ∧ o.b = b ∧ o.off = off ∧ Sat W0 w (pt b (.cells o.l.toArray E o.z) :: F) := by
  obtain ⟨h1, h2, a, q, d, x, y⟩ := s.heap
  rcases a with ⟨h, _⟩ | ⟨o, ho, hp⟩
  · cases h
  · have hv := ho.val
    simp only [Value.slice.injEq, Option.some.injEq, Addr.mk.injEq] at hv
    obtain ⟨⟨e1, e2, _⟩, _, _⟩ := hv
    exact ⟨o, ho, e1.symm, e2.symm, s.os, s.tape, s.out, h1, h2, e1 ▸ hp, q, d, x, y⟩
theorem own_holds (s : Sat W0 w (own E 1 (.slice (some ⟨b, off, none⟩) n c) (zs.map enc) :: F)) : Holds enc w b off zs.toArray ∧ b < w.heap.size := by
  obtain ⟨o, ho, rfl, rfl, t⟩ := own_open s
  have hb := t.at_ (i := 0) rfl
  refine ⟨fun j hj => ?_, (Array.getElem?_eq_some_iff.1 hb).1⟩
  have hj' : j < zs.length := by simpa using hj
  have hg := ho.get j (enc zs[j]!) (by simp [hj'])
  have hlt := (List.getElem?_eq_some_iff.1 hg).1
  refine ⟨?_, ?_⟩
  · simp only [World.cell?, hb]
    simpa [hj'] using hg
  · have := ho.free (o.off + j) hlt
    simp only [World.frozen?, hb]
    simpa using this
theorem own_putRow (s : Sat W0 w (own E 1 (.slice (some ⟨b, off, none⟩) n c) (zs.map enc) :: F)) (hl : zs'.length = zs.length) (m : Nat) (os : Array Obj) :
    Sat W0 (grow (putRow enc (Go.Sort.ahead w m) b off zs'.toArray) os) (own E 1 (.slice (some ⟨b, off, none⟩) n c) (zs'.map enc) :: F) := by
  obtain ⟨o, ho, rfl, rfl, t⟩ := own_open s
  have hb : hp w o.b = some (.cells o.l.toArray E o.z) := t.at_ (i := 0) rfl
  have hlen : zs.length = n := by have := ho.len; have hv := ho.val; simp only [Value.slice.injEq] at hv; rw [← hv.2.1] at this; simpa using this
  have e1 : hp (putRow enc (Go.Sort.ahead w m) o.b o.off zs'.toArray) = upd (hp w) o.b (.cells (putCells enc o.off zs'.toArray o.l.toArray) E o.z) := hp_modify w o.b (onCells (putCells enc o.off zs'.toArray)) _ hb
  have hsub : Sub (hp (putRow enc (Go.Sort.ahead w m) o.b o.off zs'.toArray)) (hp (grow (putRow enc (Go.Sort.ahead w m) o.b o.off zs'.toArray) os)) := by
    intro x p hx
    have hlt := (Array.getElem?_eq_some_iff.1 (show (putRow enc (Go.Sort.ahead w m) o.b o.off zs'.toArray).heap[x]? = some p from hx)).1
    show ((putRow enc (Go.Sort.ahead w m) o.b o.off zs'.toArray).heap ++ os)[x]? = some p
    rw [Array.getElem?_append_left hlt]; exact hx
  have hu : HSat (upd (hp w) o.b (.cells (putCells enc o.off zs'.toArray o.l.toArray) E o.z)) (pt o.b (.cells (putCells enc o.off zs'.toArray o.l.toArray) E o.z) :: F) := by
    have := HSat.update (i := 0) (b := o.b) (o := .cells (putCells enc o.off zs'.toArray o.l.toArray) E o.z) (A := pt o.b (.cells o.l.toArray E o.z)) (B := pt o.b (.cells (putCells enc o.off zs'.toArray o.l.toArray) E o.z)) t.heap rfl fun k hk => ⟨⟨_, hk⟩, by simp [pt, upd]⟩
    simpa using this
  refine ⟨t.os, t.tape, t.out, (HSat.mono ?_ (e1 ▸ hsub))⟩
  refine hu.imp fun h hh => .inr ⟨{ o with l := (putCells enc o.off zs'.toArray o.l.toArray).toList }, ⟨ho.val, ?_, ho.cap, ?_, ?_, ?_⟩, hh⟩
  · have := ho.len; simp only [List.length_map] at this ⊢; omega
  · have := ho.fits; simpa [putCells] using this
  · intro j u hj
    have hj' : j < zs'.length := by have := (List.getElem?_eq_some_iff.1 hj).1; simpa using this
    have hg := ho.get j (enc zs[j]!) (by simp [show j < zs.length by omega])
    have hlt := (List.getElem?_eq_some_iff.1 hg).1
    simp only [List.getElem?_map, List.getElem?_eq_getElem hj', Option.map_some, Option.some.injEq] at hj
    subst hj
    simp only [putCells, Array.getElem?_toList, Array.getElem?_mapIdx, List.getElem?_toArray, hg, Option.map_some, List.size_toArray]
    rw [if_pos (by omega)]
    simp [hj']
  · intro k hk
    exact ho.free k (by simpa [putCells] using hk)
end

def ordI (l : List Int) : List Int := l.mergeSort fun x y => decide (x ≤ y)
theorem ordI_perm {l m : List Int} (h : l.Perm m) : ordI l = ordI m := by
  unfold ordI
  have t1 : ∀ a b c : Int, decide (a ≤ b) = true → decide (b ≤ c) = true → decide (a ≤ c) = true := fun a b c h1 h2 => by simp at *; omega
  have t2 : ∀ a b : Int, (decide (a ≤ b) || decide (b ≤ a)) = true := fun a b => by simp; omega
  refine List.Perm.eq_of_pairwise (le := fun a b => decide (a ≤ b) = true) ?_ (List.pairwise_mergeSort t1 t2 l) (List.pairwise_mergeSort t1 t2 m) (((List.mergeSort_perm l _).trans h).trans (List.mergeSort_perm m _).symm)
  intro a b _ _ h1 h2
  simp at h1 h2; omega
theorem sortAnyI (p : Option Addr) (c : Nat) (l : List Int) (hs : l.length ≤ 1099511627776) :
    FSpec Try.prog 59 [.slice p l.length c] [own 3 1 (.slice p l.length c) (l.map (Value.int .i64))] (fun v B => v = .tuple #[] ∧ B = [own 3 1 (.slice p l.length c) ((ordI l).map (Value.int .i64))]) := by
  refine ⟨fun W0 w F s => ?_⟩
  obtain ⟨k, hk, _⟩ := s.heap.at_ (i := 0) rfl
  rcases hk with ⟨h1, h2⟩ | ⟨o, ho, _⟩
  · have hl : l = [] := by simpa using h2
    subst hl
    refine (AnyM.slices_Sort_int_none Try.sort59 p c w).mono ?_
    rintro e w' ⟨rfl, rfl⟩
    exact ⟨_, _, rfl, ⟨rfl, rfl⟩, by simpa [ordI] using s⟩
  · have hv := ho.val
    simp only [Value.slice.injEq] at hv
    obtain ⟨rfl, _, _⟩ := hv
    obtain ⟨q1, q2⟩ := own_holds (F := [F]) s
    refine (AnyM.slices_Sort_int Try.sort59 o.b o.off c l w q1 q2 (by omega)).mono ?_
    rintro e w' ⟨rfl, m, os, rfl⟩
    exact ⟨_, _, rfl, ⟨rfl, rfl⟩, own_putRow (F := [F]) s (by simp [List.length_mergeSort]) m os⟩

theorem sortedI (gf : FuncId) (lb : List Value) (G : Assn) (M : List Int) (ok : List Int → Int → Prop) (eg : ∀ (args : Array Value) (w : World), (callFunc gf args).run Try.prog w = .ok (.enter gf args) w)
    (hit : ItSpec Try.prog gf lb (fun x : Int => [Value.int .i64 x]) [G] (fun xs => xs.Perm M) ok) (hok : ∀ pre x, ok pre x → pre.length < 1099511627776) (hs : M.length ≤ 1099511627776) :
    FSpec Try.prog 52 [.func (.func gf) #[] lb.toArray] [G] (fun v B => ∃ (p : Option Addr) (c : Nat), v = .slice p M.length c ∧ B = [own 3 1 (.slice p M.length c) ((ordI M).map (Value.int .i64)), G]) := by
  refine FSpec.of func52 rfl ntmps52 rfl fun W0 F => ?_
  refine J.seq <| J.region <| J.p rfl (Q.asg rfl) <| J.nil <| J.then_n <| J.seq <| J.region <| J.m rfl ?_
  refine J.call call58 (collectI gf lb G (fun xs => xs.Perm M) ok eg hit hok) [0] rfl rfl rfl rfl ?_
  rintro _ _ ⟨xs, p, c, hS, rfl, rfl⟩
  refine J.norm rfl ?_
  have hlen : xs.length = M.length := hS.length_eq
  refine J.p rfl (Q.asg rfl) <| J.nil <| J.then_n <| J.seq <| J.region <| J.m rfl ?_
  refine J.call call59 (sortAnyI p c xs (by omega)) [0] rfl rfl rfl rfl ?_
  rintro _ _ ⟨rfl, rfl⟩
  refine J.norm rfl <| J.nil <| J.then_n <| J.seq <| J.region <| J.m rfl <| J.p rfl (Q.asg rfl) <| J.nil <| J.then_n <| J.cret ?_
  rw [ordI_perm hS, hlen]
  refine J.ret1 (B := [_, G]) rfl rfl ⟨p, c, rfl, rfl⟩ rfl
end Go.Proofs.Ytgdmfagmpfalbaa
namespace Go.Proofs.Ytgdmfagmpfalbaa
open Go.Proofs.Try
open Go.X
open Go.Rf (Rec XM Ms Nd lastT)

theorem valuesIt (bm : Nat) (p : Option Addr) (n c : Nat) (zs : List Int) (hn9 : n ≤ 1048576) : ItSpec Try.prog 60 [.pointer (some ⟨bm, 0, none⟩)] (fun x : Int => [Value.int .i64 x]) [star [pt bm (.cells [.slice p n c].toArray 22 (0, 0)), own 3 1 (.slice p n c) (zs.map (Value.int .i64))]]
    (fun xs => xs.Perm zs) (fun pre _ => pre.length < zs.length) := by
  intro m Inv hY
  refine FSpec.of func60 rfl ntmps60 rfl fun W0 F => ?_
  refine J.seq ?_
  refine J.unpack 1 rfl rfl ?_
  refine J.slrI (E0 := 3) (sz := 1) (p := p) (n := n) (c := c) (xs := zs.map (Value.int .i64)) fun hsl => ?_
  have hzn : zs.length = n := by have := hsl.len; simpa using this
  refine J.region ?_
  refine J.p rfl (Q.ldI isAgg22 rfl) ?_
  refine J.p rfl (Q.lenSl runUnderlying22 rfl) <| J.m rfl <| J.nil <| J.then_n <| J.block ?_
  refine J.keepI [Inv [], pt bm (.cells [Value.slice p n c].toArray 22 (0, 0)), own 3 1 (.slice p n c) (zs.map (Value.int .i64)), F] ?_
  refine J.loop (fun i : Nat => i ≤ n) (fun i => n - i) (fun i => [(0, .func (.yield m) #[] #[]), (5, .slice p n c), (6, .int .i64 (n : Nat)), (7, .int .i64 (i : Nat))]) (fun i => [Inv (zs.take i), pt bm (.cells [Value.slice p n c].toArray 22 (0, 0)), own 3 1 (.slice p n c) (zs.map (Value.int .i64)), F]) 0 (Nat.zero_le _) ⟨rfl, rfl, rfl, rfl, trivial⟩ rfl fun i hi => ?_
  refine J.seq <| J.region <| J.p rfl (Q.lss rfl rfl) <| J.nil <| J.then_n <| J.seq ?_
  refine J.kases 8 rfl (fun hc8 => ?_) (fun hc8 => ?_)
  ·
   refine J.cond_t rfl <| J.cskip <| J.then_n <| J.seq <| J.block <| J.seq ?_
   obtain ⟨b, off, hqb, hrd⟩ := hsl.some_ (by omega)
   obtain ⟨x, hx⟩ : ∃ x, zs[i]? = some x := ⟨_, List.getElem?_eq_getElem (by omega)⟩
   have hlt : i < zs.length := Rf.get_lt hx
   refine J.slot 5 (.slice (some ⟨b, off, none⟩) n c) rfl (by rw [hqb]) ?_
   refine J.region <| J.p rfl (Q.ia runUnderlying22 sizeOf3 rfl rfl (by omega) (by omega)) <| J.p rfl (Q.ld isAgg3 rfl (((hrd i (.int .i64 x) (by simp [hx])).inI).cast (by simp))) <| J.p rfl (Q.asg rfl) <| J.nil <| J.then_n <| J.seq ?_
   refine J.regionY ?_
   refine JI.q rfl rfl (fun _ e => nomatch e) (Q.mv rfl) ?_
   refine JI.q rfl rfl (fun _ e => nomatch e) (Q.mv rfl) ?_
   refine JI.yield (hY (zs.take i) x (by show (zs.take i).length < zs.length; rw [List.length_take]; omega)) [0] rfl rfl rfl rfl rfl ?_
   rintro _ _ ⟨rfl, rfl⟩
   refine J.norm rfl ?_
   refine JI.q rfl rfl (fun _ e => nomatch e) (Q.not rfl) ?_
   refine JI.nil ?_
   refine JI.out ?_
   refine J.then_n ?_
   refine J.cases 14 rfl (fun hc14 => ?_) (fun hc14 => ?_)
   ·
    cases hc14
   replace hc14 := X.nm hc14
   refine J.cond_f rfl <| J.cskip <| J.blk_n <| J.then_n <| J.region <| J.p rfl (Q.add64 rfl rfl (by omega)) <| J.m rfl <| J.nil ?_
   rw [← Rf.take_more hx]
   refine J.againI (i + 1) (by show i + 1 ≤ n; omega) (by show n - (i + 1) < n - i; omega) ⟨rfl, (by show _ = some (Value.slice p n c); rw [hqb]; rfl), rfl, rfl, trivial⟩
  refine J.cond_f rfl <| J.exit <| J.then_x <| J.lp_x <| J.blk_x ?_
  have hin : zs.take i = zs := List.take_of_length_le (by omega)
  rw [hin]
  refine J.shutI [pt bm (.cells [Value.slice p n c].toArray 22 (0, 0)), own 3 1 (.slice p n c) (zs.map (Value.int .i64))] (star [pt bm (.cells [Value.slice p n c].toArray 22 (0, 0)), own 3 1 (.slice p n c) (zs.map (Value.int .i64))]) (fun _ h => h) ?_
  refine J.end0I [Inv zs, star [pt bm (.cells [Value.slice p n c].toArray 22 (0, 0)), own 3 1 (.slice p n c) (zs.map (Value.int .i64))]] rfl ⟨zs, List.Perm.refl _, rfl⟩

theorem values_spec (p : Option Addr) (n c : Nat) : FSpec Try.prog 53 [.slice p n c] [] (fun v B => ∃ bm, v = .func (.func 60) #[] #[.pointer (some ⟨bm, 0, none⟩)] ∧ B = [pt bm (.cells [.slice p n c].toArray 22 (0, 0))]) := by
  refine FSpec.of func53 rfl ntmps53 rfl fun W0 F => ?_
  refine J.seq <| J.region ?_
  refine J.c rfl rfl (C.box (l := [_]) rfl rfl) ?_
  rintro _ _ ⟨b1, rfl, rfl⟩
  refine J.norm rfl <| J.p rfl (Q.asg rfl) <| J.nil <| J.then_n <| J.seq <| J.region <| J.p rfl (Q.func rfl rfl) <| J.p rfl (Q.asg rfl) <| J.nil <| J.then_n <| J.cret ?_
  refine J.keep [0, 1] rfl ?_
  refine J.ret1 (B := [_]) rfl rfl ⟨_, rfl, rfl⟩ rfl

theorem ordI_nat (l : List Nat) : ordI (l.map Int.ofNat) = (Rf.srt l).map Int.ofNat := by
  have t1 : ∀ a b c : Int, decide (a ≤ b) = true → decide (b ≤ c) = true → decide (a ≤ c) = true := fun a b c h1 h2 => by simp at *; omega
  have t2 : ∀ a b : Int, (decide (a ≤ b) || decide (b ≤ a)) = true := fun a b => by simp; omega
  refine List.Perm.eq_of_pairwise (le := fun a b => decide (a ≤ b) = true) ?_ (List.pairwise_mergeSort t1 t2 _) ?_ ((List.mergeSort_perm _ _).trans ((Rf.srt_perm l).map _).symm)
  · intro a b _ _ h1 h2
    simp at h1 h2; omega
  · refine List.pairwise_map.2 ((Rf.srt_srt l).imp fun h => ?_)
    simp; omega
theorem cnt_eq {s : Nd} {mt : List Nat} {v : Nat} (h : (Rf.srt mt).getD ((s.n - 1) / 2) 0 = v) : s.cnt mt = if s.commit < v ∧ (s.log[v - 1]?).elim 0 Rec.term = s.term then v else s.commit := by subst h; rfl
theorem intV_map (l : List Nat) : l.map intV = (l.map Int.ofNat).map (Value.int .i64) := by rw [List.map_map]; rfl

section
variable (l c : Nat) (np : Option Addr) (nc : Nat) (mp : Option Addr) (mc : Nat) (nx mt : List Nat) (s : Nd) (lp : Option Addr) (lc : Nat) (vp : Option Addr) (vc : Nat)
abbrev leadA : Assn := pt l (.cells [.pointer (some ⟨c, 0, none⟩), .slice np nx.length nc, .slice mp mt.length mc].toArray 103 (0, 0))
theorem count_spec (h1 : 1 ≤ s.n) (h9 : s.n ≤ 9) (hm : mt.length = s.n) (hml : ∀ m, m ∈ mt → m ≤ s.log.length) (hl : s.log.length ≤ 1048576) :
    FSpec Try.prog 43 [.pointer (some ⟨l, 0, none⟩)] [leadA l c np nc mp mc nx mt, own 3 1 (.slice mp mt.length mc) (mt.map intV), coreA c s lp lc vp vc, RecsAt lp lc s.log]
    (fun u B => u = .tuple #[] ∧ B = [leadA l c np nc mp mc nx mt, own 3 1 (.slice mp mt.length mc) (mt.map intV), coreA c { s with commit := s.cnt mt } lp lc vp vc, RecsAt lp lc s.log]) := by
  have hsl0 : (Rf.srt mt).length = s.n := by rw [(Rf.srt_perm mt).length_eq, hm]
  obtain ⟨v, hv⟩ : ∃ v, (Rf.srt mt)[(s.n - 1) / 2]? = some v := ⟨_, List.getElem?_eq_getElem (by omega)⟩
  have hvl : v ≤ s.log.length := hml v ((Rf.srt_perm mt).subset (List.mem_of_getElem? hv))
  have hgd : (Rf.srt mt).getD ((s.n - 1) / 2) 0 = v := Rf.getD_some hv
  refine FSpec.of func43 rfl ntmps43 rfl fun W0 F => ?_
  refine J.seq <| J.region <| J.m rfl <| J.p rfl (Q.nil_ rfl) <| J.p rfl (Q.fa (n := 2) runUnderlying103 rfl rfl sizeOf22 rfl) ?_
  refine J.p rfl (Q.ldI isAgg22 rfl) ?_
  refine J.callI call53 (values_spec mp mt.length mc) rfl rfl rfl ?_
  rintro _ _ ⟨bm, rfl, rfl⟩
  refine J.norm rfl ?_
  rw [intV_map mt]
  refine J.shutI [pt bm (.cells [Value.slice mp mt.length mc].toArray 22 (0, 0)), own 3 1 (.slice mp mt.length mc) ((mt.map Int.ofNat).map (Value.int .i64))] (star [pt bm (.cells [Value.slice mp mt.length mc].toArray 22 (0, 0)), own 3 1 (.slice mp mt.length mc) ((mt.map Int.ofNat).map (Value.int .i64))]) (fun _ h => h) ?_
  refine J.callI call52 (sortedI 60 [.pointer (some ⟨bm, 0, none⟩)] (star [pt bm (.cells [Value.slice mp mt.length mc].toArray 22 (0, 0)), own 3 1 (.slice mp mt.length mc) ((mt.map Int.ofNat).map (Value.int .i64))]) (mt.map Int.ofNat) _ call60 (valuesIt bm mp mt.length mc (mt.map Int.ofNat) (by omega)) (fun pre _ h => by rw [List.length_map] at h; omega) (by rw [List.length_map]; omega)) rfl rfl rfl ?_
  rintro _ _ ⟨q, d, rfl, rfl⟩
  refine J.norm rfl ?_
  rw [ordI_nat, List.length_map]
  refine J.unpackI [pt bm (.cells [Value.slice mp mt.length mc].toArray 22 (0, 0)), own 3 1 (.slice mp mt.length mc) ((mt.map Int.ofNat).map (Value.int .i64))] ?_
  refine J.norm rfl ?_
  refine J.slrI (E0 := 3) (sz := 1) (p := q) (n := mt.length) (c := d) (xs := ((Rf.srt mt).map Int.ofNat).map (Value.int .i64)) fun hq => ?_
  obtain ⟨b, off, rfl, hrd⟩ := hq.some_ (by omega)
  refine J.p rfl (Q.asg rfl) <| J.nil <| J.then_n <| J.seq <| J.region <| J.m rfl <| J.m rfl <| J.p rfl (Q.nil_ rfl) <| J.p rfl (Q.fa (n := 0) runUnderlying103 rfl rfl sizeOf65 rfl) ?_
  refine J.p rfl (Q.ldI isAgg65 rfl) ?_
  refine J.p rfl (Q.nil_ rfl) <| J.p rfl (Q.fa (n := 1) runUnderlying70 rfl rfl sizeOf3 rfl) ?_
  refine J.p rfl (Q.ldI isAgg3 rfl) ?_
  refine J.p rfl (Q.sub64 rfl rfl (by omega)) <| J.p rfl (Q.quo64 rfl rfl (by omega) (by omega) (by omega)) ?_
  refine J.slot 19 (.int .i64 (((s.n - 1) / 2 : Nat) : Int)) rfl (by congr 1; omega) ?_
  refine J.p rfl (Q.ia runUnderlying22 sizeOf3 rfl rfl (by omega) (by omega)) <| J.p rfl (Q.ld isAgg3 rfl (((hrd ((s.n - 1) / 2) (.int .i64 (v : Nat)) (by simp [hv])).inI).cast (by simp; omega))) <| J.p rfl (Q.asg rfl) <| J.nil <| J.then_n <| J.seq ?_
  refine J.openI (RecsAt lp lc s.log) (fun _ h => h) fun z hz => ?_
  refine J.norm rfl ?_
  refine J.slrI (E0 := 81) (sz := 2) (p := lp) (n := s.log.length) (c := lc) (xs := z.1.flatMap RecW.cells) fun hsl => ?_
  have hzl : z.1.length = s.log.length := by rw [← hz.1, List.length_map]
  refine J.draw [] Try.mixed (by kernel_rfl) fun hR => ?_
  refine RG.p 0 hR rfl (Q.mv rfl) <| RG.p 1 hR rfl (Q.mv rfl) <| RG.p 2 hR rfl (Q.nil_ rfl) <| RG.p 3 hR rfl (Q.fa (n := 0) runUnderlying103 rfl rfl sizeOf65 rfl) ?_
  refine RG.p 4 hR rfl (Q.ldI isAgg65 rfl) ?_
  refine RG.p 5 hR rfl (Q.nil_ rfl) <| RG.p 6 hR rfl (Q.fa (n := 5) runUnderlying70 rfl rfl sizeOf3 rfl) ?_
  refine RG.p 7 hR rfl (Q.ldI isAgg3 rfl) ?_
  refine RG.p 8 hR rfl (Q.gtr rfl rfl) <| RG.p 9 hR rfl (Q.mv rfl) ?_
  refine RG.cases 31 rfl (fun hb31 => ?_) (fun hb31 => ?_)
  ·
   replace hb31 := X.nm hb31; obtain ⟨b2, off2, rfl, hrd2⟩ := hsl.some_ (by omega); obtain ⟨w, hw⟩ : ∃ w, z.1[v - 1]? = some w := ⟨_, List.getElem?_eq_getElem (by omega)⟩; have hwl : s.log[v - 1]? = some w.r := by rw [← hz.1, List.getElem?_map, hw]; rfl
   refine RG.p 10 hR rfl (Q.mv rfl) <| RG.p 11 hR rfl (Q.nil_ rfl) <| RG.p 12 hR rfl (Q.fa (n := 0) runUnderlying103 rfl rfl sizeOf65 rfl) ?_
   refine RG.p 13 hR rfl (Q.ldI isAgg65 rfl) ?_
   refine RG.p 14 hR rfl (Q.nil_ rfl) <| RG.p 15 hR rfl (Q.fa (n := 2) runUnderlying70 rfl rfl sizeOf64 rfl) <| RG.p 16 hR rfl (Q.fa (n := 2) runUnderlying64 rfl rfl sizeOf62 rfl) ?_
   refine RG.p 17 hR rfl (Q.ldI isAgg62 rfl) ?_
   refine RG.p 18 hR rfl (Q.mv rfl) <| RG.p 19 hR rfl (Q.sub64 rfl rfl (by omega)) <| RG.p 20 hR rfl (Q.ia runUnderlying62 sizeOf81 rfl rfl (by omega) (by omega)) <| RG.p 21 hR rfl (Q.fa (n := 0) runUnderlying81 rfl rfl sizeOf56 rfl) <| RG.p 22 hR rfl (Q.ld isAgg56 rfl ((rd_field RecW.len hrd2 hw (k := 0) (u := .int .u64 w.r.term) rfl (by omega)).inI)) ?_
   refine RG.p 23 hR rfl (Q.mv rfl) <| RG.p 24 hR rfl (Q.nil_ rfl) <| RG.p 25 hR rfl (Q.fa (n := 0) runUnderlying103 rfl rfl sizeOf65 rfl) ?_
   refine RG.p 26 hR rfl (Q.ldI isAgg65 rfl) ?_
   refine RG.p 27 hR rfl (Q.nil_ rfl) <| RG.p 28 hR rfl (Q.fa (n := 2) runUnderlying70 rfl rfl sizeOf64 rfl) <| RG.p 29 hR rfl (Q.fa (n := 0) runUnderlying64 rfl rfl sizeOf56 rfl) ?_
   refine RG.p 30 hR rfl (Q.ldI isAgg56 rfl) ?_
   refine RG.p 31 hR rfl (Q.eql rfl rfl) <| RG.p 32 hR rfl (Q.pick_t rfl rfl) ?_
   refine RG.fin hR rfl ?_
   refine J.norm rfl <| J.then_n ?_
   refine J.kases 54 rfl (fun hc54 => ?_) (fun hc54 => ?_)
   ·
    refine J.cond_t rfl <| J.region <| J.m rfl <| J.p rfl (Q.nil_ rfl) <| J.p rfl (Q.fa (n := 0) runUnderlying103 rfl rfl sizeOf65 rfl) ?_
    refine J.p rfl (Q.ldI isAgg65 rfl) ?_
    refine J.m rfl <| J.p rfl (Q.nil_ rfl) <| J.p rfl (Q.fa (n := 5) runUnderlying70 rfl rfl sizeOf3 rfl) ?_
    refine J.stJ rfl sizeOf3 rfl rfl rfl ?_
    refine J.nil ?_
    first
     | (have e : s.cnt mt = v := by rw [cnt_eq hgd, if_pos ⟨by omega, by rw [hwl]; show w.r.term = s.term; omega⟩]
        refine J.shutI [own 81 2 (.slice (some ⟨b2, off2, none⟩) s.log.length lc) (z.1.flatMap RecW.cells), z.2] (RecsAt (some ⟨b2, off2, none⟩) lc s.log) (fun h hh => ⟨z, hz, hh⟩) ?_
        rw [← intV_map mt]
        refine J.convPt c (.cells (coreCells { s with commit := s.cnt mt } (some ⟨b2, off2, none⟩) lc vp vc).toArray 70 (0, 0)) (by rw [e]) ?_
        refine J.ret0I [leadA l c np nc mp mc nx mt, own 3 1 (.slice mp mt.length mc) (mt.map intV), coreA c { s with commit := s.cnt mt } (some ⟨b2, off2, none⟩) lc vp vc, RecsAt (some ⟨b2, off2, none⟩) lc s.log] rfl ⟨rfl, rfl⟩)
     | (have e : s.cnt mt = s.commit := by rw [cnt_eq hgd, if_neg]; intro ⟨h1, h2⟩; rw [hwl] at h2; have h2 : w.r.term = s.term := h2; omega
        refine J.shutI [own 81 2 (.slice (some ⟨b2, off2, none⟩) s.log.length lc) (z.1.flatMap RecW.cells), z.2] (RecsAt (some ⟨b2, off2, none⟩) lc s.log) (fun h hh => ⟨z, hz, hh⟩) ?_
        rw [← intV_map mt]
        refine J.convPt c (.cells (coreCells { s with commit := s.cnt mt } (some ⟨b2, off2, none⟩) lc vp vc).toArray 70 (0, 0)) (by rw [e]) ?_
        refine J.ret0I [leadA l c np nc mp mc nx mt, own 3 1 (.slice mp mt.length mc) (mt.map intV), coreA c { s with commit := s.cnt mt } (some ⟨b2, off2, none⟩) lc vp vc, RecsAt (some ⟨b2, off2, none⟩) lc s.log] rfl ⟨rfl, rfl⟩)
     | (have e : s.cnt mt = s.commit := by rw [cnt_eq hgd, if_neg]; intro ⟨h1, h2⟩; omega
        refine J.shutI [own 81 2 (.slice lp s.log.length lc) (z.1.flatMap RecW.cells), z.2] (RecsAt lp lc s.log) (fun h hh => ⟨z, hz, hh⟩) ?_
        rw [← intV_map mt]
        refine J.convPt c (.cells (coreCells { s with commit := s.cnt mt } lp lc vp vc).toArray 70 (0, 0)) (by rw [e]) ?_
        refine J.ret0I [leadA l c np nc mp mc nx mt, own 3 1 (.slice mp mt.length mc) (mt.map intV), coreA c { s with commit := s.cnt mt } lp lc vp vc, RecsAt lp lc s.log] rfl ⟨rfl, rfl⟩)
   refine J.cond_f rfl <| J.cskip ?_
   first
    | (have e : s.cnt mt = v := by rw [cnt_eq hgd, if_pos ⟨by omega, by rw [hwl]; show w.r.term = s.term; omega⟩]
       refine J.shutI [own 81 2 (.slice (some ⟨b2, off2, none⟩) s.log.length lc) (z.1.flatMap RecW.cells), z.2] (RecsAt (some ⟨b2, off2, none⟩) lc s.log) (fun h hh => ⟨z, hz, hh⟩) ?_
       rw [← intV_map mt]
       refine J.convPt c (.cells (coreCells { s with commit := s.cnt mt } (some ⟨b2, off2, none⟩) lc vp vc).toArray 70 (0, 0)) (by rw [e]) ?_
       refine J.ret0I [leadA l c np nc mp mc nx mt, own 3 1 (.slice mp mt.length mc) (mt.map intV), coreA c { s with commit := s.cnt mt } (some ⟨b2, off2, none⟩) lc vp vc, RecsAt (some ⟨b2, off2, none⟩) lc s.log] rfl ⟨rfl, rfl⟩)
    | (have e : s.cnt mt = s.commit := by rw [cnt_eq hgd, if_neg]; intro ⟨h1, h2⟩; rw [hwl] at h2; have h2 : w.r.term = s.term := h2; omega
       refine J.shutI [own 81 2 (.slice (some ⟨b2, off2, none⟩) s.log.length lc) (z.1.flatMap RecW.cells), z.2] (RecsAt (some ⟨b2, off2, none⟩) lc s.log) (fun h hh => ⟨z, hz, hh⟩) ?_
       rw [← intV_map mt]
       refine J.convPt c (.cells (coreCells { s with commit := s.cnt mt } (some ⟨b2, off2, none⟩) lc vp vc).toArray 70 (0, 0)) (by rw [e]) ?_
       refine J.ret0I [leadA l c np nc mp mc nx mt, own 3 1 (.slice mp mt.length mc) (mt.map intV), coreA c { s with commit := s.cnt mt } (some ⟨b2, off2, none⟩) lc vp vc, RecsAt (some ⟨b2, off2, none⟩) lc s.log] rfl ⟨rfl, rfl⟩)
    | (have e : s.cnt mt = s.commit := by rw [cnt_eq hgd, if_neg]; intro ⟨h1, h2⟩; omega
       refine J.shutI [own 81 2 (.slice lp s.log.length lc) (z.1.flatMap RecW.cells), z.2] (RecsAt lp lc s.log) (fun h hh => ⟨z, hz, hh⟩) ?_
       rw [← intV_map mt]
       refine J.convPt c (.cells (coreCells { s with commit := s.cnt mt } lp lc vp vc).toArray 70 (0, 0)) (by rw [e]) ?_
       refine J.ret0I [leadA l c np nc mp mc nx mt, own 3 1 (.slice mp mt.length mc) (mt.map intV), coreA c { s with commit := s.cnt mt } lp lc vp vc, RecsAt lp lc s.log] rfl ⟨rfl, rfl⟩)
  replace hb31 := X.nm hb31
  refine RG.k 10 hR rfl <| RG.k 11 hR rfl <| RG.k 12 hR rfl <| RG.k 13 hR rfl <| RG.k 14 hR rfl <| RG.k 15 hR rfl <| RG.k 16 hR rfl <| RG.k 17 hR rfl <| RG.k 18 hR rfl <| RG.k 19 hR rfl ?_
  refine RG.k 20 hR rfl <| RG.k 21 hR rfl <| RG.k 22 hR rfl <| RG.k 23 hR rfl <| RG.k 24 hR rfl <| RG.k 25 hR rfl <| RG.k 26 hR rfl <| RG.k 27 hR rfl <| RG.k 28 hR rfl <| RG.k 29 hR rfl ?_
  refine RG.k 30 hR rfl <| RG.k 31 hR rfl <| RG.p 32 hR rfl (Q.pick_f rfl rfl) ?_
  refine RG.fin hR rfl ?_
  refine J.norm rfl <| J.then_n <| J.cond_f rfl <| J.cskip ?_
  first
   | (have e : s.cnt mt = v := by rw [cnt_eq hgd, if_pos ⟨by omega, by rw [hwl]; show w.r.term = s.term; omega⟩]
      refine J.shutI [own 81 2 (.slice (some ⟨b2, off2, none⟩) s.log.length lc) (z.1.flatMap RecW.cells), z.2] (RecsAt (some ⟨b2, off2, none⟩) lc s.log) (fun h hh => ⟨z, hz, hh⟩) ?_
      rw [← intV_map mt]
      refine J.convPt c (.cells (coreCells { s with commit := s.cnt mt } (some ⟨b2, off2, none⟩) lc vp vc).toArray 70 (0, 0)) (by rw [e]) ?_
      refine J.ret0I [leadA l c np nc mp mc nx mt, own 3 1 (.slice mp mt.length mc) (mt.map intV), coreA c { s with commit := s.cnt mt } (some ⟨b2, off2, none⟩) lc vp vc, RecsAt (some ⟨b2, off2, none⟩) lc s.log] rfl ⟨rfl, rfl⟩)
   | (have e : s.cnt mt = s.commit := by rw [cnt_eq hgd, if_neg]; intro ⟨h1, h2⟩; rw [hwl] at h2; have h2 : w.r.term = s.term := h2; omega
      refine J.shutI [own 81 2 (.slice (some ⟨b2, off2, none⟩) s.log.length lc) (z.1.flatMap RecW.cells), z.2] (RecsAt (some ⟨b2, off2, none⟩) lc s.log) (fun h hh => ⟨z, hz, hh⟩) ?_
      rw [← intV_map mt]
      refine J.convPt c (.cells (coreCells { s with commit := s.cnt mt } (some ⟨b2, off2, none⟩) lc vp vc).toArray 70 (0, 0)) (by rw [e]) ?_
      refine J.ret0I [leadA l c np nc mp mc nx mt, own 3 1 (.slice mp mt.length mc) (mt.map intV), coreA c { s with commit := s.cnt mt } (some ⟨b2, off2, none⟩) lc vp vc, RecsAt (some ⟨b2, off2, none⟩) lc s.log] rfl ⟨rfl, rfl⟩)
   | (have e : s.cnt mt = s.commit := by rw [cnt_eq hgd, if_neg]; intro ⟨h1, h2⟩; omega
      refine J.shutI [own 81 2 (.slice lp s.log.length lc) (z.1.flatMap RecW.cells), z.2] (RecsAt lp lc s.log) (fun h hh => ⟨z, hz, hh⟩) ?_
      rw [← intV_map mt]
      refine J.convPt c (.cells (coreCells { s with commit := s.cnt mt } lp lc vp vc).toArray 70 (0, 0)) (by rw [e]) ?_
      refine J.ret0I [leadA l c np nc mp mc nx mt, own 3 1 (.slice mp mt.length mc) (mt.map intV), coreA c { s with commit := s.cnt mt } lp lc vp vc, RecsAt lp lc s.log] rfl ⟨rfl, rfl⟩)
end

section
variable (l c : Nat) (np : Option Addr) (nc : Nat) (mp : Option Addr) (mc : Nat) (nx mt : List Nat) (s : Nd) (lp : Option Addr) (lc : Nat) (vp : Option Addr) (vc : Nat)
theorem add_spec (h9 : s.n ≤ 9) (hi : s.id < s.n) (hm : mt.length = s.n) (hml : ∀ m, m ∈ mt → m ≤ s.log.length) (hl : s.log.length ≤ 1048000) (hterm : s.term ≤ 1048576) (Gb : Assn) (bp : Option Addr) (bc : Nat) (bs : List UInt8) (hb : SlR [Gb] 1 (.slice bp bs.length bc) (bytesV bs)) (hbl : bs.length ≤ 65536) :
    FSpec Try.prog 31 [.pointer (some ⟨l, 0, none⟩), .slice bp bs.length bc] [leadA l c np nc mp mc nx mt, own 3 1 (.slice mp mt.length mc) (mt.map intV), coreA c s lp lc vp vc, RecsAt lp lc s.log, Gb]
    (fun u B => ∃ (lp' : Option Addr) (lc' : Nat), u = .int .i64 ((s.log.length + 1 : Nat) : Int) ∧ B = [leadA l c np nc mp mc nx (mt.set s.id (s.log.length + 1)), own 3 1 (.slice mp (mt.set s.id (s.log.length + 1)).length mc) ((mt.set s.id (s.log.length + 1)).map intV), coreA c (s.add nx mt bs) lp' lc' vp vc, RecsAt lp' lc' (s.add nx mt bs).log, Gb]) := by
  refine FSpec.of func31 rfl ntmps31 rfl fun W0 F => ?_
  refine J.seq <| J.region <| J.p rfl (Q.asg rfl) <| J.nil <| J.then_n <| J.seq ?_
  refine J.openI (RecsAt lp lc s.log) (fun _ h => h) fun z hz => ?_
  refine J.norm rfl ?_
  refine J.pickI [leadA l c np nc mp mc nx mt, coreA c s lp lc vp vc] ?_
  refine J.norm rfl ?_
  refine J.drawE [21, 23, 24, 28] 2 Try.mixed (by kernel_rfl) rfl rfl fun hR => ?_
  refine RG.p 0 hR rfl (Q.mv rfl) <| RG.p 1 hR rfl (Q.nil_ rfl) <| RG.p 2 hR rfl (Q.fa (n := 0) runUnderlying103 rfl rfl sizeOf65 rfl) ?_
  refine RG.p 3 hR rfl (Q.ldI isAgg65 rfl) ?_
  refine RG.p 4 hR rfl (Q.mv rfl) <| RG.p 5 hR rfl (Q.nil_ rfl) <| RG.p 6 hR rfl (Q.fa (n := 0) runUnderlying103 rfl rfl sizeOf65 rfl) ?_
  refine RG.p 7 hR rfl (Q.ldI isAgg65 rfl) ?_
  refine RG.p 8 hR rfl (Q.nil_ rfl) <| RG.p 9 hR rfl (Q.fa (n := 2) runUnderlying70 rfl rfl sizeOf64 rfl) <| RG.p 10 hR rfl (Q.fa (n := 2) runUnderlying64 rfl rfl sizeOf62 rfl) ?_
  refine RG.p 11 hR rfl (Q.ldI isAgg62 rfl) ?_
  refine RG.p 12 hR rfl (Q.mv rfl) <| RG.p 13 hR rfl (Q.nil_ rfl) <| RG.p 14 hR rfl (Q.fa (n := 0) runUnderlying103 rfl rfl sizeOf65 rfl) ?_
  refine RG.p 15 hR rfl (Q.ldI isAgg65 rfl) ?_
  refine RG.p 16 hR rfl (Q.nil_ rfl) <| RG.p 17 hR rfl (Q.fa (n := 2) runUnderlying70 rfl rfl sizeOf64 rfl) <| RG.p 18 hR rfl (Q.fa (n := 0) runUnderlying64 rfl rfl sizeOf56 rfl) ?_
  refine RG.p 19 hR rfl (Q.ldI isAgg56 rfl) ?_
  refine RG.p 20 hR rfl (Q.mv rfl) ?_
  refine RG.callkI 21 hR rfl rfl rfl rfl rfl call32 (clone_spec Gb bp bc bs hb (by omega)) rfl ?_
  rintro _ _ ⟨q26, d26, rfl, rfl⟩
  refine RG.normE rfl <| RG.p 22 hR rfl (Q.bld (l := [.int .u64 (s.term : Nat), .slice q26 bs.length d26]) runUnderlying81 zeroValue81 places81 rfl (by kernel_rfl)) ?_
  refine RG.made 23 hR rfl rfl rfl rfl rfl (C.bslG (l := [_, _]) runUnderlying62 sizeOf81 zeroValue81 (by decide) rfl rfl rfl rfl rfl) ?_
  rintro b28
  refine RG.many hR 24 [] rfl ⟨?_, trivial⟩
  ·
   refine RGi.appI rfl rfl rfl rfl runUnderlying62 runUnderlying62 typeInfo81 sizeOf81 zeroValue81 rfl rfl (SlR.ptI rfl) (RecW.one ⟨⟨s.term, bs⟩, q26, d26⟩) (by simp [Try.t81] <;> omega) (by decide) ?_
   rintro p29 c29
   refine RG.normE rfl <| RG.p 25 hR rfl (Q.nil_ rfl) <| RG.p 26 hR rfl (Q.fa (n := 2) runUnderlying70 rfl rfl sizeOf64 rfl) <| RG.p 27 hR rfl (Q.fa (n := 2) runUnderlying64 rfl rfl sizeOf62 rfl) ?_
   refine RG.stI 28 hR rfl rfl rfl rfl rfl sizeOf62 rfl rfl rfl (by exact rfl) (by exact rfl) (by exact rfl) ?_
   refine RG.fin hR rfl ?_
   refine J.norm rfl <| J.then_n <| J.seq ?_
   refine J.shutI [own 81 2 (.slice p29 (s.log.length + 1) c29) (z.1.flatMap RecW.cells ++ [.int .u64 s.term, .slice q26 bs.length d26]), z.2, own 5 1 (.slice q26 bs.length d26) (bytesV bs)] (RecsAt p29 c29 (s.log ++ [⟨s.term, bs⟩])) (RecsAt.snoc (x := ⟨s.term, bs⟩) hz hbl hterm) ?_
   have hl0 : (s.log ++ [(⟨s.term, bs⟩ : Rec)]).length = s.log.length + 1 := by rw [List.length_append]; rfl
   refine J.convPt c (.cells (coreCells { s with log := s.log ++ [⟨s.term, bs⟩] } p29 c29 vp vc).toArray 70 (0, 0)) (by unfold coreCells; rw [hl0]) ?_
   obtain ⟨s1, hs1⟩ : ∃ s1 : Nd, s1 = { s with log := s.log ++ [⟨s.term, bs⟩] } := ⟨_, rfl⟩
   obtain ⟨mt1, hm1⟩ : ∃ m, m = mt.set s.id (s.log.length + 1) := ⟨_, rfl⟩
   have hmt1 : mt1.length = mt.length := by rw [hm1, List.length_set]
   have hl1 : s1.log.length = s.log.length + 1 := by rw [hs1]; exact hl0
   have hi1 : s1.id = s.id := by rw [hs1]
   have hn1 : s1.n = s.n := by rw [hs1]
   have hlog : s.log ++ [⟨s.term, bs⟩] = s1.log := by rw [hs1]
   rw [← hs1, hlog]
   refine J.slrI (E0 := 3) (sz := 1) (p := mp) (n := mt.length) (c := mc) (xs := mt.map intV) fun hmp => ?_
   obtain ⟨b, off, rfl, hrd⟩ := hmp.some_ (by omega)
   refine J.draw [21] Try.mixed (by kernel_rfl) fun hR => ?_
   refine RG.p 0 hR rfl (Q.mv rfl) <| RG.p 1 hR rfl (Q.nil_ rfl) <| RG.p 2 hR rfl (Q.fa (n := 2) runUnderlying103 rfl rfl sizeOf22 rfl) ?_
   refine RG.p 3 hR rfl (Q.ldI isAgg22 rfl) ?_
   refine RG.p 4 hR rfl (Q.mv rfl) <| RG.p 5 hR rfl (Q.nil_ rfl) <| RG.p 6 hR rfl (Q.fa (n := 0) runUnderlying103 rfl rfl sizeOf65 rfl) ?_
   refine RG.p 7 hR rfl (Q.ldI isAgg65 rfl) ?_
   refine RG.p 8 hR rfl (Q.nil_ rfl) <| RG.p 9 hR rfl (Q.fa (n := 0) runUnderlying70 rfl rfl sizeOf3 rfl) ?_
   refine RG.p 10 hR rfl (Q.ldI isAgg3 rfl) ?_
   refine RG.p 11 hR rfl (Q.mv rfl) <| RG.p 12 hR rfl (Q.nil_ rfl) <| RG.p 13 hR rfl (Q.fa (n := 0) runUnderlying103 rfl rfl sizeOf65 rfl) ?_
   refine RG.p 14 hR rfl (Q.ldI isAgg65 rfl) ?_
   refine RG.p 15 hR rfl (Q.nil_ rfl) <| RG.p 16 hR rfl (Q.fa (n := 2) runUnderlying70 rfl rfl sizeOf64 rfl) <| RG.p 17 hR rfl (Q.fa (n := 2) runUnderlying64 rfl rfl sizeOf62 rfl) ?_
   refine RG.p 18 hR rfl (Q.ldI isAgg62 rfl) ?_
   refine RG.p 19 hR rfl (Q.lenSl runUnderlying62 rfl) <| RG.p 20 hR rfl (Q.ia runUnderlying22 sizeOf3 rfl rfl (by omega) (by omega)) ?_
   refine RG.bar 21 hR rfl rfl rfl rfl rfl rfl (C.st1O s1.id sizeOf3 rfl rfl rfl (by omega) (by rw [List.length_map]; omega)) ?_
   rintro _ _ ⟨rfl, rfl⟩
   refine RG.norm rfl ?_
   refine RG.fin hR rfl ?_
   refine J.norm rfl <| J.then_n <| J.seq <| J.region <| J.m rfl ?_
   have e : (mt.map intV).set s1.id (.int .i64 (s1.log.length : Nat)) = mt1.map intV := by rw [hm1, List.map_set, hl1, hi1]; rfl
   refine J.convPt l (.cells [Value.pointer (some ⟨c, 0, none⟩), .slice np nx.length nc, .slice (some ⟨b, off, none⟩) mt1.length mc].toArray 103 (0, 0)) (by rw [hmt1]) ?_
   rw [e, ← hmt1]
   refine J.callI call43 (count_spec l c np nc (some ⟨b, off, none⟩) mc nx mt1 s1 p29 c29 vp vc (by omega) (by omega) (by omega) (fun m hm0 => by rw [hm1] at hm0; exact (List.mem_or_eq_of_mem_set hm0).elim (fun x => by have := hml m x; omega) (fun x => by omega)) (by omega)) rfl rfl rfl ?_
   rintro _ _ ⟨rfl, rfl⟩
   refine J.norm rfl <| J.nil <| J.then_n <| J.seq <| J.region <| J.m rfl <| J.p rfl (Q.nil_ rfl) <| J.p rfl (Q.fa (n := 0) runUnderlying103 rfl rfl sizeOf65 rfl) ?_
   refine J.p rfl (Q.ldI isAgg65 rfl) ?_
   refine J.p rfl (Q.nil_ rfl) <| J.p rfl (Q.fa (n := 2) runUnderlying70 rfl rfl sizeOf64 rfl) <| J.p rfl (Q.fa (n := 2) runUnderlying64 rfl rfl sizeOf62 rfl) ?_
   refine J.p rfl (Q.ldI isAgg62 rfl) ?_
   refine J.p rfl (Q.lenSl runUnderlying62 rfl) ?_
   refine J.slot 64 (.int .i64 ((s.log.length + 1 : Nat) : Int)) rfl (by rw [← hl1]) ?_
   refine J.p rfl (Q.asg rfl) <| J.nil <| J.then_n <| J.cret ?_
   have ea : s.add nx mt bs = { s1 with lead := some (nx, mt1), commit := s1.cnt mt1 } := by rw [hs1, hm1]; rfl
   rw [ea, ← hm1]
   refine J.ret1I [leadA l c np nc (some ⟨b, off, none⟩) mc nx mt1, own 3 1 (.slice (some ⟨b, off, none⟩) mt1.length mc) (mt1.map intV), coreA c { s1 with commit := s1.cnt mt1 } p29 c29 vp vc, RecsAt p29 c29 s1.log, Gb] rfl rfl ⟨p29, c29, rfl, rfl⟩

theorem feed_spec (i : Nat) (hi : i < nx.length) (hi9 : i ≤ 9) (hid : s.id ≤ 9) (hnx : ∀ m, m ∈ nx → 1 ≤ m ∧ m ≤ s.log.length + 1) (hl : s.log.length ≤ 1048576) (hterm : s.term ≤ 1048576) (hc : s.commit ≤ s.log.length) :
    FSpec Try.prog 30 [.pointer (some ⟨l, 0, none⟩), .int .i64 i] [leadA l c np nc mp mc nx mt, own 3 1 (.slice np nx.length nc) (nx.map intV), coreA c s lp lc vp vc, RecsAt lp lc s.log]
    (fun u B => ∃ q d, u = .agg #[.int .i64 (s.id : Nat), .int .i64 i, .slice q (msgB (s.feed nx i)).length d] ∧ B = [own 5 1 (.slice q (msgB (s.feed nx i)).length d) (bytesV (msgB (s.feed nx i))), leadA l c np nc mp mc nx mt, own 3 1 (.slice np nx.length nc) (nx.map intV), coreA c s lp lc vp vc, RecsAt lp lc s.log]) := by
  obtain ⟨v, hv⟩ : ∃ v, nx[i]? = some v := ⟨_, List.getElem?_eq_getElem hi⟩
  have hv1 := hnx v (List.mem_of_getElem? hv)
  have hgd : nx.getD i 0 = v := Rf.getD_some hv
  refine FSpec.of func30 rfl ntmps30 rfl fun W0 F => ?_
  refine J.slrI (E0 := 3) (sz := 1) (p := np) (n := nx.length) (c := nc) (xs := nx.map intV) fun hnp => ?_
  obtain ⟨b, off, rfl, hrd⟩ := hnp.some_ (by omega)
  refine J.openI (RecsAt lp lc s.log) (fun _ h => h) fun z hz => ?_
  refine J.norm rfl ?_
  refine J.slrI (E0 := 81) (sz := 2) (p := lp) (n := s.log.length) (c := lc) (xs := z.1.flatMap RecW.cells) fun hsl => ?_
  refine J.tellsI (own 81 2 (.slice lp s.log.length lc) (z.1.flatMap RecW.cells)) own.len fun hlc => ?_
  have hzl : z.1.length = s.log.length := by rw [← hz.1, List.length_map]
  obtain ⟨tm, htm⟩ : ∃ tm, tm = (if v - 1 = 0 then 0 else (s.log[v - 1 - 1]?).elim 0 Rec.term) := ⟨_, rfl⟩
  have htm6 : tm ≤ 1048576 := by
   rw [htm]; split
   · omega
   · cases e : s.log[v - 1 - 1]? with
     | none => exact Nat.zero_le _
     | some r =>
      rw [← hz.1, List.getElem?_map] at e
      cases e2 : z.1[v - 1 - 1]? with
      | none => rw [e2] at e; cases e
      | some w => rw [e2] at e; cases e; exact (hz.2 w (List.mem_of_getElem? e2)).t
  refine J.seq <| J.region ?_
  refine J.c rfl rfl (C.alloc (l := [_, _, _]) zeroValue53 rfl) ?_
  rintro _ _ ⟨b4, rfl, rfl⟩
  refine J.norm rfl <| J.nil <| J.then_n <| J.seq <| J.region <| J.m rfl <| J.p rfl (Q.nil_ rfl) <| J.p rfl (Q.fa (n := 1) runUnderlying103 rfl rfl sizeOf22 rfl) ?_
  refine J.p rfl (Q.ldI isAgg22 rfl) ?_
  refine J.m rfl <| J.p rfl (Q.ia runUnderlying22 sizeOf3 rfl rfl (by omega) (by omega)) <| J.p rfl (Q.ld isAgg3 rfl (((hrd i (.int .i64 (v : Nat)) (by simp [hv, intV])).inI).cast (by simp))) <| J.p rfl (Q.sub64 rfl rfl (by omega)) ?_
  refine J.slot 14 (.int .i64 ((v - 1 : Nat) : Int)) rfl (by congr 1; omega) ?_
  refine J.p rfl (Q.asg rfl) <| J.nil <| J.then_n <| J.seq <| J.region <| J.p rfl (Q.asg rfl) <| J.nil <| J.then_n ?_
  refine J.cut (fun _ : Unit => True) (fun _ => [(0, .pointer (some ⟨l, 0, none⟩)), (1, .int .i64 (i : Nat)), (4, .pointer (some ⟨b4, 0, none⟩)), (5, .int .i64 ((v - 1 : Nat) : Int)), (6, .int .u64 (tm : Nat))]) (fun _ => [pt b4 (.cells [Value.int .i64 0, .int .i64 0, .slice none 0 0].toArray 53 (0, 0)), own 81 2 (.slice lp s.log.length lc) (z.1.flatMap RecW.cells), z.2, leadA l c (some ⟨b, off, none⟩) nc mp mc nx mt, own 3 1 (.slice (some ⟨b, off, none⟩) nx.length nc) (nx.map intV), coreA c s lp lc vp vc, F]) ?_ fun _ _ => ?_
  ·
   refine J.seq <| J.region <| J.m rfl <| J.p rfl (Q.gtr rfl rfl) <| J.nil <| J.then_n ?_
   refine J.kases 16 rfl (fun hc16 => ?_) (fun hc16 => ?_)
   ·
    refine J.cond_t rfl ?_
    obtain ⟨b2, off2, hlp2, hrd2⟩ := hsl.some_ (by omega)
    obtain ⟨w, hw⟩ : ∃ w, z.1[v - 1 - 1]? = some w := ⟨_, List.getElem?_eq_getElem (by omega)⟩
    have hwt : tm = w.r.term := by rw [htm, if_neg (by omega), ← hz.1, List.getElem?_map, hw]; rfl
    refine J.region <| J.m rfl <| J.p rfl (Q.nil_ rfl) <| J.p rfl (Q.fa (n := 0) runUnderlying103 rfl rfl sizeOf65 rfl) ?_
    refine J.p rfl (Q.ldI isAgg65 rfl) ?_
    refine J.p rfl (Q.nil_ rfl) <| J.p rfl (Q.fa (n := 2) runUnderlying70 rfl rfl sizeOf64 rfl) <| J.p rfl (Q.fa (n := 2) runUnderlying64 rfl rfl sizeOf62 rfl) ?_
    refine J.p rfl (Q.ldI isAgg62 rfl) ?_
    refine J.slot 24 (.slice (some ⟨b2, off2, none⟩) s.log.length lc) rfl (by rw [hlp2]) ?_
    refine J.m rfl <| J.p rfl (Q.sub64 rfl rfl (by omega)) <| J.p rfl (Q.ia runUnderlying62 sizeOf81 rfl rfl (by omega) (by omega)) <| J.p rfl (Q.fa (n := 0) runUnderlying81 rfl rfl sizeOf56 rfl) <| J.p rfl (Q.ld isAgg56 rfl ((rd_field RecW.len hrd2 hw (k := 0) (u := .int .u64 w.r.term) rfl (by omega)).inI)) <| J.p rfl (Q.asg rfl) <| J.nil ?_
    refine J.meetI () trivial ⟨rfl, rfl, rfl, rfl, (by rw [hwt]; rfl), trivial⟩
   refine J.cond_f rfl <| J.cskip ?_
   have hwt : tm = 0 := by rw [htm, if_pos (by omega)]
   refine J.meetI () trivial ⟨rfl, rfl, rfl, rfl, (by rw [hwt]; rfl), trivial⟩
  refine J.seq ?_
  obtain ⟨p53, c53, hq53, hr53⟩ := slL_ (P := Try.prog) (T := 62) runUnderlying62 sizeOf81 hsl (lo := v - 1) (by omega) hlc.2
  obtain ⟨ws, hws⟩ : ∃ ws, ws = z.1.drop (v - 1) := ⟨_, rfl⟩
  have hwl : ws.length = s.log.length - (v - 1) := by rw [hws, List.length_drop, hzl]
  rw [flat_drop RecW.len, ← hws, ← hwl] at hr53
  have hfeed : s.msg i (.take (v - 1) tm s.commit (ws.map RecW.r)) = s.feed nx i := by
   unfold Rf.Nd.feed
   rw [hgd, htm, hws, List.map_drop, hz.1]
  have hwr := (write_take (own 81 2 (.slice lp s.log.length lc) (z.1.flatMap RecW.cells)) z.2 (v - 1) tm s.commit (by omega) htm6 (by omega) p53 c53 ws hr53 (fun w hw => hz.2 w (by rw [hws] at hw; exact List.mem_of_mem_drop hw)) (by omega)).one
  refine J.shutI [own 81 2 (.slice lp s.log.length lc) (z.1.flatMap RecW.cells), z.2] (star [own 81 2 (.slice lp s.log.length lc) (z.1.flatMap RecW.cells), z.2]) (fun _ h => h) ?_
  refine J.draw [26, 27] Try.mixed (by kernel_rfl) fun hR => ?_
  refine RG.p 0 hR rfl (Q.mv rfl) <| RG.p 1 hR rfl (Q.nil_ rfl) <| RG.p 2 hR rfl (Q.fa (n := 0) runUnderlying103 rfl rfl sizeOf65 rfl) ?_
  refine RG.p 3 hR rfl (Q.ldI isAgg65 rfl) ?_
  refine RG.p 4 hR rfl (Q.mv rfl) <| RG.p 5 hR rfl (Q.mv rfl) <| RG.p 6 hR rfl (Q.mv rfl) <| RG.p 7 hR rfl (Q.mv rfl) <| RG.p 8 hR rfl (Q.nil_ rfl) <| RG.p 9 hR rfl (Q.fa (n := 0) runUnderlying103 rfl rfl sizeOf65 rfl) ?_
  refine RG.p 10 hR rfl (Q.ldI isAgg65 rfl) ?_
  refine RG.p 11 hR rfl (Q.nil_ rfl) <| RG.p 12 hR rfl (Q.fa (n := 5) runUnderlying70 rfl rfl sizeOf3 rfl) ?_
  refine RG.p 13 hR rfl (Q.ldI isAgg3 rfl) ?_
  refine RG.p 14 hR rfl (Q.mv rfl) <| RG.p 15 hR rfl (Q.nil_ rfl) <| RG.p 16 hR rfl (Q.fa (n := 0) runUnderlying103 rfl rfl sizeOf65 rfl) ?_
  refine RG.p 17 hR rfl (Q.ldI isAgg65 rfl) ?_
  refine RG.p 18 hR rfl (Q.nil_ rfl) <| RG.p 19 hR rfl (Q.fa (n := 2) runUnderlying70 rfl rfl sizeOf64 rfl) <| RG.p 20 hR rfl (Q.fa (n := 2) runUnderlying64 rfl rfl sizeOf62 rfl) ?_
  refine RG.p 21 hR rfl (Q.ldI isAgg62 rfl) ?_
  refine RG.p 22 hR rfl (Q.mv rfl) ?_
  refine RG.p 23 hR rfl (hq53 _ _ _ _ _ _ rfl rfl) ?_
  refine RG.slot 53 (.slice p53 ws.length c53) rfl (by rw [hwl]) ?_
  refine RG.p 24 hR rfl (Q.bld (l := [.int .i64 ((v - 1 : Nat) : Int), .int .u64 (tm : Nat), .int .i64 (s.commit : Nat), .slice p53 ws.length c53]) runUnderlying92 zeroValue92 places92 rfl (by kernel_rfl)) <| RG.p 25 hR rfl (Q.mkif runUnderlying92 (by intro m h; cases h) rfl) ?_
  refine RG.callI 26 hR rfl rfl rfl rfl rfl rfl call29 (send_spec c s lp lc vp vc (star [own 81 2 (.slice lp s.log.length lc) (z.1.flatMap RecW.cells), z.2]) (XM.vTake (v - 1) tm s.commit p53 ws.length c53) (.take (v - 1) tm s.commit (ws.map RecW.r)) hwr i hi9 hid hterm) rfl ?_
  rintro _ _ ⟨q, d, rfl, rfl⟩
  refine RG.norm rfl ?_
  rw [hfeed]
  refine RG.stAI (vs := [_, _, _]) 27 hR rfl rfl rfl rfl rfl sizeOf53 rfl rfl (by exact rfl) (by exact rfl) (by exact rfl) ?_
  refine RG.fin hR rfl ?_
  refine J.norm rfl <| J.then_n <| J.cret ?_
  refine J.unpackI [own 81 2 (.slice lp s.log.length lc) (z.1.flatMap RecW.cells), z.2] ?_
  refine J.norm rfl ?_
  refine J.shutI [own 81 2 (.slice lp s.log.length lc) (z.1.flatMap RecW.cells), z.2] (RecsAt lp lc s.log) (fun h hh => ⟨z, hz, hh⟩) ?_
  refine J.retCI [own 5 1 (.slice q (msgB (s.feed nx i)).length d) (bytesV (msgB (s.feed nx i))), leadA l c (some ⟨b, off, none⟩) nc mp mc nx mt, own 3 1 (.slice (some ⟨b, off, none⟩) nx.length nc) (nx.map intV), coreA c s lp lc vp vc, RecsAt lp lc s.log] (vs := [.int .i64 (s.id : Nat), .int .i64 (i : Nat), .slice q (msgB (s.feed nx i)).length d]) rfl rfl isAgg53 sizeOf53 rnI ⟨q, d, rfl, rfl⟩
end

structure MsgW where
  m : Ms
  p : Option Addr
  c : Nat
abbrev MsgW.cells (w : MsgW) : List Value := [.int .i64 w.m.src, .int .i64 w.m.dst, .slice w.p (msgB w.m).length w.c]
theorem MsgW.len (w : MsgW) : w.cells.length = 3 := rfl
theorem MsgW.one (x : MsgW) : ∀ v, v ∈ x.cells → oneC v = true := by
  intro v hv
  simp only [MsgW.cells, List.mem_cons, List.not_mem_nil, or_false] at hv
  rcases hv with rfl | rfl | rfl <;> rfl
structure MsgW.ok (G : Assn) (w : MsgW) : Prop where
  rd : SlR [G] 1 (.slice w.p (msgB w.m).length w.c) (bytesV (msgB w.m))
  c : (msgB w.m).length ≤ w.c
theorem SlR.mono1 {G H : Assn} {sz : Nat} {v : Value} {xs : List Value} (h : SlR [G] sz v xs) (f : ∀ k, H k → ∃ j, G j ∧ Sub j k) : SlR [H] sz v xs := by
  rcases h with x | ⟨b, off, len, cap, e, h2, h3⟩
  · exact .inl x
  · refine .inr ⟨b, off, len, cap, e, h2, fun i v hv k hk => ?_⟩
    obtain ⟨k1, k2, a, _, _, s, _⟩ := hk
    obtain ⟨j, hj, hs⟩ := f k1 a
    obtain ⟨c, e, z, q1, q2⟩ := h3 i v hv j ⟨j, fun _ => none, hj, trivial, fun b => .inr rfl, Sub.refl _, fun b o e => by cases e⟩
    exact ⟨c, e, z, s _ _ (hs _ _ q1), q2⟩
theorem MsgW.ok.mono {G H : Assn} {w : MsgW} (h : w.ok G) (f : ∀ k, H k → ∃ j, G j ∧ Sub j k) : w.ok H := ⟨SlR.mono1 h.rd f, h.c⟩

def MsgsAt (q : Option Addr) (d : Nat) (ms : List Ms) : Assn := fun h => ∃ z : List MsgW × Assn, (z.1.map MsgW.m = ms ∧ ∀ w, w ∈ z.1 → w.ok z.2) ∧ HSat h [own 53 3 (.slice q ms.length d) (z.1.flatMap MsgW.cells), z.2]
theorem MsgsAt.nil : MsgsAt none 0 [] (fun _ => none) := ⟨([], fact True), ⟨rfl, fun _ h => by cases h⟩, ⟨fun _ => none, fun _ => none, own.nil _ _ _, ⟨fun _ => none, fun _ => none, trivial, trivial, fun b => .inr rfl, Sub.refl _, Sub.refl _⟩, fun b => .inr rfl, Sub.refl _, Sub.refl _⟩⟩
theorem MsgsAt.snoc {y : List MsgW × Assn} {l : List Ms} {x : Ms} {p q : Option Addr} {c d : Nat} (hy : y.1.map MsgW.m = l ∧ ∀ w, w ∈ y.1 → w.ok y.2) :
    ∀ h, HSat h [own 53 3 (.slice p (l.length + 1) c) (y.1.flatMap MsgW.cells ++ MsgW.cells ⟨x, q, d⟩), y.2, own 5 1 (.slice q (msgB x).length d) (bytesV (msgB x))] → MsgsAt p c (l ++ [x]) h := by
  intro h s
  obtain ⟨k, hk⟩ : ∃ k, HSat k [own 5 1 (.slice q (msgB x).length d) (bytesV (msgB x))] := by
    obtain ⟨_, h2, _, ⟨_, h4, _, b, _⟩, _⟩ := s
    exact ⟨_, b⟩
  have hs := own.slr (D := [own 5 1 (.slice q (msgB x).length d) (bytesV (msgB x))]) (i := 0) rfl ⟨k, hk⟩
  have hc : (msgB x).length ≤ d := by
    obtain ⟨k1, _, a, _⟩ := hk
    exact (own.len k1 a).2
  refine ⟨(y.1 ++ [⟨x, q, d⟩], star [y.2, own 5 1 (.slice q (msgB x).length d) (bytesV (msgB x))]), ⟨by rw [List.map_append, hy.1]; rfl, fun w hw => ?_⟩, ?_⟩
  · rcases List.mem_append.1 hw with e | e
    · exact (hy.2 w e).mono star_fst
    · obtain rfl := List.mem_singleton.1 e
      exact ⟨hs.into 1 rfl, hc⟩
  · have := s.under fun _ s => HSat.pack (As := [y.2, own 5 1 (.slice q (msgB x).length d) (bytesV (msgB x))]) (Bs := []) s
    rw [List.length_append, List.flatMap_append]
    exact this

theorem beat_none (p : Nat) (s : Nd) (hl : s.lead = none) : FSpec Try.prog 12 [.pointer (some ⟨p, 0, none⟩)] [NodeAt p s] (fun u B => ∃ q d, u = .slice q s.beat.length d ∧ B = [MsgsAt q d s.beat, NodeAt p s]) := by
  have hb : s.beat = [] := by unfold Rf.Nd.beat; rw [hl]
  rw [hb]
  refine openNode fun c lv lp lc vp vc => ?_
  rw [nodeL_lead hl]
  refine FSpec.of func12 rfl ntmps12 rfl fun W0 F => ?_
  refine J.norm rfl ?_
  refine J.noLead c lv fun hlv => ?_
  subst hlv
  refine J.seq <| J.region <| J.p rfl (Q.asg rfl) <| J.nil <| J.then_n <| J.seq <| J.seq <| J.region <| J.m rfl <| J.p rfl (Q.nil_ rfl) <| J.p rfl (Q.fa (n := 1) runUnderlying68 rfl rfl sizeOf66 rfl) ?_
  refine J.p rfl (Q.ldI isAgg66 rfl) ?_
  refine J.p rfl (Q.eqlp runUnderlying66 rfl rfl) <| J.nil <| J.then_n ?_
  refine J.cases 10 rfl (fun hc10 => ?_) (fun hc10 => ?_)
  ·
   replace hc10 := X.nm hc10
   skip
   refine J.cond_t rfl <| J.seq <| J.region <| J.p rfl (Q.asg rfl) <| J.nil <| J.then_n <| J.cret <| J.then_r ?_
   rw [← hl]
   refine J.shutI (nodeL p c (.pointer none) lp lc vp vc s) (NodeAt p s) NodeAt.shut ?_
   refine J.give (X := MsgsAt none 0 []) MsgsAt.nil ?_
   refine J.ret1I [MsgsAt none 0 [], NodeAt p s] rfl rfl ⟨none, 0, rfl, rfl⟩
  cases hc10
theorem beat_some (p : Nat) (s : Nd) (nx mt : List Nat) (hl : s.lead = some (nx, mt)) (hn : s.n ≤ 9) (hid : s.id < s.n) (hnl : nx.length = s.n) (hnx : ∀ m, m ∈ nx → 1 ≤ m ∧ m ≤ s.log.length + 1) (hlg : s.log.length ≤ 1048576) (hterm : s.term ≤ 1048576) (hc : s.commit ≤ s.log.length) :
    FSpec Try.prog 12 [.pointer (some ⟨p, 0, none⟩)] [NodeAt p s] (fun u B => ∃ q d, u = .slice q s.beat.length d ∧ B = [MsgsAt q d s.beat, NodeAt p s]) := by
  have hb : s.beat = s.others.map (s.feed nx) := by unfold Rf.Nd.beat; rw [hl]
  rw [hb]
  refine openNode fun c lv lp lc vp vc => ?_
  rw [nodeL_lead hl]
  have hol : s.others.length ≤ 9 := by have := othersTo_len s s.n; unfold othersTo at this; unfold Rf.Nd.others; omega
  refine FSpec.of func12 rfl ntmps12 rfl fun W0 F => ?_
  refine J.norm rfl ?_
  refine J.openLead c lv nx mt fun l np nc mp mc hlv => ?_
  subst hlv
  refine J.norm rfl <| J.seq <| J.region <| J.p rfl (Q.asg rfl) <| J.nil <| J.then_n <| J.seq <| J.seq <| J.region <| J.m rfl <| J.p rfl (Q.nil_ rfl) <| J.p rfl (Q.fa (n := 1) runUnderlying68 rfl rfl sizeOf66 rfl) ?_
  refine J.p rfl (Q.ldI isAgg66 rfl) ?_
  refine J.p rfl (Q.eqlp runUnderlying66 rfl rfl) <| J.nil <| J.then_n ?_
  refine J.cases 10 rfl (fun hc10 => ?_) (fun hc10 => ?_)
  ·
   cases hc10
  replace hc10 := X.nm hc10
  refine J.cond_f rfl <| J.cskip <| J.then_n <| J.seq <| J.region <| J.p rfl (Q.asg rfl) <| J.nil <| J.then_n <| J.seq <| J.seq <| J.region <| J.m rfl <| J.p rfl (Q.nil_ rfl) <| J.p rfl (Q.fa (n := 0) runUnderlying68 rfl rfl sizeOf65 rfl) ?_
  refine J.p rfl (Q.ldI isAgg65 rfl) ?_
  refine J.callI call28 (others_spec c s lp lc vp vc hn (by omega)) rfl rfl rfl ?_
  rintro _ _ ⟨q15, d15, rfl, rfl⟩
  refine J.norm rfl <| J.p rfl (Q.lenSl runUnderlying22 rfl) <| J.m rfl <| J.nil <| J.then_n <| J.block ?_
  refine J.slrI (E0 := 3) (sz := 1) (p := q15) (n := s.others.length) (c := d15) (xs := s.others.map intV) fun hso => ?_
  refine J.give (X := MsgsAt none 0 []) MsgsAt.nil ?_
  refine J.keepI [MsgsAt none 0 [], own 3 1 (.slice q15 s.others.length d15) (s.others.map intV), pt p (.cells [Value.pointer (some ⟨c, 0, none⟩), .pointer (some ⟨l, 0, none⟩)].toArray 68 (0, 0)), leadA l c np nc mp mc nx mt, own 3 1 (.slice np nx.length nc) (nx.map intV), coreA c s lp lc vp vc, RecsAt lp lc s.log, own 4 1 (.slice vp s.votes.length vc) (s.votes.map Value.bool), own 3 1 (.slice mp mt.length mc) (mt.map intV), F] ?_
  refine J.loop3 (fun (i : Nat) (_ : Option Addr) (_ : Nat) => i ≤ s.others.length) (fun i _ _ => s.others.length - i) (fun i q d => [(0, .pointer (some ⟨p, 0, none⟩)), (3, .slice q ((s.others.take i).map (s.feed nx)).length d), (15, .slice q15 s.others.length d15), (16, .int .i64 (s.others.length : Nat)), (17, .int .i64 (i : Nat))]) (fun i q d => [MsgsAt q d ((s.others.take i).map (s.feed nx)), own 3 1 (.slice q15 s.others.length d15) (s.others.map intV), pt p (.cells [Value.pointer (some ⟨c, 0, none⟩), .pointer (some ⟨l, 0, none⟩)].toArray 68 (0, 0)), leadA l c np nc mp mc nx mt, own 3 1 (.slice np nx.length nc) (nx.map intV), coreA c s lp lc vp vc, RecsAt lp lc s.log, own 4 1 (.slice vp s.votes.length vc) (s.votes.map Value.bool), own 3 1 (.slice mp mt.length mc) (mt.map intV), F]) 0 none 0 (Nat.zero_le _) ⟨rfl, rfl, rfl, rfl, rfl, trivial⟩ rfl fun i q d hi => ?_
  refine J.seq <| J.region <| J.p rfl (Q.lss rfl rfl) <| J.nil <| J.then_n <| J.seq ?_
  refine J.kases 18 rfl (fun hc18 => ?_) (fun hc18 => ?_)
  ·
   refine J.cond_t rfl <| J.cskip <| J.then_n <| J.seq <| J.block <| J.seq ?_
   obtain ⟨b, off, hqb, hrd⟩ := hso.some_ (by omega)
   obtain ⟨k, hk⟩ : ∃ k, s.others[i]? = some k := ⟨_, List.getElem?_eq_getElem (by omega)⟩
   have hko := Rf.Nd.mem_others (List.mem_of_getElem? hk)
   refine J.slot 15 (.slice (some ⟨b, off, none⟩) s.others.length d15) rfl (by rw [hqb]) ?_
   refine J.region <| J.p rfl (Q.ia runUnderlying22 sizeOf3 rfl rfl (by omega) (by omega)) <| J.p rfl (Q.ld isAgg3 rfl (((hrd i (.int .i64 (k : Nat)) (by simp [hk, intV])).inI).cast (by simp))) <| J.p rfl (Q.asg rfl) <| J.nil <| J.then_n <| J.region <| J.m rfl <| J.m rfl <| J.p rfl (Q.nil_ rfl) <| J.p rfl (Q.fa (n := 1) runUnderlying68 rfl rfl sizeOf66 rfl) ?_
   refine J.p rfl (Q.ldI isAgg66 rfl) ?_
   refine J.m rfl ?_
   refine J.callI call30 (feed_spec l c np nc mp mc nx mt s lp lc vp vc k (by omega) (by omega) (by omega) hnx hlg hterm hc) rfl rfl rfl ?_
   rintro _ _ ⟨q27, d27, rfl, rfl⟩
   refine J.norm rfl ?_
   refine J.c rfl rfl (C.bslG (l := [_, _, _]) runUnderlying28 sizeOf53 zeroValue53 (by decide) rfl rfl rfl rfl rfl) ?_
   rintro _ _ ⟨b28, rfl, rfl⟩
   refine J.norm rfl ?_
   have hml : ((s.others.take i).map (s.feed nx)).length ≤ 9 := by rw [List.length_map, List.length_take]; omega
   refine J.openI (MsgsAt q d ((s.others.take i).map (s.feed nx))) (fun _ h => h) fun y hy => ?_
   refine J.norm rfl ?_
   refine J.c rfl rfl (C.appI runUnderlying28 runUnderlying28 typeInfo53 sizeOf53 zeroValue53 rfl rfl (SlR.ptI rfl) (MsgW.one ⟨s.feed nx k, q27, d27⟩) (by simp [Try.t53] <;> omega) (by decide)) ?_
   rintro _ _ ⟨p29, c29, rfl, rfl⟩
   refine J.norm rfl ?_
   refine J.shutI [own 53 3 (.slice p29 (((s.others.take i).map (s.feed nx)).length + 1) c29) (y.1.flatMap MsgW.cells ++ MsgW.cells ⟨s.feed nx k, q27, d27⟩), y.2, own 5 1 (.slice q27 (msgB (s.feed nx k)).length d27) (bytesV (msgB (s.feed nx k)))] (MsgsAt p29 c29 ((s.others.take i).map (s.feed nx) ++ [s.feed nx k])) (MsgsAt.snoc hy) ?_
   refine J.p rfl (Q.asg rfl) <| J.nil <| J.blk_n <| J.then_n <| J.region <| J.p rfl (Q.add64 rfl rfl (by omega)) <| J.m rfl <| J.nil ?_
   have e0 : (s.others.take (i + 1)).map (s.feed nx) = (s.others.take i).map (s.feed nx) ++ [s.feed nx k] := by rw [Rf.take_more hk, List.map_append]; rfl
   have e1 : ((s.others.take i).map (s.feed nx)).length + 1 = ((s.others.take (i + 1)).map (s.feed nx)).length := by rw [e0, List.length_append]; rfl
   rw [← e0]
   refine J.againI (i + 1, p29, c29) (by show i + 1 ≤ s.others.length; omega) (by show s.others.length - (i + 1) < s.others.length - i; omega) ⟨rfl, (by show some (Value.slice p29 (((s.others.take i).map (s.feed nx)).length + 1) c29) = _; rw [e1]), (by show _ = some (Value.slice q15 s.others.length d15); rw [hqb]; rfl), rfl, rfl, trivial⟩
  refine J.cond_f rfl <| J.exit <| J.then_x <| J.lp_x <| J.blk_x <| J.then_n <| J.seq <| J.region <| J.m rfl <| J.p rfl (Q.asg rfl) <| J.nil <| J.then_n <| J.cret ?_
  have hin : s.others.take i = s.others := List.take_of_length_le (by omega)
  rw [hin]
  refine J.shutI (leadL l c np nc mp mc nx mt) (LeadAt c (.pointer (some ⟨l, 0, none⟩)) (some (nx, mt))) LeadAt.shut ?_
  rw [← hl]
  refine J.shutI (nodeL p c (.pointer (some ⟨l, 0, none⟩)) lp lc vp vc s) (NodeAt p s) NodeAt.shut ?_
  refine J.ret1I [MsgsAt q d (s.others.map (s.feed nx)), NodeAt p s] rfl rfl ⟨q, d, rfl, rfl⟩

theorem rep_set {a b n i : Nat} (h : i < n) : (List.replicate i a ++ List.replicate (n - i) b).set i a = List.replicate (i + 1) a ++ List.replicate (n - (i + 1)) b := by
  rw [List.set_append, if_neg (by simp)]
  rw [List.length_replicate, Nat.sub_self, show n - i = (n - (i + 1)) + 1 by omega, List.replicate_succ, List.set_cons_zero, List.replicate_succ']
  simp
theorem cnt_le {s : Nd} {mt : List Nat} (h : s.commit ≤ s.log.length) (hm : ∀ m, m ∈ mt → m ≤ s.log.length) : s.cnt mt ≤ s.log.length := by
  unfold Rf.Nd.cnt
  simp only
  split
  · cases e : (Rf.srt mt)[(s.n - 1) / 2]? with
    | none => rw [List.getD_eq_getElem?_getD, e]; exact Nat.zero_le _
    | some v => rw [Rf.getD_some e]; exact hm v ((Rf.srt_perm mt).subset (List.mem_of_getElem? e))
  · exact h

theorem win_spec (p : Nat) (s : Nd) (hn : s.n ≤ 9) (hid : s.id < s.n) (hl : s.log.length ≤ 1048000) (hterm : s.term ≤ 1048576) (hc : s.commit ≤ s.log.length) :
    FSpec Try.prog 26 [.pointer (some ⟨p, 0, none⟩)] [NodeAt p s] (fun u B => ∃ q d, u = .slice q s.win.beat.length d ∧ B = [MsgsAt q d s.win.beat, NodeAt p s.win]) := by
  refine openNode fun c lv lp lc vp vc => ?_
  refine FSpec.of func26 rfl ntmps26 rfl fun W0 F => ?_
  refine J.norm rfl <| J.seq <| J.region <| J.p rfl (Q.asg rfl) <| J.nil <| J.then_n <| J.seq ?_
  refine J.draw [22, 25, 28] Try.mixed (by kernel_rfl) fun hR => ?_
  refine RG.p 0 hR rfl (Q.mv rfl) <| RG.p 1 hR rfl (Q.nil_ rfl) <| RG.p 2 hR rfl (Q.fa (n := 0) runUnderlying68 rfl rfl sizeOf65 rfl) ?_
  refine RG.p 3 hR rfl (Q.ldI isAgg65 rfl) ?_
  refine RG.p 4 hR rfl (Q.mv rfl) <| RG.p 5 hR rfl (Q.nil_ rfl) <| RG.p 6 hR rfl (Q.fa (n := 0) runUnderlying68 rfl rfl sizeOf65 rfl) ?_
  refine RG.p 7 hR rfl (Q.ldI isAgg65 rfl) ?_
  refine RG.p 8 hR rfl (Q.mv rfl) <| RG.p 9 hR rfl (Q.nil_ rfl) <| RG.p 10 hR rfl (Q.fa (n := 0) runUnderlying68 rfl rfl sizeOf65 rfl) ?_
  refine RG.p 11 hR rfl (Q.ldI isAgg65 rfl) ?_
  refine RG.p 12 hR rfl (Q.mv rfl) <| RG.p 13 hR rfl (Q.nil_ rfl) <| RG.p 14 hR rfl (Q.fa (n := 0) runUnderlying68 rfl rfl sizeOf65 rfl) ?_
  refine RG.p 15 hR rfl (Q.ldI isAgg65 rfl) ?_
  refine RG.p 16 hR rfl (Q.nil_ rfl) <| RG.p 17 hR rfl (Q.fa (n := 0) runUnderlying70 rfl rfl sizeOf3 rfl) ?_
  refine RG.p 18 hR rfl (Q.ldI isAgg3 rfl) ?_
  refine RG.p 19 hR rfl (Q.add64 rfl rfl (by omega)) <| RG.p 20 hR rfl (Q.nil_ rfl) <| RG.p 21 hR rfl (Q.fa (n := 6) runUnderlying70 rfl rfl sizeOf3 rfl) ?_
  refine RG.barP 22 [19] hR rfl rfl rfl rfl rfl (by kernel_rfl) ⟨Free.q rfl rfl rfl (Q.add64 rfl rfl (by omega)), trivial⟩ (C.stI (by first | with_reducible exact sizeOf3 | with_reducible exact sizeOf51) rfl rfl rfl (by exact rfl) (by exact rfl) (by exact rfl)) ?_
  rintro _ _ ⟨rfl, rfl⟩
  refine RG.norm rfl <| RG.p 23 hR rfl (Q.nil_ rfl) <| RG.p 24 hR rfl (Q.fa (n := 7) runUnderlying70 rfl rfl sizeOf3 rfl) ?_
  refine RG.barP 25 [] hR rfl rfl rfl rfl rfl (by kernel_rfl) trivial (C.stI (by first | with_reducible exact sizeOf3 | with_reducible exact sizeOf51) rfl rfl rfl (by exact rfl) (by exact rfl) (by exact rfl)) ?_
  rintro _ _ ⟨rfl, rfl⟩
  refine RG.norm rfl <| RG.p 26 hR rfl (Q.nil_ rfl) <| RG.p 27 hR rfl (Q.fa (n := 8) runUnderlying70 rfl rfl sizeOf51 rfl) ?_
  refine RG.barP 28 [] hR rfl rfl rfl rfl rfl (by kernel_rfl) trivial (C.stI (by first | with_reducible exact sizeOf3 | with_reducible exact sizeOf51) rfl rfl rfl (by exact rfl) (by exact rfl) (by exact rfl)) ?_
  rintro _ _ ⟨rfl, rfl⟩
  refine RG.norm rfl ?_
  refine RG.fin hR rfl ?_
  refine J.norm rfl <| J.then_n ?_
  refine J.convPt c (.cells (coreCells s.crown lp lc none 0).toArray 70 (0, 0)) rfl ?_
  refine J.cut (fun _ : Nat × Nat × Nat => True) (fun _ => [(0, .pointer (some ⟨p, 0, none⟩))]) (fun z => [pt p (.cells [Value.pointer (some ⟨c, 0, none⟩), .pointer (some ⟨z.2.2, 0, none⟩)].toArray 68 (0, 0)), pt z.2.2 (.cells [Value.pointer (some ⟨c, 0, none⟩), .slice (some ⟨z.1, 0, none⟩) s.n s.n, .slice (some ⟨z.2.1, 0, none⟩) s.n s.n].toArray 103 (0, 0)), own 3 1 (.slice (some ⟨z.1, 0, none⟩) s.n s.n) (List.replicate s.n (Value.int .i64 0)), own 3 1 (.slice (some ⟨z.2.1, 0, none⟩) s.n s.n) (List.replicate s.n (Value.int .i64 0)), coreA c s.crown lp lc none 0, RecsAt lp lc s.log, F]) ?_ fun z _ => ?_
  ·
   have hcn : s.crown.n ≤ 9 := hn
   refine J.draw [12, 20, 22, 25] Try.mixed (by kernel_rfl) fun hR => ?_
   refine RG.p 0 hR rfl (Q.mv rfl) <| RG.p 1 hR rfl (Q.mv rfl) <| RG.p 2 hR rfl (Q.nil_ rfl) <| RG.p 3 hR rfl (Q.fa (n := 0) runUnderlying68 rfl rfl sizeOf65 rfl) ?_
   refine RG.p 4 hR rfl (Q.ldI isAgg65 rfl) ?_
   refine RG.p 5 hR rfl (Q.mv rfl) <| RG.p 6 hR rfl (Q.nil_ rfl) <| RG.p 7 hR rfl (Q.fa (n := 0) runUnderlying68 rfl rfl sizeOf65 rfl) ?_
   refine RG.p 8 hR rfl (Q.ldI isAgg65 rfl) ?_
   refine RG.p 9 hR rfl (Q.nil_ rfl) <| RG.p 10 hR rfl (Q.fa (n := 1) runUnderlying70 rfl rfl sizeOf3 rfl) ?_
   refine RG.p 11 hR rfl (Q.ldI isAgg3 rfl) ?_
   refine RG.p 13 hR rfl (Q.mv rfl) <| RG.p 14 hR rfl (Q.nil_ rfl) <| RG.p 15 hR rfl (Q.fa (n := 0) runUnderlying68 rfl rfl sizeOf65 rfl) ?_
   refine RG.p 16 hR rfl (Q.ldI isAgg65 rfl) ?_
   refine RG.p 17 hR rfl (Q.nil_ rfl) <| RG.p 18 hR rfl (Q.fa (n := 1) runUnderlying70 rfl rfl sizeOf3 rfl) ?_
   refine RG.p 19 hR rfl (Q.ldI isAgg3 rfl) ?_
   refine RG.many hR 12 [20] rfl ⟨?_, ⟨?_, trivial⟩⟩
   ·
    refine RGi.made rfl rfl rfl rfl (C.mksl runUnderlying22 typeInfo3 sizeOf3 zeroValue3 rfl rfl rfl (by omega) (by omega) (by simp [Try.t3]; omega) (by omega)) ?_
    rintro b42
    refine RG.slot 42 (.slice (some ⟨b42, 0, none⟩) s.n s.n) rfl rfl ?_
    refine RG.made 20 hR rfl rfl rfl rfl rfl (C.mksl runUnderlying22 typeInfo3 sizeOf3 zeroValue3 rfl rfl rfl (by omega) (by omega) (by simp [Try.t3]; omega) (by omega)) ?_
    rintro b50
    refine RG.slot 50 (.slice (some ⟨b50, 0, none⟩) s.n s.n) rfl rfl ?_
    refine RG.p 21 hR rfl (Q.bld (l := [.pointer (some ⟨c, 0, none⟩), .slice (some ⟨b42, 0, none⟩) s.n s.n, .slice (some ⟨b50, 0, none⟩) s.n s.n]) runUnderlying103 zeroValue103 places103 rfl (by kernel_rfl)) ?_
    refine RG.made 22 hR rfl rfl rfl rfl rfl (C.box (l := [_, _, _]) rfl rfl) ?_
    rintro b52
    refine RG.p 23 hR rfl (Q.nil_ rfl) <| RG.p 24 hR rfl (Q.fa (n := 1) runUnderlying68 rfl rfl sizeOf66 rfl) ?_
    refine RG.stI 25 hR rfl rfl rfl rfl rfl sizeOf66 rfl rfl rfl (by exact rfl) (by exact rfl) (by exact rfl) ?_
    refine RG.fin hR rfl ?_
    refine J.norm rfl ?_
    refine J.convI (pt b42 (.cells (List.replicate (s.n : Int).toNat (Value.int .i64 0)).toArray 3 (0, 0))) (own 3 1 (.slice (some ⟨b42, 0, none⟩) s.n s.n) (List.replicate s.n (Value.int .i64 0))) (own_of_block (by simp)) ?_
    refine J.convI (pt b50 (.cells (List.replicate (s.n : Int).toNat (Value.int .i64 0)).toArray 3 (0, 0))) (own 3 1 (.slice (some ⟨b50, 0, none⟩) s.n s.n) (List.replicate s.n (Value.int .i64 0))) (own_of_block (by simp)) ?_
    exact J.meetI (b42, b50, b52) trivial ⟨rfl, trivial⟩
   ·
    refine RGi.made rfl rfl rfl rfl (C.mksl runUnderlying22 typeInfo3 sizeOf3 zeroValue3 rfl rfl rfl (by omega) (by omega) (by simp [Try.t3]; omega) (by omega)) ?_
    rintro b50
    refine RG.slot 50 (.slice (some ⟨b50, 0, none⟩) s.n s.n) rfl rfl ?_
    refine RG.made 12 hR rfl rfl rfl rfl rfl (C.mksl runUnderlying22 typeInfo3 sizeOf3 zeroValue3 rfl rfl rfl (by omega) (by omega) (by simp [Try.t3]; omega) (by omega)) ?_
    rintro b42
    refine RG.slot 42 (.slice (some ⟨b42, 0, none⟩) s.n s.n) rfl rfl ?_
    refine RG.p 21 hR rfl (Q.bld (l := [.pointer (some ⟨c, 0, none⟩), .slice (some ⟨b42, 0, none⟩) s.n s.n, .slice (some ⟨b50, 0, none⟩) s.n s.n]) runUnderlying103 zeroValue103 places103 rfl (by kernel_rfl)) ?_
    refine RG.made 22 hR rfl rfl rfl rfl rfl (C.box (l := [_, _, _]) rfl rfl) ?_
    rintro b52
    refine RG.p 23 hR rfl (Q.nil_ rfl) <| RG.p 24 hR rfl (Q.fa (n := 1) runUnderlying68 rfl rfl sizeOf66 rfl) ?_
    refine RG.stI 25 hR rfl rfl rfl rfl rfl sizeOf66 rfl rfl rfl (by exact rfl) (by exact rfl) (by exact rfl) ?_
    refine RG.fin hR rfl ?_
    refine J.norm rfl ?_
    refine J.convI (pt b42 (.cells (List.replicate (s.n : Int).toNat (Value.int .i64 0)).toArray 3 (0, 0))) (own 3 1 (.slice (some ⟨b42, 0, none⟩) s.n s.n) (List.replicate s.n (Value.int .i64 0))) (own_of_block (by simp)) ?_
    refine J.convI (pt b50 (.cells (List.replicate (s.n : Int).toNat (Value.int .i64 0)).toArray 3 (0, 0))) (own 3 1 (.slice (some ⟨b50, 0, none⟩) s.n s.n) (List.replicate s.n (Value.int .i64 0))) (own_of_block (by simp)) ?_
    exact J.meetI (b42, b50, b52) trivial ⟨rfl, trivial⟩
  obtain ⟨bn, bm, bl⟩ := z
  dsimp only
  refine J.seq <| J.seq <| J.region <| J.m rfl <| J.p rfl (Q.nil_ rfl) <| J.p rfl (Q.fa (n := 1) runUnderlying68 rfl rfl sizeOf66 rfl) ?_
  refine J.p rfl (Q.ldI isAgg66 rfl) ?_
  refine J.p rfl (Q.nil_ rfl) <| J.p rfl (Q.fa (n := 1) runUnderlying103 rfl rfl sizeOf22 rfl) ?_
  refine J.p rfl (Q.ldI isAgg22 rfl) ?_
  refine J.p rfl (Q.lenSl runUnderlying22 rfl) <| J.m rfl <| J.nil <| J.then_n <| J.block ?_
  refine J.loop (fun i : Nat => i ≤ s.n) (fun i => s.n - i) (fun i => [(0, .pointer (some ⟨p, 0, none⟩)), (62, .int .i64 (s.n : Nat)), (63, .int .i64 (i : Nat))]) (fun i => [pt p (.cells [Value.pointer (some ⟨c, 0, none⟩), .pointer (some ⟨bl, 0, none⟩)].toArray 68 (0, 0)), pt bl (.cells [Value.pointer (some ⟨c, 0, none⟩), .slice (some ⟨bn, 0, none⟩) s.n s.n, .slice (some ⟨bm, 0, none⟩) s.n s.n].toArray 103 (0, 0)), own 3 1 (.slice (some ⟨bn, 0, none⟩) s.n s.n) ((List.replicate i (s.log.length + 1) ++ List.replicate (s.n - i) 0).map intV), own 3 1 (.slice (some ⟨bm, 0, none⟩) s.n s.n) (List.replicate s.n (Value.int .i64 0)), coreA c s.crown lp lc none 0, RecsAt lp lc s.log, F]) 0 (Nat.zero_le _) ⟨rfl, rfl, rfl, trivial⟩ (by show _ = [_, _, own 3 1 (.slice (some ⟨bn, 0, none⟩) s.n s.n) (([] ++ List.replicate s.n 0).map intV), _, _, _, _]; rw [List.nil_append, List.map_replicate]; rfl) fun i hi => ?_
  refine J.seq <| J.region <| J.p rfl (Q.lss rfl rfl) <| J.nil <| J.then_n <| J.seq ?_
  refine J.kases 64 rfl (fun hc64 => ?_) (fun hc64 => ?_)
  ·
   refine J.cond_t rfl <| J.cskip <| J.then_n <| J.seq <| J.block <| J.seq <| J.region <| J.m rfl <| J.p rfl (Q.asg rfl) <| J.nil <| J.then_n ?_
   have hcl : s.crown.log.length ≤ 1048000 := hl
   refine J.draw [19] Try.mixed (by kernel_rfl) fun hR => ?_
   refine RG.p 0 hR rfl (Q.mv rfl) <| RG.p 1 hR rfl (Q.nil_ rfl) <| RG.p 2 hR rfl (Q.fa (n := 1) runUnderlying68 rfl rfl sizeOf66 rfl) ?_
   refine RG.p 3 hR rfl (Q.ldI isAgg66 rfl) ?_
   refine RG.p 4 hR rfl (Q.nil_ rfl) <| RG.p 5 hR rfl (Q.fa (n := 1) runUnderlying103 rfl rfl sizeOf22 rfl) ?_
   refine RG.p 6 hR rfl (Q.ldI isAgg22 rfl) ?_
   refine RG.p 7 hR rfl (Q.mv rfl) <| RG.p 8 hR rfl (Q.mv rfl) <| RG.p 9 hR rfl (Q.nil_ rfl) <| RG.p 10 hR rfl (Q.fa (n := 0) runUnderlying68 rfl rfl sizeOf65 rfl) ?_
   refine RG.p 11 hR rfl (Q.ldI isAgg65 rfl) ?_
   refine RG.p 12 hR rfl (Q.nil_ rfl) <| RG.p 13 hR rfl (Q.fa (n := 2) runUnderlying70 rfl rfl sizeOf64 rfl) <| RG.p 14 hR rfl (Q.fa (n := 2) runUnderlying64 rfl rfl sizeOf62 rfl) ?_
   refine RG.p 15 hR rfl (Q.ldI isAgg62 rfl) ?_
   refine RG.p 16 hR rfl (Q.lenSl runUnderlying62 rfl) <| RG.p 17 hR rfl (Q.add64 rfl rfl (by omega)) ?_
   refine RG.slot 83 (.int .i64 ((s.log.length + 1 : Nat) : Int)) rfl rfl ?_
   refine RG.p 18 hR rfl (Q.ia runUnderlying22 sizeOf3 rfl rfl (by omega) (by omega)) ?_
   refine RG.bar 19 hR rfl rfl rfl rfl rfl rfl (C.st1O i sizeOf3 rfl rfl rfl (by omega) (by simp; omega)) ?_
   rintro _ _ ⟨rfl, rfl⟩
   refine RG.norm rfl ?_
   refine RG.fin hR rfl ?_
   refine J.norm rfl <| J.blk_n <| J.then_n <| J.region <| J.p rfl (Q.add64 rfl rfl (by omega)) <| J.m rfl <| J.nil ?_
   have e : ((List.replicate i (s.log.length + 1) ++ List.replicate (s.n - i) 0).map intV).set i (.int .i64 ((s.log.length + 1 : Nat) : Int)) = (List.replicate (i + 1) (s.log.length + 1) ++ List.replicate (s.n - (i + 1)) 0).map intV := by
    rw [← rep_set (by omega : i < s.n), List.map_set]; rfl
   rw [e]
   refine J.againI (i + 1) (by show i + 1 ≤ s.n; omega) (by show s.n - (i + 1) < s.n - i; omega) ⟨rfl, rfl, rfl, trivial⟩
  refine J.cond_f rfl <| J.exit <| J.then_x <| J.lp_x <| J.blk_x <| J.then_n <| J.seq ?_
  have hin : i = s.n := by omega
  rw [hin, Nat.sub_self, List.replicate_zero, List.append_nil]
  obtain ⟨nx, hnx⟩ : ∃ nx, nx = List.replicate s.n (s.log.length + 1) := ⟨_, rfl⟩
  obtain ⟨mt, hmt⟩ : ∃ mt, mt = List.replicate s.n 0 := ⟨_, rfl⟩
  have hnl : nx.length = s.n := by rw [hnx, List.length_replicate]
  have hml : mt.length = s.n := by rw [hmt, List.length_replicate]
  have hm0 : List.replicate s.n (Value.int .i64 0) = mt.map intV := by rw [hmt, List.map_replicate]; rfl
  have hmv : ∀ m, m ∈ mt → m ≤ s.log.length := fun m hm => by rw [hmt] at hm; have := List.eq_of_mem_replicate hm; omega
  rw [← hnx, hm0]
  refine J.convPt bl (.cells [Value.pointer (some ⟨c, 0, none⟩), .slice (some ⟨bn, 0, none⟩) nx.length s.n, .slice (some ⟨bm, 0, none⟩) mt.length s.n].toArray 103 (0, 0)) (by rw [hnl, hml]) ?_
  refine J.convI (own 3 1 (.slice (some ⟨bn, 0, none⟩) s.n s.n) (nx.map intV)) (own 3 1 (.slice (some ⟨bn, 0, none⟩) nx.length s.n) (nx.map intV)) (by rw [hnl]; exact fun _ h => h) ?_
  refine J.convI (own 3 1 (.slice (some ⟨bm, 0, none⟩) s.n s.n) (mt.map intV)) (own 3 1 (.slice (some ⟨bm, 0, none⟩) mt.length s.n) (mt.map intV)) (by rw [hml]; exact fun _ h => h) ?_
  refine J.give (X := fact True) trivial ?_
  refine J.region <| J.m rfl <| J.p rfl (Q.nil_ rfl) <| J.p rfl (Q.fa (n := 1) runUnderlying68 rfl rfl sizeOf66 rfl) ?_
  refine J.p rfl (Q.ldI isAgg66 rfl) ?_
  refine J.callI call31 (add_spec bl c (some ⟨bn, 0, none⟩) s.n (some ⟨bm, 0, none⟩) s.n nx mt s.crown lp lc none 0 hn hid hml hmv hl hterm (fact True) none 0 [] (.inl ⟨none, 0, rfl, rfl⟩) (by decide)) rfl rfl rfl ?_
  rintro _ _ ⟨lp', lc', rfl, rfl⟩
  refine J.norm rfl <| J.nil <| J.then_n <| J.seq ?_
  obtain ⟨mt1, hm1⟩ : ∃ m, m = mt.set s.crown.id (s.crown.log.length + 1) := ⟨_, rfl⟩
  have hml1 : mt1.length = s.n := by rw [hm1, List.length_set, hml]
  have hwl : s.win.lead = some (nx, mt1) := by rw [hm1, hnx, hmt]; rfl
  have hwlen : s.win.log.length = s.log.length + 1 := by show (s.log ++ [_]).length = _; rw [List.length_append]; rfl
  have hw : s.crown.add nx mt [] = s.win := by rw [hnx, hmt]; rfl
  rw [hw, ← hm1]
  refine J.shutI (leadL bl c (some ⟨bn, 0, none⟩) s.n (some ⟨bm, 0, none⟩) s.n nx mt1) (LeadAt c (.pointer (some ⟨bl, 0, none⟩)) (some (nx, mt1))) LeadAt.shut ?_
  rw [← hwl]
  refine J.give (X := own 4 1 (.slice none s.win.votes.length 0) (s.win.votes.map Value.bool)) (noBits _) ?_
  refine J.shutI (nodeL p c (.pointer (some ⟨bl, 0, none⟩)) lp' lc' none 0 s.win) (NodeAt p s.win) NodeAt.shut ?_
  refine J.region <| J.m rfl ?_
  refine J.callI call12 (beat_some p s.win nx mt1 hwl hn hid (by rw [hnl]; rfl) (fun m hm => by rw [hnx] at hm; have := List.eq_of_mem_replicate hm; omega) (by omega) hterm (cnt_le (by show s.commit ≤ (s.log ++ [_]).length; rw [List.length_append]; omega) (fun m hm => by show m ≤ (s.log ++ [_]).length; rw [List.length_append]; exact (List.mem_or_eq_of_mem_set hm).elim (fun x => by have := List.eq_of_mem_replicate x; omega) (fun x => by have hcl : s.crown.log.length = s.log.length := rfl; simp only [List.length_singleton]; omega)))) rfl rfl rfl ?_
  rintro _ _ ⟨q, d, rfl, rfl⟩
  refine J.norm rfl <| J.p rfl (Q.asg rfl) <| J.nil <| J.then_n <| J.cret ?_
  refine J.ret1I [MsgsAt q d s.win.beat, NodeAt p s.win] rfl rfl ⟨q, d, rfl, rfl⟩

structure NFit (s : Nd) : Prop where
  n : s.n ≤ 9
  id : s.id < s.n
  term : s.term ≤ 1048500
  len : s.log.length ≤ 1047900
  last : lastT s.log ≤ 1048576
  com : s.commit ≤ s.log.length
  vote : s.vote ≤ 9
  votes : s.role = 2 → s.votes.length = s.n
  lead : ∀ nx mt, s.lead = some (nx, mt) → nx.length = s.n ∧ mt.length = s.n ∧ (∀ m, m ∈ mt → m ≤ s.log.length) ∧ ∀ m, m ∈ nx → 1 ≤ m ∧ m ≤ s.log.length + 1

theorem elect_spec (p : Nat) (s : Nd) (hf : NFit s) : FSpec Try.prog 10 [.pointer (some ⟨p, 0, none⟩)] [NodeAt p s] (fun u B => ∃ q d, u = .slice q s.elect.2.length d ∧ B = [MsgsAt q d s.elect.2, NodeAt p s.elect.1]) := by
  have hn := hf.n
  have hid := hf.id
  have hterm := hf.term
  have hl := hf.len
  have hc := hf.com
  refine openNode fun c lv lp lc vp vc => ?_
  refine FSpec.of func10 rfl ntmps10 rfl fun W0 F => ?_
  refine J.norm rfl <| J.seq <| J.region <| J.p rfl (Q.asg rfl) <| J.nil <| J.then_n <| J.seq <| J.seq <| J.region <| J.m rfl <| J.p rfl (Q.nil_ rfl) <| J.p rfl (Q.fa (n := 0) runUnderlying68 rfl rfl sizeOf65 rfl) ?_
  refine J.p rfl (Q.ldI isAgg65 rfl) ?_
  refine J.p rfl (Q.nil_ rfl) <| J.p rfl (Q.fa (n := 6) runUnderlying70 rfl rfl sizeOf3 rfl) ?_
  refine J.p rfl (Q.ldI isAgg3 rfl) ?_
  refine J.p rfl (Q.eql rfl rfl) <| J.m rfl ?_
  refine J.kases 16 rfl (fun hb16 => ?_) (fun hb16 => ?_)
  ·
   refine J.k rfl <| J.k rfl <| J.k rfl <| J.k rfl <| J.k rfl <| J.k rfl <| J.k rfl <| J.k rfl <| J.k rfl <| J.p rfl (Q.pick_t rfl rfl) <| J.nil <| J.then_n <| J.cond_t rfl <| J.seq <| J.region <| J.p rfl (Q.asg rfl) <| J.nil <| J.then_n <| J.cret <| J.then_r ?_
   have e : s.elect = (s, []) := by unfold Rf.Nd.elect; rw [if_pos (by omega)]
   rw [e]
   refine J.shutI (nodeL p c lv lp lc vp vc s) (NodeAt p s) NodeAt.shut ?_
   refine J.give (X := MsgsAt none 0 []) MsgsAt.nil ?_
   refine J.ret1I [MsgsAt none 0 [], NodeAt p s] rfl rfl ⟨none, 0, rfl, rfl⟩
  refine J.m rfl <| J.p rfl (Q.nil_ rfl) <| J.p rfl (Q.fa (n := 0) runUnderlying68 rfl rfl sizeOf65 rfl) ?_
  refine J.p rfl (Q.ldI isAgg65 rfl) ?_
  refine J.p rfl (Q.nil_ rfl) <| J.p rfl (Q.fa (n := 2) runUnderlying70 rfl rfl sizeOf64 rfl) <| J.p rfl (Q.fa (n := 0) runUnderlying64 rfl rfl sizeOf56 rfl) ?_
  refine J.p rfl (Q.ldI isAgg56 rfl) ?_
  refine J.p rfl (Q.eql rfl rfl) <| J.p rfl (Q.pick_f rfl rfl) <| J.nil <| J.then_n ?_
  refine J.kases 26 rfl (fun hc26 => ?_) (fun hc26 => ?_)
  ·
   refine J.cond_t rfl <| J.seq <| J.region <| J.p rfl (Q.asg rfl) <| J.nil <| J.then_n <| J.cret <| J.then_r ?_
   have e : s.elect = (s, []) := by unfold Rf.Nd.elect; rw [if_pos (by omega)]
   rw [e]
   refine J.shutI (nodeL p c lv lp lc vp vc s) (NodeAt p s) NodeAt.shut ?_
   refine J.give (X := MsgsAt none 0 []) MsgsAt.nil ?_
   refine J.ret1I [MsgsAt none 0 [], NodeAt p s] rfl rfl ⟨none, 0, rfl, rfl⟩
  refine J.cond_f rfl <| J.cskip <| J.then_n <| J.seq <| J.region <| J.m rfl <| J.m rfl <| J.p rfl (Q.nil_ rfl) <| J.p rfl (Q.fa (n := 0) runUnderlying68 rfl rfl sizeOf65 rfl) ?_
  refine J.p rfl (Q.ldI isAgg65 rfl) ?_
  refine J.p rfl (Q.nil_ rfl) <| J.p rfl (Q.fa (n := 2) runUnderlying70 rfl rfl sizeOf64 rfl) <| J.p rfl (Q.fa (n := 0) runUnderlying64 rfl rfl sizeOf56 rfl) ?_
  refine J.p rfl (Q.ldI isAgg56 rfl) ?_
  refine J.p rfl (Q.add rfl rfl) ?_
  refine J.slot 36 (.int .u64 ((s.term + 1 : Nat) : Int)) rfl (by rw [Int.natCast_add]; congr 1; exact u64_in (by omega)) ?_
  refine J.shutI (nodeL p c lv lp lc vp vc s) (NodeAt p s) NodeAt.shut ?_
  refine J.callI call25 (follow_spec p s (s.term + 1)) rfl rfl rfl ?_
  rintro _ _ ⟨rfl, rfl⟩
  refine J.norm rfl ?_
  refine J.openNode p (s.follow (s.term + 1)) fun c lv lp lc vp vc => ?_
  refine J.norm rfl ?_
  have hfn : (s.follow (s.term + 1)).n ≤ 9 := hn
  have hfi : (s.follow (s.term + 1)).id < (s.follow (s.term + 1)).n := hid
  have hfi2 : (s.follow (s.term + 1)).id < s.n := hid
  refine J.nil <| J.then_n <| J.seq ?_
  refine J.draw [18, 22] Try.mixed (by kernel_rfl) fun hR => ?_
  refine RG.p 0 hR rfl (Q.mv rfl) <| RG.p 1 hR rfl (Q.nil_ rfl) <| RG.p 2 hR rfl (Q.fa (n := 0) runUnderlying68 rfl rfl sizeOf65 rfl) ?_
  refine RG.p 3 hR rfl (Q.ldI isAgg65 rfl) ?_
  refine RG.p 4 hR rfl (Q.mv rfl) <| RG.p 5 hR rfl (Q.nil_ rfl) <| RG.p 6 hR rfl (Q.fa (n := 0) runUnderlying68 rfl rfl sizeOf65 rfl) ?_
  refine RG.p 7 hR rfl (Q.ldI isAgg65 rfl) ?_
  refine RG.p 8 hR rfl (Q.mv rfl) <| RG.p 9 hR rfl (Q.nil_ rfl) <| RG.p 10 hR rfl (Q.fa (n := 0) runUnderlying68 rfl rfl sizeOf65 rfl) ?_
  refine RG.p 11 hR rfl (Q.ldI isAgg65 rfl) ?_
  refine RG.p 12 hR rfl (Q.nil_ rfl) <| RG.p 13 hR rfl (Q.fa (n := 0) runUnderlying70 rfl rfl sizeOf3 rfl) ?_
  refine RG.p 14 hR rfl (Q.ldI isAgg3 rfl) ?_
  refine RG.p 15 hR rfl (Q.add64 rfl rfl (by omega)) <| RG.p 16 hR rfl (Q.nil_ rfl) <| RG.p 17 hR rfl (Q.fa (n := 6) runUnderlying70 rfl rfl sizeOf3 rfl) ?_
  refine RG.barP 18 [15] hR rfl rfl rfl rfl rfl (by kernel_rfl) ⟨Free.q rfl rfl rfl (Q.add64 rfl rfl (by omega)), trivial⟩ (C.stI (by first | with_reducible exact sizeOf3 | with_reducible exact sizeOf51) rfl rfl rfl (by exact rfl) (by exact rfl) (by exact rfl)) ?_
  rintro _ _ ⟨rfl, rfl⟩
  refine RG.norm rfl <| RG.p 19 hR rfl (Q.nil_ rfl) <| RG.p 20 hR rfl (Q.fa (n := 2) runUnderlying70 rfl rfl sizeOf64 rfl) <| RG.p 21 hR rfl (Q.fa (n := 1) runUnderlying64 rfl rfl sizeOf3 rfl) ?_
  refine RG.barP 22 [] hR rfl rfl rfl rfl rfl (by kernel_rfl) trivial (C.stI (by first | with_reducible exact sizeOf3 | with_reducible exact sizeOf51) rfl rfl rfl (by exact rfl) (by exact rfl) (by exact rfl)) ?_
  rintro _ _ ⟨rfl, rfl⟩
  refine RG.norm rfl ?_
  refine RG.fin hR rfl ?_
  refine J.norm rfl <| J.then_n <| J.seq ?_
  refine J.draw [11, 14] Try.mixed (by kernel_rfl) fun hR => ?_
  refine RG.p 0 hR rfl (Q.mv rfl) <| RG.p 1 hR rfl (Q.nil_ rfl) <| RG.p 2 hR rfl (Q.fa (n := 0) runUnderlying68 rfl rfl sizeOf65 rfl) ?_
  refine RG.p 3 hR rfl (Q.ldI isAgg65 rfl) ?_
  refine RG.p 4 hR rfl (Q.mv rfl) <| RG.p 5 hR rfl (Q.nil_ rfl) <| RG.p 6 hR rfl (Q.fa (n := 0) runUnderlying68 rfl rfl sizeOf65 rfl) ?_
  refine RG.p 7 hR rfl (Q.ldI isAgg65 rfl) ?_
  refine RG.p 8 hR rfl (Q.nil_ rfl) <| RG.p 9 hR rfl (Q.fa (n := 1) runUnderlying70 rfl rfl sizeOf3 rfl) ?_
  refine RG.p 10 hR rfl (Q.ldI isAgg3 rfl) ?_
  refine RG.made 11 hR rfl rfl rfl rfl rfl (C.mksl runUnderlying51 typeInfo4 sizeOf4 zeroValue4 rfl rfl rfl (by omega) (by omega) (by simp [Try.t4]; omega) (by omega)) ?_
  rintro b70
  refine RG.slot 70 (.slice (some ⟨b70, 0, none⟩) s.n s.n) rfl rfl ?_
  refine RG.p 12 hR rfl (Q.nil_ rfl) <| RG.p 13 hR rfl (Q.fa (n := 8) runUnderlying70 rfl rfl sizeOf51 rfl) ?_
  refine RG.barP 14 [] hR rfl rfl rfl rfl rfl (by kernel_rfl) trivial (C.stI sizeOf51 rfl rfl rfl (by exact rfl) (by exact rfl) (by exact rfl)) ?_
  rintro _ _ ⟨rfl, rfl⟩
  refine RG.norm rfl ?_
  refine RG.fin hR rfl ?_
  refine J.norm rfl <| J.then_n <| J.seq ?_
  refine J.convI (pt b70 (.cells (List.replicate ((s.follow (s.term + 1)).n : Int).toNat (Value.bool false)).toArray 4 (0, 0))) (own 4 1 (.slice (some ⟨b70, 0, none⟩) s.n s.n) (List.replicate s.n (Value.bool false))) (own_of_block (by rw [List.length_replicate, Nat.mul_one]; rfl)) ?_
  refine J.draw [15] Try.mixed (by kernel_rfl) fun hR => ?_
  refine RG.p 0 hR rfl (Q.mv rfl) <| RG.p 1 hR rfl (Q.nil_ rfl) <| RG.p 2 hR rfl (Q.fa (n := 0) runUnderlying68 rfl rfl sizeOf65 rfl) ?_
  refine RG.p 3 hR rfl (Q.ldI isAgg65 rfl) ?_
  refine RG.p 4 hR rfl (Q.nil_ rfl) <| RG.p 5 hR rfl (Q.fa (n := 8) runUnderlying70 rfl rfl sizeOf51 rfl) ?_
  refine RG.p 6 hR rfl (Q.ldI isAgg51 rfl) ?_
  refine RG.p 7 hR rfl (Q.mv rfl) <| RG.p 8 hR rfl (Q.nil_ rfl) <| RG.p 9 hR rfl (Q.fa (n := 0) runUnderlying68 rfl rfl sizeOf65 rfl) ?_
  refine RG.p 10 hR rfl (Q.ldI isAgg65 rfl) ?_
  refine RG.p 11 hR rfl (Q.nil_ rfl) <| RG.p 12 hR rfl (Q.fa (n := 0) runUnderlying70 rfl rfl sizeOf3 rfl) ?_
  refine RG.p 13 hR rfl (Q.ldI isAgg3 rfl) ?_
  refine RG.p 14 hR rfl (Q.ia runUnderlying51 sizeOf4 rfl rfl (by omega) (by omega)) ?_
  refine RG.bar 15 hR rfl rfl rfl rfl rfl rfl (C.st1O s.id sizeOf4 rfl rfl rfl (by show 0 + ((s.id : Nat) : Int).toNat * 1 = 0 + s.id; omega) (by rw [List.length_replicate]; omega)) ?_
  rintro _ _ ⟨rfl, rfl⟩
  refine RG.norm rfl ?_
  refine RG.fin hR rfl ?_
  refine J.norm rfl <| J.then_n <| J.seq <| J.seq ?_
  have hvl : s.stand.votes.length = s.n := by show ((List.replicate s.n false).set s.id true).length = s.n; rw [List.length_set, List.length_replicate]
  have hvv : (List.replicate s.n (Value.bool false)).set s.id (.bool true) = s.stand.votes.map Value.bool := by show _ = ((List.replicate s.n false).set s.id true).map Value.bool; rw [List.map_set, List.map_replicate]
  refine J.convPt c (.cells (coreCells s.stand lp lc (some ⟨b70, 0, none⟩) s.n).toArray 70 (0, 0)) (by unfold coreCells; rw [hvl]; rfl) ?_
  rw [hvv]
  refine J.convI (own 4 1 (.slice (some ⟨b70, 0, none⟩) s.n s.n) (s.stand.votes.map Value.bool)) (own 4 1 (.slice (some ⟨b70, 0, none⟩) s.stand.votes.length s.n) (s.stand.votes.map Value.bool)) (by rw [hvl]; exact fun _ h => h) ?_
  refine J.convI (RecsAt lp lc (s.follow (s.term + 1)).log) (RecsAt lp lc s.stand.log) (fun _ h => h) ?_
  refine J.convI (LeadAt c lv (s.follow (s.term + 1)).lead) (LeadAt c lv s.stand.lead) (fun _ h => h) ?_
  have hst : s.stand.term = s.term + 1 := by show (if s.term < s.term + 1 then s.term + 1 else s.term) = _; rw [if_pos (by omega)]
  have hnr : ¬ (s.role = 3 ∨ s.term = 18446744073709551615) := by omega
  have hsn : s.stand.n = s.n := rfl
  refine J.region <| J.m rfl <| J.p rfl (Q.nil_ rfl) <| J.p rfl (Q.fa (n := 0) runUnderlying68 rfl rfl sizeOf65 rfl) ?_
  refine J.p rfl (Q.ldI isAgg65 rfl) ?_
  refine J.p rfl (Q.nil_ rfl) <| J.p rfl (Q.fa (n := 1) runUnderlying70 rfl rfl sizeOf3 rfl) ?_
  refine J.p rfl (Q.ldI isAgg3 rfl) ?_
  refine J.p rfl (Q.eql rfl rfl) <| J.nil <| J.then_n ?_
  refine J.kases 95 rfl (fun hc95 => ?_) (fun hc95 => ?_)
  ·
   refine J.cond_t rfl <| J.seq <| J.region <| J.m rfl ?_
   refine J.shutI (nodeL p c lv lp lc (some ⟨b70, 0, none⟩) s.n s.stand) (NodeAt p s.stand) NodeAt.shut ?_
   have e : s.elect = (s.stand.win, s.stand.win.beat) := by unfold Rf.Nd.elect; rw [if_neg hnr, if_pos (by omega)]
   refine J.callI call26 (win_spec p s.stand hn hid (by show s.log.length ≤ _; omega) (by omega) hc) rfl rfl rfl ?_
   rintro _ _ ⟨q97, d97, rfl, rfl⟩
   refine J.norm rfl <| J.p rfl (Q.asg rfl) <| J.nil <| J.then_n <| J.cret <| J.then_r ?_
   rw [e]
   refine J.ret1I [MsgsAt q97 d97 s.stand.win.beat, NodeAt p s.stand.win] rfl rfl ⟨q97, d97, rfl, rfl⟩
  refine J.cond_f rfl <| J.cskip <| J.then_n <| J.seq <| J.region <| J.m rfl <| J.p rfl (Q.nil_ rfl) <| J.p rfl (Q.fa (n := 0) runUnderlying68 rfl rfl sizeOf65 rfl) ?_
  refine J.p rfl (Q.ldI isAgg65 rfl) ?_
  refine J.callI call27 (last_spec c s.stand lp lc (some ⟨b70, 0, none⟩) s.n (by show s.log.length ≤ _; omega)) rfl rfl rfl ?_
  rintro _ _ ⟨rfl, rfl⟩
  refine J.norm rfl <| J.m rfl <| J.p rfl (Q.ext rfl rfl) <| J.p rfl (Q.ext rfl rfl) <| J.p rfl (Q.asg rfl) <| J.p rfl (Q.asg rfl) <| J.nil <| J.then_n <| J.seq <| J.region <| J.p rfl (Q.asg rfl) <| J.nil <| J.then_n <| J.seq <| J.seq <| J.region <| J.m rfl <| J.p rfl (Q.nil_ rfl) <| J.p rfl (Q.fa (n := 0) runUnderlying68 rfl rfl sizeOf65 rfl) ?_
  refine J.p rfl (Q.ldI isAgg65 rfl) ?_
  refine J.callI call28 (others_spec c s.stand lp lc (some ⟨b70, 0, none⟩) s.n hn (by show s.id ≤ 9; omega)) rfl rfl rfl ?_
  rintro _ _ ⟨q15, d15, rfl, rfl⟩
  refine J.norm rfl <| J.p rfl (Q.lenSl runUnderlying22 rfl) <| J.m rfl <| J.nil <| J.then_n <| J.block ?_
  have hol : s.stand.others.length ≤ 9 := by have := othersTo_len s.stand s.stand.n; unfold othersTo at this; unfold Rf.Nd.others; omega
  have hlt6 : lastT s.stand.log ≤ 1048576 := by have h : lastT s.stand.log = lastT s.log := rfl; exact hf.last
  have hlg : s.stand.log.length ≤ 1047900 := hl
  have hsid : s.stand.id < s.stand.n := hid
  obtain ⟨ak, hak⟩ : ∃ ak : Nat → Ms, ak = fun i => s.stand.msg i (.ask (lastT s.stand.log) s.stand.log.length) := ⟨_, rfl⟩
  refine J.slrI (E0 := 3) (sz := 1) (p := q15) (n := s.stand.others.length) (c := d15) (xs := s.stand.others.map intV) fun hso => ?_
  refine J.give (X := MsgsAt none 0 []) MsgsAt.nil ?_
  refine J.keepI [MsgsAt none 0 [], own 3 1 (.slice q15 s.stand.others.length d15) (s.stand.others.map intV), pt p (.cells [Value.pointer (some ⟨c, 0, none⟩), lv].toArray 68 (0, 0)), coreA c s.stand lp lc (some ⟨b70, 0, none⟩) s.n, RecsAt lp lc s.stand.log, own 4 1 (.slice (some ⟨b70, 0, none⟩) s.stand.votes.length s.n) (s.stand.votes.map Value.bool), LeadAt c lv s.stand.lead, F] ?_
  refine J.loop3 (fun (i : Nat) (_ : Option Addr) (_ : Nat) => i ≤ s.stand.others.length) (fun i _ _ => s.stand.others.length - i) (fun i q d => [(0, .pointer (some ⟨p, 0, none⟩)), (3, .int .u64 (lastT s.stand.log : Nat)), (4, .int .i64 (s.stand.log.length : Nat)), (5, .slice q ((s.stand.others.take i).map ak).length d), (110, .slice q15 s.stand.others.length d15), (111, .int .i64 (s.stand.others.length : Nat)), (112, .int .i64 (i : Nat))]) (fun i q d => [MsgsAt q d ((s.stand.others.take i).map ak), own 3 1 (.slice q15 s.stand.others.length d15) (s.stand.others.map intV), pt p (.cells [Value.pointer (some ⟨c, 0, none⟩), lv].toArray 68 (0, 0)), coreA c s.stand lp lc (some ⟨b70, 0, none⟩) s.n, RecsAt lp lc s.stand.log, own 4 1 (.slice (some ⟨b70, 0, none⟩) s.stand.votes.length s.n) (s.stand.votes.map Value.bool), LeadAt c lv s.stand.lead, F]) 0 none 0 (Nat.zero_le _) ⟨rfl, rfl, rfl, rfl, rfl, rfl, rfl, trivial⟩ rfl fun i q d hi => ?_
  refine J.seq <| J.region <| J.p rfl (Q.lss rfl rfl) <| J.nil <| J.then_n <| J.seq ?_
  refine J.kases 113 rfl (fun hc113 => ?_) (fun hc113 => ?_)
  ·
   refine J.cond_t rfl <| J.cskip <| J.then_n <| J.seq <| J.block <| J.seq ?_
   obtain ⟨b, off, hqb, hrd⟩ := hso.some_ (by omega)
   obtain ⟨k, hk⟩ : ∃ k, s.stand.others[i]? = some k := ⟨_, List.getElem?_eq_getElem (by omega)⟩
   have hko := Rf.Nd.mem_others (List.mem_of_getElem? hk)
   refine J.slot 110 (.slice (some ⟨b, off, none⟩) s.stand.others.length d15) rfl (by rw [hqb]) ?_
   refine J.region <| J.p rfl (Q.ia runUnderlying22 sizeOf3 rfl rfl (by omega) (by omega)) <| J.p rfl (Q.ld isAgg3 rfl (((hrd i (.int .i64 (k : Nat)) (by simp [hk, intV])).inI).cast (by simp))) <| J.p rfl (Q.asg rfl) <| J.nil <| J.then_n <| J.region <| J.m rfl <| J.m rfl <| J.p rfl (Q.nil_ rfl) <| J.p rfl (Q.fa (n := 0) runUnderlying68 rfl rfl sizeOf65 rfl) ?_
   refine J.p rfl (Q.ldI isAgg65 rfl) ?_
   refine J.m rfl <| J.m rfl <| J.m rfl <| J.p rfl (Q.bld (l := [.int .u64 (lastT s.stand.log : Nat), .int .i64 (s.stand.log.length : Nat)]) runUnderlying77 zeroValue77 places77 rfl (by kernel_rfl)) <| J.p rfl (Q.mkif runUnderlying77 (by intro m h; cases h) rfl) ?_
   refine J.give (X := star []) trivial ?_
   refine J.callI call29 (send_spec c s.stand lp lc (some ⟨b70, 0, none⟩) s.n (star []) (XM.vAsk (lastT s.stand.log) s.stand.log.length) (.ask (lastT s.stand.log) s.stand.log.length) (write_ask _ _ hlt6 (by omega)).one k (by omega) (by omega) (by omega)) rfl rfl rfl ?_
   rintro _ _ ⟨q27, d27, rfl, rfl⟩
   refine J.norm rfl ?_
   have eak : s.stand.msg k (.ask (lastT s.stand.log) s.stand.log.length) = ak k := by rw [hak]
   rw [eak]
   refine J.c rfl rfl (C.bslG (l := [_, _, _]) runUnderlying28 sizeOf53 zeroValue53 (by decide) rfl rfl rfl rfl rfl) ?_
   rintro _ _ ⟨b127, rfl, rfl⟩
   refine J.norm rfl ?_
   have hml : ((s.stand.others.take i).map ak).length ≤ 9 := by rw [List.length_map, List.length_take]; omega
   have hs1 : (ak k).src = s.stand.id := by rw [hak]
   have hs2 : (ak k).dst = k := by rw [hak]
   refine J.openI (MsgsAt q d ((s.stand.others.take i).map ak)) (fun _ h => h) fun y hy => ?_
   refine J.norm rfl ?_
   refine J.c rfl rfl (C.appI runUnderlying28 runUnderlying28 typeInfo53 sizeOf53 zeroValue53 rfl rfl (SlR.ptI rfl) (by intro v hv; simp only [List.mem_cons, List.not_mem_nil, or_false] at hv; rcases hv with rfl | rfl | rfl <;> rfl) (by simp [Try.t53] <;> omega) (by decide)) ?_
   rintro _ _ ⟨p128, c128, rfl, rfl⟩
   refine J.norm rfl ?_
   refine J.shutI [own 53 3 (.slice p128 (((s.stand.others.take i).map ak).length + 1) c128) (y.1.flatMap MsgW.cells ++ [.int .i64 (s.stand.id : Nat), .int .i64 (k : Nat), .slice q27 (msgB (ak k)).length d27]), y.2, own 5 1 (.slice q27 (msgB (ak k)).length d27) (bytesV (msgB (ak k)))] (MsgsAt p128 c128 ((s.stand.others.take i).map ak ++ [ak k])) (by have := MsgsAt.snoc (x := ak k) (p := p128) (c := c128) (q := q27) (d := d27) hy; rw [MsgW.cells, hs1, hs2] at this; exact this) ?_
   refine J.p rfl (Q.asg rfl) <| J.nil <| J.blk_n <| J.then_n <| J.region <| J.p rfl (Q.add64 rfl rfl (by omega)) <| J.m rfl <| J.nil ?_
   have e0 : (s.stand.others.take (i + 1)).map ak = (s.stand.others.take i).map ak ++ [ak k] := by rw [Rf.take_more hk, List.map_append]; rfl
   have e1 : ((s.stand.others.take i).map ak).length + 1 = ((s.stand.others.take (i + 1)).map ak).length := by rw [e0, List.length_append]; rfl
   rw [← e0]
   refine J.againI (i + 1, p128, c128) (by show i + 1 ≤ s.stand.others.length; omega) (by show s.stand.others.length - (i + 1) < s.stand.others.length - i; omega) ⟨rfl, rfl, rfl, (by show some (Value.slice p128 (((s.stand.others.take i).map ak).length + 1) c128) = _; rw [e1]), (by show _ = some (Value.slice q15 s.stand.others.length d15); rw [hqb]; rfl), rfl, rfl, trivial⟩
  refine J.cond_f rfl <| J.exit <| J.then_x <| J.lp_x <| J.blk_x <| J.then_n <| J.seq <| J.region <| J.m rfl <| J.p rfl (Q.asg rfl) <| J.nil <| J.then_n <| J.cret ?_
  have hin : s.stand.others.take i = s.stand.others := List.take_of_length_le (by omega)
  have e : s.elect = (s.stand, s.stand.others.map ak) := by unfold Rf.Nd.elect; rw [if_neg hnr, if_neg (by omega), hak]; rfl
  rw [hin, e]
  refine J.shutI (nodeL p c lv lp lc (some ⟨b70, 0, none⟩) s.n s.stand) (NodeAt p s.stand) NodeAt.shut ?_
  refine J.ret1I [MsgsAt q d (s.stand.others.map ak), NodeAt p s.stand] rfl rfl ⟨q, d, rfl, rfl⟩

theorem gives_spec (p c : Nat) (lv : Value) (lp : Option Addr) (lc : Nat) (vp : Option Addr) (vc : Nat) (s : Nd) (to lt k : Nat) (hl : s.log.length ≤ 1048576) (ht : to ≤ 9) : FSpec Try.prog 34 [.pointer (some ⟨p, 0, none⟩), .int .i64 to, .agg #[.int .u64 lt, .int .i64 k]] [pt p (.cells [Value.pointer (some ⟨c, 0, none⟩), lv].toArray 68 (0, 0)), coreA c s lp lc vp vc, RecsAt lp lc s.log]
    (fun u B => u = .bool (!s.refuses to lt k) ∧ B = [pt p (.cells [Value.pointer (some ⟨c, 0, none⟩), lv].toArray 68 (0, 0)), coreA c (s.gives to lt k) lp lc vp vc, RecsAt lp lc s.log]) := by
  refine FSpec.of func34 rfl ntmps34 rfl fun W0 F => ?_
  refine J.seq <| J.region ?_
  refine J.c rfl rfl (C.box (l := [_, _]) rfl rfl) ?_
  rintro _ _ ⟨b5, rfl, rfl⟩
  refine J.norm rfl <| J.p rfl (Q.asg rfl) <| J.nil <| J.then_n <| J.seq <| J.region <| J.m rfl <| J.p rfl (Q.nil_ rfl) <| J.p rfl (Q.fa (n := 0) runUnderlying68 rfl rfl sizeOf65 rfl) ?_
  refine J.p rfl (Q.ldI isAgg65 rfl) ?_
  refine J.callI call27 (last_spec c s lp lc vp vc hl) rfl rfl rfl ?_
  rintro _ _ ⟨rfl, rfl⟩
  refine J.norm rfl <| J.m rfl <| J.p rfl (Q.ext rfl rfl) <| J.p rfl (Q.ext rfl rfl) <| J.p rfl (Q.asg rfl) <| J.p rfl (Q.asg rfl) <| J.nil <| J.then_n <| J.seq <| J.seq <| J.region <| J.m rfl <| J.p rfl (Q.nil_ rfl) <| J.p rfl (Q.fa (n := 0) runUnderlying68 rfl rfl sizeOf65 rfl) ?_
  refine J.p rfl (Q.ldI isAgg65 rfl) ?_
  refine J.p rfl (Q.nil_ rfl) <| J.p rfl (Q.fa (n := 2) runUnderlying70 rfl rfl sizeOf64 rfl) <| J.p rfl (Q.fa (n := 1) runUnderlying64 rfl rfl sizeOf3 rfl) ?_
  refine J.p rfl (Q.ldI isAgg3 rfl) ?_
  refine J.p rfl (Q.neq rfl rfl) <| J.m rfl ?_
  refine J.kases 26 rfl (fun hb26 => ?_) (fun hb26 => ?_)
  ·
   refine J.m rfl <| J.p rfl (Q.nil_ rfl) <| J.p rfl (Q.fa (n := 0) runUnderlying68 rfl rfl sizeOf65 rfl) ?_
   refine J.p rfl (Q.ldI isAgg65 rfl) ?_
   refine J.p rfl (Q.nil_ rfl) <| J.p rfl (Q.fa (n := 2) runUnderlying70 rfl rfl sizeOf64 rfl) <| J.p rfl (Q.fa (n := 1) runUnderlying64 rfl rfl sizeOf3 rfl) ?_
   refine J.p rfl (Q.ldI isAgg3 rfl) ?_
   refine J.m rfl <| J.p rfl (Q.add64 rfl rfl (by omega)) <| J.p rfl (Q.neq rfl rfl) <| J.p rfl (Q.pick_t rfl rfl) <| J.m rfl ?_
   refine J.kases 39 rfl (fun hb39 => ?_) (fun hb39 => ?_)
   ·
    refine J.k rfl <| J.k rfl <| J.k rfl <| J.k rfl <| J.p rfl (Q.pick_t rfl rfl) <| J.m rfl <| J.k rfl <| J.k rfl <| J.k rfl <| J.k rfl <| J.k rfl <| J.k rfl <| J.k rfl <| J.k rfl <| J.k rfl <| J.k rfl <| J.p rfl (Q.pick_t rfl rfl) <| J.nil <| J.then_n <| J.cond_t rfl <| J.seq <| J.region ?_
    refine J.p rfl (Q.asg rfl) <| J.nil <| J.then_n <| J.cret <| J.then_r ?_
    have hr : s.refuses to lt k = (decide (s.vote ≠ 0 ∧ s.vote ≠ to + 1) || decide (lt < lastT s.log) || decide (lt = lastT s.log ∧ k < s.log.length)) := by
     unfold Rf.Nd.refuses
     rw [Bool.eq_iff_iff]
     simp
    first
     | (have e : s.refuses to lt k = true := by
          rw [hr, Bool.or_eq_true, Bool.or_eq_true, decide_eq_true_eq, decide_eq_true_eq, decide_eq_true_eq]; omega
        rw [e, show s.gives to lt k = s by unfold Rf.Nd.gives; rw [e]; rfl]
        refine J.ret1I [pt p (.cells [Value.pointer (some ⟨c, 0, none⟩), lv].toArray 68 (0, 0)), coreA c s lp lc vp vc, RecsAt lp lc s.log] rfl rfl ⟨rfl, rfl⟩)
     | (have e : s.refuses to lt k = false := by
          rw [hr, Bool.or_eq_false_iff, Bool.or_eq_false_iff, decide_eq_false_iff_not, decide_eq_false_iff_not, decide_eq_false_iff_not]; omega
        rw [e, show s.gives to lt k = { s with vote := to + 1 } by unfold Rf.Nd.gives; rw [e]; rfl]
        refine J.ret1I [pt p (.cells [Value.pointer (some ⟨c, 0, none⟩), lv].toArray 68 (0, 0)), coreA c { s with vote := to + 1 } lp lc vp vc, RecsAt lp lc s.log] rfl rfl ⟨rfl, rfl⟩)
   refine J.p rfl (Q.fa (n := 0) runUnderlying77 rfl rfl sizeOf56 rfl) ?_
   refine J.p rfl (Q.ldI isAgg56 rfl) ?_
   refine J.m rfl <| J.p rfl (Q.lss rfl rfl) <| J.p rfl (Q.pick_f rfl rfl) <| J.m rfl ?_
   refine J.kases 45 rfl (fun hb45 => ?_) (fun hb45 => ?_)
   ·
    refine J.k rfl <| J.k rfl <| J.k rfl <| J.k rfl <| J.k rfl <| J.k rfl <| J.k rfl <| J.k rfl <| J.k rfl <| J.k rfl <| J.p rfl (Q.pick_t rfl rfl) <| J.nil <| J.then_n <| J.cond_t rfl <| J.seq <| J.region <| J.p rfl (Q.asg rfl) <| J.nil <| J.then_n <| J.cret <| J.then_r ?_
    have hr : s.refuses to lt k = (decide (s.vote ≠ 0 ∧ s.vote ≠ to + 1) || decide (lt < lastT s.log) || decide (lt = lastT s.log ∧ k < s.log.length)) := by
     unfold Rf.Nd.refuses
     rw [Bool.eq_iff_iff]
     simp
    first
     | (have e : s.refuses to lt k = true := by
          rw [hr, Bool.or_eq_true, Bool.or_eq_true, decide_eq_true_eq, decide_eq_true_eq, decide_eq_true_eq]; omega
        rw [e, show s.gives to lt k = s by unfold Rf.Nd.gives; rw [e]; rfl]
        refine J.ret1I [pt p (.cells [Value.pointer (some ⟨c, 0, none⟩), lv].toArray 68 (0, 0)), coreA c s lp lc vp vc, RecsAt lp lc s.log] rfl rfl ⟨rfl, rfl⟩)
     | (have e : s.refuses to lt k = false := by
          rw [hr, Bool.or_eq_false_iff, Bool.or_eq_false_iff, decide_eq_false_iff_not, decide_eq_false_iff_not, decide_eq_false_iff_not]; omega
        rw [e, show s.gives to lt k = { s with vote := to + 1 } by unfold Rf.Nd.gives; rw [e]; rfl]
        refine J.ret1I [pt p (.cells [Value.pointer (some ⟨c, 0, none⟩), lv].toArray 68 (0, 0)), coreA c { s with vote := to + 1 } lp lc vp vc, RecsAt lp lc s.log] rfl rfl ⟨rfl, rfl⟩)
   refine J.p rfl (Q.fa (n := 0) runUnderlying77 rfl rfl sizeOf56 rfl) ?_
   refine J.p rfl (Q.ldI isAgg56 rfl) ?_
   refine J.m rfl <| J.p rfl (Q.eql rfl rfl) <| J.m rfl ?_
   refine J.kases 50 rfl (fun hb50 => ?_) (fun hb50 => ?_)
   ·
    refine J.p rfl (Q.fa (n := 1) runUnderlying77 rfl rfl sizeOf3 rfl) ?_
    refine J.p rfl (Q.ldI isAgg3 rfl) ?_
    refine J.m rfl <| J.p rfl (Q.lss rfl rfl) <| J.p rfl (Q.pick_t rfl rfl) <| J.p rfl (Q.pick_f rfl rfl) <| J.nil <| J.then_n ?_
    refine J.kases 56 rfl (fun hc56 => ?_) (fun hc56 => ?_)
    ·
     refine J.cond_t rfl <| J.seq <| J.region <| J.p rfl (Q.asg rfl) <| J.nil <| J.then_n <| J.cret <| J.then_r ?_
     have hr : s.refuses to lt k = (decide (s.vote ≠ 0 ∧ s.vote ≠ to + 1) || decide (lt < lastT s.log) || decide (lt = lastT s.log ∧ k < s.log.length)) := by
      unfold Rf.Nd.refuses
      rw [Bool.eq_iff_iff]
      simp
     first
      | (have e : s.refuses to lt k = true := by
           rw [hr, Bool.or_eq_true, Bool.or_eq_true, decide_eq_true_eq, decide_eq_true_eq, decide_eq_true_eq]; omega
         rw [e, show s.gives to lt k = s by unfold Rf.Nd.gives; rw [e]; rfl]
         refine J.ret1I [pt p (.cells [Value.pointer (some ⟨c, 0, none⟩), lv].toArray 68 (0, 0)), coreA c s lp lc vp vc, RecsAt lp lc s.log] rfl rfl ⟨rfl, rfl⟩)
      | (have e : s.refuses to lt k = false := by
           rw [hr, Bool.or_eq_false_iff, Bool.or_eq_false_iff, decide_eq_false_iff_not, decide_eq_false_iff_not, decide_eq_false_iff_not]; omega
         rw [e, show s.gives to lt k = { s with vote := to + 1 } by unfold Rf.Nd.gives; rw [e]; rfl]
         refine J.ret1I [pt p (.cells [Value.pointer (some ⟨c, 0, none⟩), lv].toArray 68 (0, 0)), coreA c { s with vote := to + 1 } lp lc vp vc, RecsAt lp lc s.log] rfl rfl ⟨rfl, rfl⟩)
    refine J.cond_f rfl <| J.cskip <| J.then_n <| J.seq <| J.region <| J.m rfl <| J.p rfl (Q.nil_ rfl) <| J.p rfl (Q.fa (n := 0) runUnderlying68 rfl rfl sizeOf65 rfl) ?_
    refine J.p rfl (Q.ldI isAgg65 rfl) ?_
    refine J.m rfl <| J.p rfl (Q.add64 rfl rfl (by omega)) ?_
    refine J.slot 62 (.int .i64 ((to + 1 : Nat) : Int)) rfl rfl ?_
    refine J.p rfl (Q.nil_ rfl) <| J.p rfl (Q.fa (n := 2) runUnderlying70 rfl rfl sizeOf64 rfl) <| J.p rfl (Q.fa (n := 1) runUnderlying64 rfl rfl sizeOf3 rfl) ?_
    refine J.stJ rfl sizeOf3 rfl rfl rfl ?_
    refine J.nil <| J.then_n <| J.seq <| J.region <| J.p rfl (Q.asg rfl) <| J.nil <| J.then_n <| J.cret ?_
    have hr : s.refuses to lt k = (decide (s.vote ≠ 0 ∧ s.vote ≠ to + 1) || decide (lt < lastT s.log) || decide (lt = lastT s.log ∧ k < s.log.length)) := by
     unfold Rf.Nd.refuses
     rw [Bool.eq_iff_iff]
     simp
    first
     | (have e : s.refuses to lt k = true := by
          rw [hr, Bool.or_eq_true, Bool.or_eq_true, decide_eq_true_eq, decide_eq_true_eq, decide_eq_true_eq]; omega
        rw [e, show s.gives to lt k = s by unfold Rf.Nd.gives; rw [e]; rfl]
        refine J.ret1I [pt p (.cells [Value.pointer (some ⟨c, 0, none⟩), lv].toArray 68 (0, 0)), coreA c s lp lc vp vc, RecsAt lp lc s.log] rfl rfl ⟨rfl, rfl⟩)
     | (have e : s.refuses to lt k = false := by
          rw [hr, Bool.or_eq_false_iff, Bool.or_eq_false_iff, decide_eq_false_iff_not, decide_eq_false_iff_not, decide_eq_false_iff_not]; omega
        rw [e, show s.gives to lt k = { s with vote := to + 1 } by unfold Rf.Nd.gives; rw [e]; rfl]
        refine J.ret1I [pt p (.cells [Value.pointer (some ⟨c, 0, none⟩), lv].toArray 68 (0, 0)), coreA c { s with vote := to + 1 } lp lc vp vc, RecsAt lp lc s.log] rfl rfl ⟨rfl, rfl⟩)
   refine J.k rfl <| J.k rfl <| J.k rfl <| J.k rfl <| J.p rfl (Q.pick_f rfl rfl) <| J.p rfl (Q.pick_f rfl rfl) <| J.nil <| J.then_n <| J.cond_f rfl <| J.cskip <| J.then_n <| J.seq <| J.region <| J.m rfl <| J.p rfl (Q.nil_ rfl) <| J.p rfl (Q.fa (n := 0) runUnderlying68 rfl rfl sizeOf65 rfl) ?_
   refine J.p rfl (Q.ldI isAgg65 rfl) ?_
   refine J.m rfl <| J.p rfl (Q.add64 rfl rfl (by omega)) ?_
   refine J.slot 62 (.int .i64 ((to + 1 : Nat) : Int)) rfl rfl ?_
   refine J.p rfl (Q.nil_ rfl) <| J.p rfl (Q.fa (n := 2) runUnderlying70 rfl rfl sizeOf64 rfl) <| J.p rfl (Q.fa (n := 1) runUnderlying64 rfl rfl sizeOf3 rfl) ?_
   refine J.stJ rfl sizeOf3 rfl rfl rfl ?_
   refine J.nil <| J.then_n <| J.seq <| J.region <| J.p rfl (Q.asg rfl) <| J.nil <| J.then_n <| J.cret ?_
   have hr : s.refuses to lt k = (decide (s.vote ≠ 0 ∧ s.vote ≠ to + 1) || decide (lt < lastT s.log) || decide (lt = lastT s.log ∧ k < s.log.length)) := by
    unfold Rf.Nd.refuses
    rw [Bool.eq_iff_iff]
    simp
   first
    | (have e : s.refuses to lt k = true := by
         rw [hr, Bool.or_eq_true, Bool.or_eq_true, decide_eq_true_eq, decide_eq_true_eq, decide_eq_true_eq]; omega
       rw [e, show s.gives to lt k = s by unfold Rf.Nd.gives; rw [e]; rfl]
       refine J.ret1I [pt p (.cells [Value.pointer (some ⟨c, 0, none⟩), lv].toArray 68 (0, 0)), coreA c s lp lc vp vc, RecsAt lp lc s.log] rfl rfl ⟨rfl, rfl⟩)
    | (have e : s.refuses to lt k = false := by
         rw [hr, Bool.or_eq_false_iff, Bool.or_eq_false_iff, decide_eq_false_iff_not, decide_eq_false_iff_not, decide_eq_false_iff_not]; omega
       rw [e, show s.gives to lt k = { s with vote := to + 1 } by unfold Rf.Nd.gives; rw [e]; rfl]
       refine J.ret1I [pt p (.cells [Value.pointer (some ⟨c, 0, none⟩), lv].toArray 68 (0, 0)), coreA c { s with vote := to + 1 } lp lc vp vc, RecsAt lp lc s.log] rfl rfl ⟨rfl, rfl⟩)
  refine J.k rfl <| J.k rfl <| J.k rfl <| J.k rfl <| J.k rfl <| J.k rfl <| J.k rfl <| J.k rfl <| J.k rfl <| J.k rfl <| J.k rfl <| J.p rfl (Q.pick_f rfl rfl) <| J.m rfl <| J.p rfl (Q.fa (n := 0) runUnderlying77 rfl rfl sizeOf56 rfl) ?_
  refine J.p rfl (Q.ldI isAgg56 rfl) ?_
  refine J.m rfl <| J.p rfl (Q.lss rfl rfl) <| J.p rfl (Q.pick_f rfl rfl) <| J.m rfl ?_
  refine J.kases 45 rfl (fun hb45 => ?_) (fun hb45 => ?_)
  ·
   refine J.k rfl <| J.k rfl <| J.k rfl <| J.k rfl <| J.k rfl <| J.k rfl <| J.k rfl <| J.k rfl <| J.k rfl <| J.k rfl <| J.p rfl (Q.pick_t rfl rfl) <| J.nil <| J.then_n <| J.cond_t rfl <| J.seq <| J.region <| J.p rfl (Q.asg rfl) <| J.nil <| J.then_n <| J.cret <| J.then_r ?_
   have hr : s.refuses to lt k = (decide (s.vote ≠ 0 ∧ s.vote ≠ to + 1) || decide (lt < lastT s.log) || decide (lt = lastT s.log ∧ k < s.log.length)) := by
    unfold Rf.Nd.refuses
    rw [Bool.eq_iff_iff]
    simp
   first
    | (have e : s.refuses to lt k = true := by
         rw [hr, Bool.or_eq_true, Bool.or_eq_true, decide_eq_true_eq, decide_eq_true_eq, decide_eq_true_eq]; omega
       rw [e, show s.gives to lt k = s by unfold Rf.Nd.gives; rw [e]; rfl]
       refine J.ret1I [pt p (.cells [Value.pointer (some ⟨c, 0, none⟩), lv].toArray 68 (0, 0)), coreA c s lp lc vp vc, RecsAt lp lc s.log] rfl rfl ⟨rfl, rfl⟩)
    | (have e : s.refuses to lt k = false := by
         rw [hr, Bool.or_eq_false_iff, Bool.or_eq_false_iff, decide_eq_false_iff_not, decide_eq_false_iff_not, decide_eq_false_iff_not]; omega
       rw [e, show s.gives to lt k = { s with vote := to + 1 } by unfold Rf.Nd.gives; rw [e]; rfl]
       refine J.ret1I [pt p (.cells [Value.pointer (some ⟨c, 0, none⟩), lv].toArray 68 (0, 0)), coreA c { s with vote := to + 1 } lp lc vp vc, RecsAt lp lc s.log] rfl rfl ⟨rfl, rfl⟩)
  refine J.p rfl (Q.fa (n := 0) runUnderlying77 rfl rfl sizeOf56 rfl) ?_
  refine J.p rfl (Q.ldI isAgg56 rfl) ?_
  refine J.m rfl <| J.p rfl (Q.eql rfl rfl) <| J.m rfl ?_
  refine J.kases 50 rfl (fun hb50 => ?_) (fun hb50 => ?_)
  ·
   refine J.p rfl (Q.fa (n := 1) runUnderlying77 rfl rfl sizeOf3 rfl) ?_
   refine J.p rfl (Q.ldI isAgg3 rfl) ?_
   refine J.m rfl <| J.p rfl (Q.lss rfl rfl) <| J.p rfl (Q.pick_t rfl rfl) <| J.p rfl (Q.pick_f rfl rfl) <| J.nil <| J.then_n ?_
   refine J.kases 56 rfl (fun hc56 => ?_) (fun hc56 => ?_)
   ·
    refine J.cond_t rfl <| J.seq <| J.region <| J.p rfl (Q.asg rfl) <| J.nil <| J.then_n <| J.cret <| J.then_r ?_
    have hr : s.refuses to lt k = (decide (s.vote ≠ 0 ∧ s.vote ≠ to + 1) || decide (lt < lastT s.log) || decide (lt = lastT s.log ∧ k < s.log.length)) := by
     unfold Rf.Nd.refuses
     rw [Bool.eq_iff_iff]
     simp
    first
     | (have e : s.refuses to lt k = true := by
          rw [hr, Bool.or_eq_true, Bool.or_eq_true, decide_eq_true_eq, decide_eq_true_eq, decide_eq_true_eq]; omega
        rw [e, show s.gives to lt k = s by unfold Rf.Nd.gives; rw [e]; rfl]
        refine J.ret1I [pt p (.cells [Value.pointer (some ⟨c, 0, none⟩), lv].toArray 68 (0, 0)), coreA c s lp lc vp vc, RecsAt lp lc s.log] rfl rfl ⟨rfl, rfl⟩)
     | (have e : s.refuses to lt k = false := by
          rw [hr, Bool.or_eq_false_iff, Bool.or_eq_false_iff, decide_eq_false_iff_not, decide_eq_false_iff_not, decide_eq_false_iff_not]; omega
        rw [e, show s.gives to lt k = { s with vote := to + 1 } by unfold Rf.Nd.gives; rw [e]; rfl]
        refine J.ret1I [pt p (.cells [Value.pointer (some ⟨c, 0, none⟩), lv].toArray 68 (0, 0)), coreA c { s with vote := to + 1 } lp lc vp vc, RecsAt lp lc s.log] rfl rfl ⟨rfl, rfl⟩)
   refine J.cond_f rfl <| J.cskip <| J.then_n <| J.seq <| J.region <| J.m rfl <| J.p rfl (Q.nil_ rfl) <| J.p rfl (Q.fa (n := 0) runUnderlying68 rfl rfl sizeOf65 rfl) ?_
   refine J.p rfl (Q.ldI isAgg65 rfl) ?_
   refine J.m rfl <| J.p rfl (Q.add64 rfl rfl (by omega)) ?_
   refine J.slot 62 (.int .i64 ((to + 1 : Nat) : Int)) rfl rfl ?_
   refine J.p rfl (Q.nil_ rfl) <| J.p rfl (Q.fa (n := 2) runUnderlying70 rfl rfl sizeOf64 rfl) <| J.p rfl (Q.fa (n := 1) runUnderlying64 rfl rfl sizeOf3 rfl) ?_
   refine J.stJ rfl sizeOf3 rfl rfl rfl ?_
   refine J.nil <| J.then_n <| J.seq <| J.region <| J.p rfl (Q.asg rfl) <| J.nil <| J.then_n <| J.cret ?_
   have hr : s.refuses to lt k = (decide (s.vote ≠ 0 ∧ s.vote ≠ to + 1) || decide (lt < lastT s.log) || decide (lt = lastT s.log ∧ k < s.log.length)) := by
    unfold Rf.Nd.refuses
    rw [Bool.eq_iff_iff]
    simp
   first
    | (have e : s.refuses to lt k = true := by
         rw [hr, Bool.or_eq_true, Bool.or_eq_true, decide_eq_true_eq, decide_eq_true_eq, decide_eq_true_eq]; omega
       rw [e, show s.gives to lt k = s by unfold Rf.Nd.gives; rw [e]; rfl]
       refine J.ret1I [pt p (.cells [Value.pointer (some ⟨c, 0, none⟩), lv].toArray 68 (0, 0)), coreA c s lp lc vp vc, RecsAt lp lc s.log] rfl rfl ⟨rfl, rfl⟩)
    | (have e : s.refuses to lt k = false := by
         rw [hr, Bool.or_eq_false_iff, Bool.or_eq_false_iff, decide_eq_false_iff_not, decide_eq_false_iff_not, decide_eq_false_iff_not]; omega
       rw [e, show s.gives to lt k = { s with vote := to + 1 } by unfold Rf.Nd.gives; rw [e]; rfl]
       refine J.ret1I [pt p (.cells [Value.pointer (some ⟨c, 0, none⟩), lv].toArray 68 (0, 0)), coreA c { s with vote := to + 1 } lp lc vp vc, RecsAt lp lc s.log] rfl rfl ⟨rfl, rfl⟩)
  refine J.k rfl <| J.k rfl <| J.k rfl <| J.k rfl <| J.p rfl (Q.pick_f rfl rfl) <| J.p rfl (Q.pick_f rfl rfl) <| J.nil <| J.then_n <| J.cond_f rfl <| J.cskip <| J.then_n <| J.seq <| J.region <| J.m rfl <| J.p rfl (Q.nil_ rfl) <| J.p rfl (Q.fa (n := 0) runUnderlying68 rfl rfl sizeOf65 rfl) ?_
  refine J.p rfl (Q.ldI isAgg65 rfl) ?_
  refine J.m rfl <| J.p rfl (Q.add64 rfl rfl (by omega)) ?_
  refine J.slot 62 (.int .i64 ((to + 1 : Nat) : Int)) rfl rfl ?_
  refine J.p rfl (Q.nil_ rfl) <| J.p rfl (Q.fa (n := 2) runUnderlying70 rfl rfl sizeOf64 rfl) <| J.p rfl (Q.fa (n := 1) runUnderlying64 rfl rfl sizeOf3 rfl) ?_
  refine J.stJ rfl sizeOf3 rfl rfl rfl ?_
  refine J.nil <| J.then_n <| J.seq <| J.region <| J.p rfl (Q.asg rfl) <| J.nil <| J.then_n <| J.cret ?_
  have hr : s.refuses to lt k = (decide (s.vote ≠ 0 ∧ s.vote ≠ to + 1) || decide (lt < lastT s.log) || decide (lt = lastT s.log ∧ k < s.log.length)) := by
   unfold Rf.Nd.refuses
   rw [Bool.eq_iff_iff]
   simp
  first
   | (have e : s.refuses to lt k = true := by
        rw [hr, Bool.or_eq_true, Bool.or_eq_true, decide_eq_true_eq, decide_eq_true_eq, decide_eq_true_eq]; omega
      rw [e, show s.gives to lt k = s by unfold Rf.Nd.gives; rw [e]; rfl]
      refine J.ret1I [pt p (.cells [Value.pointer (some ⟨c, 0, none⟩), lv].toArray 68 (0, 0)), coreA c s lp lc vp vc, RecsAt lp lc s.log] rfl rfl ⟨rfl, rfl⟩)
   | (have e : s.refuses to lt k = false := by
        rw [hr, Bool.or_eq_false_iff, Bool.or_eq_false_iff, decide_eq_false_iff_not, decide_eq_false_iff_not, decide_eq_false_iff_not]; omega
      rw [e, show s.gives to lt k = { s with vote := to + 1 } by unfold Rf.Nd.gives; rw [e]; rfl]
      refine J.ret1I [pt p (.cells [Value.pointer (some ⟨c, 0, none⟩), lv].toArray 68 (0, 0)), coreA c { s with vote := to + 1 } lp lc vp vc, RecsAt lp lc s.log] rfl rfl ⟨rfl, rfl⟩)

theorem counts_spec (p : Nat) (s : Nd) (src : Nat) (g : Bool) (hf : NFit s) (hs : src < s.n) : FSpec Try.prog 35 [.pointer (some ⟨p, 0, none⟩), .int .i64 src, .agg #[.bool g]] [NodeAt p s] (fun u B => ∃ q d, u = .slice q (s.counts src g).2.length d ∧ B = [MsgsAt q d (s.counts src g).2, NodeAt p (s.counts src g).1]) := by
  have hn := hf.n
  have hid := hf.id
  have hterm := hf.term
  have hl := hf.len
  have hc := hf.com
  refine openNode fun c lv lp lc vp vc => ?_
  refine FSpec.of func35 rfl ntmps35 rfl fun W0 F => ?_
  refine J.norm rfl <| J.seq <| J.region ?_
  refine J.c rfl rfl (C.box (l := [_]) rfl rfl) ?_
  rintro _ _ ⟨b5, rfl, rfl⟩
  refine J.norm rfl <| J.p rfl (Q.asg rfl) <| J.nil <| J.then_n <| J.seq <| J.seq <| J.region <| J.m rfl <| J.p rfl (Q.nil_ rfl) <| J.p rfl (Q.fa (n := 0) runUnderlying68 rfl rfl sizeOf65 rfl) ?_
  refine J.p rfl (Q.ldI isAgg65 rfl) ?_
  refine J.p rfl (Q.nil_ rfl) <| J.p rfl (Q.fa (n := 6) runUnderlying70 rfl rfl sizeOf3 rfl) ?_
  refine J.p rfl (Q.ldI isAgg3 rfl) ?_
  refine J.p rfl (Q.neq rfl rfl) <| J.m rfl ?_
  refine J.kases 18 rfl (fun hb18 => ?_) (fun hb18 => ?_)
  ·
   refine J.k rfl <| J.k rfl <| J.k rfl <| J.p rfl (Q.pick_t rfl rfl) <| J.nil <| J.then_n <| J.cond_t rfl <| J.seq <| J.region <| J.p rfl (Q.asg rfl) <| J.nil <| J.then_n <| J.cret <| J.then_r ?_
   have e : s.counts src g = (s, []) := by unfold Rf.Nd.counts; rw [if_pos (by first | (left; omega) | (right; cases g <;> simp_all))]
   rw [e]
   refine J.shutI (nodeL p c lv lp lc vp vc s) (NodeAt p s) NodeAt.shut ?_
   refine J.give (X := MsgsAt none 0 []) MsgsAt.nil ?_
   refine J.ret1I [MsgsAt none 0 [], NodeAt p s] rfl rfl ⟨none, 0, rfl, rfl⟩
  refine J.p rfl (Q.fa (n := 0) runUnderlying89 rfl rfl sizeOf4 rfl) ?_
  refine J.p rfl (Q.ldI isAgg4 rfl) ?_
  refine J.p rfl (Q.not rfl) <| J.p rfl (Q.pick_f rfl rfl) <| J.nil <| J.then_n ?_
  refine J.kases 22 rfl (fun hc22 => ?_) (fun hc22 => ?_)
  ·
   refine J.cond_t rfl <| J.seq <| J.region <| J.p rfl (Q.asg rfl) <| J.nil <| J.then_n <| J.cret <| J.then_r ?_
   have e : s.counts src g = (s, []) := by unfold Rf.Nd.counts; rw [if_pos (by first | (left; omega) | (right; cases g <;> simp_all))]
   rw [e]
   refine J.shutI (nodeL p c lv lp lc vp vc s) (NodeAt p s) NodeAt.shut ?_
   refine J.give (X := MsgsAt none 0 []) MsgsAt.nil ?_
   refine J.ret1I [MsgsAt none 0 [], NodeAt p s] rfl rfl ⟨none, 0, rfl, rfl⟩
  refine J.cond_f rfl <| J.cskip <| J.then_n <| J.seq ?_
  have hg : g = true := by cases g <;> simp_all
  have hr : s.role = 2 := by omega
  have hvl := hf.votes hr
  obtain ⟨vs, hvs⟩ : ∃ vs, vs = s.votes.set src true := ⟨_, rfl⟩
  have hvsl : vs.length = s.votes.length := by rw [hvs, List.length_set]
  have hnr : ¬ (s.role ≠ 2 ∨ g = false) := by rw [hg]; simp [hr]
  refine J.slrI (E0 := 4) (sz := 1) (p := vp) (n := s.votes.length) (c := vc) (xs := s.votes.map Value.bool) fun hsv => ?_
  obtain ⟨b, off, rfl, hrd0⟩ := hsv.some_ (by omega)
  refine J.region <| J.m rfl <| J.p rfl (Q.nil_ rfl) <| J.p rfl (Q.fa (n := 0) runUnderlying68 rfl rfl sizeOf65 rfl) ?_
  refine J.p rfl (Q.ldI isAgg65 rfl) ?_
  refine J.p rfl (Q.nil_ rfl) <| J.p rfl (Q.fa (n := 8) runUnderlying70 rfl rfl sizeOf51 rfl) ?_
  refine J.p rfl (Q.ldI isAgg51 rfl) ?_
  refine J.m rfl <| J.p rfl (Q.ia runUnderlying51 sizeOf4 rfl rfl (by omega) (by omega)) ?_
  refine J.c0 rfl (C.st1O src sizeOf4 rfl rfl rfl (by omega) (by rw [List.length_map]; omega)) ?_
  rintro _ _ ⟨rfl, rfl⟩
  refine J.norm rfl ?_
  have hvm : (s.votes.map Value.bool).set src (.bool true) = vs.map Value.bool := by rw [hvs, List.map_set]
  refine J.convPt c (.cells (coreCells { s with votes := vs } lp lc (some ⟨b, off, none⟩) vc).toArray 70 (0, 0)) (by unfold coreCells; rw [hvsl]) ?_
  rw [hvm, ← hvsl]
  refine J.slrI (E0 := 4) (sz := 1) (p := some ⟨b, off, none⟩) (n := vs.length) (c := vc) (xs := vs.map Value.bool) fun hsv2 => ?_
  obtain ⟨b2, off2, hq2, hrd⟩ := hsv2.some_ (by omega)
  simp only [Option.some.injEq, Addr.mk.injEq, and_true] at hq2
  obtain ⟨rfl, rfl⟩ := hq2
  refine J.nil <| J.then_n <| J.seq <| J.region <| J.p rfl (Q.asg rfl) <| J.nil <| J.then_n <| J.seq <| J.seq <| J.region <| J.m rfl <| J.p rfl (Q.nil_ rfl) <| J.p rfl (Q.fa (n := 0) runUnderlying68 rfl rfl sizeOf65 rfl) ?_
  refine J.p rfl (Q.ldI isAgg65 rfl) ?_
  refine J.p rfl (Q.nil_ rfl) <| J.p rfl (Q.fa (n := 8) runUnderlying70 rfl rfl sizeOf51 rfl) ?_
  refine J.p rfl (Q.ldI isAgg51 rfl) ?_
  refine J.p rfl (Q.lenSl runUnderlying51 rfl) <| J.m rfl <| J.nil <| J.then_n <| J.block ?_
  refine J.keepI [pt p (.cells [Value.pointer (some ⟨c, 0, none⟩), lv].toArray 68 (0, 0)), coreA c { s with votes := vs } lp lc (some ⟨b, off, none⟩) vc, RecsAt lp lc s.log, own 4 1 (.slice (some ⟨b, off, none⟩) vs.length vc) (vs.map Value.bool), LeadAt c lv s.lead, F] ?_
  refine J.loop (fun i : Nat => i ≤ vs.length) (fun i => vs.length - i) (fun i => [(0, .pointer (some ⟨p, 0, none⟩)), (7, .int .i64 ((vs.take i).count true : Nat)), (38, .slice (some ⟨b, off, none⟩) vs.length vc), (39, .int .i64 (vs.length : Nat)), (40, .int .i64 (i : Nat))]) (fun i => [pt p (.cells [Value.pointer (some ⟨c, 0, none⟩), lv].toArray 68 (0, 0)), coreA c { s with votes := vs } lp lc (some ⟨b, off, none⟩) vc, RecsAt lp lc s.log, own 4 1 (.slice (some ⟨b, off, none⟩) vs.length vc) (vs.map Value.bool), LeadAt c lv s.lead, F]) 0 (Nat.zero_le _) ⟨rfl, rfl, rfl, rfl, rfl, trivial⟩ rfl fun i hi => ?_
  refine J.seq <| J.region <| J.p rfl (Q.lss rfl rfl) <| J.nil <| J.then_n <| J.seq ?_
  refine J.kases 41 rfl (fun hc41 => ?_) (fun hc41 => ?_)
  ·
   refine J.cond_t rfl <| J.cskip <| J.then_n <| J.seq <| J.block <| J.seq ?_
   obtain ⟨x, hx⟩ : ∃ x, vs[i]? = some x := ⟨_, List.getElem?_eq_getElem (by omega)⟩
   have htk := Rf.take_more hx
   have hcl : (vs.take i).count true ≤ i := Nat.le_trans (List.count_le_length) (List.length_take_le _ _)
   refine J.region <| J.p rfl (Q.ia runUnderlying51 sizeOf4 rfl rfl (by omega) (by omega)) <| J.p rfl (Q.ld isAgg4 rfl (((hrd i (.bool x) (by simp [hx])).inI).cast (by simp))) <| J.p rfl (Q.asg rfl) <| J.nil <| J.then_n <| J.seq <| J.region <| J.m rfl <| J.nil <| J.then_n ?_
   refine J.kases 44 rfl (fun hc44 => ?_) (fun hc44 => ?_)
   ·
    refine J.cond_t rfl <| J.region <| J.m rfl <| J.p rfl (Q.add64 rfl rfl (by omega)) <| J.p rfl (Q.asg rfl) <| J.nil <| J.blk_n <| J.then_n <| J.region <| J.p rfl (Q.add64 rfl rfl (by omega)) <| J.m rfl <| J.nil ?_
    have e : (vs.take (i + 1)).count true = (vs.take i).count true + 1 := by rw [htk, List.count_append, hc44]; rfl
    refine J.againI (i + 1) (by show i + 1 ≤ vs.length; omega) (by show vs.length - (i + 1) < vs.length - i; omega) ⟨rfl, (by rw [e]; rfl), rfl, rfl, rfl, trivial⟩
   refine J.cond_f rfl <| J.cskip <| J.blk_n <| J.then_n <| J.region <| J.p rfl (Q.add64 rfl rfl (by omega)) <| J.m rfl <| J.nil ?_
   have e : (vs.take (i + 1)).count true = (vs.take i).count true := by rw [htk, List.count_append, hc44]; rfl
   refine J.againI (i + 1) (by show i + 1 ≤ vs.length; omega) (by show vs.length - (i + 1) < vs.length - i; omega) ⟨rfl, (by rw [e]; rfl), rfl, rfl, rfl, trivial⟩
  refine J.cond_f rfl <| J.exit <| J.then_x <| J.lp_x <| J.blk_x <| J.then_n <| J.seq <| J.seq ?_
  have hin : vs.take i = vs := List.take_of_length_le (by omega)
  rw [hin]
  have hcl : vs.count true ≤ vs.length := List.count_le_length
  have hns : ({ s with votes := vs } : Nd).n = s.n := rfl
  refine J.region <| J.m rfl <| J.p rfl (Q.mul64 rfl rfl (by omega)) <| J.m rfl <| J.p rfl (Q.nil_ rfl) <| J.p rfl (Q.fa (n := 0) runUnderlying68 rfl rfl sizeOf65 rfl) ?_
  refine J.p rfl (Q.ldI isAgg65 rfl) ?_
  refine J.p rfl (Q.nil_ rfl) <| J.p rfl (Q.fa (n := 1) runUnderlying70 rfl rfl sizeOf3 rfl) ?_
  refine J.p rfl (Q.ldI isAgg3 rfl) ?_
  refine J.p rfl (Q.leq rfl rfl) <| J.nil <| J.then_n ?_
  refine J.kases 57 rfl (fun hc57 => ?_) (fun hc57 => ?_)
  ·
   refine J.cond_t rfl <| J.seq <| J.region <| J.p rfl (Q.asg rfl) <| J.nil <| J.then_n <| J.cret <| J.then_r ?_
   have e : s.counts src g = ({ s with votes := vs }, []) := by unfold Rf.Nd.counts; rw [if_neg hnr]; simp only; rw [← hvs, if_pos (by omega)]
   rw [e]
   refine J.shutI (nodeL p c lv lp lc (some ⟨b, off, none⟩) vc { s with votes := vs }) (NodeAt p { s with votes := vs }) NodeAt.shut ?_
   refine J.give (X := MsgsAt none 0 []) MsgsAt.nil ?_
   refine J.ret1I [MsgsAt none 0 [], NodeAt p { s with votes := vs }] rfl rfl ⟨none, 0, rfl, rfl⟩
  refine J.cond_f rfl <| J.cskip <| J.then_n <| J.seq <| J.region <| J.m rfl ?_
  refine J.shutI (nodeL p c lv lp lc (some ⟨b, off, none⟩) vc { s with votes := vs }) (NodeAt p { s with votes := vs }) NodeAt.shut ?_
  refine J.callI call26 (win_spec p { s with votes := vs } hn hid (by show s.log.length ≤ _; omega) (by show s.term ≤ _; omega) hc) rfl rfl rfl ?_
  rintro _ _ ⟨q59, d59, rfl, rfl⟩
  refine J.norm rfl <| J.p rfl (Q.asg rfl) <| J.nil <| J.then_n <| J.cret ?_
  have e : s.counts src g = (({ s with votes := vs } : Nd).win, ({ s with votes := vs } : Nd).win.beat) := by unfold Rf.Nd.counts; rw [if_neg hnr]; simp only; rw [← hvs, if_neg (by omega)]
  rw [e]
  refine J.ret1I [MsgsAt q59 d59 ({ s with votes := vs } : Nd).win.beat, NodeAt p ({ s with votes := vs } : Nd).win] rfl rfl ⟨q59, d59, rfl, rfl⟩
end Go.Proofs.Ytgdmfagmpfalbaa
namespace Go.Rf

theorem lay_cons (c : Nat) (l : List Rec) (a : Nat) (k : Rec) (ks : List Rec) : lay c l a (k :: ks) = match l[a]? with
    | none => lay c (l ++ [k]) (a + 1) ks
    | some r => if r.term = k.term then lay c l (a + 1) ks else if a < c then (l, false) else lay c (l.take a ++ [k]) (a + 1) ks := by
  rw [lay]; rfl
theorem lay_snoc (c : Nat) (k : Rec) (m : List Rec) : ∀ (xs l : List Rec) (a : Nat), lay c l a xs = (m, true) →
    lay c l a (xs ++ [k]) = match m[a + xs.length]? with
      | none => (m ++ [k], true)
      | some r => if r.term = k.term then (m, true) else if a + xs.length < c then (m, false) else (m.take (a + xs.length) ++ [k], true)
  | [], l, a, h => by
    simp only [lay, Prod.mk.injEq, and_true] at h
    subst h
    rw [List.nil_append, lay_cons, List.length_nil, Nat.add_zero]
    cases l[a]? with
    | none => simp [lay]
    | some r => simp only [lay, Nat.add_zero]
  | x :: xs, l, a, h => by
    rw [List.cons_append, lay_cons]
    rw [lay_cons] at h
    rw [List.length_cons, show a + (xs.length + 1) = a + 1 + xs.length by omega]
    cases e : l[a]? with
    | none => rw [e] at h; exact lay_snoc c k m xs _ _ h
    | some r =>
      rw [e] at h
      simp only at h ⊢
      split at h
      · rename_i q; rw [if_pos q]; exact lay_snoc c k m xs _ _ h
      · rename_i q
        rw [if_neg q]
        split at h
        · simp at h
        · rename_i q2; rw [if_neg q2]; exact lay_snoc c k m xs _ _ h
theorem lay_stop (c : Nat) (ys m : List Rec) : ∀ (xs l : List Rec) (a : Nat), lay c l a xs = (m, false) → lay c l a (xs ++ ys) = (m, false)
  | [], l, a, h => by simp [lay] at h
  | x :: xs, l, a, h => by
    rw [List.cons_append, lay_cons]
    rw [lay_cons] at h
    cases e : l[a]? with
    | none => rw [e] at h; exact lay_stop c ys m xs _ _ h
    | some r =>
      rw [e] at h
      simp only at h ⊢
      split at h
      · rename_i q; rw [if_pos q]; exact lay_stop c ys m xs _ _ h
      · rename_i q
        rw [if_neg q]
        split at h
        · rename_i q2; rw [if_pos q2]; exact h
        · rename_i q2; rw [if_neg q2]; exact lay_stop c ys m xs _ _ h
theorem take_drop1 {α : Type} {l : List α} {i : Nat} {k : α} (h : l[i]? = some k) : l = (l.take i ++ [k]) ++ l.drop (i + 1) := by
  rw [← take_more h, List.take_append_drop]

theorem lay_len (c : Nat) (m : List Rec) (b : Bool) : ∀ (xs l : List Rec) (a : Nat), a ≤ l.length → lay c l a xs = (m, b) → m.length ≤ max l.length (a + xs.length) ∧ (b = true → a + xs.length ≤ m.length)
  | [], l, a, ha, h => by simp only [lay, Prod.mk.injEq] at h; obtain ⟨rfl, _⟩ := h; exact ⟨Nat.le_max_left _ _, fun _ => by simpa using ha⟩
  | x :: xs, l, a, ha, h => by
    rw [lay_cons] at h
    rw [List.length_cons]
    cases e : l[a]? with
    | none =>
      have : l.length = a := by
        apply Classical.byContradiction
        intro no
        rw [List.getElem?_eq_getElem (by omega)] at e; cases e
      rw [e] at h
      have := lay_len c m b xs _ _ (by simp; omega) h
      rw [List.length_append, List.length_singleton] at this
      exact ⟨by omega, fun hb => by have := this.2 hb; omega⟩
    | some k =>
      have hlt := get_lt e
      rw [e] at h
      simp only at h
      split at h
      · have := lay_len c m b xs _ _ (by omega) h
        exact ⟨by omega, fun hb => by have := this.2 hb; omega⟩
      · split at h
        · simp only [Prod.mk.injEq] at h; obtain ⟨rfl, rfl⟩ := h; exact ⟨by omega, fun hb => by cases hb⟩
        · have := lay_len c m b xs _ _ (by simp; omega) h
          rw [List.length_append, List.length_singleton, List.length_take] at this
          exact ⟨by omega, fun hb => by have := this.2 hb; omega⟩
end Go.Rf
namespace Go.Proofs.Ytgdmfagmpfalbaa
open Go.Proofs.Try
open Go.X
open Go.Rf (Rec XM Ms Nd lastT)

theorem own.front {E sz : Nat} {p : Option Addr} {n c k : Nat} {xs : List Value} (hk : k ≤ n) : ∀ h, own E sz (.slice p n c) xs h → own E sz (.slice p k k) (xs.take (k * sz)) h := by
  rintro h (⟨e1, e2⟩ | ⟨o, ho, hp⟩)
  · cases e1
    obtain rfl : k = 0 := by omega
    subst e2
    exact .inl ⟨rfl, by simp⟩
  · have hv := ho.val
    simp only [Value.slice.injEq] at hv
    obtain ⟨rfl, rfl, rfl⟩ := hv
    have h1 := ho.len
    have h2 := ho.cap
    have h3 := ho.fits
    have h4 : k * sz ≤ o.len * sz := Nat.mul_le_mul_right sz hk
    have h5 : o.len * sz ≤ o.cap * sz := Nat.mul_le_mul_right sz h2
    refine .inr ⟨{ o with len := k, cap := k }, ⟨rfl, by show (xs.take (k * sz)).length = k * sz; rw [List.length_take]; omega, Nat.le_refl _, by show o.off + k * sz ≤ o.l.length; omega, fun j u hj => ?_, ho.free⟩, hp⟩
    rw [List.getElem?_take] at hj
    split at hj
    · exact ho.get j u hj
    · cases hj
def RecsIn (G : Assn) (q : Option Addr) (d : Nat) (rs : List Rec) : Assn := fun h => ∃ z : List RecW, (z.map RecW.r = rs ∧ ∀ w, w ∈ z → w.ok G) ∧ HSat h [own 81 2 (.slice q rs.length d) (z.flatMap RecW.cells)]
theorem RecsIn.shut {G : Assn} {q : Option Addr} {d : Nat} {rs : List Rec} : ∀ h, HSat h [RecsIn G q d rs, G] → RecsAt q d rs h := by
  rintro h ⟨h1, h2, ⟨z, hz, hs⟩, b, d', u, v⟩
  exact ⟨(z, G), hz, HSat.of_append hs b d' u v⟩
theorem RecsIn.of {G : Assn} {q : Option Addr} {d : Nat} {rs : List Rec} {z : List RecW} (hz : z.map RecW.r = rs ∧ ∀ w, w ∈ z → w.ok G) : ∀ h, own 81 2 (.slice q rs.length d) (z.flatMap RecW.cells) h → RecsIn G q d rs h := fun h hh => ⟨z, hz, ⟨h, fun _ => none, hh, trivial, fun b => .inr rfl, Sub.refl _, fun b o e => by cases e⟩⟩
theorem RecsIn.snoc {G : Assn} {l : List Rec} {p : Option Addr} {c : Nat} {z : List RecW} {w : RecW} (hz : z.map RecW.r = l ∧ ∀ w, w ∈ z → w.ok G) (hw : w.ok G) :
    ∀ h, own 81 2 (.slice p (l.length + 1) c) (z.flatMap RecW.cells ++ w.cells) h → RecsIn G p c (l ++ [w.r]) h := by
  intro h hh
  refine RecsIn.of (z := z ++ [w]) ⟨by rw [List.map_append, hz.1]; rfl, fun x hx => ?_⟩ h ?_
  · rcases List.mem_append.1 hx with e | e
    · exact hz.2 x e
    · obtain rfl := List.mem_singleton.1 e; exact hw
  · rw [List.length_append, List.flatMap_append]
    simpa using hh
theorem MsgsAt.one {m : Ms} {b : Nat} {q : Option Addr} {d : Nat} : ∀ h, HSat h [pt b (.cells (MsgW.cells ⟨m, q, d⟩).toArray 53 (0, 0)), own 5 1 (.slice q (msgB m).length d) (bytesV (msgB m))] → MsgsAt (some ⟨b, 0, none⟩) 1 [m] h := by
  intro h s
  have s1 : HSat h [own 53 3 (.slice (some ⟨b, 0, none⟩) 1 1) (MsgW.cells ⟨m, q, d⟩), own 5 1 (.slice q (msgB m).length d) (bytesV (msgB m))] := s.imp (own_of_block rfl)
  obtain ⟨k, hk⟩ : ∃ k, HSat k [own 5 1 (.slice q (msgB m).length d) (bytesV (msgB m))] := by
    obtain ⟨_, h2, _, b, _⟩ := s
    exact ⟨_, b⟩
  have hs := own.slr (D := [own 5 1 (.slice q (msgB m).length d) (bytesV (msgB m))]) (i := 0) rfl ⟨k, hk⟩
  have hc : (msgB m).length ≤ d := by
    obtain ⟨k1, _, a, _⟩ := hk
    exact (own.len k1 a).2
  refine ⟨([⟨m, q, d⟩], own 5 1 (.slice q (msgB m).length d) (bytesV (msgB m))), ⟨rfl, fun w hw => ?_⟩, ?_⟩
  · obtain rfl := List.mem_singleton.1 hw; exact ⟨hs, hc⟩
  · simpa using s1

theorem takes_spec (p : Nat) (s : Nd) (src a lt c : Nat) (xq : Option Addr) (xd : Nat) (rs : List Rec) (hf : NFit s) (hs : src ≤ 9) (hfit : a + rs.length ≤ 1047900) (hcc : c ≤ 1048576) :
    FSpec Try.prog 36 [.pointer (some ⟨p, 0, none⟩), .int .i64 src, .agg #[.int .i64 a, .int .u64 lt, .int .i64 c, .slice xq rs.length xd]] [NodeAt p s, RecsAt xq xd rs]
    (fun u B => ∃ q d, u = .slice q (s.takes src a lt c rs).2.length d ∧ B = [MsgsAt q d (s.takes src a lt c rs).2, NodeAt p (s.takes src a lt c rs).1]) := by
  have hn := hf.n
  have hid := hf.id
  have hterm := hf.term
  have hl := hf.len
  have hc := hf.com
  refine openNode fun c0 lv lp lc vp vc => ?_
  refine FSpec.of func36 rfl ntmps36 rfl fun W0 F => ?_
  refine J.norm rfl <| J.seq <| J.region ?_
  refine J.c rfl rfl (C.box (l := [_, _, _, _]) rfl rfl) ?_
  rintro _ _ ⟨b5, rfl, rfl⟩
  refine J.norm rfl <| J.p rfl (Q.asg rfl) <| J.nil <| J.then_n <| J.seq <| J.seq <| J.region <| J.m rfl <| J.p rfl (Q.nil_ rfl) <| J.p rfl (Q.fa (n := 0) runUnderlying68 rfl rfl sizeOf65 rfl) ?_
  refine J.p rfl (Q.ldI isAgg65 rfl) ?_
  refine J.p rfl (Q.nil_ rfl) <| J.p rfl (Q.fa (n := 6) runUnderlying70 rfl rfl sizeOf3 rfl) ?_
  refine J.p rfl (Q.ldI isAgg3 rfl) ?_
  refine J.p rfl (Q.eql rfl rfl) <| J.nil <| J.then_n ?_
  refine J.kases 18 rfl (fun hc18 => ?_) (fun hc18 => ?_)
  ·
   refine J.cond_t rfl <| J.seq <| J.region <| J.p rfl (Q.asg rfl) <| J.nil <| J.then_n <| J.cret <| J.then_r ?_
   have e : s.takes src a lt c rs = (s, []) := by unfold Rf.Nd.takes; rw [if_pos (by omega)]
   rw [e]
   refine J.shutI (nodeL p c0 lv lp lc vp vc s) (NodeAt p s) NodeAt.shut ?_
   refine J.give (X := MsgsAt none 0 []) MsgsAt.nil ?_
   refine J.ret1I [MsgsAt none 0 [], NodeAt p s] rfl rfl ⟨none, 0, rfl, rfl⟩
  refine J.cond_f rfl <| J.cskip <| J.then_n <| J.seq <| J.region <| J.m rfl <| J.m rfl <| J.p rfl (Q.nil_ rfl) <| J.p rfl (Q.fa (n := 0) runUnderlying68 rfl rfl sizeOf65 rfl) ?_
  refine J.p rfl (Q.ldI isAgg65 rfl) ?_
  refine J.p rfl (Q.nil_ rfl) <| J.p rfl (Q.fa (n := 2) runUnderlying70 rfl rfl sizeOf64 rfl) <| J.p rfl (Q.fa (n := 0) runUnderlying64 rfl rfl sizeOf56 rfl) ?_
  refine J.p rfl (Q.ldI isAgg56 rfl) ?_
  have hr3 : ¬ s.role = 3 := by omega
  refine J.shutI (nodeL p c0 lv lp lc vp vc s) (NodeAt p s) NodeAt.shut ?_
  refine J.callI call25 (follow_spec p s s.term) rfl rfl rfl ?_
  rintro _ _ ⟨rfl, rfl⟩
  refine J.norm rfl ?_
  refine J.openNode p (s.follow s.term) fun c0 lv lp lc vp vc => ?_
  refine J.norm rfl <| J.nil <| J.then_n <| J.seq <| J.region <| J.m rfl <| J.p rfl (Q.nil_ rfl) <| J.p rfl (Q.fa (n := 0) runUnderlying68 rfl rfl sizeOf65 rfl) ?_
  refine J.p rfl (Q.ldI isAgg65 rfl) ?_
  refine J.m rfl <| J.p rfl (Q.add64 rfl rfl (by omega)) ?_
  refine J.slot 34 (.int .i64 ((src + 1 : Nat) : Int)) rfl rfl ?_
  refine J.p rfl (Q.nil_ rfl) <| J.p rfl (Q.fa (n := 7) runUnderlying70 rfl rfl sizeOf3 rfl) ?_
  refine J.stJ rfl sizeOf3 rfl rfl rfl ?_
  refine J.nil <| J.then_n ?_
  obtain ⟨s1, hs1⟩ : ∃ s1 : Nd, s1 = { s.follow s.term with leader := src + 1 } := ⟨_, rfl⟩
  refine J.convPt c0 (.cells (coreCells s1 lp lc vp vc).toArray 70 (0, 0)) (by rw [hs1]) ?_
  have hlog : (s.follow s.term).log = s1.log := by rw [hs1]
  have hvot : (s.follow s.term).votes = s1.votes := by rw [hs1]
  have hled : (s.follow s.term).lead = s1.lead := by rw [hs1]
  rw [hlog, hvot, hled]
  have hsl1 : s1.log = s.log := by rw [hs1]; rfl
  have hsi1 : s1.id = s.id := by rw [hs1]; rfl
  have hsn1 : s1.n = s.n := by rw [hs1]; rfl
  have hsc1 : s1.commit = s.commit := by rw [hs1]; rfl
  have hst1 : s1.term = s.term := by rw [hs1]; show (if s.term < s.term then s.term else s.term) = _; split <;> rfl
  refine J.openI (RecsAt lp lc s1.log) (fun _ h => h) fun z hz => ?_
  refine J.norm rfl ?_
  have hzl : z.1.length = s1.log.length := by rw [← hz.1, List.length_map]
  have hll : s1.log.length ≤ 1047900 := by rw [hsl1]; exact hl
  refine J.slrI (E0 := 81) (sz := 2) (p := lp) (n := s1.log.length) (c := lc) (xs := z.1.flatMap RecW.cells) fun hsl => ?_
  refine J.cut (fun _ : Unit => a ≤ s1.log.length ∧ ¬ (s.log.length < a ∨ 0 < a ∧ (s.log[a - 1]?).elim 0 Rec.term ≠ lt)) (fun _ => [(0, .pointer (some ⟨p, 0, none⟩)), (1, .int .i64 (src : Nat)), (5, .pointer (some ⟨b5, 0, none⟩))]) (fun _ => [own 81 2 (.slice lp s1.log.length lc) (z.1.flatMap RecW.cells), z.2, pt p (.cells [Value.pointer (some ⟨c0, 0, none⟩), lv].toArray 68 (0, 0)), coreA c0 s1 lp lc vp vc, pt b5 (.cells [Value.int .i64 a, .int .u64 lt, .int .i64 c, .slice xq rs.length xd].toArray 92 (0, 0)), own 4 1 (.slice vp s1.votes.length vc) (s1.votes.map Value.bool), LeadAt c0 lv s1.lead, RecsAt xq xd rs, F]) ?_ fun _ hcut => ?_
  ·
   refine J.seq ?_
   refine J.draw [] Try.mixed (by kernel_rfl) fun hR => ?_
   refine RG.p 0 hR rfl (Q.fa (n := 0) runUnderlying92 rfl rfl sizeOf3 rfl) ?_
   refine RG.p 1 hR rfl (Q.ldI isAgg3 rfl) ?_
   refine RG.p 2 hR rfl (Q.mv rfl) <| RG.p 3 hR rfl (Q.nil_ rfl) <| RG.p 4 hR rfl (Q.fa (n := 0) runUnderlying68 rfl rfl sizeOf65 rfl) ?_
   refine RG.p 5 hR rfl (Q.ldI isAgg65 rfl) ?_
   refine RG.p 6 hR rfl (Q.nil_ rfl) <| RG.p 7 hR rfl (Q.fa (n := 2) runUnderlying70 rfl rfl sizeOf64 rfl) <| RG.p 8 hR rfl (Q.fa (n := 2) runUnderlying64 rfl rfl sizeOf62 rfl) ?_
   refine RG.p 9 hR rfl (Q.ldI isAgg62 rfl) ?_
   refine RG.p 10 hR rfl (Q.lenSl runUnderlying62 rfl) <| RG.p 11 hR rfl (Q.gtr rfl rfl) <| RG.p 12 hR rfl (Q.mv rfl) ?_
   refine RG.cases 49 rfl (fun hb49 => ?_) (fun hb49 => ?_)
   ·
    replace hb49 := X.nm hb49
    refine RG.k 13 hR rfl <| RG.k 14 hR rfl <| RG.k 15 hR rfl <| RG.k 16 hR rfl <| RG.k 17 hR rfl <| RG.k 18 hR rfl <| RG.k 19 hR rfl <| RG.k 20 hR rfl <| RG.k 21 hR rfl <| RG.k 22 hR rfl ?_
    refine RG.k 23 hR rfl <| RG.k 24 hR rfl <| RG.k 25 hR rfl <| RG.k 26 hR rfl <| RG.k 27 hR rfl <| RG.k 28 hR rfl <| RG.k 29 hR rfl <| RG.k 30 hR rfl <| RG.k 31 hR rfl <| RG.k 32 hR rfl ?_
    refine RG.k 33 hR rfl <| RG.k 34 hR rfl <| RG.p 35 hR rfl (Q.pick_t rfl rfl) ?_
    refine RG.fin hR rfl ?_
    refine J.norm rfl <| J.then_n <| J.cond_t rfl <| J.seq ?_
    have ha1 : 1 ≤ a := by omega
    obtain ⟨mn, hmn⟩ : ∃ mn, mn = min s1.log.length (a - 1) := ⟨_, rfl⟩
    have hmn9 : mn ≤ 1048576 := by omega
    refine J.give (X := star []) trivial ?_
    refine J.draw [20, 21, 22] Try.mixed (by kernel_rfl) fun hR => ?_
    refine RG.p 0 hR rfl (Q.mv rfl) <| RG.p 1 hR rfl (Q.nil_ rfl) <| RG.p 2 hR rfl (Q.fa (n := 0) runUnderlying68 rfl rfl sizeOf65 rfl) ?_
    refine RG.p 3 hR rfl (Q.ldI isAgg65 rfl) ?_
    refine RG.p 4 hR rfl (Q.mv rfl) <| RG.p 5 hR rfl (Q.mv rfl) <| RG.p 6 hR rfl (Q.nil_ rfl) <| RG.p 7 hR rfl (Q.fa (n := 0) runUnderlying68 rfl rfl sizeOf65 rfl) ?_
    refine RG.p 8 hR rfl (Q.ldI isAgg65 rfl) ?_
    refine RG.p 9 hR rfl (Q.nil_ rfl) <| RG.p 10 hR rfl (Q.fa (n := 2) runUnderlying70 rfl rfl sizeOf64 rfl) <| RG.p 11 hR rfl (Q.fa (n := 2) runUnderlying64 rfl rfl sizeOf62 rfl) ?_
    refine RG.p 12 hR rfl (Q.ldI isAgg62 rfl) ?_
    refine RG.p 13 hR rfl (Q.lenSl runUnderlying62 rfl) <| RG.p 14 hR rfl (Q.fa (n := 0) runUnderlying92 rfl rfl sizeOf3 rfl) ?_
    refine RG.p 15 hR rfl (Q.ldI isAgg3 rfl) ?_
    refine RG.p 16 hR rfl (Q.sub64 rfl rfl (by omega)) <| RG.p 17 hR rfl (Q.minI rfl) ?_
    refine RG.slot 90 (.int .i64 (mn : Nat)) rfl (by congr 1; rw [hmn]; split <;> omega) ?_
    refine RG.p 18 hR rfl (Q.bld (l := [.bool false, .int .i64 (mn : Nat)]) runUnderlying95 zeroValue95 places95 rfl (by kernel_rfl)) <| RG.p 19 hR rfl (Q.mkif runUnderlying95 (by intro m h; cases h) rfl) ?_
    refine RG.callI 20 hR rfl rfl rfl rfl rfl rfl call29 (send_spec c0 s1 lp lc vp vc (star []) (XM.vTook false mn) (.took false mn) (write_took false mn hmn9).one src hs (by omega) (by omega)) rfl ?_
    rintro _ _ ⟨q93, d93, rfl, rfl⟩
    refine RG.norm rfl ?_
    refine RG.bar 21 hR rfl rfl rfl rfl rfl rfl (C.bslG (l := [_, _, _]) runUnderlying28 sizeOf53 zeroValue53 (by decide) rfl rfl rfl rfl rfl) ?_
    rintro _ _ ⟨b94, rfl, rfl⟩
    refine RG.norm rfl ?_
    refine RG.bar 22 hR rfl rfl rfl rfl rfl rfl (Q.asg rfl).toC ?_
    rintro _ _ ⟨rfl, rfl⟩
    refine RG.norm rfl ?_
    refine RG.fin hR rfl ?_
    refine J.norm rfl <| J.then_n <| J.cret <| J.cut_r ?_
    have hcond : s.log.length < a ∨ 0 < a ∧ (s.log[a - 1]?).elim 0 Rec.term ≠ lt := by
     rw [← hsl1]
     first
      | (left; omega)
      | (right; refine ⟨ha1, ?_⟩; rw [hwl]; show w.r.term ≠ lt; omega)
    have e : s.takes src a lt c rs = (s1, [s1.msg src (.took false mn)]) := by
     unfold Rf.Nd.takes; rw [if_neg hr3]; simp only; rw [if_pos hcond, hmn, hsl1, hs1]
    rw [e]
    refine J.shutI [own 81 2 (.slice lp s1.log.length lc) (z.1.flatMap RecW.cells), z.2] (RecsAt lp lc s1.log) (fun h hh => ⟨z, hz, hh⟩) ?_
    refine J.shutI (nodeL p c0 lv lp lc vp vc s1) (NodeAt p s1) NodeAt.shut ?_
    refine J.shutI [pt b94 (.cells (MsgW.cells ⟨s1.msg src (.took false mn), q93, d93⟩).toArray 53 (0, 0)), own 5 1 (.slice q93 (msgB (s1.msg src (.took false mn))).length d93) (bytesV (msgB (s1.msg src (.took false mn))))] (MsgsAt (some ⟨b94, 0, none⟩) 1 [s1.msg src (.took false mn)]) MsgsAt.one ?_
    refine J.ret1I [MsgsAt (some ⟨b94, 0, none⟩) 1 [s1.msg src (.took false mn)], NodeAt p s1] rfl rfl ⟨some ⟨b94, 0, none⟩, 1, rfl, rfl⟩
   replace hb49 := X.nm hb49
   refine RG.p 13 hR rfl (Q.fa (n := 0) runUnderlying92 rfl rfl sizeOf3 rfl) ?_
   refine RG.p 14 hR rfl (Q.ldI isAgg3 rfl) ?_
   refine RG.p 15 hR rfl (Q.gtr rfl rfl) <| RG.p 16 hR rfl (Q.mv rfl) ?_
   refine RG.cases 53 rfl (fun hb53 => ?_) (fun hb53 => ?_)
   ·
    replace hb53 := X.nm hb53; obtain ⟨b2, off2, hlp2, hrd2⟩ := hsl.some_ (by omega); obtain ⟨w, hw⟩ : ∃ w, z.1[a - 1]? = some w := ⟨_, List.getElem?_eq_getElem (by omega)⟩; have hwl : s1.log[a - 1]? = some w.r := by rw [← hz.1, List.getElem?_map, hw]; rfl
    refine RG.p 17 hR rfl (Q.mv rfl) <| RG.p 18 hR rfl (Q.nil_ rfl) <| RG.p 19 hR rfl (Q.fa (n := 0) runUnderlying68 rfl rfl sizeOf65 rfl) ?_
    refine RG.p 20 hR rfl (Q.ldI isAgg65 rfl) ?_
    refine RG.p 21 hR rfl (Q.nil_ rfl) <| RG.p 22 hR rfl (Q.fa (n := 2) runUnderlying70 rfl rfl sizeOf64 rfl) <| RG.p 23 hR rfl (Q.fa (n := 2) runUnderlying64 rfl rfl sizeOf62 rfl) ?_
    refine RG.p 24 hR rfl (Q.ldI isAgg62 rfl) ?_
    refine RG.slot 61 (.slice (some ⟨b2, off2, none⟩) s1.log.length lc) rfl (by rw [hlp2]) ?_
    refine RG.p 25 hR rfl (Q.fa (n := 0) runUnderlying92 rfl rfl sizeOf3 rfl) ?_
    refine RG.p 26 hR rfl (Q.ldI isAgg3 rfl) ?_
    refine RG.p 27 hR rfl (Q.sub64 rfl rfl (by omega)) <| RG.p 28 hR rfl (Q.ia runUnderlying62 sizeOf81 rfl rfl (by omega) (by omega)) <| RG.p 29 hR rfl (Q.fa (n := 0) runUnderlying81 rfl rfl sizeOf56 rfl) <| RG.p 30 hR rfl (Q.ld isAgg56 rfl ((rd_field RecW.len hrd2 hw (k := 0) (u := .int .u64 w.r.term) rfl (by omega)).inI)) ?_
    refine RG.p 31 hR rfl (Q.fa (n := 1) runUnderlying92 rfl rfl sizeOf56 rfl) ?_
    refine RG.p 32 hR rfl (Q.ldI isAgg56 rfl) ?_
    refine RG.p 33 hR rfl (Q.neq rfl rfl) <| RG.p 34 hR rfl (Q.pick_t rfl rfl) <| RG.p 35 hR rfl (Q.pick_f rfl rfl) ?_
    refine RG.fin hR rfl ?_
    refine J.norm rfl <| J.then_n ?_
    refine J.kases 72 rfl (fun hc72 => ?_) (fun hc72 => ?_)
    ·
     refine J.cond_t rfl <| J.seq ?_
     have ha1 : 1 ≤ a := by omega
     obtain ⟨mn, hmn⟩ : ∃ mn, mn = min s1.log.length (a - 1) := ⟨_, rfl⟩
     have hmn9 : mn ≤ 1048576 := by omega
     refine J.give (X := star []) trivial ?_
     refine J.draw [20, 21, 22] Try.mixed (by kernel_rfl) fun hR => ?_
     refine RG.p 0 hR rfl (Q.mv rfl) <| RG.p 1 hR rfl (Q.nil_ rfl) <| RG.p 2 hR rfl (Q.fa (n := 0) runUnderlying68 rfl rfl sizeOf65 rfl) ?_
     refine RG.p 3 hR rfl (Q.ldI isAgg65 rfl) ?_
     refine RG.p 4 hR rfl (Q.mv rfl) <| RG.p 5 hR rfl (Q.mv rfl) <| RG.p 6 hR rfl (Q.nil_ rfl) <| RG.p 7 hR rfl (Q.fa (n := 0) runUnderlying68 rfl rfl sizeOf65 rfl) ?_
     refine RG.p 8 hR rfl (Q.ldI isAgg65 rfl) ?_
     refine RG.p 9 hR rfl (Q.nil_ rfl) <| RG.p 10 hR rfl (Q.fa (n := 2) runUnderlying70 rfl rfl sizeOf64 rfl) <| RG.p 11 hR rfl (Q.fa (n := 2) runUnderlying64 rfl rfl sizeOf62 rfl) ?_
     refine RG.p 12 hR rfl (Q.ldI isAgg62 rfl) ?_
     refine RG.p 13 hR rfl (Q.lenSl runUnderlying62 rfl) <| RG.p 14 hR rfl (Q.fa (n := 0) runUnderlying92 rfl rfl sizeOf3 rfl) ?_
     refine RG.p 15 hR rfl (Q.ldI isAgg3 rfl) ?_
     refine RG.p 16 hR rfl (Q.sub64 rfl rfl (by omega)) <| RG.p 17 hR rfl (Q.minI rfl) ?_
     refine RG.slot 90 (.int .i64 (mn : Nat)) rfl (by congr 1; rw [hmn]; split <;> omega) ?_
     refine RG.p 18 hR rfl (Q.bld (l := [.bool false, .int .i64 (mn : Nat)]) runUnderlying95 zeroValue95 places95 rfl (by kernel_rfl)) <| RG.p 19 hR rfl (Q.mkif runUnderlying95 (by intro m h; cases h) rfl) ?_
     refine RG.callI 20 hR rfl rfl rfl rfl rfl rfl call29 (send_spec c0 s1 lp lc vp vc (star []) (XM.vTook false mn) (.took false mn) (write_took false mn hmn9).one src hs (by omega) (by omega)) rfl ?_
     rintro _ _ ⟨q93, d93, rfl, rfl⟩
     refine RG.norm rfl ?_
     refine RG.bar 21 hR rfl rfl rfl rfl rfl rfl (C.bslG (l := [_, _, _]) runUnderlying28 sizeOf53 zeroValue53 (by decide) rfl rfl rfl rfl rfl) ?_
     rintro _ _ ⟨b94, rfl, rfl⟩
     refine RG.norm rfl ?_
     refine RG.bar 22 hR rfl rfl rfl rfl rfl rfl (Q.asg rfl).toC ?_
     rintro _ _ ⟨rfl, rfl⟩
     refine RG.norm rfl ?_
     refine RG.fin hR rfl ?_
     refine J.norm rfl <| J.then_n <| J.cret <| J.cut_r ?_
     have hcond : s.log.length < a ∨ 0 < a ∧ (s.log[a - 1]?).elim 0 Rec.term ≠ lt := by
      rw [← hsl1]
      first
       | (left; omega)
       | (right; refine ⟨ha1, ?_⟩; rw [hwl]; show w.r.term ≠ lt; omega)
     have e : s.takes src a lt c rs = (s1, [s1.msg src (.took false mn)]) := by
      unfold Rf.Nd.takes; rw [if_neg hr3]; simp only; rw [if_pos hcond, hmn, hsl1, hs1]
     rw [e]
     refine J.shutI [own 81 2 (.slice lp s1.log.length lc) (z.1.flatMap RecW.cells), z.2] (RecsAt lp lc s1.log) (fun h hh => ⟨z, hz, hh⟩) ?_
     refine J.shutI (nodeL p c0 lv lp lc vp vc s1) (NodeAt p s1) NodeAt.shut ?_
     refine J.shutI [pt b94 (.cells (MsgW.cells ⟨s1.msg src (.took false mn), q93, d93⟩).toArray 53 (0, 0)), own 5 1 (.slice q93 (msgB (s1.msg src (.took false mn))).length d93) (bytesV (msgB (s1.msg src (.took false mn))))] (MsgsAt (some ⟨b94, 0, none⟩) 1 [s1.msg src (.took false mn)]) MsgsAt.one ?_
     refine J.ret1I [MsgsAt (some ⟨b94, 0, none⟩) 1 [s1.msg src (.took false mn)], NodeAt p s1] rfl rfl ⟨some ⟨b94, 0, none⟩, 1, rfl, rfl⟩
    refine J.cond_f rfl <| J.cskip ?_
    refine J.meetI () ⟨by omega, ?_⟩ ⟨rfl, rfl, rfl, trivial⟩
    rw [← hsl1, hwl]
    intro hx
    rcases hx with hx | ⟨_, hx⟩
    · omega
    · have hx : w.r.term ≠ lt := hx
      omega
   replace hb53 := X.nm hb53
   refine RG.k 17 hR rfl <| RG.k 18 hR rfl <| RG.k 19 hR rfl <| RG.k 20 hR rfl <| RG.k 21 hR rfl <| RG.k 22 hR rfl <| RG.k 23 hR rfl <| RG.k 24 hR rfl <| RG.k 25 hR rfl <| RG.k 26 hR rfl ?_
   refine RG.k 27 hR rfl <| RG.k 28 hR rfl <| RG.k 29 hR rfl <| RG.k 30 hR rfl <| RG.k 31 hR rfl <| RG.k 32 hR rfl <| RG.k 33 hR rfl <| RG.p 34 hR rfl (Q.pick_f rfl rfl) <| RG.p 35 hR rfl (Q.pick_f rfl rfl) ?_
   refine RG.fin hR rfl ?_
   refine J.norm rfl <| J.then_n <| J.cond_f rfl <| J.cskip ?_
   refine J.meetI () ⟨by omega, ?_⟩ ⟨rfl, rfl, rfl, trivial⟩
   rw [← hsl1]
   intro hx
   rcases hx with hx | ⟨hx, _⟩ <;> omega
  obtain ⟨hal, hncond⟩ := hcut
  refine J.seq <| J.seq <| J.region <| J.p rfl (Q.fa (n := 3) runUnderlying92 rfl rfl sizeOf62 rfl) ?_
  refine J.p rfl (Q.ldI isAgg62 rfl) ?_
  refine J.p rfl (Q.lenSl runUnderlying62 rfl) <| J.m rfl <| J.nil <| J.then_n <| J.block ?_
  refine J.openI (RecsAt xq xd rs) (fun _ h => h) fun zx hzx => ?_
  refine J.norm rfl ?_
  have hxl : zx.1.length = rs.length := by rw [← hzx.1, List.length_map]
  refine J.slrI (E0 := 81) (sz := 2) (p := xq) (n := rs.length) (c := xd) (xs := zx.1.flatMap RecW.cells) fun hsx => ?_
  refine J.shutI [z.2, zx.2] (star [z.2, zx.2]) (fun _ h => h) ?_
  obtain ⟨GG, hGG⟩ : ∃ GG, GG = star [z.2, zx.2] := ⟨_, rfl⟩
  have hxok : ∀ w, w ∈ zx.1 → w.ok GG := fun w hw => by rw [hGG]; exact (hzx.2 w hw).mono star_snd
  have hlok : ∀ w, w ∈ z.1 → w.ok GG := fun w hw => by rw [hGG]; exact (hz.2 w hw).mono star_fst
  rw [← hGG]
  refine J.convI (own 81 2 (.slice lp s1.log.length lc) (z.1.flatMap RecW.cells)) (RecsIn GG lp lc s1.log) (RecsIn.of ⟨hz.1, hlok⟩) ?_
  refine J.keepI [RecsIn GG lp lc s1.log, own 81 2 (.slice xq rs.length xd) (zx.1.flatMap RecW.cells), GG, pt p (.cells [Value.pointer (some ⟨c0, 0, none⟩), lv].toArray 68 (0, 0)), coreA c0 s1 lp lc vp vc, pt b5 (.cells [Value.int .i64 a, .int .u64 lt, .int .i64 c, .slice xq rs.length xd].toArray 92 (0, 0)), own 4 1 (.slice vp s1.votes.length vc) (s1.votes.map Value.bool), LeadAt c0 lv s1.lead, F] ?_
  refine J.loop4 (fun (i : Nat) (l : List Rec) (_ : Option Addr) (_ : Nat) => i ≤ rs.length ∧ Rf.lay s.commit s1.log a (rs.take i) = (l, true)) (fun i _ _ _ => rs.length - i) (fun i l lp lc => [(0, .pointer (some ⟨p, 0, none⟩)), (1, .int .i64 (src : Nat)), (5, .pointer (some ⟨b5, 0, none⟩)), (96, .slice xq rs.length xd), (97, .int .i64 (rs.length : Nat)), (98, .int .i64 (i : Nat))]) (fun i l lp lc => [RecsIn GG lp lc l, own 81 2 (.slice xq rs.length xd) (zx.1.flatMap RecW.cells), GG, pt p (.cells [Value.pointer (some ⟨c0, 0, none⟩), lv].toArray 68 (0, 0)), coreA c0 { s1 with log := l } lp lc vp vc, pt b5 (.cells [Value.int .i64 a, .int .u64 lt, .int .i64 c, .slice xq rs.length xd].toArray 92 (0, 0)), own 4 1 (.slice vp s1.votes.length vc) (s1.votes.map Value.bool), LeadAt c0 lv s1.lead, F])
   0 s1.log lp lc ⟨Nat.zero_le _, rfl⟩ ⟨rfl, rfl, rfl, rfl, rfl, rfl, trivial⟩ rfl fun i l lp lc hil => ?_
  obtain ⟨hi, hlay⟩ := hil
  have hti : (rs.take i).length = i := by rw [List.length_take]; omega
  have hlen := Rf.lay_len s.commit l true (rs.take i) s1.log a hal hlay
  rw [hti] at hlen
  have hlen2 := hlen.2 rfl
  refine J.seq <| J.region <| J.p rfl (Q.lss rfl rfl) <| J.nil <| J.then_n <| J.seq ?_
  refine J.kases 99 rfl (fun hc99 => ?_) (fun hc99 => ?_)
  ·
   refine J.cond_t rfl <| J.cskip <| J.then_n <| J.seq <| J.block <| J.seq ?_
   obtain ⟨b, off, hqb, hrd⟩ := hsx.some_ (by omega)
   obtain ⟨k, hk⟩ : ∃ k, zx.1[i]? = some k := ⟨_, List.getElem?_eq_getElem (by omega)⟩
   have hrk : rs[i]? = some k.r := by rw [← hzx.1, List.getElem?_map, hk]; rfl
   have hsn := Rf.lay_snoc s.commit k.r l (rs.take i) s1.log a hlay
   rw [← Rf.take_more hrk, hti] at hsn
   refine J.slot 96 (.slice (some ⟨b, off, none⟩) rs.length xd) rfl (by rw [hqb]) ?_
   refine J.region <| J.m rfl <| J.p rfl (Q.ia runUnderlying62 sizeOf81 rfl rfl (by omega) (by omega)) <| J.p rfl (Q.ldN (vs := [_, _]) isAgg81 sizeOf81 rfl ((rd_elem RecW.len hrd hk (by simp)).inI)) ?_
   refine J.c rfl rfl (C.alloc (l := [_, _]) zeroValue81 rfl) ?_
   rintro _ _ ⟨b8, rfl, rfl⟩
   refine J.norm rfl <| J.p rfl (Q.asg rfl) ?_
   refine J.stAJ (vs := [_, _]) rfl sizeOf81 rfl rfl ?_
   refine J.nil <| J.then_n <| J.seq <| J.region <| J.p rfl (Q.fa (n := 0) runUnderlying92 rfl rfl sizeOf3 rfl) ?_
   refine J.p rfl (Q.ldI isAgg3 rfl) ?_
   refine J.m rfl <| J.p rfl (Q.add64 rfl rfl (by omega)) ?_
   refine J.slot 106 (.int .i64 ((a + i : Nat) : Int)) rfl (by rw [Int.natCast_add]) ?_
   refine J.p rfl (Q.asg rfl) <| J.nil <| J.then_n ?_
   refine J.cut (fun z : List Rec × Option Addr × Nat => a + i ≤ z.1.length ∧ z.1.length ≤ 1047900 ∧ Rf.lay s.commit s1.log a (rs.take (i + 1)) = (if z.1.length = a + i then z.1 ++ [k.r] else z.1, true)) (fun z => [(0, .pointer (some ⟨p, 0, none⟩)), (1, .int .i64 (src : Nat)), (5, .pointer (some ⟨b5, 0, none⟩)), (8, .pointer (some ⟨b8, 0, none⟩)), (9, .int .i64 ((a + i : Nat) : Int)), (96, .slice (some ⟨b, off, none⟩) rs.length xd), (97, .int .i64 (rs.length : Nat)), (98, .int .i64 (i : Nat))]) (fun z => [RecsIn GG z.2.1 z.2.2 z.1, own 81 2 (.slice xq rs.length xd) (zx.1.flatMap RecW.cells), GG, pt p (.cells [Value.pointer (some ⟨c0, 0, none⟩), lv].toArray 68 (0, 0)), coreA c0 { s1 with log := z.1 } z.2.1 z.2.2 vp vc, pt b5 (.cells [Value.int .i64 a, .int .u64 lt, .int .i64 c, .slice xq rs.length xd].toArray 92 (0, 0)), pt b8 (.cells k.cells.toArray 81 (0, 0)), own 4 1 (.slice vp s1.votes.length vc) (s1.votes.map Value.bool), LeadAt c0 lv s1.lead, F]) ?_ fun z hz' => ?_
   ·
    refine J.seq ?_
    refine J.openI (RecsIn GG lp lc l) (fun _ h => h) fun y hy => ?_
    refine J.norm rfl ?_
    have hyl : y.length = l.length := by rw [← hy.1, List.length_map]
    have hllg : ({ s1 with log := l } : Nd).log.length = l.length := rfl
    have hllc : ({ s1 with log := l } : Nd).commit = s1.commit := rfl
    refine J.slrI (E0 := 81) (sz := 2) (p := lp) (n := l.length) (c := lc) (xs := y.flatMap RecW.cells) fun hsy => ?_
    refine J.tellsI (own 81 2 (.slice lp l.length lc) (y.flatMap RecW.cells)) own.len fun hlc => ?_
    refine J.draw [] Try.mixed (by kernel_rfl) fun hR => ?_
    refine RG.p 0 hR rfl (Q.mv rfl) <| RG.p 1 hR rfl (Q.mv rfl) <| RG.p 2 hR rfl (Q.nil_ rfl) <| RG.p 3 hR rfl (Q.fa (n := 0) runUnderlying68 rfl rfl sizeOf65 rfl) ?_
    refine RG.p 4 hR rfl (Q.ldI isAgg65 rfl) ?_
    refine RG.p 5 hR rfl (Q.nil_ rfl) <| RG.p 6 hR rfl (Q.fa (n := 2) runUnderlying70 rfl rfl sizeOf64 rfl) <| RG.p 7 hR rfl (Q.fa (n := 2) runUnderlying64 rfl rfl sizeOf62 rfl) ?_
    refine RG.p 8 hR rfl (Q.ldI isAgg62 rfl) ?_
    refine RG.p 9 hR rfl (Q.lenSl runUnderlying62 rfl) <| RG.p 10 hR rfl (Q.lss rfl rfl) <| RG.p 11 hR rfl (Q.mv rfl) ?_
    refine RG.cases 118 rfl (fun hb118 => ?_) (fun hb118 => ?_)
    ·
     replace hb118 := X.nm hb118; obtain ⟨b2, off2, hlp2, hrd2⟩ := hsy.some_ (by omega); obtain ⟨w, hw⟩ : ∃ w, y[a + i]? = some w := ⟨_, List.getElem?_eq_getElem (by omega)⟩; have hwl : l[a + i]? = some w.r := by rw [← hy.1, List.getElem?_map, hw]; rfl
     refine RG.p 12 hR rfl (Q.mv rfl) <| RG.p 13 hR rfl (Q.nil_ rfl) <| RG.p 14 hR rfl (Q.fa (n := 0) runUnderlying68 rfl rfl sizeOf65 rfl) ?_
     refine RG.p 15 hR rfl (Q.ldI isAgg65 rfl) ?_
     refine RG.p 16 hR rfl (Q.nil_ rfl) <| RG.p 17 hR rfl (Q.fa (n := 2) runUnderlying70 rfl rfl sizeOf64 rfl) <| RG.p 18 hR rfl (Q.fa (n := 2) runUnderlying64 rfl rfl sizeOf62 rfl) ?_
     refine RG.p 19 hR rfl (Q.ldI isAgg62 rfl) ?_
     refine RG.slot 126 (.slice (some ⟨b2, off2, none⟩) l.length lc) rfl (by rw [hlp2]) ?_
     refine RG.p 20 hR rfl (Q.mv rfl) <| RG.p 21 hR rfl (Q.ia runUnderlying62 sizeOf81 rfl rfl (by omega) (by omega)) <| RG.p 22 hR rfl (Q.fa (n := 0) runUnderlying81 rfl rfl sizeOf56 rfl) <| RG.p 23 hR rfl (Q.ld isAgg56 rfl ((rd_field RecW.len hrd2 hw (k := 0) (u := .int .u64 w.r.term) rfl (by omega)).inI)) <| RG.p 24 hR rfl (Q.fa (n := 0) runUnderlying81 rfl rfl sizeOf56 rfl) ?_
     refine RG.p 25 hR rfl (Q.ldI isAgg56 rfl) ?_
     refine RG.p 26 hR rfl (Q.neq rfl rfl) <| RG.p 27 hR rfl (Q.pick_t rfl rfl) ?_
     refine RG.fin hR rfl ?_
     refine J.norm rfl <| J.then_n ?_
     refine J.kases 134 rfl (fun hc134 => ?_) (fun hc134 => ?_)
     ·
      refine J.cond_t rfl <| J.seq <| J.seq <| J.region <| J.m rfl <| J.m rfl <| J.p rfl (Q.nil_ rfl) <| J.p rfl (Q.fa (n := 0) runUnderlying68 rfl rfl sizeOf65 rfl) ?_
      refine J.p rfl (Q.ldI isAgg65 rfl) ?_
      refine J.p rfl (Q.nil_ rfl) <| J.p rfl (Q.fa (n := 5) runUnderlying70 rfl rfl sizeOf3 rfl) ?_
      refine J.p rfl (Q.ldI isAgg3 rfl) ?_
      refine J.p rfl (Q.lss rfl rfl) <| J.nil <| J.then_n ?_
      refine J.kases 143 rfl (fun hc143 => ?_) (fun hc143 => ?_)
      ·
       refine J.cond_t rfl <| J.seq <| J.region <| J.p rfl (Q.asg rfl) <| J.nil <| J.then_n <| J.cret <| J.then_r <| J.cut_r <| J.blk_r <| J.then_r <| J.lp_r <| J.blk_r <| J.then_r ?_
       have hst : Rf.lay s.commit s1.log a rs = (l, false) := by
        rw [Rf.take_drop1 hrk, ← Rf.take_more hrk]
        refine Rf.lay_stop _ _ _ _ _ _ ?_
        rw [hsn, hwl]
        simp only
        rw [if_neg (by omega), if_pos (by omega)]
       have e : s.takes src a lt c rs = ({ s1 with log := l }, []) := by
        unfold Rf.Nd.takes; rw [if_neg hr3]; simp only; rw [if_neg hncond, ← hsl1, hst, hs1]; rfl
       rw [e]
       refine J.convI (own 81 2 (.slice lp l.length lc) (y.flatMap RecW.cells)) (RecsIn GG lp lc l) (RecsIn.of hy) ?_
       refine J.shutI [RecsIn GG lp lc l, GG] (RecsAt lp lc l) RecsIn.shut ?_
       refine J.shutI (nodeL p c0 lv lp lc vp vc { s1 with log := l }) (NodeAt p { s1 with log := l }) NodeAt.shut ?_
       refine J.give (X := MsgsAt none 0 []) MsgsAt.nil ?_
       refine J.ret1I [MsgsAt none 0 [], NodeAt p { s1 with log := l }] rfl rfl ⟨none, 0, rfl, rfl⟩
      refine J.cond_f rfl <| J.cskip <| J.then_n ?_
      refine J.draw [18] Try.mixed (by kernel_rfl) fun hR => ?_
      refine RG.p 0 hR rfl (Q.mv rfl) <| RG.p 1 hR rfl (Q.nil_ rfl) <| RG.p 2 hR rfl (Q.fa (n := 0) runUnderlying68 rfl rfl sizeOf65 rfl) ?_
      refine RG.p 3 hR rfl (Q.ldI isAgg65 rfl) ?_
      refine RG.p 4 hR rfl (Q.mv rfl) <| RG.p 5 hR rfl (Q.nil_ rfl) <| RG.p 6 hR rfl (Q.fa (n := 0) runUnderlying68 rfl rfl sizeOf65 rfl) ?_
      refine RG.p 7 hR rfl (Q.ldI isAgg65 rfl) ?_
      refine RG.p 8 hR rfl (Q.nil_ rfl) <| RG.p 9 hR rfl (Q.fa (n := 2) runUnderlying70 rfl rfl sizeOf64 rfl) <| RG.p 10 hR rfl (Q.fa (n := 2) runUnderlying64 rfl rfl sizeOf62 rfl) ?_
      refine RG.p 11 hR rfl (Q.ldI isAgg62 rfl) ?_
      refine RG.p 12 hR rfl (Q.mv rfl) <| RG.p 13 hR rfl (Q.mv rfl) <| RG.p 14 hR rfl (Q.slHM runUnderlying62 sizeOf81 rfl rfl rfl (by omega) (by omega) (by omega)) ?_
      refine RG.slot 158 (.slice lp (a + i) (a + i)) rfl rfl ?_
      refine RG.p 15 hR rfl (Q.nil_ rfl) <| RG.p 16 hR rfl (Q.fa (n := 2) runUnderlying70 rfl rfl sizeOf64 rfl) <| RG.p 17 hR rfl (Q.fa (n := 2) runUnderlying64 rfl rfl sizeOf62 rfl) ?_
      refine RG.stI 18 hR rfl rfl rfl rfl rfl sizeOf62 rfl rfl rfl (by exact rfl) (by exact rfl) (by exact rfl) ?_
      refine RG.fin hR rfl ?_
      refine J.norm rfl ?_
      have htl : (l.take (a + i)).length = a + i := by rw [List.length_take]; omega
      rw [hwl] at hsn
      simp only at hsn
      rw [if_neg (by omega), if_neg (by omega)] at hsn
      refine J.convPt c0 (.cells (coreCells { s1 with log := l.take (a + i) } lp (a + i) vp vc).toArray 70 (0, 0)) (by unfold coreCells; rw [htl]) ?_
      refine J.convI (own 81 2 (.slice lp l.length lc) (y.flatMap RecW.cells)) (RecsIn GG lp (a + i) (l.take (a + i))) (fun h hh => RecsIn.of (z := y.take (a + i)) ⟨by rw [List.map_take, hy.1], fun w hw => hy.2 w (List.mem_of_mem_take hw)⟩ h (by rw [htl, ← flat_take RecW.len]; exact own.front (by omega) h hh)) ?_
      exact J.meetI (l.take (a + i), lp, a + i) ⟨by show a + i ≤ (l.take (a + i)).length; omega, by show (l.take (a + i)).length ≤ _; omega, by rw [if_pos htl]; exact hsn⟩ ⟨rfl, rfl, rfl, rfl, rfl, rfl, rfl, rfl, trivial⟩
     refine J.cond_f rfl <| J.cskip ?_
     rw [hwl] at hsn
     simp only at hsn
     rw [if_pos (by omega)] at hsn
     refine J.convI (own 81 2 (.slice lp l.length lc) (y.flatMap RecW.cells)) (RecsIn GG lp lc l) (RecsIn.of hy) ?_
     exact J.meetI (l, lp, lc) ⟨hlen2, by show l.length ≤ _; omega, by show _ = (if l.length = a + i then l ++ [k.r] else l, true); rw [if_neg (by omega)]; exact hsn⟩ ⟨rfl, rfl, rfl, rfl, rfl, rfl, rfl, rfl, trivial⟩
    replace hb118 := X.nm hb118
    refine RG.k 12 hR rfl <| RG.k 13 hR rfl <| RG.k 14 hR rfl <| RG.k 15 hR rfl <| RG.k 16 hR rfl <| RG.k 17 hR rfl <| RG.k 18 hR rfl <| RG.k 19 hR rfl <| RG.k 20 hR rfl <| RG.k 21 hR rfl ?_
    refine RG.k 22 hR rfl <| RG.k 23 hR rfl <| RG.k 24 hR rfl <| RG.k 25 hR rfl <| RG.k 26 hR rfl <| RG.p 27 hR rfl (Q.pick_f rfl rfl) ?_
    refine RG.fin hR rfl ?_
    refine J.norm rfl <| J.then_n <| J.cond_f rfl <| J.cskip ?_
    rw [List.getElem?_eq_none (by omega)] at hsn
    refine J.convI (own 81 2 (.slice lp l.length lc) (y.flatMap RecW.cells)) (RecsIn GG lp lc l) (RecsIn.of hy) ?_
    exact J.meetI (l, lp, lc) ⟨hlen2, by show l.length ≤ _; omega, by show _ = (if l.length = a + i then l ++ [k.r] else l, true); rw [if_pos (by omega)]; exact hsn⟩ ⟨rfl, rfl, rfl, rfl, rfl, rfl, rfl, rfl, trivial⟩
   obtain ⟨l', lp', lc'⟩ := z
   obtain ⟨g1, g2, g3⟩ := hz'
   dsimp only at g1 g2 g3
   dsimp only
   have hllg : ({ s1 with log := l' } : Nd).log.length = l'.length := rfl
   refine J.seq <| J.region <| J.m rfl <| J.m rfl <| J.p rfl (Q.nil_ rfl) <| J.p rfl (Q.fa (n := 0) runUnderlying68 rfl rfl sizeOf65 rfl) ?_
   refine J.p rfl (Q.ldI isAgg65 rfl) ?_
   refine J.p rfl (Q.nil_ rfl) <| J.p rfl (Q.fa (n := 2) runUnderlying70 rfl rfl sizeOf64 rfl) <| J.p rfl (Q.fa (n := 2) runUnderlying64 rfl rfl sizeOf62 rfl) ?_
   refine J.p rfl (Q.ldI isAgg62 rfl) ?_
   refine J.p rfl (Q.lenSl runUnderlying62 rfl) <| J.p rfl (Q.geq rfl rfl) <| J.nil <| J.then_n ?_
   refine J.kases 172 rfl (fun hc172 => ?_) (fun hc172 => ?_)
   ·
    refine J.cond_t rfl ?_
    refine J.openI (RecsIn GG lp' lc' l') (fun _ h => h) fun y hy => ?_
    refine J.norm rfl ?_
    refine J.pickI [pt p (.cells [Value.pointer (some ⟨c0, 0, none⟩), lv].toArray 68 (0, 0)), coreA c0 { s1 with log := l' } lp' lc' vp vc, pt b8 (.cells k.cells.toArray 81 (0, 0))] ?_
    refine J.norm rfl ?_
    refine J.drawE [13, 14, 18] 3 Try.mixed (by kernel_rfl) rfl rfl fun hR => ?_
    refine RG.p 0 hR rfl (Q.mv rfl) <| RG.p 1 hR rfl (Q.nil_ rfl) <| RG.p 2 hR rfl (Q.fa (n := 0) runUnderlying68 rfl rfl sizeOf65 rfl) ?_
    refine RG.p 3 hR rfl (Q.ldI isAgg65 rfl) ?_
    refine RG.p 4 hR rfl (Q.mv rfl) <| RG.p 5 hR rfl (Q.nil_ rfl) <| RG.p 6 hR rfl (Q.fa (n := 0) runUnderlying68 rfl rfl sizeOf65 rfl) ?_
    refine RG.p 7 hR rfl (Q.ldI isAgg65 rfl) ?_
    refine RG.p 8 hR rfl (Q.nil_ rfl) <| RG.p 9 hR rfl (Q.fa (n := 2) runUnderlying70 rfl rfl sizeOf64 rfl) <| RG.p 10 hR rfl (Q.fa (n := 2) runUnderlying64 rfl rfl sizeOf62 rfl) ?_
    refine RG.p 11 hR rfl (Q.ldI isAgg62 rfl) ?_
    refine RG.p 12 hR rfl (Q.ldN (vs := [_, _]) isAgg81 sizeOf81 rfl rnI) ?_
    refine RG.made 13 hR rfl rfl rfl rfl rfl (C.bslG (l := [_, _]) runUnderlying62 sizeOf81 zeroValue81 (by decide) rfl rfl rfl rfl rfl) ?_
    rintro b186
    refine RG.many hR 14 [] rfl ⟨?_, trivial⟩
    ·
     refine RGi.appI rfl rfl rfl rfl runUnderlying62 runUnderlying62 typeInfo81 sizeOf81 zeroValue81 rfl rfl (SlR.ptI rfl) (RecW.one k) (by simp [Try.t81] <;> omega) (by decide) ?_
     rintro p187 c187
     refine RG.normE rfl <| RG.p 15 hR rfl (Q.nil_ rfl) <| RG.p 16 hR rfl (Q.fa (n := 2) runUnderlying70 rfl rfl sizeOf64 rfl) <| RG.p 17 hR rfl (Q.fa (n := 2) runUnderlying64 rfl rfl sizeOf62 rfl) ?_
     refine RG.stI 18 hR rfl rfl rfl rfl rfl sizeOf62 rfl rfl rfl (by exact rfl) (by exact rfl) (by exact rfl) ?_
     refine RG.fin hR rfl ?_
     refine J.norm rfl <| J.blk_n <| J.then_n <| J.region <| J.p rfl (Q.add64 rfl rfl (by omega)) <| J.m rfl <| J.nil ?_
     have hl2 : (l' ++ [k.r]).length = l'.length + 1 := by rw [List.length_append]; rfl
     rw [if_pos (by omega)] at g3
     refine J.convPt c0 (.cells (coreCells { s1 with log := l' ++ [k.r] } p187 c187 vp vc).toArray 70 (0, 0)) (by unfold coreCells; rw [hl2]) ?_
     refine J.convI (own 81 2 (.slice p187 (l'.length + 1) c187) (y.flatMap RecW.cells ++ k.cells)) (RecsIn GG p187 c187 (l' ++ [k.r])) (RecsIn.snoc hy (hxok k (List.mem_of_getElem? hk))) ?_
     refine J.againI (i + 1, l' ++ [k.r], p187, c187) ⟨by show i + 1 ≤ rs.length; omega, g3⟩ (by show rs.length - (i + 1) < rs.length - i; omega) ⟨rfl, rfl, rfl, (by show _ = some (Value.slice xq rs.length xd); rw [hqb]; rfl), rfl, rfl, trivial⟩
   refine J.cond_f rfl <| J.cskip <| J.blk_n <| J.then_n <| J.region <| J.p rfl (Q.add64 rfl rfl (by omega)) <| J.m rfl <| J.nil ?_
   rw [if_neg (by omega)] at g3
   refine J.againI (i + 1, l', lp', lc') ⟨by show i + 1 ≤ rs.length; omega, g3⟩ (by show rs.length - (i + 1) < rs.length - i; omega) ⟨rfl, rfl, rfl, (by show _ = some (Value.slice xq rs.length xd); rw [hqb]; rfl), rfl, rfl, trivial⟩
  refine J.cond_f rfl <| J.exit <| J.then_x <| J.lp_x <| J.blk_x <| J.then_n <| J.seq ?_
  have hin : rs.take i = rs := List.take_of_length_le (by omega)
  rw [hin] at hlay
  have hllc : ({ s1 with log := l } : Nd).commit = s1.commit := rfl
  obtain ⟨nn, hnn⟩ : ∃ nn, nn = a + rs.length := ⟨_, rfl⟩
  obtain ⟨cm, hcm⟩ : ∃ cm, cm = max s1.commit (min c nn) := ⟨_, rfl⟩
  refine J.region <| J.p rfl (Q.fa (n := 0) runUnderlying92 rfl rfl sizeOf3 rfl) ?_
  refine J.p rfl (Q.ldI isAgg3 rfl) ?_
  refine J.p rfl (Q.fa (n := 3) runUnderlying92 rfl rfl sizeOf62 rfl) ?_
  refine J.p rfl (Q.ldI isAgg62 rfl) ?_
  refine J.p rfl (Q.lenSl runUnderlying62 rfl) <| J.p rfl (Q.add64 rfl rfl (by omega)) ?_
  refine J.slot 197 (.int .i64 (nn : Nat)) rfl (by rw [hnn, Int.natCast_add]) ?_
  refine J.p rfl (Q.asg rfl) <| J.nil <| J.then_n <| J.seq ?_
  refine J.draw [18] Try.mixed (by kernel_rfl) fun hR => ?_
  refine RG.p 0 hR rfl (Q.mv rfl) <| RG.p 1 hR rfl (Q.nil_ rfl) <| RG.p 2 hR rfl (Q.fa (n := 0) runUnderlying68 rfl rfl sizeOf65 rfl) ?_
  refine RG.p 3 hR rfl (Q.ldI isAgg65 rfl) ?_
  refine RG.p 4 hR rfl (Q.mv rfl) <| RG.p 5 hR rfl (Q.nil_ rfl) <| RG.p 6 hR rfl (Q.fa (n := 0) runUnderlying68 rfl rfl sizeOf65 rfl) ?_
  refine RG.p 7 hR rfl (Q.ldI isAgg65 rfl) ?_
  refine RG.p 8 hR rfl (Q.nil_ rfl) <| RG.p 9 hR rfl (Q.fa (n := 5) runUnderlying70 rfl rfl sizeOf3 rfl) ?_
  refine RG.p 10 hR rfl (Q.ldI isAgg3 rfl) ?_
  refine RG.p 11 hR rfl (Q.fa (n := 2) runUnderlying92 rfl rfl sizeOf3 rfl) ?_
  refine RG.p 12 hR rfl (Q.ldI isAgg3 rfl) ?_
  refine RG.p 13 hR rfl (Q.mv rfl) <| RG.p 14 hR rfl (Q.minI rfl) ?_
  refine RG.slot 212 (.int .i64 ((min c nn : Nat) : Int)) rfl (by congr 1; split <;> omega) ?_
  refine RG.p 15 hR rfl (Q.maxI rfl) ?_
  refine RG.slot 213 (.int .i64 (cm : Nat)) rfl (by congr 1; rw [hcm]; split <;> omega) ?_
  refine RG.p 16 hR rfl (Q.nil_ rfl) <| RG.p 17 hR rfl (Q.fa (n := 5) runUnderlying70 rfl rfl sizeOf3 rfl) ?_
  refine RG.stI 18 hR rfl rfl rfl rfl rfl sizeOf3 rfl rfl rfl (by exact rfl) (by exact rfl) (by exact rfl) ?_
  refine RG.fin hR rfl ?_
  refine J.norm rfl <| J.then_n <| J.seq ?_
  refine J.give (X := star []) trivial ?_
  obtain ⟨s2, hs2⟩ : ∃ s2 : Nd, s2 = { s1 with log := l, commit := cm } := ⟨_, rfl⟩
  have hi2 : s2.id = s1.id := by rw [hs2]
  have ht2 : s2.term = s1.term := by rw [hs2]
  refine J.convPt c0 (.cells (coreCells s2 lp lc vp vc).toArray 70 (0, 0)) (by rw [hs2]) ?_
  refine J.region <| J.m rfl <| J.p rfl (Q.nil_ rfl) <| J.p rfl (Q.fa (n := 0) runUnderlying68 rfl rfl sizeOf65 rfl) ?_
  refine J.p rfl (Q.ldI isAgg65 rfl) ?_
  refine J.m rfl <| J.m rfl <| J.p rfl (Q.bld (l := [.bool true, .int .i64 (nn : Nat)]) runUnderlying95 zeroValue95 places95 rfl (by kernel_rfl)) <| J.p rfl (Q.mkif runUnderlying95 (by intro m h; cases h) rfl) ?_
  refine J.callI call29 (send_spec c0 s2 lp lc vp vc (star []) (XM.vTook true nn) (.took true nn) (write_took true nn (by omega)).one src hs (by omega) (by omega)) rfl rfl rfl ?_
  rintro _ _ ⟨q93, d93, rfl, rfl⟩
  refine J.norm rfl ?_
  refine J.c rfl rfl (C.bslG (l := [_, _, _]) runUnderlying28 sizeOf53 zeroValue53 (by decide) rfl rfl rfl rfl rfl) ?_
  rintro _ _ ⟨b225, rfl, rfl⟩
  refine J.norm rfl <| J.p rfl (Q.asg rfl) <| J.nil <| J.then_n <| J.cret ?_
  have e : s.takes src a lt c rs = (s2, [s2.msg src (.took true nn)]) := by
   unfold Rf.Nd.takes; rw [if_neg hr3]; simp only; rw [if_neg hncond, ← hsl1, hlay, hs2, hcm, hnn, hsc1, hs1]; rfl
  rw [e]
  refine J.shutI [RecsIn GG lp lc l, GG] (RecsAt lp lc l) RecsIn.shut ?_
  have hlg : l = s2.log := by rw [hs2]
  have hvg : s1.votes = s2.votes := by rw [hs2]
  have hdg : s1.lead = s2.lead := by rw [hs2]
  rw [hlg, hvg, hdg]
  refine J.shutI (nodeL p c0 lv lp lc vp vc s2) (NodeAt p s2) NodeAt.shut ?_
  refine J.shutI [pt b225 (.cells (MsgW.cells ⟨s2.msg src (.took true nn), q93, d93⟩).toArray 53 (0, 0)), own 5 1 (.slice q93 (msgB (s2.msg src (.took true nn))).length d93) (bytesV (msgB (s2.msg src (.took true nn))))] (MsgsAt (some ⟨b225, 0, none⟩) 1 [s2.msg src (.took true nn)]) MsgsAt.one ?_
  refine J.ret1I [MsgsAt (some ⟨b225, 0, none⟩) 1 [s2.msg src (.took true nn)], NodeAt p s2] rfl rfl ⟨some ⟨b225, 0, none⟩, 1, rfl, rfl⟩
end Go.Proofs.Ytgdmfagmpfalbaa

