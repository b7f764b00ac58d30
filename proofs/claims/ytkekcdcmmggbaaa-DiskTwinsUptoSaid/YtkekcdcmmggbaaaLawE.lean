/-
  A disk and the document's, alike.
-/
import Derived.Test.YtkekcdcmmggbaaaLawD
namespace Go.Proofs.Ytkekcdcmmggbaaa
open Go.X

theorem encStr_name (n : ByteArray) : encStr n.data.toList = .string n := by cases n; rfl

theorem sorted_names {l : List FM} (h : Srt l) : (l.map (·.name.data.toList)).Pairwise fun x y => decide (x ≤ y) = true := by
  rw [List.pairwise_map]
  exact h.imp fun hab => by simpa using List.le_of_lt hab
theorem list_eq {d r : DM} (h : Alk d r) (hd : d.wf) (hr : r.wf) (hs : Srt r.files) (pre : List ByteArray) : d.list pre = (selN pre r.files).map (·.data.toList) := by
  rw [h.list hd hr pre]
  unfold DM.list selN
  refine sortN_sorted ?_
  have h1 := sorted_names hs
  rw [List.pairwise_map] at h1 ⊢
  refine List.Pairwise.filter _ ?_
  rw [List.pairwise_map]; exact h1
theorem selN_nil (l : List FM) : selN [] l = l.map (·.name) := by
  unfold selN
  rw [List.filter_eq_self]
  intro n _; rfl

theorem RefAt.born_at {q : Nat} {r : DM} : ∀ k, RefAt q r k → ∃ c e z, k q = some (.cells c e z) ∧ c[2]? = some (.int .i64 r.born) := by
  rintro k ⟨fs, _, k1, _, ⟨z, h1, _, h2, _, _, hs, _⟩, _, _, hs1, _⟩
  exact ⟨_, _, _, hs1 _ _ (hs _ _ h2), rfl⟩

theorem rused_open (q : Nat) (r : DM) (hr : RWf r) (fs : List RFile) (hfs : fms fs = r.files) (z : Option Addr × Nat) :
    FSpec Try.prog 47 [.pointer (some ⟨q, 0, none⟩)] [pt q (.cells [.int .i64 r.size, .slice z.1 fs.length z.2, .int .i64 r.born].toArray 56 (0, 0)), own 82 3 (.slice z.1 fs.length z.2) (fs.flatMap RFile.cells), star (fs.map RFile.asn)] (fun v B => v = .int .i64 r.used ∧ B = [RefAt q r]) := by
  have hl : fs.length = r.files.length := by rw [← hfs, List.length_map]
  have h1 := hr.len
  have h2 := hr.wf.used
  have h3 := hr.wf.size
  have h4 : lenSum (fms fs) = r.used := by rw [hfs]; rfl
  refine ((rused_spec q r.size r.born fs (by omega) (by omega)).frame [star (fs.map RFile.asn)]).conv (fun k s => HSat.imp (HSat.pack (As := [_, _]) s) fun _ hk => ⟨z, hk⟩) ?_
  rintro v B' ⟨B1, ⟨rfl, rfl⟩, rfl⟩
  exact ⟨_, ⟨by rw [h4], rfl⟩, fun k s => HSat.imp (HSat.pack (As := [_, _]) (Bs := []) s) fun k hk => ⟨fs, hfs, hk⟩⟩

theorem runsynced_open (q : Nat) (r : DM) (hr : RWf r) (n : ByteArray) (fs : List RFile) (hfs : fms fs = r.files) (z : Option Addr × Nat) :
    FSpec Try.prog 32 [.pointer (some ⟨q, 0, none⟩), .string n] [pt q (.cells [.int .i64 r.size, .slice z.1 fs.length z.2, .int .i64 r.born].toArray 56 (0, 0)), own 82 3 (.slice z.1 fs.length z.2) (fs.flatMap RFile.cells), star (fs.map RFile.asn)] (fun v B => v = .int .i64 (r.unsynced n) ∧ B = [RefAt q r]) :=
  (runsynced_spec q r hr n).conv (fun k s => HSat.imp (HSat.pack (As := [_, _, _]) (Bs := []) s) fun _ hk => RefAt.mk (z := z) hfs hk) (by rintro v B' ⟨rfl, rfl⟩; exact ⟨_, ⟨rfl, rfl⟩, fun _ s => s⟩)

theorem alike_spec (p q : Nat) (d r : DM) (hd : d.wf) (hdl : d.files.length ≤ 1000000) (hr : RWf r) (h : Alk d r) :
    FSpec Try.prog 27 [.pointer (some ⟨p, 0, none⟩), .pointer (some ⟨q, 0, none⟩)] [DiskAt p d, RefAt q r] (fun v B => v = .bool true ∧ B = [DiskAt p d, RefAt q r]) := by
  refine FSpec.of Try.func27 rfl Try.ntmps27 rfl fun W0 F => ?_
  refine J.seq ?_
  refine J.region ?_
  refine J.q rfl rfl (Q.asg rfl) ?_
  refine J.nil ?_
  refine J.then_n ?_
  refine J.seq ?_
  refine J.region ?_
  refine J.q rfl rfl (Q.mv rfl) ?_
  refine J.call Try.call21 (list_spec p d F none 0 0 [] (.inl ⟨none, 0, rfl, rfl⟩) (by omega) (by omega)) [0, 2] rfl rfl rfl rfl ?_
  rintro _ _ ⟨sp5, sc5, rfl, rfl⟩
  refine J.norm rfl ?_
  have hL : d.list [] = r.files.map (·.name.data.toList) := by rw [list_eq h hd hr.wf hr.srt, selN_nil, List.map_map]; rfl
  have hLl : (r.files.map (·.name.data.toList)).length = r.files.length := List.length_map _
  rw [hL, hLl]
  have hrl := hr.len
  refine J.slr1 0 rfl fun hs5 => ?_
  refine J.q rfl rfl (Q.asg rfl) ?_
  refine J.nil ?_
  refine J.then_n ?_
  refine J.seq ?_
  refine J.seq ?_
  refine J.open_ 3 rfl rfl (fun _ h => h) fun fs hfs => ?_
  refine J.norm rfl ?_
  have hlen : fs.length = r.files.length := by rw [← hfs, List.length_map]
  refine J.open1 0 rfl (fun _ h => h) fun z => ?_
  refine J.norm rfl ?_
  refine J.pick [3, 0, 1, 2, 5, 4] rfl ?_
  refine J.norm rfl ?_
  refine J.drawE [10, 12, 17] 5 Try.mixed (by kernel_rfl) rfl rfl fun hR => ?_
  refine RG.q 0 hR rfl rfl rfl rfl rfl rfl (Q.mv rfl) ?_
  refine RG.q 1 hR rfl rfl rfl rfl rfl rfl (Q.lenSl Try.runUnderlying28 rfl) ?_
  refine RG.q 2 hR rfl rfl rfl rfl rfl rfl (Q.mv rfl) ?_
  refine RG.q 3 hR rfl rfl rfl rfl rfl rfl (Q.nil_ rfl) ?_
  refine RG.q 4 hR rfl rfl rfl rfl rfl rfl (Q.fa (n := 1) Try.runUnderlying56 rfl rfl Try.sizeOf54 rfl) ?_
  refine RG.q 5 hR rfl rfl rfl rfl rfl rfl (Q.ld Try.isAgg54 rfl (by first | exact Reads.pt 0 rfl rfl | exact Reads.pt 1 rfl rfl | exact Reads.pt 2 rfl rfl | exact Reads.pt 3 rfl rfl | exact Reads.pt 4 rfl rfl | exact Reads.pt 5 rfl rfl | exact Reads.pt 6 rfl rfl | exact Reads.pt 7 rfl rfl)) ?_
  refine RG.q 6 hR rfl rfl rfl rfl rfl rfl (Q.lenSl Try.runUnderlying54 rfl) ?_
  refine RG.q 7 hR rfl rfl rfl rfl rfl rfl (Q.neq rfl rfl) ?_
  refine RG.q 8 hR rfl rfl rfl rfl rfl rfl (Q.mv rfl) ?_
  refine RG.cases 19 rfl (fun hb19 => ?_) (fun hb19 => ?_)
  ·
    simp at hb19; omega
  ·
    skip
    refine RG.q 9 hR rfl rfl rfl rfl rfl rfl (Q.mv rfl) ?_
    refine RG.q 11 hR rfl rfl rfl rfl rfl rfl (Q.mv rfl) ?_
    refine RG.callk 10 hR rfl rfl rfl rfl rfl Try.call11 (used_spec p d) [5] rfl rfl ?_
    rintro _ _ ⟨rfl, rfl⟩
    refine ⟨_, X.pick_perm (is := [1, 2, 3, 4, 5]) rfl, ?_⟩
    refine RG.call 12 hR rfl rfl rfl rfl rfl rfl Try.call47 (rused_open q r hr fs hfs z) [1, 2, 3] rfl rfl ?_
    rintro _ _ ⟨rfl, rfl⟩
    refine RG.norm rfl ?_
    rw [← h.used hd hr.wf]
    refine RG.q 13 hR rfl rfl rfl rfl rfl rfl (Q.neq rfl rfl) ?_
    refine RG.q 14 hR rfl rfl rfl rfl rfl rfl (Q.pick_f rfl rfl) ?_
    refine RG.q 15 hR rfl rfl rfl rfl rfl rfl (Q.mv rfl) ?_
    refine RG.cases 26 rfl (fun hb26 => ?_) (fun hb26 => ?_)
    ·
      simp at hb26
    ·
      skip
      refine RG.q 16 hR rfl rfl rfl rfl rfl rfl (Q.mv rfl) ?_
      refine RG.q 18 hR rfl rfl rfl rfl rfl rfl (Q.mv rfl) ?_
      refine RG.q 19 hR rfl rfl rfl rfl rfl rfl (Q.nil_ rfl) ?_
      refine RG.q 20 hR rfl rfl rfl rfl rfl rfl (Q.fa (n := 2) Try.runUnderlying56 rfl rfl Try.sizeOf3 rfl) ?_
      refine RG.q 21 hR rfl rfl rfl rfl rfl rfl (Q.ld Try.isAgg3 rfl (Reads.by_ 0 rfl RefAt.born_at)) ?_
      refine RG.callk 17 hR rfl rfl rfl rfl rfl Try.call46 (born_spec p d) [3] rfl rfl ?_
      rintro _ _ ⟨rfl, rfl⟩
      refine ⟨_, X.pick_perm (is := [1, 2, 3, 0]) rfl, ?_⟩
      rw [h.born]
      refine RG.q 22 hR rfl rfl rfl rfl rfl rfl (Q.neq rfl rfl) ?_
      refine RG.q 23 hR rfl rfl rfl rfl rfl rfl (Q.pick_f rfl rfl) ?_
      refine RG.fin hR rfl ?_
      refine J.norm rfl ?_
      refine J.then_n ?_
      refine J.cond rfl (fun hc34 => ?_) (fun hc34 => ?_)
      ·
        simp at hc34
      ·
        first | replace hc34 := X.tt_dec hc34 | replace hc34 := X.tt_not hc34 | replace hc34 := X.ff_dec hc34 | replace hc34 := X.ff_not hc34 | skip
        refine J.cskip ?_
        refine J.then_n ?_
        refine J.seq ?_
        refine J.seq ?_
        refine J.region ?_
        refine J.q rfl rfl (Q.asg rfl) ?_
        refine J.nil ?_
        refine J.then_n ?_
        refine J.block ?_
        refine J.pick [1, 0, 3, 2] rfl ?_
        refine J.norm rfl ?_
        refine J.loop (fun k : Nat => k ≤ r.files.length) (fun k => r.files.length - k) (fun k => [(0, .pointer (some ⟨p, 0, none⟩)), (1, .pointer (some ⟨q, 0, none⟩)), (5, .slice sp5 r.files.length sc5), (6, .int .i64 k)])
          (fun _ => [own 9 1 (.slice sp5 r.files.length sc5) ((r.files.map (·.name.data.toList)).map encStr), RefAt q r, DiskAt p d, F]) 0 (Nat.zero_le _) ⟨rfl, rfl, rfl, rfl, trivial⟩ rfl fun k hk => ?_
        refine J.seq ?_
        refine J.seq ?_
        refine J.region ?_
        refine J.q rfl rfl (Q.mv rfl) ?_
        refine J.q rfl rfl (Q.mv rfl) ?_
        refine J.q rfl rfl (Q.lenSl Try.runUnderlying28 rfl) ?_
        refine J.q rfl rfl (Q.lss rfl rfl) ?_
        refine J.nil ?_
        refine J.then_n ?_
        refine J.cond rfl (fun hc38 => ?_) (fun hc38 => ?_)
        ·
          first | replace hc38 := X.tt_dec hc38 | replace hc38 := X.tt_not hc38 | replace hc38 := X.ff_dec hc38 | replace hc38 := X.ff_not hc38 | skip
          refine J.cskip ?_
          refine J.then_n ?_
          refine J.seq ?_
          refine J.block ?_
          refine J.seq ?_
          obtain ⟨b5, off5, rfl, hrd5⟩ := hs5.some_ (by omega)
          obtain ⟨f, hf⟩ : ∃ f, r.files[k]? = some f := ⟨_, List.getElem?_eq_getElem (by omega)⟩
          have hgf : fget f.name r.files = some f := (fget_iff hr.wf.names f).1 (List.mem_of_getElem? hf)
          have hgd : fget f.name d.files = some f := by rw [h.files]; exact hgf
          have hby : d.bytes f.name = f.bs := by unfold DM.bytes; rw [hgd]
          have hfo : d.found f.name = 0 := by unfold DM.found; rw [hgd]
          refine J.region ?_
          refine J.q rfl rfl (Q.mv rfl) ?_
          refine J.q rfl rfl (Q.mv rfl) ?_
          refine J.q rfl rfl (Q.mv rfl) ?_
          refine J.q rfl rfl (Q.ia Try.runUnderlying28 Try.sizeOf9 rfl rfl (by omega) (by omega)) ?_
          refine J.q rfl rfl (Q.ld Try.isAgg9 rfl (((hrd5 k (.string f.name) (by simp [hf, encStr_name])).within (i := 0) rfl).cast (by simp))) ?_
          refine J.call Try.call12 (read_spec p d hd f.name) [2] rfl rfl rfl rfl ?_
          rintro _ _ ⟨p47, c47, rfl, rfl⟩
          refine J.norm rfl ?_
          rw [hby, hfo]
          refine J.q rfl rfl (Q.mv rfl) ?_
          refine J.q rfl rfl (Q.ext rfl rfl) ?_
          refine J.q rfl rfl (Q.ext rfl rfl) ?_
          refine J.q rfl rfl (Q.asg rfl) ?_
          refine J.q rfl rfl (Q.asg rfl) ?_
          refine J.nil ?_
          refine J.then_n ?_
          refine J.seq ?_
          refine J.slr1 0 rfl fun hs47 => ?_
          refine J.open_ 3 rfl rfl (fun _ h => h) fun fs hfs => ?_
          refine J.norm rfl ?_
          have hlen : fs.length = r.files.length := by rw [← hfs, List.length_map]
          refine J.open1 0 rfl (fun _ h => h) fun z => ?_
          refine J.norm rfl ?_
          obtain ⟨zp, zc⟩ := z
          refine J.slr1 1 rfl fun hsl => ?_
          dsimp only at hsl
          obtain ⟨b, off, rfl, hrd⟩ := hsl.some_ (by omega)
          obtain ⟨x, hx⟩ : ∃ x, fs[k]? = some x := ⟨_, List.getElem?_eq_getElem (by omega)⟩
          have hxf : x.f = f := by
            have : (fms fs)[k]? = some f := by rw [hfs]; exact hf
            rw [List.getElem?_map, hx] at this; exact Option.some.inj this
          subst hxf
          refine J.slrStar 2 k rfl hx rfl fun hys => ?_
          refine J.pick [3, 5, 0, 1, 2, 6, 4] rfl ?_
          refine J.norm rfl ?_
          refine J.draw [37, 43] Try.mixed (by kernel_rfl) fun hR => ?_
          refine RG.q 0 hR rfl rfl rfl rfl rfl rfl (Q.mv rfl) ?_
          refine RG.q 1 hR rfl rfl rfl rfl rfl rfl (Q.mv rfl) ?_
          refine RG.q 2 hR rfl rfl rfl rfl rfl rfl (Q.ia Try.runUnderlying28 Try.sizeOf9 rfl rfl (by omega) (by omega)) ?_
          refine RG.q 3 hR rfl rfl rfl rfl rfl rfl (Q.ld Try.isAgg9 rfl (((hrd5 k (.string x.f.name) (by simp [hf, encStr_name])).within (i := 1) rfl).cast (by simp))) ?_
          refine RG.q 4 hR rfl rfl rfl rfl rfl rfl (Q.mv rfl) ?_
          refine RG.q 5 hR rfl rfl rfl rfl rfl rfl (Q.nil_ rfl) ?_
          refine RG.q 6 hR rfl rfl rfl rfl rfl rfl (Q.fa (n := 1) Try.runUnderlying56 rfl rfl Try.sizeOf54 rfl) ?_
          refine RG.q 7 hR rfl rfl rfl rfl rfl rfl (Q.ld Try.isAgg54 rfl (by first | exact Reads.pt 0 rfl rfl | exact Reads.pt 1 rfl rfl | exact Reads.pt 2 rfl rfl | exact Reads.pt 3 rfl rfl | exact Reads.pt 4 rfl rfl | exact Reads.pt 5 rfl rfl | exact Reads.pt 6 rfl rfl | exact Reads.pt 7 rfl rfl)) ?_
          refine RG.q 8 hR rfl rfl rfl rfl rfl rfl (Q.mv rfl) ?_
          refine RG.q 9 hR rfl rfl rfl rfl rfl rfl (Q.ia Try.runUnderlying54 Try.sizeOf82 rfl rfl (by omega) (by omega)) ?_
          refine RG.q 10 hR rfl rfl rfl rfl rfl rfl (Q.fa (n := 0) Try.runUnderlying82 rfl rfl Try.sizeOf9 rfl) ?_
          refine RG.q 11 hR rfl rfl rfl rfl rfl rfl (Q.ld Try.isAgg9 rfl ((rd_field RFile.cells_length hrd hx (k := 0) rfl (by simp)).within (i := 3) rfl)) ?_
          refine RG.q 12 hR rfl rfl rfl rfl rfl rfl (Q.neqs rfl rfl) ?_
          refine RG.q 13 hR rfl rfl rfl rfl rfl rfl (Q.mv rfl) ?_
          refine RG.cases 63 rfl (fun hb63 => ?_) (fun hb63 => ?_)
          ·
            simp at hb63
          ·
            skip
            refine RG.q 14 hR rfl rfl rfl rfl rfl rfl (Q.mv rfl) ?_
            refine RG.q 15 hR rfl rfl rfl rfl rfl rfl (Q.neq rfl rfl) ?_
            refine RG.q 16 hR rfl rfl rfl rfl rfl rfl (Q.pick_f rfl rfl) ?_
            refine RG.q 17 hR rfl rfl rfl rfl rfl rfl (Q.mv rfl) ?_
            refine RG.cases 67 rfl (fun hb67 => ?_) (fun hb67 => ?_)
            ·
              simp at hb67
            ·
              skip
              refine RG.q 18 hR rfl rfl rfl rfl rfl rfl (Q.mv rfl) ?_
              refine RG.q 19 hR rfl rfl rfl rfl rfl rfl (Q.b2s (bs := x.f.bs) Try.runUnderlying30 Try.runUnderlying9 Try.runUnderlying5 rfl (hs47.within (i := 0) rfl)) ?_
              refine RG.q 20 hR rfl rfl rfl rfl rfl rfl (Q.mv rfl) ?_
              refine RG.q 21 hR rfl rfl rfl rfl rfl rfl (Q.nil_ rfl) ?_
              refine RG.q 22 hR rfl rfl rfl rfl rfl rfl (Q.fa (n := 1) Try.runUnderlying56 rfl rfl Try.sizeOf54 rfl) ?_
              refine RG.q 23 hR rfl rfl rfl rfl rfl rfl (Q.ld Try.isAgg54 rfl (by first | exact Reads.pt 0 rfl rfl | exact Reads.pt 1 rfl rfl | exact Reads.pt 2 rfl rfl | exact Reads.pt 3 rfl rfl | exact Reads.pt 4 rfl rfl | exact Reads.pt 5 rfl rfl | exact Reads.pt 6 rfl rfl | exact Reads.pt 7 rfl rfl)) ?_
              refine RG.q 24 hR rfl rfl rfl rfl rfl rfl (Q.mv rfl) ?_
              refine RG.q 25 hR rfl rfl rfl rfl rfl rfl (Q.ia Try.runUnderlying54 Try.sizeOf82 rfl rfl (by omega) (by omega)) ?_
              refine RG.q 26 hR rfl rfl rfl rfl rfl rfl (Q.fa (n := 1) Try.runUnderlying82 rfl rfl Try.sizeOf30 rfl) ?_
              refine RG.q 27 hR rfl rfl rfl rfl rfl rfl (Q.ld Try.isAgg30 rfl ((rd_field RFile.cells_length hrd hx (k := 1) rfl (by simp; omega)).within (i := 3) rfl)) ?_
              refine RG.q 28 hR rfl rfl rfl rfl rfl rfl (Q.b2s (bs := x.f.bs) Try.runUnderlying30 Try.runUnderlying9 Try.runUnderlying5 rfl (hys.within (i := 4) rfl)) ?_
              refine RG.q 29 hR rfl rfl rfl rfl rfl rfl (Q.neqs rfl rfl) ?_
              refine RG.q 30 hR rfl rfl rfl rfl rfl rfl (Q.pick_f rfl rfl) ?_
              refine RG.q 31 hR rfl rfl rfl rfl rfl rfl (Q.mv rfl) ?_
              refine RG.cases 81 rfl (fun hb81 => ?_) (fun hb81 => ?_)
              ·
                simp at hb81
              ·
                skip
                refine RG.q 32 hR rfl rfl rfl rfl rfl rfl (Q.mv rfl) ?_
                refine RG.q 33 hR rfl rfl rfl rfl rfl rfl (Q.mv rfl) ?_
                refine RG.q 34 hR rfl rfl rfl rfl rfl rfl (Q.mv rfl) ?_
                refine RG.q 35 hR rfl rfl rfl rfl rfl rfl (Q.ia Try.runUnderlying28 Try.sizeOf9 rfl rfl (by omega) (by omega)) ?_
                refine RG.q 36 hR rfl rfl rfl rfl rfl rfl (Q.ld Try.isAgg9 rfl (((hrd5 k (.string x.f.name) (by simp [hf, encStr_name])).within (i := 1) rfl).cast (by simp))) ?_
                refine RG.q 38 hR rfl rfl rfl rfl rfl rfl (Q.mv rfl) ?_
                refine RG.q 39 hR rfl rfl rfl rfl rfl rfl (Q.mv rfl) ?_
                refine RG.q 40 hR rfl rfl rfl rfl rfl rfl (Q.mv rfl) ?_
                refine RG.q 41 hR rfl rfl rfl rfl rfl rfl (Q.ia Try.runUnderlying28 Try.sizeOf9 rfl rfl (by omega) (by omega)) ?_
                refine RG.q 42 hR rfl rfl rfl rfl rfl rfl (Q.ld Try.isAgg9 rfl (((hrd5 k (.string x.f.name) (by simp [hf, encStr_name])).within (i := 1) rfl).cast (by simp))) ?_
                refine RG.callk 37 hR rfl rfl rfl rfl rfl Try.call22 (unsynced_spec p d hd x.f.name) [6] rfl rfl ?_
                rintro _ _ ⟨rfl, rfl⟩
                refine ⟨_, X.pick_perm (is := [1, 2, 3, 4, 5, 6, 0]) rfl, ?_⟩
                refine RG.call 43 hR rfl rfl rfl rfl rfl rfl Try.call32 (runsynced_open q r hr x.f.name fs hfs (some ⟨b, off, none⟩, zc)) [2, 3, 4] rfl rfl ?_
                rintro _ _ ⟨rfl, rfl⟩
                refine RG.norm rfl ?_
                rw [h.unsynced]
                refine RG.q 44 hR rfl rfl rfl rfl rfl rfl (Q.neq rfl rfl) ?_
                refine RG.q 45 hR rfl rfl rfl rfl rfl rfl (Q.pick_f rfl rfl) ?_
                refine RG.fin hR rfl ?_
                refine J.norm rfl ?_
                refine J.then_n ?_
                refine J.cond rfl (fun hc95 => ?_) (fun hc95 => ?_)
                ·
                  simp at hc95
                ·
                  first | replace hc95 := X.tt_dec hc95 | replace hc95 := X.tt_not hc95 | replace hc95 := X.ff_dec hc95 | replace hc95 := X.ff_not hc95 | skip
                  refine J.cskip ?_
                  refine J.blk_n ?_
                  refine J.then_n ?_
                  refine J.region ?_
                  refine J.q rfl rfl (Q.mv rfl) ?_
                  refine J.q rfl rfl (Q.add64 rfl rfl (by omega)) ?_
                  refine J.q rfl rfl (Q.asg rfl) ?_
                  refine J.nil ?_
                  refine J.keep [2, 0, 4, 3] rfl ?_
                  refine J.again (k + 1) (by show k + 1 ≤ _; omega) (by show r.files.length - (k + 1) < r.files.length - k; omega) ⟨rfl, rfl, rfl, rfl, trivial⟩ rfl
        ·
          first | replace hc38 := X.tt_dec hc38 | replace hc38 := X.tt_not hc38 | replace hc38 := X.ff_dec hc38 | replace hc38 := X.ff_not hc38 | skip
          refine J.exit ?_
          refine J.then_x ?_
          refine J.lp_x ?_
          refine J.blk_x ?_
          refine J.then_n ?_
          refine J.seq ?_
          refine J.region ?_
          refine J.q rfl rfl (Q.asg rfl) ?_
          refine J.nil ?_
          refine J.then_n ?_
          refine J.cret ?_
          refine J.keep [2, 1, 3] rfl ?_
          refine J.ret1 (B := [DiskAt p d, RefAt q r]) rfl rfl ⟨rfl, rfl⟩ rfl

end Go.Proofs.Ytkekcdcmmggbaaa
