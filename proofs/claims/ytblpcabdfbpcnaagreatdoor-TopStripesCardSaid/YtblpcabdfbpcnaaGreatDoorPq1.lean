/-
  What the proof of the last of these texts leans on: part 1 of 6.
-/
import Derived.Test.YtblpcabdfbpcnaaGreatDoorRows
import Derived.JoinedOf
import Derived.KernelRfl
import Derived.Test.YtblpcabdfbpcnaaGreatDoorProg
import Derived.Orders
import Derived.Scope
import Derived.WalkKit
import Derived.IntWalk
import Derived.Lib.Strings
import Derived.Laws.BytesString
import Derived.Laws.Append
import Derived.Laws.StructEq
set_option linter.unusedSectionVars false
set_option linter.unusedVariables false
set_option linter.unusedSimpArgs false
namespace Go.Proofs.YtblpcabdfbpcnaaGreatDoor
open Go

theorem grown_fix {P : Program} {l : List TypeId} (h : P.grow l = l) : ∀ n, P.grown n l = l
  | 0 => rfl
  | n + 1 => by
    show P.grown n (P.grow l) = l
    rw [h]; exact grown_fix h n
theorem book_of {P : Program} {t : TypeId} {a : List TypeId} {n : Nat} (hs : P.types.size = n + 1) (h1 : P.grow [t] = a) (h2 : P.grow a = a) : P.book t = a := by
  unfold Program.book
  rw [hs]
  show P.grown n (P.grow [t]) = a
  rw [h1]; exact grown_fix h2 n
theorem typesSize : Tryz.prog.types.size = 942 + 1 := by kernel_rfl
theorem bookB : Tryz.prog.book 22 = [22, 5] := book_of typesSize (by kernel_rfl) (by kernel_rfl)
theorem bookU : Tryz.prog.book 5 = [5] := book_of typesSize (by kernel_rfl) (by kernel_rfl)
theorem bookI : Tryz.prog.book 3 = [3] := book_of typesSize (by kernel_rfl) (by kernel_rfl)
theorem bookS : Tryz.prog.book 23 = [23, 3] := book_of typesSize (by kernel_rfl) (by kernel_rfl)
theorem bookL : Tryz.prog.book 4 = [4] := book_of typesSize (by kernel_rfl) (by kernel_rfl)
theorem readB : Tryz.prog.readableRec 22 = true := by unfold Program.readableRec; rw [bookB]; kernel_rfl
theorem readI : Tryz.prog.readableRec 3 = true := by unfold Program.readableRec; rw [bookI]; kernel_rfl
theorem readS : Tryz.prog.readableRec 23 = true := by unfold Program.readableRec; rw [bookS]; kernel_rfl
theorem readL : Tryz.prog.readableRec 4 = true := by unfold Program.readableRec; rw [bookL]; kernel_rfl
theorem mapsB : Tryz.prog.mapsRec 22 = false := by unfold Program.mapsRec; rw [bookB]; kernel_rfl
theorem mapsI : Tryz.prog.mapsRec 3 = false := by unfold Program.mapsRec; rw [bookI]; kernel_rfl
theorem mapsS : Tryz.prog.mapsRec 23 = false := by unfold Program.mapsRec; rw [bookS]; kernel_rfl
theorem ifacesB : Tryz.prog.ifacesRec 22 = false := by unfold Program.ifacesRec; rw [bookB]; kernel_rfl
theorem ifacesI : Tryz.prog.ifacesRec 3 = false := by unfold Program.ifacesRec; rw [bookI]; kernel_rfl
theorem ifacesS : Tryz.prog.ifacesRec 23 = false := by unfold Program.ifacesRec; rw [bookS]; kernel_rfl
theorem ifacesL : Tryz.prog.ifacesRec 4 = false := by unfold Program.ifacesRec; rw [bookL]; kernel_rfl
theorem partsB : Tryz.prog.partsOf 22 = [5] := by kernel_rfl
theorem partsU : Tryz.prog.partsOf 5 = [] := by kernel_rfl
theorem partsI : Tryz.prog.partsOf 3 = [] := by kernel_rfl
theorem partsS : Tryz.prog.partsOf 23 = [3] := by kernel_rfl
theorem partsL : Tryz.prog.partsOf 4 = [] := by kernel_rfl
theorem loopsB : Tryz.prog.loopsFrom 22 = false := by unfold Program.loopsFrom; rw [bookB]; simp [partsB, partsU, bookU]
theorem loopsI : Tryz.prog.loopsFrom 3 = false := by unfold Program.loopsFrom; rw [bookI]; simp [partsI]
theorem loopsS : Tryz.prog.loopsFrom 23 = false := by unfold Program.loopsFrom; rw [bookS]; simp [partsS, partsI, bookI]
theorem loopsL : Tryz.prog.loopsFrom 4 = false := by unfold Program.loopsFrom; rw [bookL]; simp [partsL]
theorem wideB : Tryz.prog.wideKeysFrom 22 = false := by unfold Program.wideKeysFrom; rw [bookB]; kernel_rfl
theorem wideI : Tryz.prog.wideKeysFrom 3 = false := by unfold Program.wideKeysFrom; rw [bookI]; kernel_rfl
theorem wideS : Tryz.prog.wideKeysFrom 23 = false := by unfold Program.wideKeysFrom; rw [bookS]; kernel_rfl
theorem wideL : Tryz.prog.wideKeysFrom 4 = false := by unfold Program.wideKeysFrom; rw [bookL]; kernel_rfl
theorem veilB : Tryz.prog.veiledRec 22 = false := by unfold Program.veiledRec; rw [bookB]; kernel_rfl
theorem veilI : Tryz.prog.veiledRec 3 = false := by unfold Program.veiledRec; rw [bookI]; kernel_rfl
theorem veilS : Tryz.prog.veiledRec 23 = false := by unfold Program.veiledRec; rw [bookS]; kernel_rfl
theorem veilL : Tryz.prog.veiledRec 4 = false := by unfold Program.veiledRec; rw [bookL]; kernel_rfl
theorem boolSmall : decide (4 < Tryz.prog.types.size) = true := by kernel_rfl
theorem fnParams : Tryz.f3.params = #[22, 3, 3, 23, 23, 23] := rfl
theorem fnResults : Tryz.f3.resultTypes = #[4] := rfl
theorem varTypes0 : Rows.topStripesSpec.plain.varTypes Tryz.prog = [] := rfl
theorem fact4 : Tryz.f3.params.all (Tryz.prog.readableRec ·) = true := by rw [fnParams]; simp [readB, readI, readS]
theorem fact14 : (Rows.topStripesRow.maps == (Tryz.f3.params.toList ++ Rows.topStripesSpec.plain.varTypes Tryz.prog).any (Tryz.prog.mapsRec ·)) = true := by rw [fnParams, varTypes0]; simp [mapsB, mapsI, mapsS, Rows.topStripesRow]
theorem fact15 : (Rows.topStripesRow.ifaces == (Tryz.f3.params.toList ++ Rows.topStripesSpec.plain.varTypes Tryz.prog).any (Tryz.prog.ifacesRec ·)) = true := by rw [fnParams, varTypes0]; simp [ifacesB, ifacesI, ifacesS, Rows.topStripesRow]
theorem fact17 : (Rows.topStripesRow.loops == (Tryz.f3.params.toList ++ Rows.topStripesSpec.plain.varTypes Tryz.prog).any (Tryz.prog.loopsFrom ·)) = true := by rw [fnParams, varTypes0]; simp [loopsB, loopsI, loopsS, Rows.topStripesRow]
theorem fact18 : (Rows.topStripesRow.wideKeys == (Tryz.f3.params.toList ++ Rows.topStripesSpec.plain.varTypes Tryz.prog ++ Tryz.f3.resultTypes.toList).any (Tryz.prog.wideKeysFrom ·)) = true := by rw [fnParams, varTypes0, fnResults]; simp [wideB, wideI, wideS, wideL, Rows.topStripesRow]
theorem fact20 : Tryz.f3.resultTypes.all (fun t => Tryz.prog.readableRec t && decide (t < Tryz.prog.types.size)) = true := by rw [fnResults]; simp only [List.all_toArray, List.all_cons, List.all_nil, readL, boolSmall]; rfl
theorem fact21 : (Rows.topStripesRow.ifacesOut == Tryz.f3.resultTypes.toList.any (Tryz.prog.ifacesRec ·)) = true := by rw [fnResults]; simp [ifacesL, Rows.topStripesRow]
theorem fact22 : (Rows.topStripesRow.loopsOut == Tryz.f3.resultTypes.toList.any (Tryz.prog.loopsFrom ·)) = true := by rw [fnResults]; simp [loopsL, Rows.topStripesRow]
theorem fact31 : (Rows.topStripesRow.veiled == (Tryz.f3.params.toList ++ Rows.topStripesSpec.plain.varTypes Tryz.prog ++ Tryz.f3.resultTypes.toList).any (Tryz.prog.veiledRec ·)) = true := by rw [fnParams, varTypes0, fnResults]; simp [veilB, veilI, veilS, veilL, Rows.topStripesRow]

theorem tenParts {f : Nat → Bool} (h1 : (List.range' 0 100).all f = true) (h2 : (List.range' 100 100).all f = true) (h3 : (List.range' 200 100).all f = true) (h4 : (List.range' 300 100).all f = true) (h5 : (List.range' 400 100).all f = true)
    (h6 : (List.range' 500 100).all f = true) (h7 : (List.range' 600 100).all f = true) (h8 : (List.range' 700 100).all f = true) (h9 : (List.range' 800 143).all f = true) : (List.range 943).all f = true := by
  have e : List.range 943 = List.range' 0 100 ++ (List.range' 100 100 ++ (List.range' 200 100 ++ (List.range' 300 100 ++ (List.range' 400 100 ++ (List.range' 500 100 ++ (List.range' 600 100 ++ (List.range' 700 100 ++ List.range' 800 143))))))) := by decide +kernel
  rw [e]
  simp only [List.all_append, h1, h2, h3, h4, h5, h6, h7, h8, h9, Bool.and_self]
theorem fine1 : (List.range' 0 100).all (rowFine Tryz.prog) = true := by kernel_rfl
theorem fine2 : (List.range' 100 100).all (rowFine Tryz.prog) = true := by kernel_rfl
theorem fine3 : (List.range' 200 100).all (rowFine Tryz.prog) = true := by kernel_rfl
theorem fine4 : (List.range' 300 100).all (rowFine Tryz.prog) = true := by kernel_rfl
theorem fine5 : (List.range' 400 100).all (rowFine Tryz.prog) = true := by kernel_rfl
theorem fine6 : (List.range' 500 100).all (rowFine Tryz.prog) = true := by kernel_rfl
theorem fine7 : (List.range' 600 100).all (rowFine Tryz.prog) = true := by kernel_rfl
theorem fine8 : (List.range' 700 100).all (rowFine Tryz.prog) = true := by kernel_rfl
theorem fine9 : (List.range' 800 143).all (rowFine Tryz.prog) = true := by kernel_rfl
theorem fineG : Tryz.prog.globals.all (fun g => decide (g.type < Tryz.prog.types.size)) = true := by kernel_rfl
theorem fineF : Tryz.prog.funcs.all (fun f => f.params.all fun t => decide (t < Tryz.prog.types.size)) = true := by kernel_rfl
theorem fact2 : laidOutB Tryz.prog = true := by
  have h : (List.range Tryz.prog.types.size).all (rowFine Tryz.prog) = true := by
    rw [typesSize]; exact tenParts fine1 fine2 fine3 fine4 fine5 fine6 fine7 fine8 fine9
  unfold laidOutB
  rw [h, fineG, fineF]; rfl

def forceN {α : Type} (n : Nat) (k : Nat → α) : α := match n with | 0 => k 0 | m + 1 => k (m + 1)
theorem forceN_eq {α : Type} (n : Nat) (k : Nat → α) : forceN n k = k n := by cases n <;> rfl
def eqNs : List Nat → List Nat → Bool
  | [], [] => true
  | a :: l, b :: m => Nat.beq a b && eqNs l m
  | _, _ => false
theorem eqNs_eq : ∀ {l m : List Nat}, eqNs l m = true → l = m
  | [], [], _ => rfl
  | [], _ :: _, h => by simp [eqNs] at h
  | _ :: _, [], h => by simp [eqNs] at h
  | a :: l, b :: m, h => by
    simp only [eqNs, Bool.and_eq_true] at h
    rw [Nat.eq_of_beq_eq_true h.1, eqNs_eq h.2]
def cv (lead : Nat → List Nat) : Nat → List Nat → List Nat → Nat → Option (List Nat)
  | _, [], seen, _ => some seen.reverse
  | 0, _ :: _, _, _ => none
  | n + 1, f :: todo, seen, mask => bif mask.testBit f then cv lead n todo seen mask else forceN (mask ||| 2 ^ f) fun mk => cv lead n (lead f ++ todo) (f :: seen) mk
theorem cv_ok {P : Program} {lead : Nat → List Nat} (hl : ∀ f, lead f = (P.funcs[f]?).elim [] P.leadsTo) : ∀ (n : Nat) (todo seen : List Nat) (mask : Nat) (r : List Nat), (∀ x, mask.testBit x = seen.contains x) → cv lead n todo seen mask = some r → ∀ m, n ≤ m → P.closureVia m todo seen = r
  | n, [], seen, mask, r, hm, h, m, hnm => by
    have h' : seen.reverse = r := by cases n <;> simpa [cv] using h
    cases m <;> simpa [Program.closureVia] using h'
  | 0, _ :: _, _, _, _, _, h, _, _ => by simp [cv] at h
  | n + 1, f :: todo, seen, mask, r, hm, h, 0, hnm => by omega
  | n + 1, f :: todo, seen, mask, r, hm, h, m + 1, hnm => by
    simp only [cv] at h
    unfold Program.closureVia
    rw [← hm f]
    cases hb : mask.testBit f with
    | true =>
      rw [hb] at h
      simp only [cond_true] at h
      simp only [if_true]
      exact cv_ok hl n todo seen mask r hm h m (by omega)
    | false =>
      rw [hb] at h
      simp only [cond_false, forceN_eq] at h
      simp only [Bool.false_eq_true, if_false]
      rw [← hl f]
      refine cv_ok hl n _ _ _ r (fun x => ?_) h m (by omega)
      rw [Nat.testBit_or, hm x, Nat.testBit_two_pow]
      simp only [List.contains_cons]
      by_cases e : f = x
      · subst e; simp
      · have e2 : (x == f) = false := by simpa using fun q => e q.symm
        simp [e, e2]

def leadT : List (List Nat) := [
  [], [], [1], [4, 5, 6, 7, 8, 9, 11, 10, 11, 12, 8, 9, 11, 10], [14, 13, 15, 5, 17, 16, 18, 19], [], [15, 20, 21, 23, 24], [15, 23, 25, 25, 19, 26], [27, 28, 27], [29, 30, 31], [15, 32, 33, 34, 23, 25, 25], [36, 35], [10, 15, 32, 37, 26, 39, 38], [40, 41, 42, 43, 44, 45, 46], [], [47], [48, 49], [], [50, 51, 52, 53, 54], [55, 56], [57], [22], [], [58], [], [], [36, 59], [60], [61], [], [62], [], [63], [32], [65, 64, 66, 67, 69, 68], [70], [71, 54, 72, 72], [73, 64, 66, 69, 56, 74, 70], [75], [],
  [76, 24, 77, 78, 79, 80], [81], [83, 82, 70], [24, 70, 84, 70], [70], [], [85, 86, 87, 88, 89], [91, 90], [94, 95, 24, 96, 97, 98, 99, 100, 101, 102], [103, 104], [105, 106, 107, 107, 107, 108], [], [109, 109, 54, 53, 54, 54, 53, 110, 53, 109], [71, 72], [111], [70], [112, 64, 66, 113, 67, 114], [], [], [115, 115, 25, 117, 116], [], [119, 118], [120, 118, 122], [123, 59, 123, 15, 124, 125, 126], [], [], [67, 67], [], [127], [113, 128, 67, 129, 114], [], [130], [131, 121, 121, 121, 121, 121, 132, 133, 134, 134, 134, 135, 133, 135], [], [], [], [15, 94], [], [5], [136, 35, 137, 138],
  [16, 136, 139], [140, 141, 142, 143, 144, 145, 146, 147], [148, 149], [150], [], [151], [152, 153], [], [154, 89, 155], [], [], [93, 92], [156, 157], [], [158], [159, 62, 161, 160, 162, 163], [24, 164], [165], [166, 35, 167], [168, 169, 170, 35, 171, 172, 170, 28, 169, 170, 27, 173, 170, 163], [173, 170, 163], [174, 176], [177], [178], [175], [], [107], [], [], [179], [132, 133, 133, 133, 135], [180], [], [181, 182], [183], [184], [115, 23, 185], [186, 115], [187], [],
  [121], [188], [190, 189], [191, 70], [192], [175, 70], [], [], [90, 193], [194, 195, 90, 128, 196, 198, 197, 199, 92, 200, 202], [204, 205, 206, 207], [208, 209], [210, 211], [210], [], [], [], [212, 213, 214], [215], [], [216, 217, 218, 219, 220], [221, 222, 223, 224, 225], [226, 227, 228, 229, 230], [226, 232, 231, 233, 234, 236, 235, 237], [238, 79, 80, 30, 31, 30], [228, 239, 240, 241, 242, 243], [217, 245, 244], [142, 246, 222, 223], [247], [190, 248], [], [104, 104, 249, 250, 250, 250, 249, 104, 251, 252, 50, 219, 192, 253, 254, 255, 192], [], [50, 256, 257, 258, 259, 257, 258], [], [260, 261], [157], [], [], [35, 262, 263, 264, 162, 35, 171, 265, 266, 267],
  [268, 269], [270], [271], [61], [273, 274, 272], [275], [271], [23, 276, 276, 276, 123, 277, 278, 279, 280, 116, 261, 116, 261, 276], [], [170, 35], [54], [191, 70], [163, 27, 28, 170, 281], [62, 161, 160, 170], [175], [], [125], [70, 283, 282, 284, 284], [285], [], [204, 205, 206, 207], [], [], [157], [], [], [], [], [], [286, 287, 288, 289, 290, 291, 292, 293, 294, 189, 189], [295, 296], [175, 23, 185, 261], [], [], [298, 297], [], [], [], [], [],
  [201], [157], [203], [157, 93], [], [296, 299, 300], [], [301, 302], [], [], [303], [304], [175], [212], [213, 212, 305], [70], [306, 307, 308, 18, 309, 310, 309, 70, 18, 192, 309], [311, 54, 53, 184, 53, 54, 109, 54], [313, 312], [314, 315, 314, 316, 317], [318, 319], [246], [320, 321], [226, 228, 322, 323, 324, 325], [222], [320, 70], [], [326, 327, 231, 234, 328, 319, 319], [], [330, 329, 331, 332, 333, 334, 233, 319], [335, 220], [237, 319], [336, 337, 338, 339, 340], [136], [341, 342, 343], [344], [345], [347, 346, 192, 163, 27, 137, 138, 28, 281], [], [348, 97, 351, 350, 349, 352, 354, 353, 166, 163, 354, 100, 98, 96],
  [97, 355, 356, 350, 358, 357, 349, 353, 166, 163, 166, 163, 98], [360, 359, 361, 362, 363, 364], [365, 334, 332, 366, 367, 6, 7, 368, 331], [369, 334, 368, 319], [312], [], [370, 371], [], [373, 374, 375, 376, 377, 378, 379, 380, 381, 248, 248], [104], [252], [249, 249], [125], [250, 250, 104, 104, 249, 249, 249, 249, 251], [50], [314, 382], [], [], [84, 70], [383, 384, 385, 386, 387, 388, 389, 390, 391, 392], [], [], [393, 394], [162, 395, 54, 395, 281, 162, 163, 163], [160, 54], [397, 396, 400, 396, 401, 398, 398], [165, 402], [403, 263, 162, 163], [404], [405, 406, 407, 408], [188], [54], [], [409, 409], [410, 410], [], [], [411], [412, 413], [415],
  [117, 115, 115], [60], [416], [], [], [97], [292], [417, 417], [418, 419], [420, 420, 420, 421], [], [292, 292, 292], [409, 409], [292, 292], [292, 292, 292, 292], [], [], [197], [], [], [], [], [422, 423], [], [], [125], [], [424, 192, 425, 424, 192, 426, 425, 424, 192, 427], [428, 309, 428, 309, 429, 430, 309, 431, 309, 430, 309], [], [361, 71], [432], [], [], [115], [317], [314], [117], [433], [115, 115, 115, 117, 434],
  [435], [436], [437, 125], [438, 231, 234, 439, 236, 235, 237], [440, 329, 151, 319, 441, 329, 442, 443, 329, 444, 445, 319, 446, 36, 35, 319, 447], [442, 448, 448, 218, 146, 218, 449, 146, 335, 450, 451], [], [339, 452], [345, 345, 345, 345], [319, 453], [454, 334, 455, 455], [319], [456, 24], [458, 457], [459], [319], [], [344, 327], [], [], [460], [70], [461, 461, 461, 461, 462], [463, 439], [70, 464], [115], [466, 465], [215], [], [467, 166, 163, 27, 28], [468], [469], [470, 170, 27], [266, 162, 471, 116, 27, 162, 28], [], [158, 472, 473, 472, 473], [474], [475, 476, 477, 478], [], [479, 161],
  [480], [481, 269], [482, 483, 484, 485, 360], [486], [487, 163], [488], [489], [490, 491], [493, 492], [488], [190, 494], [372, 372, 272], [495, 495], [379], [496, 496], [418, 419], [497, 497, 497, 498], [], [379, 379, 379], [410, 410], [379, 379], [379, 379, 379, 379], [315, 314, 316, 316], [499, 256, 256], [499, 256, 256, 256], [499, 256, 70, 256], [256, 70], [256, 256], [499, 256, 256, 500, 121], [499, 256], [256, 70, 256], [256, 256, 256], [256, 256], [], [394], [163, 27, 28], [501], [398, 398, 399, 399, 398], [501], [125, 502],
  [398], [175, 502], [503, 504, 275, 506, 505, 503, 507, 508, 509, 510, 272, 272], [471, 116], [481], [511], [511], [511, 54, 512], [511, 54, 512], [], [], [513, 514, 515, 513], [], [414], [273, 274, 272], [23, 23], [], [292, 292], [190], [], [421], [516, 516, 516], [], [], [517], [], [], [518], [519], [430, 520, 521, 522, 523, 524, 522, 521, 521, 524, 524, 525, 309], [526], [361, 53], [], [], [527, 70], [], [], [175], [528, 340, 336, 529, 340, 530, 531, 532], [533, 534, 535, 463, 333, 536, 537, 538, 539, 540],
  [541, 542], [543, 459, 544, 454, 545, 546, 547], [461, 549, 548, 551, 548, 462, 533], [533, 552, 552, 553, 334, 456, 24, 459, 553, 334, 554, 330], [307], [163, 27, 28, 281], [555, 556, 38, 557, 492, 332, 255, 220], [555, 558, 12, 559, 492, 331], [], [249, 104, 249, 250, 560, 252, 560, 253, 311, 254, 155, 561, 192], [], [33, 558, 10, 146, 146], [340], [70, 151, 319], [562], [115, 115, 115, 117], [], [], [], [333], [466, 466, 563, 466, 466, 465, 563, 466, 466], [550], [], [456, 24], [565, 564], [115, 115, 117], [115], [278, 566, 116, 280, 116, 279, 116, 567, 567, 567, 23, 567], [], [568, 350, 569], [170, 28], [115, 115, 115, 117, 117, 115, 115, 115, 115, 115, 115], [], [571, 572, 573, 571, 573], [574, 575], [278, 578, 577], [278, 579, 580, 581], [], [], [285, 121, 475, 121],
  [71, 72], [582, 582, 582, 582, 582, 582, 583], [483, 175], [480], [], [483, 480], [585, 584, 470, 102, 586, 239], [62, 588, 587], [359, 522, 589, 590, 591], [592], [593, 103, 589], [594], [595], [], [596, 597, 598, 599, 600, 601, 602, 603, 494, 494], [], [379, 379], [498], [604, 604, 604], [], [606, 605], [401], [], [607, 587], [608], [609], [504], [190, 610], [372, 273, 372, 272], [], [], [], [], [125, 515], [175, 515], [], [292], [], [], [611, 612, 613],
  [431, 309, 430, 525, 309, 430, 428, 525, 309, 309], [522, 309], [614], [613], [615, 309], [160, 54], [188], [], [616, 616, 212, 212, 212, 616, 212, 616, 212, 616, 214, 617, 212, 616], [338], [337], [336, 340, 340], [464, 452], [538, 534, 535, 619, 618, 534], [], [], [620, 621, 621], [], [618, 622], [623, 624], [], [625, 334], [553, 547, 70, 454, 455], [175, 125], [626], [334, 553, 547, 547, 542], [334, 553, 554, 544, 455, 553, 547], [544, 455], [461], [461, 461, 550], [175], [461], [], [627, 459], [], [], [], [], [628], [],
  [249], [316, 314, 315, 629, 317, 629, 382], [333, 433], [], [630, 631], [632], [117, 115, 117], [], [633], [570], [70], [], [], [472, 634, 505], [635, 414], [576], [70], [414, 581, 414], [], [636], [], [70], [], [582, 582, 582, 582, 582, 582], [170, 637, 27], [115, 115, 115, 117, 117], [], [609], [166], [104, 249, 560, 253, 249, 104], [190, 638], [273, 273, 272], [], [], [482, 639, 23], [], [], [640, 640], [418, 419], [641, 641, 641, 642],
  [], [], [], [], [379], [643, 122], [644], [], [], [], [645, 646, 647, 648, 649, 650, 651, 652, 610, 610], [653, 654], [653, 655, 613], [656], [656], [657, 657, 109], [213], [], [457], [], [495, 495], [], [], [], [658], [318, 459], [333, 433], [433], [], [316], [659], [190, 660], [], [416], [], [], [], [116], [661, 662, 663, 664, 665, 666, 667, 668, 638, 638], [482, 669],
  [], [642], [670, 670, 670], [671], [], [], [672, 672], [418, 419], [673, 673, 673, 674], [], [], [], [], [], [675], [], [676, 677, 676, 426, 677, 678], [676], [679, 679, 679], [], [680, 681, 682, 683, 684, 685, 620, 686, 687, 660, 660], [], [688, 688], [418, 419], [689, 689, 689, 690], [], [], [], [], [485, 691, 23, 692], [], [], [], [674], [693, 693, 693], [], [694], [], [695], [],
  [620], [696, 696], [418, 419], [697, 697, 697, 698], [], [620, 620, 620], [620, 620], [620, 620, 620, 620], [], [690], [699, 699, 699], [], [], [], [], [], [620, 620], [698], [700, 700, 700], [], [620], [], [], [], [], [], [], [], [], [], [], [], [], [], [], [], [], [], [], [727, 103],
  [479, 161, 361], [728, 359, 363, 49], [316, 629, 363], [103, 104, 560], [151, 49, 729, 730, 727, 70, 731, 115, 731, 486, 561], [359, 315, 317, 116], [479, 727, 363], [732], [123, 250, 252, 733], [490, 734, 593, 735, 731], [257, 736, 103, 249, 104, 737, 316, 314, 736, 731], [], [71, 72], [738], [739], [314, 316, 629, 382, 316, 314], [732], [740, 103, 741, 740, 731, 741, 742, 741, 743, 744, 745, 593, 735, 731, 741, 744, 741, 741, 746, 315, 747, 731, 748], [749, 750, 751, 752, 749], [482, 483, 753, 360, 360], [], [], [747, 103, 741, 250, 250, 754, 103, 755, 734, 745, 314, 316, 754, 731, 741, 756, 757, 359, 755, 734, 757, 758, 747, 758, 741], [593, 479, 359, 250, 741, 740, 758, 741], [490, 734, 593, 758], [759, 115, 731], [593, 479, 161], [732], [490, 741, 491, 741], [657, 760, 657, 426, 677], [], [], [], [115, 115, 115, 692], [54, 757, 72], [104, 249], [754, 103, 741, 755, 757, 359, 755, 761, 734, 757, 758, 744, 593, 735, 731, 747, 758, 741], [732], [], [23, 483, 753, 484, 691, 485, 23, 692],
  [], [762], [], [228, 718], [], [], [568, 570], [], [173], [], [], [153], [], [574, 576], [], [], [], [], [], [], [], [], [], [], [], [], [], [], [], [], [], [], [], [], [], [], [], [], [], [],
  [], [], [], [512, 512]]
def leadF (f : Nat) : List Nat := match leadT[f]? with | some l => l | none => []
theorem lead0 : (List.range' 0 67).all (fun g => eqNs (leadF g) ((Tryz.prog.funcs[g]?).elim [] Tryz.prog.leadsTo)) = true := by kernel_rfl
theorem lead1 : (List.range' 67 67).all (fun g => eqNs (leadF g) ((Tryz.prog.funcs[g]?).elim [] Tryz.prog.leadsTo)) = true := by kernel_rfl
theorem lead2 : (List.range' 134 67).all (fun g => eqNs (leadF g) ((Tryz.prog.funcs[g]?).elim [] Tryz.prog.leadsTo)) = true := by kernel_rfl
theorem lead3 : (List.range' 201 67).all (fun g => eqNs (leadF g) ((Tryz.prog.funcs[g]?).elim [] Tryz.prog.leadsTo)) = true := by kernel_rfl
theorem lead4 : (List.range' 268 67).all (fun g => eqNs (leadF g) ((Tryz.prog.funcs[g]?).elim [] Tryz.prog.leadsTo)) = true := by kernel_rfl
theorem lead5 : (List.range' 335 67).all (fun g => eqNs (leadF g) ((Tryz.prog.funcs[g]?).elim [] Tryz.prog.leadsTo)) = true := by kernel_rfl
theorem lead6 : (List.range' 402 67).all (fun g => eqNs (leadF g) ((Tryz.prog.funcs[g]?).elim [] Tryz.prog.leadsTo)) = true := by kernel_rfl
theorem lead7 : (List.range' 469 67).all (fun g => eqNs (leadF g) ((Tryz.prog.funcs[g]?).elim [] Tryz.prog.leadsTo)) = true := by kernel_rfl
theorem lead8 : (List.range' 536 67).all (fun g => eqNs (leadF g) ((Tryz.prog.funcs[g]?).elim [] Tryz.prog.leadsTo)) = true := by kernel_rfl
theorem lead9 : (List.range' 603 67).all (fun g => eqNs (leadF g) ((Tryz.prog.funcs[g]?).elim [] Tryz.prog.leadsTo)) = true := by kernel_rfl
theorem lead10 : (List.range' 670 67).all (fun g => eqNs (leadF g) ((Tryz.prog.funcs[g]?).elim [] Tryz.prog.leadsTo)) = true := by kernel_rfl
theorem lead11 : (List.range' 737 67).all (fun g => eqNs (leadF g) ((Tryz.prog.funcs[g]?).elim [] Tryz.prog.leadsTo)) = true := by kernel_rfl
theorem funcsSize : Tryz.prog.funcs.size = 804 := by kernel_rfl
theorem leadSize : leadT.length = 804 := by decide +kernel
theorem leadAll : ∀ f, leadF f = (Tryz.prog.funcs[f]?).elim [] Tryz.prog.leadsTo := by
  intro f
  rcases Nat.lt_or_ge f 67 with h0 | h0
  · exact eqNs_eq (List.all_eq_true.1 lead0 f (List.mem_range'_1.2 ⟨by omega, by omega⟩))
  rcases Nat.lt_or_ge f 134 with h1 | h1
  · exact eqNs_eq (List.all_eq_true.1 lead1 f (List.mem_range'_1.2 ⟨by omega, by omega⟩))
  rcases Nat.lt_or_ge f 201 with h2 | h2
  · exact eqNs_eq (List.all_eq_true.1 lead2 f (List.mem_range'_1.2 ⟨by omega, by omega⟩))
  rcases Nat.lt_or_ge f 268 with h3 | h3
  · exact eqNs_eq (List.all_eq_true.1 lead3 f (List.mem_range'_1.2 ⟨by omega, by omega⟩))
  rcases Nat.lt_or_ge f 335 with h4 | h4
  · exact eqNs_eq (List.all_eq_true.1 lead4 f (List.mem_range'_1.2 ⟨by omega, by omega⟩))
  rcases Nat.lt_or_ge f 402 with h5 | h5
  · exact eqNs_eq (List.all_eq_true.1 lead5 f (List.mem_range'_1.2 ⟨by omega, by omega⟩))
  rcases Nat.lt_or_ge f 469 with h6 | h6
  · exact eqNs_eq (List.all_eq_true.1 lead6 f (List.mem_range'_1.2 ⟨by omega, by omega⟩))
  rcases Nat.lt_or_ge f 536 with h7 | h7
  · exact eqNs_eq (List.all_eq_true.1 lead7 f (List.mem_range'_1.2 ⟨by omega, by omega⟩))
  rcases Nat.lt_or_ge f 603 with h8 | h8
  · exact eqNs_eq (List.all_eq_true.1 lead8 f (List.mem_range'_1.2 ⟨by omega, by omega⟩))
  rcases Nat.lt_or_ge f 670 with h9 | h9
  · exact eqNs_eq (List.all_eq_true.1 lead9 f (List.mem_range'_1.2 ⟨by omega, by omega⟩))
  rcases Nat.lt_or_ge f 737 with h10 | h10
  · exact eqNs_eq (List.all_eq_true.1 lead10 f (List.mem_range'_1.2 ⟨by omega, by omega⟩))
  rcases Nat.lt_or_ge f 804 with h11 | h11
  · exact eqNs_eq (List.all_eq_true.1 lead11 f (List.mem_range'_1.2 ⟨by omega, by omega⟩))
  · unfold leadF
    rw [List.getElem?_eq_none (by rw [leadSize]; omega), Array.getElem?_eq_none (by rw [funcsSize]; omega)]; rfl
def reached : List Nat := [3, 4, 14, 13, 40, 76, 15, 47, 91, 93, 92, 156, 157, 90, 94, 158, 24, 77, 78, 5, 79, 136, 35, 70, 137, 212, 175, 213, 214, 305, 125, 138, 215, 80, 16, 48, 95, 159, 262, 393, 394, 263, 162, 271, 54, 111, 180, 204, 205, 296, 299, 300, 206, 207, 301, 302, 422, 423, 395, 163, 61, 119, 118, 187, 27, 60, 28, 281, 264, 160, 268, 404, 481, 582, 583, 269, 405, 511, 406, 407, 512, 408, 171, 191, 23, 58, 185, 261, 265, 397, 398, 501, 401, 502, 399, 396, 400, 266, 165, 275, 402, 503, 607, 587, 609, 504, 608, 506, 505, 507, 190, 295, 610, 645, 646, 672, 647, 418, 419, 648, 673, 674, 693, 649, 650, 651, 652, 508, 372, 495, 273, 409, 272, 509, 510, 267, 403, 471, 115, 184, 117, 186, 116, 62, 120, 121, 188, 122, 189, 286, 292, 287, 417, 288, 289, 420, 421, 516, 290, 291, 293, 294, 161, 270, 96, 164, 274, 410, 97, 98, 166, 167, 276, 123, 277, 411, 513, 515, 514, 278, 412, 413, 414, 279, 415, 280, 99, 168, 169, 170, 172, 173, 100, 101, 174, 176, 102, 177, 283, 282, 416, 284, 49, 103, 178, 285, 104, 139, 41, 81, 140, 216, 306, 307, 424, 517, 192, 425, 426, 427, 518, 308, 428, 519, 611, 653, 654, 675, 612, 655, 613, 656, 676, 694, 677, 678, 695, 309, 429, 430, 526, 520, 431, 361, 53, 71, 130, 72, 131, 208, 209, 132, 210, 303, 211, 304, 133, 134, 135, 525, 521, 522, 614, 523, 524, 615, 657, 109, 179, 18, 50, 105, 106, 107, 108, 51, 52, 110, 310, 217, 311, 432, 218, 313, 312, 219, 314, 315, 317, 316, 220, 318, 433, 319, 434, 527, 141, 221, 246, 370, 494, 596, 597, 640, 598, 599, 641, 642, 670, 600, 601, 602, 603, 371, 222, 320, 435, 321, 436, 223, 226, 228, 322, 437, 323, 438, 528, 616, 617, 340, 460, 466, 563, 465, 336, 529, 338, 530, 337, 344, 464, 565, 632, 564, 630, 659, 631, 660, 680, 620, 681, 696, 682, 683, 697, 698, 700, 684, 685, 686, 687, 327, 339, 452, 531, 532, 231, 237, 347, 346, 234, 341, 342, 461, 550, 462, 343, 463, 456, 439, 533, 538, 618, 457, 622, 534, 535, 619, 333, 458, 536, 621, 537, 539, 623, 624, 658, 679, 540, 236, 345, 235, 324, 440, 541, 625, 459, 334, 542, 553, 627, 547, 544, 626, 455, 454, 562, 329, 453, 151, 249, 250, 252, 251, 253, 254, 255, 382, 441, 543, 545, 546, 554, 442, 549, 548, 551, 443, 552, 330, 444, 445, 446, 555, 556, 38, 75, 557, 492, 595, 332, 36, 447, 558, 628, 12, 10, 32, 63, 59, 25, 124, 126, 33, 34, 65, 64, 66, 67, 69, 113, 181, 182, 128, 193, 129, 194, 298, 297, 197, 195, 196, 198, 199, 200, 201, 202, 203, 114, 183, 68, 127, 37, 73, 56, 112, 74, 26, 39, 559, 331, 325, 448, 146, 245, 244, 449, 560, 155, 260, 561, 629, 335, 450, 451, 224, 225, 142, 227, 326, 328, 229, 233, 230, 143, 232, 144, 238, 30, 31, 145, 239, 348, 351, 469, 568, 633, 350, 468, 569, 570, 349, 467, 566, 567, 352, 470, 354, 353, 240, 355, 472, 473, 571, 572, 573, 634, 356, 474, 574, 635, 575, 576, 358, 357, 475, 578, 577, 581, 476, 579, 636, 580, 477, 478, 241, 360, 480, 359, 479, 362, 482, 483, 484, 485, 363, 486, 585, 584, 637, 586, 364, 487, 588, 242, 365, 488, 589, 590, 638, 661, 662, 688, 663, 664, 689, 690, 699, 665, 666, 667, 668, 591, 366, 489, 592, 367, 490, 593, 491, 594, 639, 669, 691, 692, 6, 20, 57, 21, 22, 7, 19, 55, 368, 493, 243, 369, 147, 42, 83, 150, 82, 148, 247, 149, 248, 373, 379, 374, 496, 375, 376, 497, 498, 604, 377, 378, 380, 381, 43, 84, 44, 45, 46, 85, 86, 152, 153, 256, 257, 258, 259, 383, 499, 384, 385, 386, 387, 388, 500, 606, 644, 605, 643, 671, 389, 390, 391, 392, 87, 88, 154, 89, 17, 8, 9, 29, 11]
theorem reachedRun : (match cv leadF 1542 [3] [] 0 with | some r => eqNs r reached | none => false) = true := by kernel_rfl
theorem fuelFew : 1542 ≤ 1 + (Tryz.prog.funcs.toList.map fun g => (Tryz.prog.leadsTo g).length + 1).sum := by
  have h1 : (Tryz.prog.funcs.toList.map fun g => (Tryz.prog.leadsTo g).length + 1) = leadT.map fun l => l.length + 1 := by
    refine List.ext_getElem? fun i => ?_
    rw [List.getElem?_map, List.getElem?_map, Array.getElem?_toList]
    have h := leadAll i
    unfold leadF at h
    rcases Nat.lt_or_ge i 804 with hi | hi
    · obtain ⟨g, hg⟩ : ∃ g, Tryz.prog.funcs[i]? = some g := ⟨_, Array.getElem?_eq_getElem (by rw [funcsSize]; exact hi)⟩
      obtain ⟨l, hl⟩ : ∃ l, leadT[i]? = some l := ⟨_, List.getElem?_eq_getElem (by rw [leadSize]; exact hi)⟩
      rw [hg, hl] at h ⊢
      simp only [Option.elim] at h
      simp only [Option.map_some, ← h]
    · rw [List.getElem?_eq_none (by rw [leadSize]; exact hi), Array.getElem?_eq_none (by rw [funcsSize]; exact hi)]; rfl
  rw [h1]
  decide +kernel
theorem closureEq : Tryz.prog.closure 3 = reached := by
  have h := reachedRun
  cases hc : cv leadF 1542 [3] [] 0 with
  | none => rw [hc] at h; cases h
  | some r =>
    rw [hc] at h
    unfold Program.closure
    rw [cv_ok leadAll 1542 _ _ 0 r (fun x => by simp) hc _ fuelFew]
    exact eqNs_eq h

theorem unfollowedYes : Tryz.prog.unfollowed 3 = true := by unfold Program.unfollowed; rw [closureEq]; kernel_rfl
theorem fact10 : (Rows.topStripesRow.inPlace == Tryz.prog.inPlace 3) = true := by unfold Program.inPlace; rw [closureEq]; kernel_rfl
theorem fact11 : (Rows.topStripesRow.unfollowed == Tryz.prog.unfollowed 3) = true := by rw [unfollowedYes]; rfl
theorem fact12 : (Rows.topStripesRow.recurses == Tryz.prog.recurses 3) = true := by unfold Program.recurses; rw [unfollowedYes, Bool.true_or]; rfl
theorem fact13 : (Rows.topStripesRow.named == Tryz.prog.varsNamed 3) = true := by unfold Program.varsNamed; rw [closureEq]; kernel_rfl

theorem bookE : Tryz.prog.book 68 = [68] := book_of typesSize (by kernel_rfl) (by kernel_rfl)
theorem fact1 : Rows.topStripesRow.wf (OpenSpec.ofChange Rows.topStripesSpec) = true := by kernel_rfl
theorem fact3 : mapsRowed Tryz.prog = true := by kernel_rfl
theorem fact5 : namedTie Tryz.prog Rows.topStripesRow.named Rows.topStripesSpec.vars = true := by kernel_rfl
theorem fact7 : (Tryz.prog.stops == []) = true := by kernel_rfl
theorem fact9 : (Tryz.prog.stopKnobs == []) = true := by kernel_rfl
theorem fact16 : (Rows.topStripesRow.mapsOut == Tryz.prog.mapsAmong Tryz.f3.resultTypes.toList) = true := by kernel_rfl
theorem fact19 : Rows.topStripesSpec.vars.all (Tryz.prog.varReadable ·) = true := by kernel_rfl
theorem fact23 : (Rows.topStripesRow.plainKeys == Tryz.prog.plainKeys) = true := by kernel_rfl
theorem fact25 : Tryz.prog.stopsHeard = true := by kernel_rfl
theorem fact26 : Tryz.prog.mayEnter = true := by kernel_rfl
theorem fact27 : (Rows.topStripesRow.lifted == Tryz.prog.liftsFinal) = true := by kernel_rfl
theorem fact28 : (Tryz.prog.make == some Rows.topStripesRow.make) = true := by kernel_rfl
theorem fact30 : (Rows.topStripesRow.pinned == Rows.topStripesRow.pinnedBy) = true := by kernel_rfl
theorem laidTypes : (Rows.topStripesRow.laid.filterMap fun x => (Tryz.prog.globalNamed x.1).bind fun g => (Tryz.prog.globals[g]?).map (·.type)) = [495, 740, 741, 68, 68, 344, 881] := by kernel_rfl
theorem bookA1 : Tryz.prog.book 495 = [495, 30] := book_of typesSize (by kernel_rfl) (by kernel_rfl)
theorem bookA2 : Tryz.prog.book 740 = [740, 5] := book_of typesSize (by kernel_rfl) (by kernel_rfl)
theorem bookA3 : Tryz.prog.book 741 = [741, 5] := book_of typesSize (by kernel_rfl) (by kernel_rfl)
theorem bookA4 : Tryz.prog.book 344 = [344, 5] := book_of typesSize (by kernel_rfl) (by kernel_rfl)
theorem veilA1 : Tryz.prog.veiledRec 495 = false := by unfold Program.veiledRec; rw [bookA1]; kernel_rfl
theorem veilA2 : Tryz.prog.veiledRec 740 = false := by unfold Program.veiledRec; rw [bookA2]; kernel_rfl
theorem veilA3 : Tryz.prog.veiledRec 741 = false := by unfold Program.veiledRec; rw [bookA3]; kernel_rfl
theorem veilA4 : Tryz.prog.veiledRec 344 = false := by unfold Program.veiledRec; rw [bookA4]; kernel_rfl
theorem veilE : Tryz.prog.veiledRec 68 = false := by unfold Program.veiledRec; rw [bookE]; kernel_rfl
theorem book_of2 {P : Program} {t : TypeId} {a b : List TypeId} {n : Nat} (hs : P.types.size = n + 2) (h1 : P.grow [t] = a) (h2 : P.grow a = b) (h3 : P.grow b = b) : P.book t = b := by
  unfold Program.book
  rw [hs]
  show P.grown n (P.grow (P.grow [t])) = b
  rw [h1, h2]; exact grown_fix h3 n
theorem bookA5 : Tryz.prog.book 881 = [881, 880, 5] := book_of2 (n := 941) typesSize (a := [881, 880]) (by kernel_rfl) (by kernel_rfl) (by kernel_rfl)
theorem veilA5 : Tryz.prog.veiledRec 881 = false := by unfold Program.veiledRec; rw [bookA5]; kernel_rfl
theorem fact32 : Rows.topStripesRow.veiledFits Tryz.prog Tryz.f3.params.toList (Tryz.f3.params.toList ++ Rows.topStripesSpec.plain.varTypes Tryz.prog ++ Tryz.f3.resultTypes.toList) = true := by
  unfold OpenClaim.veiledFits
  rw [laidTypes, fnParams, varTypes0, fnResults]
  simp [Program.veiledOwn, veilB, veilI, veilS, veilL, veilA1, veilA2, veilA3, veilA4, veilA5, veilE, Rows.topStripesRow]
end Go.Proofs.YtblpcabdfbpcnaaGreatDoor
namespace Go.X
set_option linter.unusedSectionVars false
set_option linter.unusedSimpArgs false
set_option linter.unusedVariables false


abbrev Hp := Nat → Option Obj
abbrev Assn := Hp → Prop

def Sub (h k : Hp) : Prop := ∀ b o, h b = some o → k b = some o
def Dis (h k : Hp) : Prop := ∀ b, h b = none ∨ k b = none

theorem Sub.refl (h : Hp) : Sub h h := fun _ _ e => e
theorem Sub.trans {h k l : Hp} (a : Sub h k) (b : Sub k l) : Sub h l := fun x o e => b x o (a x o e)
theorem Dis.symm {h k : Hp} (a : Dis h k) : Dis k h := fun b => (a b).symm
theorem Dis.mono {h k h' k' : Hp} (a : Dis h k) (s : Sub h' h) (t : Sub k' k) : Dis h' k' := by
  intro b
  rcases a b with e | e
  · left
    cases x : h' b with
    | none => rfl
    | some o => have := s b o x; rw [e] at this; cases this
  · right
    cases x : k' b with
    | none => rfl
    | some o => have := t b o x; rw [e] at this; cases this

def join (h k : Hp) : Hp := fun b => match h b with | some o => some o | none => k b

theorem join_left (h k : Hp) : Sub h (join h k) := by intro b o e; simp [join, e]
theorem join_right {h k : Hp} (d : Dis h k) : Sub k (join h k) := by
  intro b o e
  rcases d b with x | x
  · simp [join, x, e]
  · rw [e] at x; cases x
theorem join_sub {h k l : Hp} (a : Sub h l) (b : Sub k l) : Sub (join h k) l := by
  intro x o e
  simp only [join] at e
  cases y : h x with
  | some p => rw [y] at e; cases e; exact a x _ y
  | none => rw [y] at e; exact b x o e
theorem join_dis {h k l : Hp} (a : Dis h l) (b : Dis k l) : Dis (join h k) l := by
  intro x
  rcases a x with e | e
  · rcases b x with f | f
    · left; simp [join, e, f]
    · right; exact f
  · right; exact e

def HSat (h : Hp) : List Assn → Prop
  | [] => True
  | A :: As => ∃ h1 h2 : Hp, A h1 ∧ HSat h2 As ∧ Dis h1 h2 ∧ Sub h1 h ∧ Sub h2 h

theorem HSat.mono {h k : Hp} : ∀ {As : List Assn}, HSat h As → Sub h k → HSat k As
  | [], _, _ => trivial
  | _ :: _, ⟨h1, h2, a, b, d, s, t⟩, u => ⟨h1, h2, a, b, d, s.trans u, t.trans u⟩

theorem HSat.tail {h : Hp} {A : Assn} {As : List Assn} (s : HSat h (A :: As)) : HSat h As := by
  obtain ⟨h1, h2, a, b, d, x, y⟩ := s
  exact b.mono y

theorem HSat.swap {h : Hp} {A B : Assn} {As : List Assn} (s : HSat h (A :: B :: As)) : HSat h (B :: A :: As) := by
  obtain ⟨h1, h2, a, ⟨k1, k2, b, c, d', s', t'⟩, d, s, t⟩ := s
  refine ⟨k1, join h1 k2, b, ⟨h1, k2, a, c, d.mono (Sub.refl _) t', join_left _ _, join_right (d.mono (Sub.refl _) t')⟩, ?_, s'.trans t, join_sub s (t'.trans t)⟩
  exact (join_dis (d.mono (Sub.refl _) s') d'.symm).symm

theorem HSat.under {h : Hp} {A : Assn} {As Bs : List Assn} (s : HSat h (A :: As)) (f : ∀ k, HSat k As → HSat k Bs) : HSat h (A :: Bs) := by
  obtain ⟨h1, h2, a, b, d, x, y⟩ := s
  exact ⟨h1, h2, a, f _ b, d, x, y⟩

theorem HSat.perm {As Bs : List Assn} (p : As.Perm Bs) : ∀ {h : Hp}, HSat h As → HSat h Bs := by
  induction p with
  | nil => exact fun s => s
  | cons x _ ih => exact fun s => s.under (fun _ => ih)
  | swap x y l => exact fun s => s.swap
  | trans _ _ ih1 ih2 => exact fun s => ih2 (ih1 s)

theorem HSat.append {h : Hp} : ∀ {As Bs : List Assn}, HSat h (As ++ Bs) → ∃ h1 h2, HSat h1 As ∧ HSat h2 Bs ∧ Dis h1 h2 ∧ Sub h1 h ∧ Sub h2 h
  | [], _, s => ⟨fun _ => none, h, trivial, s, fun _ => Or.inl rfl, (fun _ _ e => nomatch e), Sub.refl _⟩
  | A :: As, Bs, ⟨h1, h2, a, b, d, x, y⟩ => by
    obtain ⟨k1, k2, c, e, f, g, i⟩ := HSat.append b
    refine ⟨join h1 k1, k2, ⟨h1, k1, a, c, d.mono (Sub.refl _) g, join_left _ _, join_right (d.mono (Sub.refl _) g)⟩, e, join_dis (d.mono (Sub.refl _) i) f, join_sub x (g.trans y), i.trans y⟩

theorem HSat.of_append {h h1 h2 : Hp} : ∀ {As Bs : List Assn}, HSat h1 As → HSat h2 Bs → Dis h1 h2 → Sub h1 h → Sub h2 h → HSat h (As ++ Bs)
  | [], _, _, b, _, _, t => b.mono t
  | A :: As, Bs, ⟨k1, k2, a, c, e, f, g⟩, b, d, s, t => by
    refine ⟨k1, join k2 h2, a, HSat.of_append c b (d.mono g (Sub.refl _)) (join_left _ _) (join_right (d.mono g (Sub.refl _))), ?_, f.trans s, join_sub (g.trans s) t⟩
    exact (join_dis e.symm (d.mono f (Sub.refl _)).symm).symm

def star (As : List Assn) : Assn := fun h => HSat h As

theorem HSat.pack {h : Hp} {As Bs : List Assn} (s : HSat h (As ++ Bs)) : HSat h (star As :: Bs) := by
  obtain ⟨h1, h2, a, b, d, x, y⟩ := s.append
  exact ⟨h1, h2, a, b, d, x, y⟩

theorem HSat.unpack {h : Hp} {As Bs : List Assn} (s : HSat h (star As :: Bs)) : HSat h (As ++ Bs) := by
  obtain ⟨h1, h2, a, b, d, x, y⟩ := s
  exact HSat.of_append a b d x y

theorem HSat.imp {h : Hp} {A B : Assn} {As : List Assn} (s : HSat h (A :: As)) (f : ∀ k, A k → B k) : HSat h (B :: As) := by
  obtain ⟨h1, h2, a, b, d, x, y⟩ := s
  exact ⟨h1, h2, f _ a, b, d, x, y⟩


def compact : List (Option Assn) → List Assn
  | [] => []
  | none :: l => compact l
  | some A :: l => A :: compact l

def pulls : List Nat → List (Option Assn) → Option (List Assn × List (Option Assn))
  | [], l => some ([], l)
  | i :: is, l =>
    match l[i]? with
    | some (some A) =>
      match pulls is (l.set i none) with
      | some (Bs, r) => some (A :: Bs, r)
      | none => none
    | _ => none

def normA : List Assn → Option (List Assn)
  | [] => some []
  | a :: l => match normA l with | some r => some (a :: r) | none => none
theorem normA_eq : ∀ {l m : List Assn}, normA l = some m → l = m
  | [], m, e => by simpa [normA] using e
  | a :: l, m, e => by
    simp only [normA] at e
    split at e
    · rename_i r hr
      simp only [Option.some.injEq] at e
      rw [normA_eq hr, e]
    · cases e

def pick (is : List Nat) (As : List Assn) : Option (List Assn × List Assn) :=
  match pulls is (As.map some) with
  | some (Bs, r) => match normA (compact r) with | some m => some (Bs, m) | none => none
  | none => none

theorem compact_set : ∀ {l : List (Option Assn)} {i : Nat} {A : Assn}, l[i]? = some (some A) → (compact l).Perm (A :: compact (l.set i none))
  | [], _, _, e => by simp at e
  | none :: l, 0, _, e => by simp at e
  | some B :: l, 0, A, e => by
    simp at e; subst e; exact List.Perm.refl _
  | none :: l, i + 1, A, e => by
    simp only [compact, List.set_cons_succ]
    exact compact_set (by simpa using e)
  | some B :: l, i + 1, A, e => by
    simp only [compact, List.set_cons_succ]
    exact ((compact_set (l := l) (i := i) (A := A) (by simpa using e)).cons B).trans (List.Perm.swap _ _ _)

theorem pulls_perm : ∀ {is : List Nat} {l : List (Option Assn)} {Bs : List Assn} {r : List (Option Assn)}, pulls is l = some (Bs, r) → (compact l).Perm (Bs ++ compact r)
  | [], l, Bs, r, e => by simp only [pulls, Option.some.injEq, Prod.mk.injEq] at e; obtain ⟨rfl, rfl⟩ := e; exact List.Perm.refl _
  | i :: is, l, Bs, r, e => by
    simp only [pulls] at e
    split at e
    · rename_i A hA
      split at e
      · rename_i Cs s hs
        simp only [Option.some.injEq, Prod.mk.injEq] at e
        obtain ⟨rfl, rfl⟩ := e
        exact (compact_set hA).trans ((pulls_perm hs).cons A)
      · cases e
    · cases e

theorem compact_some : ∀ As : List Assn, compact (As.map some) = As
  | [] => rfl
  | A :: As => by simp [compact, compact_some As]

theorem pick_perm {is : List Nat} {As Bs Cs : List Assn} (e : pick is As = some (Bs, Cs)) : As.Perm (Bs ++ Cs) := by
  simp only [pick] at e
  split at e
  · rename_i Ds r hr
    split at e
    · rename_i m hm
      simp only [Option.some.injEq, Prod.mk.injEq] at e
      obtain ⟨rfl, rfl⟩ := e
      have := pulls_perm hr
      rwa [compact_some, normA_eq hm] at this
    · cases e
  · cases e

theorem HSat.at_ {h : Hp} : ∀ {As : List Assn} {i : Nat} {A : Assn}, HSat h As → As[i]? = some A → ∃ k, A k ∧ Sub k h
  | [], _, _, _, e => by simp at e
  | B :: As, 0, A, ⟨h1, h2, a, b, d, x, y⟩, e => by simp at e; subst e; exact ⟨h1, a, x⟩
  | B :: As, i + 1, A, ⟨h1, h2, a, b, d, x, y⟩, e => by
    obtain ⟨k, p, q⟩ := HSat.at_ (i := i) (A := A) b (by simpa using e)
    exact ⟨k, p, q.trans y⟩

def pt (b : Nat) (o : Obj) : Assn := fun h => h b = some o
def fact (p : Prop) : Assn := fun _ => p

def upd (h : Hp) (b : Nat) (o : Obj) : Hp := fun x => if x = b then some o else h x

theorem HSat.update {h : Hp} : ∀ {As : List Assn} {i b : Nat} {o : Obj} {A B : Assn}, HSat h As → As[i]? = some A → (∀ k, A k → (∃ p, k b = some p) ∧ B (upd k b o)) → HSat (upd h b o) (As.set i B)
  | [], _, _, _, _, _, _, e, _ => by simp at e
  | C :: As, 0, b, o, A, B, ⟨h1, h2, a, c, d, x, y⟩, e, f => by
    simp at e; subst e
    obtain ⟨⟨p, hp⟩, hB⟩ := f h1 a
    refine ⟨upd h1 b o, h2, hB, c, ?_, ?_, ?_⟩
    · intro z
      rcases d z with q | q
      · by_cases hz : z = b
        · subst hz; rw [hp] at q; cases q
        · left; simp [upd, hz, q]
      · right; exact q
    · intro z u hu
      by_cases hz : z = b
      · simp [upd, hz] at hu ⊢; exact hu
      · simp [upd, hz] at hu ⊢; exact x z u hu
    · intro z u hu
      by_cases hz : z = b
      · subst hz
        rcases d z with q | q
        · rw [hp] at q; cases q
        · rw [hu] at q; cases q
      · simp [upd, hz]; exact y z u hu
  | C :: As, i + 1, b, o, A, B, ⟨h1, h2, a, c, d, x, y⟩, e, f => by
    have ih := HSat.update (i := i) (b := b) (o := o) (A := A) (B := B) c (by simpa using e) f
    obtain ⟨k, hk, hs⟩ := HSat.at_ (i := i) (A := A) c (by simpa using e)
    obtain ⟨⟨p, hp⟩, _⟩ := f k hk
    have hb : h1 b = none := by
      rcases d b with q | q
      · exact q
      · rw [hs b p hp] at q; cases q
    refine ⟨h1, upd h2 b o, a, ih, ?_, ?_, ?_⟩
    · intro z
      by_cases hz : z = b
      · subst hz; left; exact hb
      · rcases d z with q | q
        · left; exact q
        · right; simp [upd, hz, q]
    · intro z u hu
      by_cases hz : z = b
      · subst hz; rw [hb] at hu; cases hu
      · simp [upd, hz]; exact x z u hu
    · intro z u hu
      by_cases hz : z = b
      · simp [upd, hz] at hu ⊢; exact hu
      · simp [upd, hz] at hu ⊢; exact y z u hu

theorem HSat.fresh {h : Hp} {As : List Assn} {b : Nat} (o : Obj) (s : HSat h As) (e : h b = none) : HSat (upd h b o) (pt b o :: As) := by
  refine ⟨fun x => if x = b then some o else none, h, by simp [pt], s, ?_, ?_, ?_⟩
  · intro x
    by_cases hx : x = b
    · right; rw [hx]; exact e
    · left; simp [hx]
  · intro x u hu
    by_cases hx : x = b
    · simp [upd, hx] at hu ⊢; exact hu
    · simp [hx] at hu
  · intro x u hu
    by_cases hx : x = b
    · subst hx; rw [e] at hu; cases hu
    · simp [upd, hx]; exact hu

def hp (w : World) : Hp := fun b => w.heap[b]?

structure Sat (W0 w : World) (As : List Assn) : Prop where
  os : w.os = W0.os
  tape : w.tape = W0.tape
  out : w.output = W0.output
  heap : HSat (hp w) As

theorem Sat.perm {W0 w : World} {As Bs : List Assn} (s : Sat W0 w As) (p : As.Perm Bs) : Sat W0 w Bs := ⟨s.os, s.tape, s.out, s.heap.perm p⟩
theorem Sat.imp {W0 w : World} {As Bs : List Assn} (s : Sat W0 w As) (f : ∀ h, HSat h As → HSat h Bs) : Sat W0 w Bs := ⟨s.os, s.tape, s.out, f _ s.heap⟩
theorem hp_push (w : World) (o : Obj) : hp { w with heap := w.heap.push o } = upd (hp w) w.heap.size o := by
  funext b
  simp only [hp, upd, Array.getElem?_push]

theorem hp_modify (w : World) (b : Nat) (f : Obj → Obj) (o : Obj) (h : hp w b = some o) : hp { w with heap := w.heap.modify b f } = upd (hp w) b (f o) := by
  funext x
  simp only [hp, upd, Array.getElem?_modify]
  by_cases hx : x = b
  · subst hx; simp only [hp] at h; simp [h]
  · rw [if_neg hx, if_neg (fun e => hx e.symm)]

theorem hp_set (w : World) (b : Nat) (o p : Obj) (h : hp w b = some p) : hp { w with heap := w.heap.setIfInBounds b o } = upd (hp w) b o := by
  funext x
  simp only [hp] at h
  have hb : b < w.heap.size := by
    rcases Nat.lt_or_ge b w.heap.size with q | q
    · exact q
    · rw [Array.getElem?_eq_none q] at h; cases h
  simp only [hp, upd, Array.getElem?_setIfInBounds]
  by_cases hx : x = b
  · subst hx; simp [hb]
  · rw [if_neg hx, if_neg (fun e => hx e.symm)]

theorem Sat.new {W0 w : World} {As : List Assn} (s : Sat W0 w As) (o : Obj) : Sat W0 { w with heap := w.heap.push o } (pt w.heap.size o :: As) :=
  ⟨s.os, s.tape, s.out, by rw [hp_push]; exact HSat.fresh o s.heap (by simp [hp])⟩


abbrev Slots := List (Nat × Value)

def find : Nat → Slots → Option Value
  | _, [] => none
  | s, (d, v) :: l => bif Nat.beq s d then some v else find s l

class Dfs where
  ds : List Deferred
instance Dfs.none : Dfs := ⟨[]⟩

structure Fr [Dfs] (N : Nat) (a : Act) (L : Slots) : Prop where
  size : a.tmps.size = N
  get : ∀ s v, find s L = some v → a.tmps[s]? = some v
  defers : a.defers = Dfs.ds

def ev (L : Slots) : Operand → Option Value
  | .tmp t => find t L
  | .const v => some v
  | .global g => some (.pointer (some ⟨g, 0, none⟩))
  | .func f => some (.func (.func f) #[] #[])

theorem Fr.eval [Dfs] {N : Nat} {a : Act} {L : Slots} (f : Fr N a L) {x : Operand} {v : Value} (e : ev L x = some v) : a.eval x = v := by
  cases x with
  | tmp t => simp only [ev] at e; simp [Act.eval, Array.getD_eq_getD_getElem?, f.get t v e]
  | const u => simpa [ev, Act.eval] using e
  | global g => simpa [ev, Act.eval] using e
  | func g => simpa [ev, Act.eval] using e

theorem beq_iff (s d : Nat) : Nat.beq s d = true ↔ s = d := ⟨Nat.eq_of_beq_eq_true, fun e => by subst e; exact Nat.beq_refl s⟩

theorem Fr.put [Dfs] {N : Nat} {a : Act} {L : Slots} (f : Fr N a L) {d : Nat} (v : Value) (hd : Nat.blt d N = true) : Fr N (a.put (some d) v) ((d, v) :: L) := by
  have hd' : d < N := by simpa [Nat.blt_eq] using hd
  refine ⟨by simp [Act.put, f.size], ?_, f.defers⟩
  intro s u e
  simp only [find] at e
  simp only [Act.put, Array.getElem?_setIfInBounds]
  cases hb : Nat.beq s d with
  | true =>
    rw [hb] at e; simp at e
    rw [beq_iff] at hb
    subst hb; subst e
    simp [f.size, hd']
  | false =>
    rw [hb] at e; simp at e
    have : d ≠ s := by rintro rfl; rw [Nat.beq_refl] at hb; cases hb
    rw [if_neg this]; exact f.get s u e

theorem Fr.put_none [Dfs] {N : Nat} {a : Act} {L : Slots} (f : Fr N a L) (v : Value) : Fr N (a.put none v) L := f

def Knows (L : Slots) : Slots → Prop
  | [] => True
  | (s, v) :: M => find s L = some v ∧ Knows L M

theorem Knows.get {L : Slots} : ∀ {M : Slots}, Knows L M → ∀ s v, find s M = some v → find s L = some v
  | [], _, s, v, e => by simp [find] at e
  | (d, u) :: M, ⟨h, k⟩, s, v, e => by
    simp only [find] at e
    cases hb : Nat.beq s d with
    | true => rw [hb] at e; simp at e; rw [beq_iff] at hb; subst hb; subst e; exact h
    | false => rw [hb] at e; simp at e; exact Knows.get k s v e

theorem Fr.weaken [Dfs] {N : Nat} {a : Act} {L M : Slots} (f : Fr N a L) (k : Knows L M) : Fr N a M := ⟨f.size, fun s v e => f.get s v (k.get s v e), f.defers⟩

end Go.X
namespace Go.X
set_option linter.unusedSectionVars false
set_option linter.unusedSimpArgs false
set_option linter.unusedVariables false

structure J [Dfs] (W0 : World) (N : Nat) (L : Slots) (A : List Assn) (G : Act → World → Prop) : Prop where
  run : ∀ a w, Fr N a L → Sat W0 w A → G a w

section generic
variable [Dfs] {W0 : World} {N : Nat} {L M : Slots} {A B C : List Assn} {G G' : Act → World → Prop}

theorem J.mono (h : J W0 N L A G) (f : ∀ a w, G a w → G' a w) : J W0 N L A G' := ⟨fun a w x y => f a w (h.run a w x y)⟩
theorem J.imp (f : ∀ h, HSat h A → HSat h B) (h : J W0 N L B G) : J W0 N L A G := ⟨fun a w x y => h.run a w x (y.imp f)⟩
theorem J.perm (p : A.Perm B) (h : J W0 N L B G) : J W0 N L A G := ⟨fun a w x y => h.run a w x (y.perm p)⟩
theorem J.pick (is : List Nat) {B C : List Assn} (e : pick is A = some (B, C)) (h : J W0 N L (B ++ C) G) : J W0 N L A G := h.perm (pick_perm e)
theorem J.keep (is : List Nat) {B C : List Assn} (e : X.pick is A = some (B, C)) (h : J W0 N L B G) : J W0 N L A G :=
  ⟨fun a w x y => h.run a w x (y.imp fun k s => by
    obtain ⟨h1, h2, p, q, d, u, v⟩ := (s.perm (pick_perm e)).append
    exact p.mono u)⟩
theorem J.cases (s : Nat) {b : Bool} (e : find s L = some (.bool b)) (ht : b = true → J W0 N ((s, .bool true) :: L) A G) (hf : b = false → J W0 N ((s, .bool false) :: L) A G) : J W0 N L A G := by
  have key : ∀ c : Bool, b = c → J W0 N ((s, .bool c) :: L) A G → J W0 N L A G := by
    intro c hc h
    subst hc
    refine ⟨fun a w x y => h.run a w ⟨x.size, ?_, x.defers⟩ y⟩
    intro t u eu
    simp only [find] at eu
    cases hb : Nat.beq t s with
    | true => rw [hb] at eu; simp at eu; rw [beq_iff] at hb; subst hb; subst eu; exact x.get _ _ e
    | false => rw [hb] at eu; simp at eu; exact x.get _ _ eu
  cases hb : b with
  | true => exact key true hb (ht hb)
  | false => exact key false hb (hf hb)
theorem J.slot (s : Nat) (v : Value) {u : Value} (e : find s L = some u) (huv : u = v) (h : J W0 N ((s, v) :: L) A G) : J W0 N L A G := by
  subst huv
  refine ⟨fun a w x y => h.run a w ⟨x.size, ?_, x.defers⟩ y⟩
  intro t u' eu
  simp only [find] at eu
  cases hb : Nat.beq t s with
  | true => rw [hb] at eu; simp at eu; rw [beq_iff] at hb; subst hb; subst eu; exact x.get _ _ e
  | false => rw [hb] at eu; simp at eu; exact x.get _ _ eu

theorem J.know {p : Prop} (f : ∀ h, HSat h A → p) (h : p → J W0 N L A G) : J W0 N L A G := ⟨fun a w x y => (h (f _ y.heap)).run a w x y⟩

theorem J.open_ {α : Type} (i : Nat) {B : Assn} {Bs : α → List Assn} {p : α → Prop} {C D : List Assn} (e : X.pick [i] A = some (C, D)) (eC : C = [B]) (f : ∀ h, B h → ∃ x, p x ∧ HSat h (Bs x)) (h : ∀ x, p x → J W0 N L (Bs x ++ D) G) : J W0 N L A G := by
  subst eC
  refine ⟨fun a w u s => ?_⟩
  obtain ⟨h1, h2, hb, hd, d, s1, s2⟩ := s.heap.perm (pick_perm e)
  obtain ⟨x, px, hx⟩ := f h1 hb
  exact (h x px).run a w u ⟨s.os, s.tape, s.out, HSat.of_append hx hd d s1 s2⟩

theorem J.shut (is : List Nat) (B : Assn) {C D : List Assn} (e : X.pick is A = some (C, D)) (f : ∀ h, HSat h C → B h) (h : J W0 N L (B :: D) G) : J W0 N L A G :=
  h.imp fun k s => by
    obtain ⟨h1, h2, p, q, d, u, v⟩ := (s.perm (pick_perm e)).append
    exact ⟨h1, h2, f _ p, q, d, u, v⟩
end generic


def Agree (a : Act) (L : Slots) (op : Op) : Prop := ∀ x, x ∈ op.operands.toList → ∀ u, ev L x = some u → a.eval x = u

theorem Fr.agree [Dfs] {N : Nat} {a : Act} {L : Slots} (f : Fr N a L) (op : Op) : Agree a L op := fun _ _ _ e => f.eval e

structure OpQ (P : Program) (op : Op) (ty : TypeId) (L : Slots) (D : List Assn) (v : Value) : Prop where
  run : ∀ (dst : Option Tmp) (pos : String) (aft : Array Edge) (g : Option (Nat × Bool)) (a : Act) (W0 w : World) (F : List Assn), Agree a L op → Sat W0 w (D ++ F) →
    ∃ w', (execOp a.eval ⟨dst, op, ty, pos, aft, g⟩).run P w = .ok (.value v) w' ∧ Sat W0 w' (D ++ F)

structure OpC (P : Program) (op : Op) (ty : TypeId) (L : Slots) (A : List Assn) (R : Value → List Assn → Prop) : Prop where
  wp : ∀ (dst : Option Tmp) (pos : String) (aft : Array Edge) (g : Option (Nat × Bool)) (a : Act) (W0 w : World), Agree a L op → Sat W0 w A →
    ∀ (K : Act → World → Prop) (Q : Exit → Act → World → Prop), (∀ v A' w', R v A' → Sat W0 w' A' → K (a.put dst v) w') → Oper.wp P ⟨dst, op, ty, pos, aft, g⟩ a w K Q

theorem OpQ.toC {P : Program} {op : Op} {ty : TypeId} {L : Slots} {A : List Assn} {v : Value} (h : OpQ P op ty L A v) : OpC P op ty L A (fun u B => u = v ∧ B = A) := by
  refine ⟨fun dst pos aft g a W0 w ag s K Q k => ?_⟩
  obtain ⟨w', e, s'⟩ := h.run dst pos aft g a W0 w [] ag (by simpa using s)
  unfold Oper.wp
  rw [e, Oper.upon_value]
  exact k v A w' ⟨rfl, rfl⟩ (by simpa using s')

def guardL (ops : Array Oper) (g : Option (Nat × Bool)) (L : Slots) : Option Bool :=
  match g with
  | none => some true
  | some (j, want) =>
    match (ops[j]?).bind (·.dst) with
    | some d =>
      match find d L with
      | some (.bool b) => some (b == want)
      | some _ => some false
      | none => none
    | none => none

theorem guardL_wanted [Dfs] {N : Nat} {ops : Array Oper} {o : Oper} {L : Slots} {a : Act} {b : Bool} (f : Fr N a L) (e : guardL ops o.guard L = some b) : Region.wanted o (yielded ops a.tmps) = b := by
  unfold guardL at e
  unfold Region.wanted
  cases hg : o.guard with
  | none => rw [hg] at e; simpa using e
  | some p =>
    obtain ⟨j, want⟩ := p
    rw [hg] at e
    simp only at e ⊢
    unfold yielded
    cases hd : (ops[j]?).bind (·.dst) with
    | none => rw [hd] at e; cases e
    | some d =>
      rw [hd] at e
      simp only at e
      cases hf : find d L with
      | none => rw [hf] at e; cases e
      | some v =>
        rw [hf] at e
        have ht := f.get d v hf
        simp only [Option.bind_some, ht]
        cases v <;> simp at e ⊢ <;> first | exact e | (rw [← e]; cases want <;> rename_i q <;> cases q <;> rfl) | exact e.symm

section lists
variable [Dfs] {P : Program} {W0 : World} {N : Nat} {ops : Array Oper} {Q : Exit → Act → World → Prop} {L : Slots} {A : List Assn} {rest : List Oper}
variable {op : Op} {ty : TypeId} {pos : String} {aft : Array Edge} {g : Option (Nat × Bool)} {d : Nat} {v : Value}

theorem J.q (hg : guardL ops g L = some true) (hd : Nat.blt d N = true) (h : OpQ P op ty L A v) (k : J W0 N ((d, v) :: L) A (wpList P ops Q rest)) :
    J W0 N L A (wpList P ops Q (⟨some d, op, ty, pos, aft, g⟩ :: rest)) := by
  refine ⟨fun a w f s => ?_⟩
  have hw := guardL_wanted (o := ⟨some d, op, ty, pos, aft, g⟩) f hg
  unfold wpList
  rw [if_pos hw]
  refine Or.inl (h.toC.wp _ _ _ _ a W0 w (f.agree _) s _ _ ?_)
  rintro u B w' ⟨rfl, rfl⟩ s'
  exact k.run _ _ (f.put u hd) s'

theorem J.c {R : Value → List Assn → Prop} (hg : guardL ops g L = some true) (hd : Nat.blt d N = true) (h : OpC P op ty L A R) (k : ∀ v B, R v B → J W0 N ((d, v) :: L) B (wpList P ops Q rest)) :
    J W0 N L A (wpList P ops Q (⟨some d, op, ty, pos, aft, g⟩ :: rest)) := by
  refine ⟨fun a w f s => ?_⟩
  have hw := guardL_wanted (o := ⟨some d, op, ty, pos, aft, g⟩) f hg
  unfold wpList
  rw [if_pos hw]
  refine Or.inl (h.wp _ _ _ _ a W0 w (f.agree _) s _ _ ?_)
  intro u B w' r s'
  exact (k u B r).run _ _ (f.put u hd) s'

theorem J.c0 {R : Value → List Assn → Prop} (hg : guardL ops g L = some true) (h : OpC P op ty L A R) (k : ∀ v B, R v B → J W0 N L B (wpList P ops Q rest)) :
    J W0 N L A (wpList P ops Q (⟨none, op, ty, pos, aft, g⟩ :: rest)) := by
  refine ⟨fun a w f s => ?_⟩
  have hw := guardL_wanted (o := ⟨none, op, ty, pos, aft, g⟩) f hg
  unfold wpList
  rw [if_pos hw]
  refine Or.inl (h.wp _ _ _ _ a W0 w (f.agree _) s _ _ ?_)
  intro u B w' r s'
  exact (k u B r).run _ _ (f.put_none u) s'

theorem J.skip (hg : guardL ops g L = some false) (hd : Nat.blt d N = true) (k : J W0 N ((d, undef) :: L) A (wpList P ops Q rest)) :
    J W0 N L A (wpList P ops Q (⟨some d, op, ty, pos, aft, g⟩ :: rest)) := by
  refine ⟨fun a w f s => ?_⟩
  have hw := guardL_wanted (o := ⟨some d, op, ty, pos, aft, g⟩) f hg
  unfold wpList
  rw [if_neg (by rw [hw]; exact Bool.false_ne_true)]
  exact k.run _ _ (f.put _ hd) s

theorem J.nil (k : J W0 N L A (Q .normal)) : J W0 N L A (wpList P ops Q []) := ⟨fun a w f s => k.run a w f s⟩
end lists

section control
variable [Dfs] {P : Program} {W0 : World} {N : Nat} {Q : Exit → Act → World → Prop} {L : Slots} {A : List Assn} {x y : Code}

theorem J.seq (h : J W0 N L A (x.wp P (Exit.then (y.wp P Q) Q))) : J W0 N L A ((Code.seq x y).wp P Q) := ⟨fun a w f s => wp_seq (h.run a w f s)⟩
theorem J.region {id : Nat} {l : List Oper} (h : J W0 N L A (wpList P l.toArray Q l)) : J W0 N L A ((Code.region id l.toArray false).wp P Q) := ⟨fun a w f s => wp_region_lit (h.run a w f s)⟩
theorem J.then_n (h : J W0 N L A (y.wp P Q)) : J W0 N L A (Exit.then (y.wp P Q) Q .normal) := ⟨fun a w f s => h.run a w f s⟩
theorem J.then_r {K : Act → World → Prop} (h : J W0 N L A (Q .ret)) : J W0 N L A (Exit.then K Q .ret) := ⟨fun a w f s => h.run a w f s⟩
theorem J.then_x {K : Act → World → Prop} {id : Nat} (h : J W0 N L A (Q (.exit id))) : J W0 N L A (Exit.then K Q (.exit id)) := ⟨fun a w f s => h.run a w f s⟩
theorem J.cond_t {c : Operand} (e : ev L c = some (.bool true)) (h : J W0 N L A (x.wp P Q)) : J W0 N L A ((Code.cond c x y).wp P Q) := ⟨fun a w f s => wp_cond_true (f.eval e) (h.run a w f s)⟩
theorem J.cond_f {c : Operand} (e : ev L c = some (.bool false)) (h : J W0 N L A (y.wp P Q)) : J W0 N L A ((Code.cond c x y).wp P Q) := ⟨fun a w f s => wp_cond_false (f.eval e) (h.run a w f s)⟩
theorem J.block {id : Nat} (h : J W0 N L A (x.wp P (Exit.inBlock id Q))) : J W0 N L A ((Code.block id x).wp P Q) := ⟨fun a w f s => wp_block (h.run a w f s)⟩
theorem J.blk_n {id : Nat} (h : J W0 N L A (Q .normal)) : J W0 N L A (Exit.inBlock id Q .normal) := ⟨fun a w f s => h.run a w f s⟩
theorem J.blk_x {id : Nat} (h : J W0 N L A (Q .normal)) : J W0 N L A (Exit.inBlock id Q (.exit id)) := ⟨fun a w f s => by simp only [Exit.inBlock, if_true]; exact h.run a w f s⟩
theorem J.blk_r {id : Nat} (h : J W0 N L A (Q .ret)) : J W0 N L A (Exit.inBlock id Q .ret) := ⟨fun a w f s => h.run a w f s⟩
theorem J.cskip (h : J W0 N L A (Q .normal)) : J W0 N L A (Code.skip.wp P Q) := ⟨fun a w f s => wp_skip (h.run a w f s)⟩
theorem J.exit {id : Nat} (h : J W0 N L A (Q (.exit id))) : J W0 N L A ((Code.exit id).wp P Q) := ⟨fun a w f s => wp_exit (h.run a w f s)⟩
theorem J.cret (h : J W0 N L A (Q .ret)) : J W0 N L A (Code.ret.wp P Q) := ⟨fun a w f s => wp_ret (h.run a w f s)⟩
end control


theorem wp_loop' {ι : Type} {P : Program} {Q : Exit → Act → World → Prop} {c : Code} (I : ι → Act → World → Prop) (m : ι → Nat)
    (round : ∀ x a w, I x a w → c.wp P (fun e a' w' => match e with | .normal => ∃ y, m y < m x ∧ I y a' w' | e => Q e a' w') a w) :
    ∀ x a w, I x a w → (Code.loop c).wp P Q a w := by
  intro x0 a0 w0 h₀ b k cs
  have key : ∀ n x a w, m x = n → I x a w →
      ∃ e a' w', Q e a' w' ∧ Arrives P (lone (b.at a (.code c :: .inLoop c :: k)) cs w) b k cs e a' w' := by
    intro n
    induction n using Nat.strongRecOn with
    | _ n ih =>
      intro x a w hn hI
      obtain ⟨e, a₁, w₁, hq, harr⟩ := round x a w hI b (.inLoop c :: k) cs
      cases e with
      | normal =>
        obtain ⟨y, hlt, hI₁⟩ := hq
        obtain ⟨e₂, a₂, w₂, hq₂, harr₂⟩ := ih (m y) (hn ▸ hlt) y a₁ w₁ rfl hI₁
        exact ⟨e₂, a₂, w₂, hq₂, .of_steps (Steps.trans harr (.one step_inLoop)) harr₂⟩
      | exit id => exact ⟨_, a₁, w₁, hq, .pass (x := .inLoop c) rfl (fun _ _ => .inl (by simp)) harr⟩
      | goto l => exact ⟨_, a₁, w₁, hq, .pass (x := .inLoop c) rfl (fun _ _ => .inl (by simp)) harr⟩
      | ret => exact ⟨_, a₁, w₁, hq, .pass (x := .inLoop c) rfl (fun _ _ => .inl (by simp)) harr⟩
      | panic ch => exact ⟨_, a₁, w₁, hq, .pass (x := .inLoop c) rfl (fun _ _ => .inl (by simp)) harr⟩
      | outgrown => exact ⟨_, a₁, w₁, hq, .pass (x := .inLoop c) rfl (fun _ _ => .inl (by simp)) harr⟩
  obtain ⟨e, a', w', hq, harr⟩ := key _ x0 a0 w0 rfl h₀
  exact ⟨e, a', w', hq, .of_steps (.one step_loop) harr⟩

def LoopQ [Dfs] {ι : Type} (W0 : World) (N : Nat) (I : ι → Prop) (m : ι → Nat) (Ls : ι → Slots) (As : ι → List Assn) (x : ι) (Q : Exit → Act → World → Prop) : Exit → Act → World → Prop
  | .normal, a, w => ∃ y, I y ∧ m y < m x ∧ Fr N a (Ls y) ∧ Sat W0 w (As y)
  | e, a, w => Q e a w

section loops
variable [Dfs] {ι : Type} {P : Program} {W0 : World} {N : Nat} {Q : Exit → Act → World → Prop} {L : Slots} {A : List Assn} {c : Code}
theorem J.loop (I : ι → Prop) (m : ι → Nat) (Ls : ι → Slots) (As : ι → List Assn) (x0 : ι) (h0 : I x0) (hL : Knows L (Ls x0)) (hA : A = As x0)
    (round : ∀ x, I x → J W0 N (Ls x) (As x) (c.wp P (LoopQ W0 N I m Ls As x Q))) : J W0 N L A ((Code.loop c).wp P Q) := by
  subst hA
  refine ⟨fun a w f s => wp_loop' (fun x a w => I x ∧ Fr N a (Ls x) ∧ Sat W0 w (As x)) m ?_ x0 a w ⟨h0, f.weaken hL, s⟩⟩
  rintro x a w ⟨hi, f, s⟩
  refine Code.wp_mono ?_ ((round x hi).run a w f s)
  intro e a w hq
  cases e with
  | normal => obtain ⟨y, a1, a2, a3, a4⟩ := hq; exact ⟨y, a2, a1, a3, a4⟩
  | _ => exact hq

variable {I : ι → Prop} {m : ι → Nat} {Ls : ι → Slots} {As : ι → List Assn} {x : ι}
theorem J.again (y : ι) (hi : I y) (hm : m y < m x) (hL : Knows L (Ls y)) (hA : A = As y) : J W0 N L A (LoopQ W0 N I m Ls As x Q .normal) :=
  ⟨fun _ _ f s => ⟨y, hi, hm, f.weaken hL, hA ▸ s⟩⟩
theorem J.lp_x {id : Nat} (h : J W0 N L A (Q (.exit id))) : J W0 N L A (LoopQ W0 N I m Ls As x Q (.exit id)) := ⟨fun a w f s => h.run a w f s⟩
theorem J.lp_r (h : J W0 N L A (Q .ret)) : J W0 N L A (LoopQ W0 N I m Ls As x Q .ret) := ⟨fun a w f s => h.run a w f s⟩
end loops


def RetQ (W0 : World) (R : Value → List Assn → Prop) (F : Assn) (e : Ending) (w : World) : Prop := ∃ v A, e = .returned v ∧ R v A ∧ Sat W0 w (A ++ [F])

structure FSpec (P : Program) (f : FuncId) (args : List Value) (A : List Assn) (R : Value → List Assn → Prop) : Prop where
  call : ∀ (W0 w : World) (F : Assn), Sat W0 w (A ++ [F]) → Calls P f args.toArray w (RetQ W0 R F)

def argSlots : Nat → List Value → Slots
  | _, [] => []
  | i, v :: l => (i, v) :: argSlots (i + 1) l

theorem find_argSlots : ∀ (l : List Value) (i s : Nat) (v : Value), find s (argSlots i l) = some v → i ≤ s ∧ l[s - i]? = some v
  | [], i, s, v, e => by simp [argSlots, find] at e
  | u :: l, i, s, v, e => by
    simp only [argSlots, find] at e
    cases hb : Nat.beq s i with
    | true => rw [hb] at e; simp at e; rw [beq_iff] at hb; subst hb; subst e; simp
    | false =>
      rw [hb] at e; simp at e
      obtain ⟨h1, h2⟩ := find_argSlots l (i + 1) s v e
      refine ⟨by omega, ?_⟩
      rw [show s - i = (s - (i + 1)) + 1 from by omega]
      simpa using h2

section funcs
variable {P : Program} {f : FuncId} {fn : Func} {c : Code} {N : Nat} {args : List Value} {A : List Assn} {R : Value → List Assn → Prop}

theorem FSpec.of (hf : P.funcs[f]? = some fn) (hb : fn.body = some c) (hn : fn.ntmps = N) (hl : Nat.ble args.length N = true)
    (h : ∀ (W0 : World) (F : Assn), J W0 N (argSlots 0 args) (A ++ [F]) (c.wp P (bodyPost P fn (RetQ W0 R F)))) : FSpec P f args A R := by
  refine ⟨fun W0 w F s => calls_of_wp hf hb ((h W0 F).run _ w ⟨?_, ?_, rfl⟩ s)⟩
  · have : args.length ≤ N := Nat.le_of_ble_eq_true hl
    simp [hn]; omega
  · intro t v e
    obtain ⟨_, h2⟩ := find_argSlots _ _ _ _ e
    simp only [Nat.sub_zero] at h2
    rw [Array.getElem?_append_left]
    · simpa using h2
    · rcases Nat.lt_or_ge t args.length with q | q
      · simpa using q
      · rw [List.getElem?_eq_none q] at h2; cases h2

theorem FSpec.mono {R' : Value → List Assn → Prop} (h : FSpec P f args A R) (hr : ∀ v B, R v B → R' v B) : FSpec P f args A R' :=
  ⟨fun W0 w F s => (h.call W0 w F s).mono fun _ _ ⟨v, B, e, r, t⟩ => ⟨v, B, e, hr _ _ r, t⟩⟩

theorem FSpec.frame (h : FSpec P f args A R) (Fs : List Assn) : FSpec P f args (A ++ Fs) (fun v B => ∃ B1, R v B1 ∧ B = B1 ++ Fs) := by
  refine ⟨fun W0 w F s => (h.call W0 w (star (Fs ++ [F])) ?_).mono ?_⟩
  · rw [List.append_assoc] at s
    refine s.imp fun k t => ?_
    obtain ⟨h1, h2, p, q, d, u, v⟩ := t.append
    exact HSat.of_append p (As := A) (Bs := [star (Fs ++ [F])]) ⟨h2, fun _ => none, q, trivial, fun _ => Or.inr rfl, Sub.refl _, fun _ _ e => nomatch e⟩ d u v
  · rintro e w' ⟨v, B, rfl, r, t⟩
    refine ⟨v, B ++ Fs, rfl, ⟨B, r, rfl⟩, ?_⟩
    rw [List.append_assoc]
    refine t.imp fun k t => ?_
    obtain ⟨h1, h2, p, ⟨k1, k2, q, _, _, s1, _⟩, d, u, v⟩ := t.append
    exact HSat.of_append p (HSat.mono q s1) d u v

variable {W0 : World} {L : Slots} {F : Assn} {v : Value}

theorem J.ret1 {s : Nat} {B : List Assn} (hr : fn.results = #[.tmp s]) (hv : find s L = some v) (hR : R v B) (hA : A = B ++ [F]) : J W0 N L A (bodyPost P fn (RetQ W0 R F) .ret) := by
  refine ⟨fun a w f t => ?_⟩
  refine bodyPost_ret (results_tmp hr _ _ _) f.defers ⟨v, B, ?_, hR, hA ▸ t⟩
  rw [Array.getD_eq_getD_getElem?, f.get s v hv]; rfl

theorem J.ret2 {s t : Nat} {u : Value} {B : List Assn} (hr : fn.results = #[.tmp s, .tmp t]) (hv : find s L = some v) (hu : find t L = some u) (hR : R (.tuple #[v, u]) B) (hA : A = B ++ [F]) :
    J W0 N L A (bodyPost P fn (RetQ W0 R F) .ret) := by
  refine ⟨fun a w f x => ?_⟩
  refine bodyPost_ret (results_tmp2 hr _ _ _) f.defers ⟨.tuple #[v, u], B, ?_, hR, hA ▸ x⟩
  rw [Array.getD_eq_getD_getElem?, Array.getD_eq_getD_getElem?, f.get s v hv, f.get t u hu]; rfl

theorem J.end0 {B : List Assn} (hr : fn.results = #[]) (hR : R (.tuple #[]) B) (hA : A = B ++ [F]) : J W0 N L A (bodyPost P fn (RetQ W0 R F) .normal) := by
  refine ⟨fun a w f x => ?_⟩
  exact bodyPost_end (results_none hr _ _ _) f.defers ⟨.tuple #[], B, rfl, hR, hA ▸ x⟩
end funcs


def evs (L : Slots) : List Operand → Option (List Value)
  | [] => some []
  | x :: l =>
    match ev L x with
    | some v =>
      match evs L l with
      | some vs => some (v :: vs)
      | none => none
    | none => none

theorem evs_map {a : Act} {L : Slots} : ∀ {l : List Operand} {vs : List Value}, (∀ x, x ∈ l → ∀ u, ev L x = some u → a.eval x = u) → evs L l = some vs → l.map a.eval = vs
  | [], vs, _, e => by simp [evs] at e; simp [e]
  | x :: l, vs, h, e => by
    simp only [evs] at e
    split at e
    · rename_i v hv
      split at e
      · rename_i us hu
        simp only [Option.some.injEq] at e
        subst e
        simp only [List.map_cons, h x (by simp) v hv]
        rw [evs_map (fun y hy => h y (by simp [hy])) hu]
      · cases e
    · cases e

section calls
variable {P : Program} {L : Slots} {A Ain F : List Assn} {R : Value → List Assn → Prop} {f : FuncId} {ty : TypeId} {argTypes : Array TypeId}

theorem OpC.ofEnter {op : Op} {args : List Value}
    (hrun : ∀ (dst : Option Tmp) (pos : String) (aft : Array Edge) (g : Option (Nat × Bool)) (a : Act) (w : World), Agree a L op → (execOp a.eval ⟨dst, op, ty, pos, aft, g⟩).run P w = .ok (.enter f args.toArray) w)
    (hs : FSpec P f args Ain R) (is : List Nat) (hp : X.pick is A = some (Ain, F)) : OpC P op ty L A (fun v B => ∃ B1, R v B1 ∧ B = B1 ++ F) := by
  refine ⟨fun dst pos aft g a W0 w ag s K Q k => ?_⟩
  unfold Oper.wp
  rw [hrun dst pos aft g a w ag, Oper.upon_enter]
  have s' : Sat W0 w (Ain ++ [star F]) := by
    refine (s.perm (pick_perm hp)).imp fun k t => ?_
    obtain ⟨h1, h2, p, q, d, u, v⟩ := t.append
    exact HSat.of_append p (Bs := [star F]) ⟨h2, fun _ => none, q, trivial, fun _ => Or.inr rfl, Sub.refl _, fun _ _ e => nomatch e⟩ d u v
  refine (hs.call W0 w (star F) s').mono ?_
  rintro e w' ⟨v, B, rfl, r, t⟩
  refine k v (B ++ F) w' ⟨B, r, rfl⟩ (t.imp fun k t => ?_)
  obtain ⟨h1, h2, p, ⟨k1, k2, q, _, _, s1, _⟩, d, u, v⟩ := t.append
  exact HSat.of_append p (HSat.mono q s1) d u v

theorem OpC.call {xs : List Operand} {args : List Value} (hc : ∀ (args : Array Value) (w : World), (callFunc f args).run P w = .ok (.enter f args) w) (he : evs L xs = some args)
    (hs : FSpec P f args Ain R) (is : List Nat) (hp : X.pick is A = some (Ain, F)) :
    OpC P (.call { callee := .value (.func f), args := xs.toArray, argTypes }) ty L A (fun v B => ∃ B1, R v B1 ∧ B = B1 ++ F) := by
  refine OpC.ofEnter ?_ hs is hp
  intro dst pos aft g a w ag
  have hx : xs.map a.eval = args := evs_map (fun x hx => ag x (by simp [Op.operands, Call.operands, hx])) he
  have ha : (xs.toArray).map a.eval = args.toArray := by simp [hx]
  simp only [execOp, resolve, Deferred.ofValue, Act.eval, invoke, Sem.run_bind, Sem.run_pure, Result.andThen_ok, ha]
  simpa using hc args.toArray w

theorem OpC.callv {t : Tmp} {xs : List Operand} {args first cap : List Value} (hc : ∀ (args : Array Value) (w : World), (callFunc f args).run P w = .ok (.enter f args) w)
    (hv : find t L = some (.func (.func f) first.toArray cap.toArray)) (he : evs L xs = some args)
    (hs : FSpec P f (first ++ args ++ cap) Ain R) (is : List Nat) (hp : X.pick is A = some (Ain, F)) :
    OpC P (.call { callee := .value (.tmp t), args := xs.toArray, argTypes }) ty L A (fun v B => ∃ B1, R v B1 ∧ B = B1 ++ F) := by
  refine OpC.ofEnter ?_ hs is hp
  intro dst pos aft g a w ag
  have hx : xs.map a.eval = args := evs_map (fun x hx => ag x (by simp [Op.operands, Call.operands, hx])) he
  have ha : (xs.toArray).map a.eval = args.toArray := by simp [hx]
  have hf : a.eval (.tmp t) = .func (.func f) first.toArray cap.toArray := ag _ (by simp [Op.operands, Call.operands]) _ hv
  simp only [execOp, resolve, hf, Deferred.ofValue, invoke, Sem.run_bind, Sem.run_pure, Result.andThen_ok, ha]
  simpa using hc (first ++ args ++ cap).toArray w
end calls

section callrules
variable [Dfs] {P : Program} {W0 : World} {N : Nat} {ops : Array Oper} {Q : Exit → Act → World → Prop} {L : Slots} {A Ain F : List Assn} {rest : List Oper}
variable {ty : TypeId} {pos : String} {aft : Array Edge} {g : Option (Nat × Bool)} {d : Nat} {argTypes : Array TypeId} {f : FuncId} {R : Value → List Assn → Prop}

theorem J.call {xs : List Operand} {args : List Value} (hc : ∀ (args : Array Value) (w : World), (callFunc f args).run P w = .ok (.enter f args) w) (hs : FSpec P f args Ain R) (is : List Nat)
    (hg : guardL ops g L = some true) (hd : Nat.blt d N = true) (he : evs L xs = some args) (hp : X.pick is A = some (Ain, F))
    (k : ∀ v B, R v B → J W0 N ((d, v) :: L) (B ++ F) (wpList P ops Q rest)) :
    J W0 N L A (wpList P ops Q (⟨some d, .call { callee := .value (.func f), args := xs.toArray, argTypes }, ty, pos, aft, g⟩ :: rest)) :=
  J.c hg hd (OpC.call hc he hs is hp) (by rintro v _ ⟨B, r, rfl⟩; exact k v B r)

theorem J.callv {t : Tmp} {xs : List Operand} {args first cap : List Value} (hc : ∀ (args : Array Value) (w : World), (callFunc f args).run P w = .ok (.enter f args) w) (hs : FSpec P f (first ++ args ++ cap) Ain R) (is : List Nat)
    (hg : guardL ops g L = some true) (hd : Nat.blt d N = true) (hv : find t L = some (.func (.func f) first.toArray cap.toArray)) (he : evs L xs = some args) (hp : X.pick is A = some (Ain, F))
    (k : ∀ v B, R v B → J W0 N ((d, v) :: L) (B ++ F) (wpList P ops Q rest)) :
    J W0 N L A (wpList P ops Q (⟨some d, .call { callee := .value (.tmp t), args := xs.toArray, argTypes }, ty, pos, aft, g⟩ :: rest)) :=
  J.c hg hd (OpC.callv hc hv he hs is hp) (by rintro v _ ⟨B, r, rfl⟩; exact k v B r)
end callrules

end Go.X
namespace Go.X
set_option linter.unusedSectionVars false
set_option linter.unusedSimpArgs false
set_option linter.unusedVariables false

theorem Agree.at_ {a : Act} {L : Slots} {op : Op} (ag : Agree a L op) {x : Operand} {v : Value} (e : ev L x = some v) (h : x ∈ op.operands.toList) : a.eval x = v := ag x h v e

section
variable {P : Program} {L : Slots} {D : List Assn} {ty : TypeId}

theorem OpQ.pure_ {op : Op} {v : Value} (h : ∀ (dst : Option Tmp) (pos : String) (aft : Array Edge) (g : Option (Nat × Bool)) (a : Act) (w : World), Agree a L op → (execOp a.eval ⟨dst, op, ty, pos, aft, g⟩).run P w = .ok (.value v) w) : OpQ P op ty L D v :=
  ⟨fun dst pos aft g a _ w _ ag s => ⟨w, h dst pos aft g a w ag, s⟩⟩

theorem Q.mv {x : Operand} {v : Value} (e : ev L x = some v) : OpQ P (.move x) ty L D v :=
  .pure_ fun _ _ _ _ a w ag => by simp [execOp, ag.at_ e (by simp [Op.operands])]
theorem Q.asg {x : Operand} {v : Value} (e : ev L x = some v) : OpQ P (.assign x) ty L D v :=
  .pure_ fun _ _ _ _ a w ag => by simp [execOp, ag.at_ e (by simp [Op.operands])]
theorem Q.pick_t {c x y : Operand} {v : Value} (ec : ev L c = some (.bool true)) (e : ev L x = some v) : OpQ P (.pick c x y) ty L D v :=
  .pure_ fun _ _ _ _ a w ag => by simp [execOp, ag.at_ ec (by simp [Op.operands]), ag.at_ e (by simp [Op.operands]), asBool]
theorem Q.pick_f {c x y : Operand} {v : Value} (ec : ev L c = some (.bool false)) (e : ev L y = some v) : OpQ P (.pick c x y) ty L D v :=
  .pure_ fun _ _ _ _ a w ag => by simp [execOp, ag.at_ ec (by simp [Op.operands]), ag.at_ e (by simp [Op.operands]), asBool]

theorem Q.bin {op : BinOp} {T T' : TypeId} {x y : Operand} {p q v : Value} (ex : ev L x = some p) (ey : ev L y = some q)
    (h : ∀ w, (do eqGuard op T x y p q; binOp op T p q : Sem Value).run P w = .ok v w) : OpQ P (.binOp op T x y T') ty L D v :=
  .pure_ fun _ _ _ _ a w ag => by
    have h1 := ag.at_ ex (by simp [Op.operands])
    have h2 := ag.at_ ey (by simp [Op.operands])
    have hw := h w
    simp only [execOp, h1, h2, Sem.run_bind] at hw ⊢
    simp only [hw, Result.andThen_ok, Sem.run_pure]

theorem guard_int {op : BinOp} {T : TypeId} {x y : Operand} {k k' : IntKind} {a b : Int} (w : World) : (eqGuard op T x y (.int k a) (.int k' b)).run P w = .ok () w := by
  cases op <;> simp [eqGuard]

variable {T T' : TypeId} {x y : Operand} {k : IntKind} {a b : Int}

theorem Q.add (ex : ev L x = some (.int k a)) (ey : ev L y = some (.int k b)) : OpQ P (.binOp .add T x y T') ty L D (.int k (k.wrap (a + b))) :=
  Q.bin ex ey fun w => by simp [guard_int, binOp, Op.intArith]
theorem Q.sub (ex : ev L x = some (.int k a)) (ey : ev L y = some (.int k b)) : OpQ P (.binOp .sub T x y T') ty L D (.int k (k.wrap (a - b))) :=
  Q.bin ex ey fun w => by simp [guard_int, binOp, Op.intArith]
theorem Q.mul (ex : ev L x = some (.int k a)) (ey : ev L y = some (.int k b)) : OpQ P (.binOp .mul T x y T') ty L D (.int k (k.wrap (a * b))) :=
  Q.bin ex ey fun w => by simp [guard_int, binOp, Op.intArith]
theorem Q.add64 (ex : ev L x = some (.int .i64 a)) (ey : ev L y = some (.int .i64 b)) (h : -9223372036854775808 ≤ a + b ∧ a + b ≤ 9223372036854775807) : OpQ P (.binOp .add T x y T') ty L D (.int .i64 (a + b)) := by
  have := Q.add (P := P) (T := T) (T' := T') (ty := ty) (D := D) ex ey; rwa [IntWalk.i64_in _ h] at this
theorem Q.sub64 (ex : ev L x = some (.int .i64 a)) (ey : ev L y = some (.int .i64 b)) (h : -9223372036854775808 ≤ a - b ∧ a - b ≤ 9223372036854775807) : OpQ P (.binOp .sub T x y T') ty L D (.int .i64 (a - b)) := by
  have := Q.sub (P := P) (T := T) (T' := T') (ty := ty) (D := D) ex ey; rwa [IntWalk.i64_in _ h] at this
theorem Q.mul64 (ex : ev L x = some (.int .i64 a)) (ey : ev L y = some (.int .i64 b)) (h : -9223372036854775808 ≤ a * b ∧ a * b ≤ 9223372036854775807) : OpQ P (.binOp .mul T x y T') ty L D (.int .i64 (a * b)) := by
  have := Q.mul (P := P) (T := T) (T' := T') (ty := ty) (D := D) ex ey; rwa [IntWalk.i64_in _ h] at this
theorem Q.quo (ex : ev L x = some (.int k a)) (ey : ev L y = some (.int k b)) (h : b ≠ 0) : OpQ P (.binOp .quo T x y T') ty L D (.int k (k.wrap (a.tdiv b))) :=
  Q.bin ex ey fun w => by simp [guard_int, binOp, Op.intDiv, h]
theorem Q.rem (ex : ev L x = some (.int k a)) (ey : ev L y = some (.int k b)) (h : b ≠ 0) : OpQ P (.binOp .rem T x y T') ty L D (.int k (a.tmod b)) :=
  Q.bin ex ey fun w => by simp [guard_int, binOp, Op.intDiv, h]
theorem Q.quo64 (ex : ev L x = some (.int .i64 a)) (ey : ev L y = some (.int .i64 b)) (ha : 0 ≤ a) (ha' : a ≤ 9223372036854775807) (hb : 0 < b) : OpQ P (.binOp .quo T x y T') ty L D (.int .i64 (a / b)) := by
  have := Q.quo (P := P) (T := T) (T' := T') (ty := ty) (D := D) ex ey (by omega)
  rw [Int.tdiv_eq_ediv_of_nonneg ha] at this
  have h1 : 0 ≤ a / b := Int.ediv_nonneg ha (by omega)
  have h2 : a / b ≤ a := Int.ediv_le_self _ ha
  rwa [IntWalk.i64_in _ (by omega)] at this
theorem Q.rem64 (ex : ev L x = some (.int .i64 a)) (ey : ev L y = some (.int .i64 b)) (ha : 0 ≤ a) (hb : 0 < b) : OpQ P (.binOp .rem T x y T') ty L D (.int .i64 (a % b)) := by
  have := Q.rem (P := P) (T := T) (T' := T') (ty := ty) (D := D) ex ey (by omega)
  rwa [Int.tmod_eq_emod_of_nonneg ha] at this
theorem Q.lss (ex : ev L x = some (.int k a)) (ey : ev L y = some (.int k b)) : OpQ P (.binOp .lss T x y T') ty L D (.bool (decide (a < b))) :=
  Q.bin ex ey fun w => by simp [guard_int, binOp, Op.intCmp]
theorem Q.leq (ex : ev L x = some (.int k a)) (ey : ev L y = some (.int k b)) : OpQ P (.binOp .leq T x y T') ty L D (.bool (decide (a ≤ b))) :=
  Q.bin ex ey fun w => by simp [guard_int, binOp, Op.intCmp]
theorem Q.gtr (ex : ev L x = some (.int k a)) (ey : ev L y = some (.int k b)) : OpQ P (.binOp .gtr T x y T') ty L D (.bool (decide (b < a))) :=
  Q.bin ex ey fun w => by simp [guard_int, binOp, Op.intCmp]
theorem Q.geq (ex : ev L x = some (.int k a)) (ey : ev L y = some (.int k b)) : OpQ P (.binOp .geq T x y T') ty L D (.bool (decide (b ≤ a))) :=
  Q.bin ex ey fun w => by simp [guard_int, binOp, Op.intCmp]
theorem Q.eql (ex : ev L x = some (.int k a)) (ey : ev L y = some (.int k b)) : OpQ P (.binOp .eql T x y T') ty L D (.bool (decide (a = b))) :=
  Q.bin ex ey fun w => by simp [guard_int, binOp, Op.intCmp]; rfl
theorem Q.neq (ex : ev L x = some (.int k a)) (ey : ev L y = some (.int k b)) : OpQ P (.binOp .neq T x y T') ty L D (.bool (!decide (a = b))) :=
  Q.bin ex ey fun w => by simp [guard_int, binOp, Op.intCmp]; rfl
theorem Q.xor (ex : ev L x = some (.int k a)) (ey : ev L y = some (.int k b)) : OpQ P (.binOp .xor T x y T') ty L D (.int k (k.wrap (BitVec.ofInt k.bits a ^^^ BitVec.ofInt k.bits b).toNat)) :=
  Q.bin ex ey fun w => by simp [guard_int, binOp, Op.intBits]
theorem Q.shl {k' : IntKind} (ex : ev L x = some (.int k a)) (ey : ev L y = some (.int k' b)) (h : 0 ≤ b) : OpQ P (.binOp .shl T x y T') ty L D (.int k (k.wrap (a * 2 ^ (min b.toNat k.bits)))) :=
  Q.bin ex ey fun w => by simp [guard_int, binOp, Op.shift, show ¬ b < 0 by omega]
theorem Q.shr {k' : IntKind} (ex : ev L x = some (.int k a)) (ey : ev L y = some (.int k' b)) (h : 0 ≤ b) : OpQ P (.binOp .shr T x y T') ty L D (.int k (a.fdiv (2 ^ (min b.toNat k.bits)))) :=
  Q.bin ex ey fun w => by simp [guard_int, binOp, Op.shift, show ¬ b < 0 by omega]

theorem list_beq (l m : List UInt8) : (l == m) = decide (l = m) := by
  by_cases h : l = m <;> simp [h]
theorem guard_str {op : BinOp} {T : TypeId} {x y : Operand} {s t : ByteArray} (w : World) : (eqGuard op T x y (.string s) (.string t)).run P w = .ok () w := by
  cases op <;> simp [eqGuard]
theorem Q.eqls {s t : ByteArray} (ex : ev L x = some (.string s)) (ey : ev L y = some (.string t)) : OpQ P (.binOp .eql T x y T') ty L D (.bool (decide (s.data.toList = t.data.toList))) :=
  Q.bin ex ey fun w => by simp only [Sem.run_bind, guard_str, Result.andThen_ok, binOp, Op.stringOp, ByteArray.toList_eq, list_beq]; rfl
theorem Q.neqs {s t : ByteArray} (ex : ev L x = some (.string s)) (ey : ev L y = some (.string t)) : OpQ P (.binOp .neq T x y T') ty L D (.bool (!decide (s.data.toList = t.data.toList))) :=
  Q.bin ex ey fun w => by simp only [Sem.run_bind, guard_str, Result.andThen_ok, binOp, Op.stringOp, ByteArray.toList_eq, list_beq]; rfl
theorem run_equalIn_ptr (d : Nat) {E : TypeId} (p : Option Addr) (w : World) (hu : ∀ w, (underlying T).run P w = .ok (.pointer E) w) : (Op.equalIn (d + 1) T (.pointer p) (.pointer none)).run P w = .ok p.isNone w := by
  cases p <;> simp [Op.equalIn, hu]
theorem run_equalIn_slice (d : Nat) {E : TypeId} (p : Option Addr) (n c : Nat) (w : World) (hu : ∀ w, (underlying T).run P w = .ok (.slice E) w) : (Op.equalIn (d + 1) T (.slice p n c) (.slice none 0 0)).run P w = .ok p.isNone w := by
  cases p <;> simp [Op.equalIn, hu]
theorem run_eql_of {u v : Value} {r : Bool} {w : World} (h : ∀ d, (Op.equalIn (d + 1) T u v).run P w = .ok r w) : (Op.equal T u v).run P w = .ok r w := h 9999

theorem Q.eqlp {E : TypeId} {p : Option Addr} (hu : ∀ w, (underlying T).run P w = .ok (.pointer E) w) (ex : ev L x = some (.pointer p)) (ey : ev L y = some (.pointer none)) : OpQ P (.binOp .eql T x y T') ty L D (.bool p.isNone) :=
  Q.bin ex ey fun w => by
    have := run_eql_of (fun d => run_equalIn_ptr d p w hu)
    simp [eqGuard, binOp, this]
theorem Q.neqp {E : TypeId} {p : Option Addr} (hu : ∀ w, (underlying T).run P w = .ok (.pointer E) w) (ex : ev L x = some (.pointer p)) (ey : ev L y = some (.pointer none)) : OpQ P (.binOp .neq T x y T') ty L D (.bool (!p.isNone)) :=
  Q.bin ex ey fun w => by
    have := run_eql_of (fun d => run_equalIn_ptr d p w hu)
    simp [eqGuard, binOp, this]
theorem Q.eqlsl {E : TypeId} {p : Option Addr} {n c : Nat} (hu : ∀ w, (underlying T).run P w = .ok (.slice E) w) (ex : ev L x = some (.slice p n c)) (ey : ev L y = some (.slice none 0 0)) : OpQ P (.binOp .eql T x y T') ty L D (.bool p.isNone) :=
  Q.bin ex ey fun w => by
    have := run_eql_of (fun d => run_equalIn_slice d p n c w hu)
    simp [eqGuard, binOp, this]
theorem Q.not {p : Bool} (ex : ev L x = some (.bool p)) : OpQ P (.unOp .not T x) ty L D (.bool (!p)) :=
  .pure_ fun _ _ _ _ a w ag => by simp [execOp, ag.at_ ex (by simp [Op.operands]), Op.unary]
theorem Q.nil_ {p : Addr} (ex : ev L x = some (.pointer (some p))) : OpQ P (.nilCheck x) ty L D (.pointer (some p)) :=
  .pure_ fun _ _ _ _ a w ag => by simp [execOp, ag.at_ ex (by simp [Op.operands])]
theorem Q.conv {n : Int} {k k' : IntKind} {d : TypeDesc} (h1 : ∀ w, (underlying T).run P w = .ok d w) (h2 : ∀ w, (underlying T').run P w = .ok (.int k') w) (ex : ev L x = some (.int k n)) :
    OpQ P (.convert T T' x) ty L D (.int k' (k'.wrap n)) :=
  .pure_ fun _ _ _ _ a w ag => by simp [execOp, ag.at_ ex (by simp [Op.operands]), convert, h1, h2, Conv.intToInt]
theorem Q.conv64 {n : Int} {k : IntKind} {d : TypeDesc} (h1 : ∀ w, (underlying T).run P w = .ok d w) (h2 : ∀ w, (underlying T').run P w = .ok (.int .i64) w) (ex : ev L x = some (.int k n)) (h : -9223372036854775808 ≤ n ∧ n ≤ 9223372036854775807) :
    OpQ P (.convert T T' x) ty L D (.int .i64 n) := by
  have := Q.conv (D := D) (ty := ty) h1 h2 ex; rwa [IntWalk.i64_in _ h] at this
theorem Q.convss {s : ByteArray} (h1 : ∀ w, (underlying T).run P w = .ok .string w) (h2 : ∀ w, (underlying T').run P w = .ok .string w) (ex : ev L x = some (.string s)) :
    OpQ P (.convert T T' x) ty L D (.string s) :=
  .pure_ fun _ _ _ _ a w ag => by simp [execOp, ag.at_ ex (by simp [Op.operands]), convert, h1, h2]

theorem Q.ext {i : Nat} {vs : List Value} {v : Value} (ex : ev L x = some (.tuple vs.toArray)) (hv : vs[i]? = some v) : OpQ P (.extract x i) ty L D v :=
  .pure_ fun _ _ _ _ a w ag => by simp [execOp, ag.at_ ex (by simp [Op.operands]), Instr.extract, hv]

theorem Q.func {fn : Fn} {fs cs : List Operand} {us vs : List Value} (e1 : evs L fs = some us) (e2 : evs L cs = some vs) : OpQ P (.makeFunc fn fs.toArray cs.toArray) ty L D (.func fn us.toArray vs.toArray) :=
  .pure_ fun _ _ _ _ a w ag => by
    have h1 := evs_map (fun x hx => ag x (by simp [Op.operands, hx])) e1
    have h2 := evs_map (fun x hx => ag x (by simp [Op.operands, hx])) e2
    simp [execOp, Instr.makeFunc, h1, h2]

theorem addr_add (b off n : Nat) : (⟨b, off, none⟩ : Addr).add n = ⟨b, off + n, none⟩ := by
  unfold Addr.add; split
  · subst_vars; rfl
  · rfl

theorem Q.fa {b off n i m : Nat} {fs : Array Field} {f : Field} (hu : ∀ w, (underlying T).run P w = .ok (.struct fs) w) (ex : ev L x = some (.pointer (some ⟨b, off, none⟩))) (hf : fs[i]? = some f)
    (hs : ∀ w, (sizeOf f.type).run P w = .ok (m + 1) w) (hn : f.offset = n) : OpQ P (.fieldAddr T x i) ty L D (.pointer (some ⟨b, off + n, none⟩)) :=
  .pure_ fun _ _ _ _ a w ag => by
    simp [execOp, ag.at_ ex (by simp [Op.operands]), Instr.fieldAt, hu, hf, Instr.sureAddr, fieldPlace, hs, addr_add, hn]

theorem Q.ia {E b off len cap sz : Nat} {i : Int} (hu : ∀ w, (underlying T).run P w = .ok (.slice E) w) (hs : ∀ w, (sizeOf E).run P w = .ok sz w) (ex : ev L x = some (.slice (some ⟨b, off, none⟩) len cap)) (ey : ev L y = some (.int k i))
    (h0 : 0 ≤ i) (h1 : i < (len : Int)) : OpQ P (.indexAddr T x y) ty L D (.pointer (some ⟨b, off + i.toNat * sz, none⟩)) :=
  .pure_ fun _ _ _ _ a w ag => by
    simp [execOp, ag.at_ ex (by simp [Op.operands]), ag.at_ ey (by simp [Op.operands]), Instr.indexAt, asIntOf, hu, hs, h0, h1, addr_add]

def Reads (D : List Assn) (b off : Nat) (v : Value) : Prop := ∀ h, HSat h D → ∃ c e z, h b = some (.cells c e z) ∧ c[off]? = some v

theorem Reads.pt (i : Nat) {l : List Value} {e : TypeId} {z : Nat × Nat} {b off : Nat} {v : Value} (h : D[i]? = some (pt b (.cells l.toArray e z))) (hv : l[off]? = some v) : Reads D b off v := by
  intro k s
  obtain ⟨k', a, u⟩ := s.at_ h
  exact ⟨_, _, _, u _ _ a, by simpa using hv⟩
theorem Reads.more {F : List Assn} {b off : Nat} {v : Value} (h : Reads D b off v) : Reads (D ++ F) b off v := by
  intro k s
  obtain ⟨h1, h2, p, q, d, u, _⟩ := s.append
  obtain ⟨c, e, z, r1, r2⟩ := h h1 p
  exact ⟨c, e, z, u _ _ r1, r2⟩
theorem Reads.cell {b off : Nat} {v : Value} (h : Reads D b off v) {W0 w : World} (s : Sat W0 w D) : w.cell? ⟨b, off, none⟩ = some v := by
  obtain ⟨c, e, z, h1, h2⟩ := h _ s.heap
  simp only [hp] at h1
  simp [World.cell?, h1, h2]

theorem Q.ld {b off : Nat} {v : Value} (ha : ∀ w, (isAgg T).run P w = .ok false w) (ex : ev L x = some (.pointer (some ⟨b, off, none⟩))) (hr : Reads D b off v) : OpQ P (.load T x) ty L D v :=
  ⟨fun _ _ _ _ a W0 w F ag s => ⟨w, by
    have hc := (hr.more (F := F)).cell s
    simp [execOp, ag.at_ ex (by simp [Op.operands]), Instr.loadAt, Instr.sureAddr, loadVar, ha, hc], s⟩⟩

def ReadsN (D : List Assn) (b off : Nat) (vs : List Value) : Prop := ∀ i v, vs[i]? = some v → Reads D b (off + i) v

theorem run_loadCellsFrom {W0 w : World} {b off : Nat} (s : Sat W0 w D) : ∀ (vs : List Value) (i : Nat) (acc : Array Value), (∀ j v, vs[j]? = some v → Reads D b (off + (i + j)) v) →
    (loadCellsFrom ⟨b, off, none⟩ i vs.length acc).run P w = .ok (acc ++ vs.toArray) w
  | [], i, acc, _ => by simp [loadCellsFrom]
  | v :: vs, i, acc, h => by
    have hc := (h 0 v (by simp)).cell s
    simp only [Nat.add_zero] at hc
    simp only [List.length_cons, loadCellsFrom, addr_add, Sem.run_bind, run_load, hc, Result.andThen_ok]
    rw [run_loadCellsFrom s vs (i + 1) (acc.push v) (fun j u hu => by rw [show i + 1 + j = i + (j + 1) from by omega]; exact h (j + 1) u (by simpa using hu))]
    simp

theorem run_loadCells {W0 w : World} {b off : Nat} {vs : List Value} (s : Sat W0 w D) (h : ReadsN D b off vs) : (loadCells ⟨b, off, none⟩ vs.length).run P w = .ok vs.toArray w := by
  unfold loadCells
  rw [run_loadCellsFrom s vs 0 #[] (fun j u hu => by rw [Nat.zero_add]; exact h j u hu)]
  simp

theorem Q.ldN {b off : Nat} {vs : List Value} (ha : ∀ w, (isAgg T).run P w = .ok true w) (hs : ∀ w, (sizeOf T).run P w = .ok vs.length w) (ex : ev L x = some (.pointer (some ⟨b, off, none⟩))) (hr : ReadsN D b off vs) : OpQ P (.load T x) ty L D (.agg vs.toArray) :=
  ⟨fun _ _ _ _ a W0 w F ag s => ⟨w, by
    have hc := run_loadCells (P := P) s (fun i v hv => (hr i v hv).more (F := F))
    simp [execOp, ag.at_ ex (by simp [Op.operands]), Instr.loadAt, Instr.sureAddr, loadVar, ha, hs, hc], s⟩⟩

theorem Q.idxs {s : ByteArray} {i : Int} {u : UInt8} (hu : ∀ w, (underlying T).run P w = .ok .string w) (ex : ev L x = some (.string s)) (ey : ev L y = some (.int k i)) (h0 : 0 ≤ i) (hv : s.data.toList[i.toNat]? = some u) : OpQ P (.index T x y) ty L D (.int .u8 u.toNat) :=
  .pure_ fun _ _ _ _ a w ag => by
    have hlt : i.toNat < s.size := by
      have := (List.getElem?_eq_some_iff.1 hv).1
      simpa using this
    have hv' : s[i.toNat]? = some u := by
      rw [getElem?_pos s i.toNat hlt]
      have h2 := (List.getElem?_eq_some_iff.1 hv).2
      simp only [Array.getElem_toList] at h2
      exact congrArg some h2
    simp [execOp, ag.at_ ex (by simp [Op.operands]), ag.at_ ey (by simp [Op.operands]), Instr.index, asIntOf, hu, h0, hv']

theorem OpQ.built {b : Builtin} {xs : List Operand} {ts : Array TypeId} {vs : List Value} {v : Value} (e : evs L xs = some vs) (h : ∀ w cs, (builtin b ts ty cs vs.toArray).run P w = .ok (.value v) w) :
    OpQ P (.call { callee := .builtin b, args := xs.toArray, argTypes := ts }) ty L D v :=
  .pure_ fun _ _ _ _ a w ag => by
    have hx : xs.map a.eval = vs := evs_map (fun x hx => ag x (by simp [Op.operands, Call.operands, hx])) e
    have ha : (xs.toArray).map a.eval = vs.toArray := by simp [hx]
    simp only [execOp, resolve, invoke, Sem.run_bind, Sem.run_pure, Result.andThen_ok, ha]
    exact h w _

theorem Q.lenS {s : ByteArray} (hu : ∀ w, (underlying T).run P w = .ok .string w) (e : evs L [x] = some [.string s]) : OpQ P (.call { callee := .builtin .len, args := #[x], argTypes := #[T] }) ty L D (.int .i64 s.size) :=
  OpQ.built (xs := [x]) e fun w cs => by simp [builtin, Builtin.len_, hu, goInt]
theorem Q.lenSl {E : TypeId} {p : Option Addr} {n c : Nat} (hu : ∀ w, (underlying T).run P w = .ok (.slice E) w) (e : evs L [x] = some [.slice p n c]) : OpQ P (.call { callee := .builtin .len, args := #[x], argTypes := #[T] }) ty L D (.int .i64 n) :=
  OpQ.built (xs := [x]) e fun w cs => by simp [builtin, Builtin.len_, hu, goInt]
theorem Q.capSl {E : TypeId} {p : Option Addr} {n c : Nat} (hu : ∀ w, (underlying T).run P w = .ok (.slice E) w) (e : evs L [x] = some [.slice p n c]) : OpQ P (.call { callee := .builtin .cap, args := #[x], argTypes := #[T] }) ty L D (.int .i64 c) :=
  OpQ.built (xs := [x]) e fun w cs => by simp [builtin, Builtin.cap_, hu, goInt]
theorem Q.slLH {E b off len cap sz : Nat} {lo hi : Int} {l h : Operand} (hu : ∀ w, (underlying T).run P w = .ok (.slice E) w) (hs : ∀ w, (sizeOf E).run P w = .ok sz w) (ex : ev L x = some (.slice (some ⟨b, off, none⟩) len cap))
    (el : ev L l = some (.int k lo)) {k' : IntKind} (eh : ev L h = some (.int k' hi)) (h0 : 0 ≤ lo) (h1 : lo ≤ hi) (h2 : hi ≤ (cap : Int)) :
    OpQ P (.slice T x (some l) (some h) none) ty L D (.slice (some ⟨b, off + (if cap = lo.toNat then 0 else lo.toNat) * sz, none⟩) (hi.toNat - lo.toNat) (cap - lo.toNat)) :=
  .pure_ fun _ _ _ _ a w ag => by
    have e1 := ag.at_ ex (by simp [Op.operands])
    have e2 := ag.at_ el (by simp [Op.operands])
    have e3 := ag.at_ eh (by simp [Op.operands])
    have hh : 0 ≤ hi ∧ hi ≤ (cap : Int) := by omega
    have hl : lo ≤ max hi 0 := by omega
    simp [execOp, e1, e2, e3, Instr.sliceAt, Instr.slice, hu, Instr.sliceBounds, Instr.sliceBound, asIntOf, hs, hh, h0, hl]
    by_cases hc : cap = lo.toNat <;> simp [hc, addr_add]
theorem Q.slL {E b off len cap sz : Nat} {lo : Int} {l : Operand} (hu : ∀ w, (underlying T).run P w = .ok (.slice E) w) (hs : ∀ w, (sizeOf E).run P w = .ok sz w) (ex : ev L x = some (.slice (some ⟨b, off, none⟩) len cap))
    (el : ev L l = some (.int k lo)) (h0 : 0 ≤ lo) (h1 : lo ≤ (len : Int)) :
    OpQ P (.slice T x (some l) none none) ty L D (.slice (some ⟨b, off + (if cap = lo.toNat then 0 else lo.toNat) * sz, none⟩) (len - lo.toNat) (cap - lo.toNat)) :=
  .pure_ fun _ _ _ _ a w ag => by
    have e1 := ag.at_ ex (by simp [Op.operands])
    have e2 := ag.at_ el (by simp [Op.operands])
    simp [execOp, e1, e2, Instr.sliceAt, Instr.slice, hu, Instr.sliceBounds, Instr.sliceBound, asIntOf, hs, h0, h1]
    by_cases hc : cap = lo.toNat <;> simp [hc, addr_add]
theorem Q.slH {E len cap sz : Nat} {p : Option Addr} {hi : Int} {h : Operand} (hu : ∀ w, (underlying T).run P w = .ok (.slice E) w) (hs : ∀ w, (sizeOf E).run P w = .ok sz w) (ex : ev L x = some (.slice p len cap))
    (eh : ev L h = some (.int k hi)) (h0 : 0 ≤ hi) (h2 : hi ≤ (cap : Int)) :
    OpQ P (.slice T x none (some h) none) ty L D (.slice p hi.toNat cap) :=
  .pure_ fun _ _ _ _ a w ag => by
    have e1 := ag.at_ ex (by simp [Op.operands])
    have e3 := ag.at_ eh (by simp [Op.operands])
    simp [execOp, e1, e3, Instr.sliceAt, Instr.slice, hu, Instr.sliceBounds, Instr.sliceBound, asIntOf, hs, h0, h2]
    cases p <;> simp [Addr.add]
theorem Q.slHM {E len cap sz : Nat} {p : Option Addr} {hi mx : Int} {h m : Operand} (hu : ∀ w, (underlying T).run P w = .ok (.slice E) w) (hs : ∀ w, (sizeOf E).run P w = .ok sz w) (ex : ev L x = some (.slice p len cap))
    (eh : ev L h = some (.int k hi)) {k' : IntKind} (em : ev L m = some (.int k' mx)) (h0 : 0 ≤ hi) (h1 : hi ≤ mx) (h2 : mx ≤ (cap : Int)) :
    OpQ P (.slice T x none (some h) (some m)) ty L D (.slice p hi.toNat mx.toNat) :=
  .pure_ fun _ _ _ _ a w ag => by
    have e1 := ag.at_ ex (by simp [Op.operands])
    have e3 := ag.at_ eh (by simp [Op.operands])
    have e4 := ag.at_ em (by simp [Op.operands])
    have hm : 0 ≤ mx := by omega
    have hh : hi ≤ max mx 0 := by omega
    simp [execOp, e1, e3, e4, Instr.sliceAt, Instr.slice, hu, Instr.sliceBounds, Instr.sliceBound, asIntOf, hs, h0, hm, hh, h2]
    cases p <;> simp [Addr.add]
theorem Q.strH {s : ByteArray} {hi : Int} {h : Operand} (hu : ∀ w, (underlying T).run P w = .ok .string w) (ex : ev L x = some (.string s)) (eh : ev L h = some (.int k hi)) (h0 : 0 ≤ hi) (h2 : hi ≤ (s.size : Int)) :
    OpQ P (.slice T x none (some h) none) ty L D (.string (s.extract 0 hi.toNat)) :=
  .pure_ fun _ _ _ _ a w ag => by
    have e1 := ag.at_ ex (by simp [Op.operands])
    have e3 := ag.at_ eh (by simp [Op.operands])
    simp [execOp, e1, e3, Instr.sliceAt, Instr.slice, hu, Instr.sliceBounds, Instr.sliceBound, asIntOf, h0, h2]
end
end Go.X
namespace Go.X
set_option linter.unusedSectionVars false
set_option linter.unusedSimpArgs false
set_option linter.unusedVariables false

def setA : Nat → Assn → List Assn → Option (List Assn)
  | _, _, [] => none
  | 0, x, _ :: l => match normA l with | some r => some (x :: r) | none => none
  | i + 1, x, a :: l => match setA i x l with | some r => some (a :: r) | none => none
theorem setA_eq : ∀ {i : Nat} {x : Assn} {l m : List Assn}, setA i x l = some m → l.set i x = m
  | _, _, [], _, e => by simp [setA] at e
  | 0, x, a :: l, m, e => by
    simp only [setA] at e
    split at e
    · rename_i r hr
      simp only [Option.some.injEq] at e
      rw [← e, normA_eq hr]; rfl
    · cases e
  | i + 1, x, a :: l, m, e => by
    simp only [setA] at e
    split at e
    · rename_i r hr
      simp only [Option.some.injEq] at e
      rw [← e, List.set_cons_succ, setA_eq hr]
    · cases e
def setV : Nat → Value → List Value → Option (List Value)
  | _, _, [] => none
  | 0, x, _ :: l => some (x :: l)
  | i + 1, x, a :: l => match setV i x l with | some r => some (a :: r) | none => none
theorem setV_eq : ∀ {i : Nat} {x : Value} {l m : List Value}, setV i x l = some m → i < l.length ∧ l.set i x = m
  | _, _, [], _, e => by simp [setV] at e
  | 0, x, a :: l, m, e => by simp only [setV, Option.some.injEq] at e; exact ⟨by simp, by rw [← e]; rfl⟩
  | i + 1, x, a :: l, m, e => by
    simp only [setV] at e
    split at e
    · rename_i r hr
      simp only [Option.some.injEq] at e
      obtain ⟨h1, h2⟩ := setV_eq hr
      exact ⟨by simp; omega, by rw [← e, List.set_cons_succ, h2]⟩
    · cases e

theorem J.norm [Dfs] {W0 : World} {N : Nat} {L : Slots} {A B : List Assn} {G : Act → World → Prop} (e : normA A = some B) (h : J W0 N L B G) : J W0 N L A G := by rw [normA_eq e]; exact h

def oneC : Value → Bool
  | .agg _ | .tuple _ => false
  | _ => true
section
variable {P : Program} {L : Slots} {A : List Assn} {ty : TypeId} {W0 w : World}

theorem Sat.at_ {i b : Nat} {o : Obj} (s : Sat W0 w A) (h : A[i]? = some (pt b o)) : w.heap[b]? = some o := by
  obtain ⟨k, a, u⟩ := s.heap.at_ h
  exact u _ _ a

theorem Sat.set {i b : Nat} {o : Obj} {w' : World} (s : Sat W0 w A) (h : A[i]? = some (pt b o)) (p : Obj) (h1 : w'.os = w.os) (h2 : w'.tape = w.tape) (h3 : w'.output = w.output) (h4 : hp w' = upd (hp w) b p) : Sat W0 w' (A.set i (pt b p)) :=
  ⟨h1.trans s.os, h2.trans s.tape, h3.trans s.out, by rw [h4]; exact s.heap.update h (fun k hk => ⟨⟨o, hk⟩, by simp [pt, upd]⟩)⟩

theorem hp_setCell {b off : Nat} {l : List Value} {e : TypeId} {z : Nat × Nat} {v : Value} (h : w.heap[b]? = some (.cells l.toArray e z)) : hp (w.setCell ⟨b, off, none⟩ v) = upd (hp w) b (.cells (l.set off v).toArray e z) := by
  unfold World.setCell
  rw [hp_modify w b _ (.cells l.toArray e z) h]
  simp

theorem run_store {b off i : Nat} {l : List Value} {e : TypeId} {z : Nat × Nat} {v : Value} (s : Sat W0 w A) (h : A[i]? = some (pt b (.cells l.toArray e z))) (ho : off < l.length) (hz : (decide (z.1 ≤ off) && decide (off < z.2)) = false) (hv : oneC v = true) :
    (store ⟨b, off, none⟩ v).run P w = .ok () (w.setCell ⟨b, off, none⟩ v) ∧ Sat W0 (w.setCell ⟨b, off, none⟩ v) (A.set i (pt b (.cells (l.set off v).toArray e z))) := by
  have hb := s.at_ h
  have hc : w.cell? ⟨b, off, none⟩ = some l[off] := by simp [World.cell?, hb, ho]
  have hf : w.frozen? ⟨b, off, none⟩ = false := by
    obtain ⟨z1, z2⟩ := z
    simp only [World.frozen?, hb]; exact hz
  refine ⟨?_, s.set h _ rfl rfl rfl (hp_setCell hb)⟩
  unfold store
  cases v <;> simp_all [Sem.run, oneC]

def splice : List Value → Nat → List Value → List Value
  | l, _, [] => l
  | l, o, v :: vs => splice (l.set o v) (o + 1) vs

theorem splice_length : ∀ (vs l : List Value) (o : Nat), (splice l o vs).length = l.length
  | [], l, o => rfl
  | v :: vs, l, o => by simp [splice, splice_length vs]

theorem splice_eq : ∀ (vs l : List Value) (o : Nat), o + vs.length ≤ l.length → splice l o vs = l.take o ++ vs ++ l.drop (o + vs.length)
  | [], l, o, _ => by simp [splice]
  | v :: vs, l, o, h => by
    simp only [List.length_cons] at h
    rw [splice, splice_eq vs (l.set o v) (o + 1) (by simp; omega)]
    have h1 : (l.set o v).take (o + 1) = l.take o ++ [v] := by
      rw [List.take_succ_eq_append_getElem (by simp; omega)]
      simp [List.take_set_of_le]
    have h2 : (l.set o v).drop (o + 1 + vs.length) = l.drop (o + (vs.length + 1)) := by
      rw [List.drop_set_of_lt (by omega)]; congr 1; omega
    rw [h1, h2]; simp

theorem run_storeCells {b off i : Nat} {e : TypeId} {z : Nat × Nat} : ∀ (vs l : List Value) (k : Nat) (w : World) (A : List Assn), Sat W0 w A → A[i]? = some (pt b (.cells l.toArray e z)) → off + k + vs.length ≤ l.length →
    (∀ j, j < vs.length → (decide (z.1 ≤ off + k + j) && decide (off + k + j < z.2)) = false) → (∀ v, v ∈ vs → oneC v = true) →
    ∃ w', (storeCells ⟨b, off, none⟩ vs k).run P w = .ok () w' ∧ Sat W0 w' (A.set i (pt b (.cells (splice l (off + k) vs).toArray e z)))
  | [], l, k, w, A, s, h, _, _, _ => ⟨w, by simp [storeCells], by
      have : A.set i (pt b (.cells l.toArray e z)) = A := by
        apply List.ext_getElem?
        intro j
        rw [List.getElem?_set]
        split
        · subst_vars; split
          · exact h.symm
          · rename_i q; rw [List.getElem?_eq_none (by omega)]
        · rfl
      simp only [splice]; rw [this]; exact s⟩
  | v :: vs, l, k, w, A, s, h, hl, hz, hv => by
    simp only [List.length_cons] at hl
    obtain ⟨r1, s1⟩ := run_store (P := P) (off := off + k) (v := v) s h (by omega) (by simpa using hz 0 (by simp)) (hv v (by simp))
    have hi : i < A.length := (List.getElem?_eq_some_iff.1 h).1
    obtain ⟨w', r2, s2⟩ := run_storeCells (b := b) (off := off) (i := i) (e := e) (z := z) vs (l.set (off + k) v) (k + 1) _ _ s1 (by simp [hi]) (by simp; omega) (by
      intro j hj; have := hz (j + 1) (by simp; omega); rw [show off + (k + 1) + j = off + k + (j + 1) from by omega]; exact this) (fun u hu => hv u (by simp [hu]))
    refine ⟨w', ?_, ?_⟩
    · simp only [storeCells, addr_add, Sem.run_bind, r1, Result.andThen_ok, r2]
    · rw [List.set_set] at s2
      rw [splice, show off + k + 1 = off + (k + 1) from by omega]; exact s2

variable {T T' : TypeId} {x y : Operand}

theorem C.st {i b off : Nat} {l : List Value} {e : TypeId} {z : Nat × Nat} {v : Value} (hs : ∀ w, (sizeOf T).run P w = .ok 1 w) (ex : ev L x = some (.pointer (some ⟨b, off, none⟩))) (ey : ev L y = some v) (hv : oneC v = true)
    (h : A[i]? = some (pt b (.cells l.toArray e z))) (ho : off < l.length) (hz : (decide (z.1 ≤ off) && decide (off < z.2)) = false) :
    OpC P (.store T x y) ty L A (fun u B => u = undef ∧ B = A.set i (pt b (.cells (l.set off v).toArray e z))) := by
  refine ⟨fun dst pos aft g a W0 w ag s K Q k => ?_⟩
  obtain ⟨r1, s1⟩ := run_store (P := P) (v := v) s h ho hz hv
  have hc : v.cells = #[v] := by cases v <;> first | rfl | simp [oneC] at hv
  have hr : (execOp a.eval ⟨dst, .store T x y, ty, pos, aft, g⟩).run P w = .ok .skip (w.setCell ⟨b, off, none⟩ v) := by
    simp [execOp, ag.at_ ex (by simp [Op.operands]), ag.at_ ey (by simp [Op.operands]), Instr.storeAt, Instr.sureAddr, storeVar, hs, hc, storeCells, addr_add, r1]
  unfold Oper.wp
  rw [hr, Oper.upon_skip]
  exact k _ _ _ ⟨rfl, rfl⟩ s1

theorem C.stN {i b off : Nat} {l vs : List Value} {e : TypeId} {z : Nat × Nat} (hs : ∀ w, (sizeOf T).run P w = .ok vs.length w) (ex : ev L x = some (.pointer (some ⟨b, off, none⟩))) (ey : ev L y = some (.agg vs.toArray)) (hv : ∀ v, v ∈ vs → oneC v = true)
    (h : A[i]? = some (pt b (.cells l.toArray e z))) (ho : off + vs.length ≤ l.length) (hz : ∀ j, j < vs.length → (decide (z.1 ≤ off + j) && decide (off + j < z.2)) = false) :
    OpC P (.store T x y) ty L A (fun u B => u = undef ∧ B = A.set i (pt b (.cells (splice l off vs).toArray e z))) := by
  refine ⟨fun dst pos aft g a W0 w ag s K Q k => ?_⟩
  obtain ⟨w', r1, s1⟩ := run_storeCells (P := P) vs l 0 w A s h (by simpa using ho) (by simpa using hz) hv
  have hr : (execOp a.eval ⟨dst, .store T x y, ty, pos, aft, g⟩).run P w = .ok .skip w' := by
    simp [execOp, ag.at_ ex (by simp [Op.operands]), ag.at_ ey (by simp [Op.operands]), Instr.storeAt, Instr.sureAddr, storeVar, hs, Value.cells, r1]
  unfold Oper.wp
  rw [hr, Oper.upon_skip]
  exact k _ _ _ ⟨rfl, rfl⟩ (by simpa using s1)

theorem run_new (o : Obj) : (newObj o).run P w = .ok w.heap.size { w with heap := w.heap.push o } := rfl

theorem C.ofNew {op : Op} {v : Nat → Value} {o : Obj} (hr : ∀ (dst : Option Tmp) (pos : String) (aft : Array Edge) (g : Option (Nat × Bool)) (a : Act) (w : World), Agree a L op → (execOp a.eval ⟨dst, op, ty, pos, aft, g⟩).run P w = .ok (.value (v w.heap.size)) { w with heap := w.heap.push o }) :
    OpC P op ty L A (fun u B => ∃ b, u = v b ∧ B = pt b o :: A) := by
  refine ⟨fun dst pos aft g a W0 w ag s K Q k => ?_⟩
  unfold Oper.wp
  rw [hr dst pos aft g a w ag, Oper.upon_value]
  exact k _ _ _ ⟨_, rfl, rfl⟩ (s.new o)

theorem C.alloc {E : TypeId} {zv : Value} {l : List Value} (hz : ∀ w, (zeroValue E).run P w = .ok zv w) (hl : zv.cells = l.toArray) :
    OpC P (.alloc E) ty L A (fun u B => ∃ b, u = .pointer (some ⟨b, 0, none⟩) ∧ B = pt b (.cells l.toArray E (0, 0)) :: A) :=
  C.ofNew (v := fun b => .pointer (some ⟨b, 0, none⟩)) fun dst pos aft g a w ag => by
    simp [execOp, Instr.alloc, hz, newVar, newRow, hl]
theorem C.box {E : TypeId} {v : Value} {l : List Value} (ex : ev L x = some v) (hl : v.cells = l.toArray) :
    OpC P (.box E x) ty L A (fun u B => ∃ b, u = .pointer (some ⟨b, 0, none⟩) ∧ B = pt b (.cells l.toArray E (0, 0)) :: A) :=
  C.ofNew (v := fun b => .pointer (some ⟨b, 0, none⟩)) fun dst pos aft g a w ag => by
    simp [execOp, ag.at_ ex (by simp [Op.operands]), Instr.box, newVar, newRow, hl]
theorem C.mkMap : OpC P (.makeMap T none) ty L A (fun u B => ∃ b, u = .map (some b) ∧ B = pt b (.map #[] 0) :: A) :=
  C.ofNew (v := fun b => .map (some b)) fun dst pos aft g a w ag => by
    simp [execOp, Instr.makeMap]

theorem C.bsl {E sz len : Nat} {zv : Value} {ps : List (Nat × Operand)} {vs : List Value} {l : List Value} (hu : ∀ w, (underlying T).run P w = .ok (.slice E) w) (hs : ∀ w, (sizeOf E).run P w = .ok sz w) (hz : ∀ w, (zeroValue E).run P w = .ok zv w)
    (hm : len * sz ≤ 16777216) (ev_ : evs L (ps.map (·.2)) = some vs)
    (hl : Instr.fill (fun i => some (i * sz, sz)) ((Array.range (len * sz)).map fun j => (if len * sz = 0 then #[] else zv.cells)[j % (if len * sz = 0 then #[] else zv.cells).size]!) ((ps.map (·.1)).zip vs) = some l.toArray) :
    OpC P (.buildSlice T len ps.toArray) ty L A (fun u B => ∃ b, u = .slice (some ⟨b, 0, none⟩) len len ∧ B = pt b (.cells l.toArray E (0, 0)) :: A) :=
  C.ofNew (v := fun b => .slice (some ⟨b, 0, none⟩) len len) fun dst pos aft g a w ag => by
    have hx : (ps.map (·.2)).map a.eval = vs := evs_map (fun x hx => ag x (by simpa [Op.operands] using hx)) ev_
    have hp : (ps.map fun q => (q.1, a.eval q.2)) = (ps.map (·.1)).zip vs := by
      rw [← hx]; clear hx hl ev_ ag
      induction ps with
      | nil => rfl
      | cons q r ih => simp [ih]
    have hm' : ¬ len * sz > 2 ^ 24 := by omega
    have hpar : (Array.map (fun q : Nat × Operand => (q.1, a.eval q.2)) ps.toArray).toList = (ps.map (·.1)).zip vs := by simpa using hp
    simp only [execOp, Instr.buildSlice, Sem.run_bind, hu, hs, Result.andThen_ok]
    rw [if_neg hm']
    by_cases h0 : len * sz = 0
    · simp only [h0, if_true] at hl
      simp only [h0, if_true, Sem.run_bind, Result.andThen_ok, Sem.run_pure, hpar, hl, newRow, run_new]
    · simp only [h0, if_false] at hl
      simp only [h0, if_false, Sem.run_bind, hz, Result.andThen_ok, Sem.run_pure, hpar, hl, newRow, run_new]

theorem C.mksl {E : TypeId} {zv : Value} {ti : TypeInfo} {n c : Int} {k k' : IntKind} (hu : ∀ w, (underlying T).run P w = .ok (.slice E) w) (hi : ∀ w, (typeInfo E).run P w = .ok ti w) (hs : ∀ w, (sizeOf E).run P w = .ok 1 w) (hz : ∀ w, (zeroValue E).run P w = .ok zv w) (h1 : zv.cells = #[zv])
    (ex : ev L x = some (.int k n)) (ey : ev L y = some (.int k' c)) (h0 : 0 ≤ n) (hc : n ≤ c) (hb : (ti.bytes : Int) * c ≤ 281474976710656) (hc' : c ≤ 9223372036854775807) :
    OpC P (.makeSlice T x y) ty L A (fun u B => ∃ b, u = .slice (some ⟨b, 0, none⟩) n.toNat c.toNat ∧ B = pt b (.cells (List.replicate c.toNat zv).toArray E (0, 0)) :: A) :=
  C.ofNew (v := fun b => .slice (some ⟨b, 0, none⟩) n.toNat c.toNat) fun dst pos aft g a w ag => by
    have e1 := ag.at_ ex (by simp [Op.operands])
    have e2 := ag.at_ ey (by simp [Op.operands])
    have w1 : IntKind.i64.wrap n = n := IntWalk.i64_in _ (by omega)
    have w2 : IntKind.i64.wrap c = c := IntWalk.i64_in _ (by omega)
    have c1 : ¬ c < 0 := by omega
    have c2 : ¬ (281474976710656 : Int) < ti.bytes * c := by omega
    have c3 : ¬ n < 0 := by omega
    have c4 : ¬ c < n := by omega
    have hfill : (Array.map (fun j => (if c.toNat = 0 then #[] else #[zv])[j % (if c.toNat = 0 then (#[] : Array Value) else #[zv]).size]!) (Array.range c.toNat)) = (List.replicate c.toNat zv).toArray := by
      by_cases hc0 : c.toNat = 0
      · simp [hc0]
      · simp only [hc0, if_false]
        apply Array.ext
        · simp
        · intro i h1 h2; simp [Nat.mod_one]
    simp only [execOp, e1, e2, Instr.makeSlice, asInt, asIntOf, Sem.run_bind, hu, hi, hs, hz, Result.andThen_ok, Sem.run_pure, w1, w2]
    simp only [Bool.or_eq_true, decide_eq_true_eq]
    rw [if_neg (by omega)]
    by_cases hc0 : c.toNat = 0
    · simp [hc0, askRoom, newRow, run_new, hs]
      rw [show Array.map (fun _ => (default : Value)) (Array.range 0) = #[] from by apply Array.ext <;> simp]
    · have hroom : (askRoom (c.toNat * ti.bytes)).run P w = .ok () w := by
        unfold askRoom; split <;> rfl
      simp only [hc0, if_false] at hfill
      simp only [Sem.run_bind, hroom, hs, Result.andThen_ok, Nat.mul_one, Sem.run_ite, if_neg hc0, hz, h1, Sem.run_pure, newRow, run_new, hfill]

end
end Go.X
namespace Go.X
set_option linter.unusedSectionVars false
set_option linter.unusedSimpArgs false
set_option linter.unusedVariables false

def byteV (u : UInt8) : Value := .int .u8 u.toNat
def bytesV (bs : List UInt8) : List Value := bs.map byteV

structure Lies where
  b : Nat
  off : Nat
  len : Nat
  cap : Nat
  l : List Value
  z : Nat × Nat

structure Lies.ok (o : Lies) (sz : Nat) (v : Value) (xs : List Value) : Prop where
  val : v = .slice (some ⟨o.b, o.off, none⟩) o.len o.cap
  len : xs.length = o.len * sz
  cap : o.len ≤ o.cap
  fits : o.off + o.cap * sz ≤ o.l.length
  get : ∀ j u, xs[j]? = some u → o.l[o.off + j]? = some u
  free : ∀ k, k < o.l.length → (decide (o.z.1 ≤ k) && decide (k < o.z.2)) = false

def own (E sz : Nat) (v : Value) (xs : List Value) : Assn := fun h =>
  (v = .slice none 0 0 ∧ xs = []) ∨ ∃ o : Lies, o.ok sz v xs ∧ pt o.b (.cells o.l.toArray E o.z) h

def SlR (D : List Assn) (sz : Nat) (v : Value) (xs : List Value) : Prop :=
  (∃ p c, v = .slice p 0 c ∧ xs = []) ∨ ∃ b off len cap, v = .slice (some ⟨b, off, none⟩) len cap ∧ xs.length = len * sz ∧ ReadsN D b off xs

theorem perm_set {B X : Assn} : ∀ {A : List Assn} {i : Nat}, A[i]? = some X → (B :: A).Perm (X :: A.set i B)
  | [], _, e => by simp at e
  | C :: A, 0, e => by simp at e; subst e; exact List.Perm.swap _ _ _
  | C :: A, i + 1, e => by
    have ih := perm_set (B := B) (X := X) (A := A) (i := i) (by simpa using e)
    exact (List.Perm.swap _ _ _).trans ((ih.cons C).trans (List.Perm.swap _ _ _))

theorem HSat.replace {h : Hp} {A : List Assn} {B X : Assn} {i : Nat} (s : HSat h (B :: A)) (e : A[i]? = some X) : HSat h (A.set i B) := (s.perm (perm_set e)).tail

theorem HSat.front {h : Hp} {A : List Assn} {X : Assn} {i : Nat} (s : HSat h A) (e : A[i]? = some X) : HSat h (X :: A.set i (fact True)) := by
  refine HSat.perm (perm_set e) ?_
  exact ⟨fun _ => none, h, trivial, s, fun _ => Or.inl rfl, (fun _ _ e => nomatch e), Sub.refl _⟩

theorem set_imp {h : Hp} {A : List Assn} {X Y : Assn} {i : Nat} (s : HSat h A) (e : A[i]? = some X) (f : ∀ k, X k → Y k) : HSat h (A.set i Y) := by
  have h1 := (s.front e).imp f
  have hi : i < A.length := (List.getElem?_eq_some_iff.1 e).1
  have := HSat.replace (A := A.set i (fact True)) (B := Y) (X := fact True) (i := i) h1 (by simp [hi])
  rwa [List.set_set] at this

section
variable {P : Program} {L : Slots} {A D : List Assn} {ty : TypeId} {W0 w : World}

theorem ReadsN.cells {b off : Nat} {vs : List Value} (h : ReadsN D b off vs) (s : Sat W0 w D) : (loadCells ⟨b, off, none⟩ vs.length).run P w = .ok vs.toArray w := run_loadCells s h

theorem SlR.first {sz : Nat} {v : Value} {xs : List Value} (h : SlR D sz v xs) (s : Sat W0 w D) : ∃ n, (Builtin.lenOf v).run P w = .ok n w ∧ xs.length = n * sz ∧ (Builtin.firstCells sz n v).run P w = .ok xs.toArray w := by
  rcases h with ⟨p, c, rfl, rfl⟩ | ⟨b, off, len, cap, rfl, hl, hr⟩
  · exact ⟨0, rfl, by simp, by cases p <;> simp [Builtin.firstCells, loadCells, loadCellsFrom]⟩
  · exact ⟨len, rfl, hl, by simp only [Builtin.firstCells]; rw [← hl]; exact hr.cells s⟩

theorem open_at {α : Type} {h : Hp} {X : Assn} {i : Nat} {p : α → Prop} {Y : α → Assn} (s : HSat h A) (e : A[i]? = some X) (f : ∀ k, X k → ∃ x, p x ∧ Y x k) : ∃ x, p x ∧ HSat h (A.set i (Y x)) := by
  obtain ⟨h1, h2, hX, hR, d, u, v⟩ := s.front e
  obtain ⟨x, px, hx⟩ := f h1 hX
  refine ⟨x, px, ?_⟩
  have hi : i < A.length := (List.getElem?_eq_some_iff.1 e).1
  have := HSat.replace (A := A.set i (fact True)) (B := Y x) (X := fact True) (i := i) ⟨h1, h2, hx, hR, d, u, v⟩ (by simp [hi])
  rwa [List.set_set] at this

theorem run_loadCells_at {b off : Nat} {l : List Value} {e : TypeId} {z : Nat × Nat} (hb : w.heap[b]? = some (.cells l.toArray e z)) : ∀ (vs : List Value), (∀ j u, vs[j]? = some u → l[off + j]? = some u) →
    (loadCells ⟨b, off, none⟩ vs.length).run P w = .ok vs.toArray w := by
  intro vs h
  refine run_loadCells (W0 := w) (D := [pt b (.cells l.toArray e z)]) ⟨rfl, rfl, rfl, ⟨hp w, fun _ => none, hb, trivial, fun _ => .inr rfl, Sub.refl _, fun _ _ e => nomatch e⟩⟩ ?_
  intro j u hu
  exact Reads.pt 0 rfl (h j u hu)

theorem Lies.ok.grown {o : Lies} {sz m : Nat} {v : Value} {xs ys : List Value} (ho : o.ok sz v xs) (hy : ys.length = m * sz) (hc : o.len + m ≤ o.cap) :
    Lies.ok { o with len := o.len + m, l := splice o.l (o.off + o.len * sz) ys } sz (.slice (some ⟨o.b, o.off, none⟩) (o.len + m) o.cap) (xs ++ ys) := by
  have hmul : (o.len + m) * sz ≤ o.cap * sz := Nat.mul_le_mul_right sz hc
  have hf := ho.fits
  have hl := ho.len
  rw [Nat.add_mul] at hmul
  have hsp := splice_eq ys o.l (o.off + o.len * sz) (by omega)
  refine ⟨rfl, by rw [List.length_append, hl, hy, Nat.add_mul], hc, by rw [splice_length]; exact hf, ?_, by rw [splice_length]; exact ho.free⟩
  intro j u hj
  show (splice o.l (o.off + o.len * sz) ys)[o.off + j]? = some u
  rw [hsp]
  by_cases hjx : j < xs.length
  · rw [List.getElem?_append_left hjx] at hj
    have := ho.get j u hj
    rw [List.append_assoc, List.getElem?_append_left (by simp; omega), List.getElem?_take_of_lt (by omega)]
    exact this
  · rw [List.getElem?_append_right (by omega)] at hj
    have hlt := (List.getElem?_eq_some_iff.1 hj).1
    rw [List.append_assoc, List.getElem?_append_right (by simp; omega), List.getElem?_append_left (by simp; omega)]
    rw [List.length_take, Nat.min_eq_left (by omega)]
    rw [show o.off + j - (o.off + o.len * sz) = j - xs.length from by omega]
    exact hj

theorem run_append {i E sz n c m : Nat} {t t2 : TypeId} {td2 : TypeDesc} {ti : TypeInfo} {zv : Value} {p : Option Addr} {xs ys : List Value} {x : Value}
    (ht : ∀ w, (underlying t).run P w = .ok (.slice E) w) (ht2 : ∀ w, (underlying t2).run P w = .ok td2 w) (hd : (∃ e, td2 = .slice e) ∨ td2 = .string)
    (hi : ∀ w, (typeInfo E).run P w = .ok ti w) (hs : ∀ w, (sizeOf E).run P w = .ok sz w) (hz : ∀ w, (zeroValue E).run P w = .ok zv w) (hzs : zv.cells.size = sz)
    (s : Sat W0 w A) (hA : A[i]? = some (own E sz (.slice p n c) xs))
    (hlen : ∀ w, (Builtin.lenOf x).run P w = .ok m w) (hy : ys.length = m * sz) (hfc : ∀ w, Sat W0 w A → (Builtin.firstCells sz m x).run P w = .ok ys.toArray w) (hone : ∀ v, v ∈ ys → oneC v = true)
    (hfit : (n + m) * ti.bytes ≤ 140737488355328) (hb0 : ti.bytes ≠ 0) :
    ∃ w' p' c', (Builtin.append_ #[t, t2] ty #[.slice p n c, x]).run P w = .ok (.slice p' (n + m) c') w' ∧ Sat W0 w' (A.set i (own E sz (.slice p' (n + m) c') (xs ++ ys))) := by
  have hi' : i < A.length := (List.getElem?_eq_some_iff.1 hA).1
  by_cases hn : n + m ≤ c
  · -- there is room
    have hf := hfc w s
    obtain ⟨k, hk, hs'⟩ := s.heap.at_ hA
    rcases hk with ⟨e1, e2⟩ | ⟨o', ho', _⟩
    · cases e1
      have hm : m = 0 := by omega
      subst hm
      have hys : ys = [] := by simpa using hy
      subst hys; subst e2
      refine ⟨w, none, 0, ?_, ?_⟩
      · rcases hd with ⟨e, rfl⟩ | rfl <;> simp [Builtin.append_, ht, ht2, hs, hlen, hf]
      · have := set_imp (Y := own E sz (.slice none (0 + 0) 0) ([] ++ [])) s.heap hA (fun k _ => .inl ⟨rfl, rfl⟩)
        exact ⟨s.os, s.tape, s.out, this⟩
    · have hv' := ho'.val
      obtain ⟨o, ho, hh⟩ := open_at (p := fun o : Lies => o.ok sz (.slice p n c) xs) (Y := fun o => pt o.b (.cells o.l.toArray E o.z)) s.heap hA (by
        rintro k (⟨e1, _⟩ | h)
        · rw [hv'] at e1; cases e1
        · exact h)
      have hval := ho.val
      simp only [Value.slice.injEq] at hval
      obtain ⟨rfl, rfl, rfl⟩ := hval
      have hg := ho.grown hy hn
      have hfits := ho.fits
      have hmul : (o.len + m) * sz ≤ o.cap * sz := Nat.mul_le_mul_right sz hn
      rw [Nat.add_mul] at hmul
      obtain ⟨w', r, s2⟩ := run_storeCells (P := P) (i := i) (b := o.b) (off := o.off + o.len * sz) (e := E) (z := o.z) ys o.l 0 w (A.set i (pt o.b (.cells o.l.toArray E o.z))) ⟨s.os, s.tape, s.out, hh⟩ (by simp [hi']) (by omega)
        (fun j hj => by rw [Nat.add_zero]; exact ho.free _ (by omega)) hone
      rw [List.set_set, Nat.add_zero] at s2
      refine ⟨w', some ⟨o.b, o.off, none⟩, o.cap, ?_, ?_⟩
      · rcases hd with ⟨e, rfl⟩ | rfl <;> simp [Builtin.append_, ht, ht2, hs, hlen, hf, hn, addr_add, r]
      · have := set_imp (Y := own E sz (.slice (some ⟨o.b, o.off, none⟩) (o.len + m) o.cap) (xs ++ ys)) s2.heap (i := i) (X := pt o.b (.cells (splice o.l (o.off + o.len * sz) ys).toArray E o.z)) (by simp [hi']) (fun k hk => .inr ⟨_, hg, hk⟩)
        rw [List.set_set] at this
        exact ⟨s2.os, s2.tape, s2.out, this⟩
  · -- a new block
    have hfits : Builtin.nextslicecap (n + m) c * ti.bytes ≤ 281474976710656 := growslice_fits (by omega) hfit
    have h48 : ¬ (281474976710656 < Builtin.nextslicecap (n + m) c * ti.bytes) := by omega
    have s1 : Sat W0 w.drew A := ⟨s.os, s.tape, s.out, s.heap⟩
    have hf := hfc w.drew s1
    have hold : (Builtin.firstCells sz n (.slice p n c)).run P w.drew = .ok xs.toArray w.drew ∧ xs.length = n * sz := by
      obtain ⟨k, hk, hs'⟩ := s.heap.at_ hA
      rcases hk with ⟨e1, e2⟩ | ⟨o, ho, hb⟩
      · cases e1; subst e2; simp [Builtin.firstCells]
      · have hval := ho.val
        simp only [Value.slice.injEq] at hval
        obtain ⟨rfl, rfl, rfl⟩ := hval
        refine ⟨?_, ho.len⟩
        simp only [Builtin.firstCells]; rw [← ho.len]
        exact run_loadCells_at (w := w.drew) (hs' _ _ hb) xs ho.get
    have hge := grownCap_ge w (n + m) c E
    have hz0 : (Builtin.zeroCells zv.cells (grownCap w (n + m) c E - (n + m))).size = (grownCap w (n + m) c E - (n + m)) * sz := by rw [size_zeroCells, hzs]
    generalize hq : Builtin.zeroCells zv.cells (grownCap w (n + m) c E - (n + m)) = zc at hz0
    generalize hgc : grownCap w (n + m) c E = gc at hge hz0
    have s2 := s1.new (.cells (xs ++ ys ++ zc.toList).toArray E)
    refine ⟨_, some ⟨w.heap.size, 0, none⟩, gc, ?_, ⟨s2.os, s2.tape, s2.out, ?_⟩⟩
    · have e1 : (xs ++ ys ++ zc.toList).toArray = xs.toArray ++ ys.toArray ++ zc := by apply Array.ext'; simp
      rw [e1, ← hq, ← hgc]
      rcases hd with ⟨e, rfl⟩ | rfl <;> simp [Builtin.append_, ht, ht2, hi, hs, hz, hlen, hn, hb0, h48, Question.forced, hf, hold.1, newRow, grownCap] <;> rw [← Array.append_assoc, show xs.toArray ++ ys.toArray = (xs ++ ys).toArray from by simp] <;> rfl
    · refine HSat.replace (X := own E sz (.slice p n c) xs) (s2.heap.imp (B := own E sz (.slice (some ⟨w.heap.size, 0, none⟩) (n + m) gc) (xs ++ ys)) ?_) hA
      intro k hk
      refine .inr ⟨⟨w.heap.size, 0, n + m, gc, xs ++ ys ++ zc.toList, (0, 0)⟩, ⟨rfl, by simp [hold.2, hy, Nat.add_mul], hge, ?_, ?_, by simp⟩, hk⟩
      · have : gc * sz = (n + m) * sz + (gc - (n + m)) * sz := by rw [← Nat.add_mul]; congr 1; omega
        simp [hold.2, hy, hz0, Nat.add_mul] at this ⊢; omega
      · intro j u hj
        rw [Nat.zero_add, List.getElem?_append_left (List.getElem?_eq_some_iff.1 hj).1]; exact hj


theorem C.app_ {i E sz n c m : Nat} {T T' : TypeId} {td2 : TypeDesc} {ti : TypeInfo} {zv : Value} {p : Option Addr} {xs ys : List Value} {x y : Operand} {u : Value}
    (ht : ∀ w, (underlying T).run P w = .ok (.slice E) w) (ht2 : ∀ w, (underlying T').run P w = .ok td2 w) (hd : (∃ e, td2 = .slice e) ∨ td2 = .string)
    (hi : ∀ w, (typeInfo E).run P w = .ok ti w) (hs : ∀ w, (sizeOf E).run P w = .ok sz w) (hz : ∀ w, (zeroValue E).run P w = .ok zv w) (hzs : zv.cells.size = sz)
    (ex : evs L [x, y] = some [.slice p n c, u]) (hA : A[i]? = some (own E sz (.slice p n c) xs))
    (hlen : ∀ w, (Builtin.lenOf u).run P w = .ok m w) (hy : ys.length = m * sz) (hfc : ∀ W0 w, Sat W0 w A → (Builtin.firstCells sz m u).run P w = .ok ys.toArray w) (hone : ∀ v, v ∈ ys → oneC v = true)
    (hfit : (n + m) * ti.bytes ≤ 140737488355328) (hb0 : ti.bytes ≠ 0) :
    OpC P (.call { callee := .builtin .append, args := #[x, y], argTypes := #[T, T'] }) ty L A (fun v B => ∃ p' c', v = .slice p' (n + m) c' ∧ B = A.set i (own E sz (.slice p' (n + m) c') (xs ++ ys))) := by
  refine ⟨fun dst pos aft g a W0 w ag s K Q k => ?_⟩
  obtain ⟨w', p', c', r, s'⟩ := run_append (ty := ty) ht ht2 hd hi hs hz hzs s hA hlen hy (hfc W0) hone hfit hb0
  have hx : [x, y].map a.eval = _ := evs_map (fun x hx => ag x (by simp only [Op.operands, Call.operands]; simpa using hx)) ex
  simp only [List.map_cons, List.map_nil, List.cons.injEq, and_true] at hx
  obtain ⟨e1, e2⟩ := hx
  have hr : (execOp a.eval ⟨dst, .call { callee := .builtin .append, args := #[x, y], argTypes := #[T, T'] }, ty, pos, aft, g⟩).run P w = .ok (.value (.slice p' (n + m) c')) w' := by
    simp [execOp, resolve, invoke, builtin, e1, e2, r]
  unfold Oper.wp
  rw [hr, Oper.upon_value]
  exact k _ _ _ ⟨p', c', rfl, rfl⟩ s'

theorem C.app {i E sz n c m c2 : Nat} {T T' E2 : TypeId} {ti : TypeInfo} {zv : Value} {p p2 : Option Addr} {xs ys : List Value} {x y : Operand}
    (ht : ∀ w, (underlying T).run P w = .ok (.slice E) w) (ht2 : ∀ w, (underlying T').run P w = .ok (.slice E2) w)
    (hi : ∀ w, (typeInfo E).run P w = .ok ti w) (hs : ∀ w, (sizeOf E).run P w = .ok sz w) (hz : ∀ w, (zeroValue E).run P w = .ok zv w) (hzs : zv.cells.size = sz)
    (ex : evs L [x, y] = some [.slice p n c, .slice p2 m c2]) (hA : A[i]? = some (own E sz (.slice p n c) xs))
    (hsrc : SlR A sz (.slice p2 m c2) ys) (hone : ∀ v, v ∈ ys → oneC v = true)
    (hfit : (n + m) * ti.bytes ≤ 140737488355328) (hb0 : ti.bytes ≠ 0) :
    OpC P (.call { callee := .builtin .append, args := #[x, y], argTypes := #[T, T'] }) ty L A (fun v B => ∃ p' c', v = .slice p' (n + m) c' ∧ B = A.set i (own E sz (.slice p' (n + m) c') (xs ++ ys))) := by
  have hy : ys.length = m * sz := by
    rcases hsrc with ⟨_, c, e, rfl⟩ | ⟨b, off, len, cap, e, hl, _⟩
    · cases e; simp
    · cases e; exact hl
  refine C.app_ ht ht2 (.inl ⟨_, rfl⟩) hi hs hz hzs ex hA (fun _ => rfl) hy ?_ hone hfit hb0
  intro W0 w s
  rcases hsrc with ⟨_, c, e, rfl⟩ | ⟨b, off, len, cap, e, hl, hr⟩
  · cases e; cases p2 <;> simp [Builtin.firstCells, loadCells, loadCellsFrom]
  · cases e; simp only [Builtin.firstCells]; rw [← hl]; exact hr.cells s

theorem bytes_fold : ∀ (bs : List UInt8) (r : ByteArray), (bs.map fun u => (u.toNat : Int)).foldl (fun r n => r.push (UInt8.ofNat n.toNat)) r = ⟨r.data ++ bs.toArray⟩
  | [], r => by simp
  | u :: bs, r => by
    simp only [List.map_cons, List.foldl_cons]
    rw [bytes_fold bs]
    congr 1
    apply Array.ext'
    simp [ByteArray.push]

theorem Q.b2s {E : TypeId} {T T' : TypeId} {x : Operand} {v : Value} {bs : List UInt8} (h1 : ∀ w, (underlying T).run P w = .ok (.slice E) w) (h2 : ∀ w, (underlying T').run P w = .ok .string w) (h3 : ∀ w, (underlying E).run P w = .ok (.int .u8) w)
    (ex : ev L x = some v) (hr : SlR D 1 v (bytesV bs)) : OpQ P (.convert T T' x) ty L D (.string ⟨bs.toArray⟩) := by
  refine ⟨fun dst pos aft g a W0 w F ag s => ⟨w, ?_, s⟩⟩
  have e1 := ag.at_ ex (by simp [Op.operands])
  rcases hr with ⟨p, c, rfl, hb⟩ | ⟨b, off, len, cap, rfl, hl, hr⟩
  · have : bs = [] := by simpa [bytesV] using hb
    subst this
    cases p with
    | none => simp [execOp, e1, convert, h1, h2, h3, Conv.bytesToString]; rfl
    | some p =>
      have := run_bytesToString (P := P) w p 0 c [] (by simp [loadCells, loadCellsFrom])
      simp only [List.foldl_nil] at this
      simp [execOp, e1, convert, h1, h2, h3, this]; rfl
  · have hc := run_loadCells (P := P) s (fun i v hv => (hr i v hv).more (F := F))
    have hbv : bytesV bs = (bs.map fun u => (u.toNat : Int)).map (Value.int .u8) := by simp [bytesV, byteV, Function.comp_def]
    rw [hl, Nat.mul_one, hbv] at hc
    have := run_bytesToString (P := P) w ⟨b, off, none⟩ len cap _ hc
    rw [bytes_fold] at this
    simp [execOp, e1, convert, h1, h2, h3, this]

theorem C.s2b {E : TypeId} {T T' : TypeId} {x : Operand} {t : ByteArray} (h1 : ∀ w, (underlying T).run P w = .ok .string w) (h2 : ∀ w, (underlying T').run P w = .ok (.slice E) w) (h3 : ∀ w, (underlying E).run P w = .ok (.int .u8) w)
    (ex : ev L x = some (.string t)) : OpC P (.convert T T' x) ty L A (fun v B => ∃ b c, v = .slice (some ⟨b, 0, none⟩) t.size c ∧ B = own E 1 (.slice (some ⟨b, 0, none⟩) t.size c) (bytesV t.data.toList) :: A) := by
  refine ⟨fun dst pos aft g a W0 w ag s K Q k => ?_⟩
  have e1 := ag.at_ ex (by simp [Op.operands])
  have hge : t.size ≤ grownCap w t.size 0 E := grownCap_ge w t.size 0 E
  generalize hgc : grownCap w t.size 0 E = gc at hge
  have s1 : Sat W0 w.drew A := ⟨s.os, s.tape, s.out, s.heap⟩
  have s2 : Sat W0 { w.drew with heap := w.drew.heap.push (.cells (bytesV t.data.toList ++ List.replicate (gc - t.size) (Value.int .u8 0)).toArray E (0, 0)) } (pt w.heap.size (.cells (bytesV t.data.toList ++ List.replicate (gc - t.size) (Value.int .u8 0)).toArray E (0, 0)) :: A) := s1.new _
  have hb2 : ({ w.drew with heap := w.drew.heap.push (.cells (bytesV t.data.toList ++ List.replicate (gc - t.size) (Value.int .u8 0)).toArray E (0, 0)) } : World).heap[w.heap.size]? = some (.cells (bytesV t.data.toList ++ List.replicate (gc - t.size) (Value.int .u8 0)).toArray E (0, 0)) := by
    show (w.heap.push _)[w.heap.size]? = _
    simp
  have hlen : (bytesV t.data.toList ++ List.replicate (gc - t.size) (Value.int .u8 0)).length = gc := by
    have : t.data.toList.length = t.size := by simp
    simp only [bytesV, List.length_append, List.length_map, List.length_replicate, this]; omega
  generalize hw2 : ({ w.drew with heap := w.drew.heap.push (.cells (bytesV t.data.toList ++ List.replicate (gc - t.size) (Value.int .u8 0)).toArray E (0, 0)) } : World) = w2 at s2 hb2
  have s3 : Sat W0 (w2.freeze ⟨w.heap.size, gc, none⟩ 1) (pt w.heap.size (.cells (bytesV t.data.toList ++ List.replicate (gc - t.size) (Value.int .u8 0)).toArray E (gc, gc + 1)) :: A) := by
    refine s2.set (i := 0) (b := w.heap.size) (p := .cells (bytesV t.data.toList ++ List.replicate (gc - t.size) (Value.int .u8 0)).toArray E (gc, gc + 1)) rfl rfl rfl rfl ?_
    unfold World.freeze
    rw [if_neg (by omega)]
    show hp { w2 with heap := w2.heap.modify w.heap.size _ } = _
    rw [hp_modify w2 _ _ _ hb2]
    simp
  have hr : (execOp a.eval ⟨dst, .convert T T' x, ty, pos, aft, g⟩).run P w = .ok (.value (.slice (some ⟨w.heap.size, 0, none⟩) t.size gc)) (w2.freeze ⟨w.heap.size, gc, none⟩ 1) := by
    have hea : (Array.map (fun b : UInt8 => Value.int .u8 b.toNat) t.data ++ Array.replicate (gc - t.size) (Value.int .u8 0)) = (bytesV t.data.toList ++ List.replicate (gc - t.size) (Value.int .u8 0)).toArray := by
      apply Array.ext'; simp [bytesV, byteV]
    have hsh : w2.shape? w.heap.size = some (E, gc) := by
      have : w2.heap[w.heap.size]? = _ := hb2
      simp only [World.shape?, this, List.size_toArray, hlen]
    have hch : ∀ v : World, (choose (.appendCap t.size 0 E)).run P v = .ok (grownCap v t.size 0 E) v.drew := by
      intro v; simp [Question.forced, grownCap]
    simp only [execOp, e1, convert, Sem.run_bind, h1, h2, h3, Result.andThen_ok, Conv.stringToBytes, hch, hgc, newRow, run_new, hea, hw2, markStringish, run_shape, Sem.run_pure]
    rw [show w.drew.heap.size = w.heap.size from rfl, hsh]
    rfl
  unfold Oper.wp
  rw [hr, Oper.upon_value]
  refine k _ _ _ ⟨_, _, rfl, rfl⟩ ⟨s3.os, s3.tape, s3.out, s3.heap.imp ?_⟩
  intro h hh
  refine .inr ⟨⟨w.heap.size, 0, t.size, gc, _, (gc, gc + 1)⟩, ⟨rfl, by simp [bytesV], hge, by rw [hlen]; simp, ?_, ?_⟩, hh⟩
  · intro j u hj
    rw [Nat.zero_add, List.getElem?_append_left (List.getElem?_eq_some_iff.1 hj).1]; exact hj
  · intro o ho
    rw [hlen] at ho
    simp; omega

end
end Go.X
namespace Go.X
set_option linter.unusedSectionVars false
set_option linter.unusedSimpArgs false
set_option linter.unusedVariables false

structure MEnt where
  key : ByteArray
  val : Value
  born : Nat

def MEnt.toEntry (e : MEnt) : MapEntry := ⟨.string e.key, e.val, e.born⟩

def mobj (m : List MEnt) (clock : Nat) : Obj := .map (m.map MEnt.toEntry).toArray clock

def mfind (k : ByteArray) : List MEnt → Nat → Option (Nat × Value)
  | [], _ => none
  | e :: m, i => if k = e.key then some (i, e.val) else mfind k m (i + 1)

def mget (k : ByteArray) : List MEnt → Option Value
  | [] => none
  | e :: m => if k = e.key then some e.val else mget k m

def mset (k : ByteArray) (v : Value) : List MEnt → List MEnt
  | [] => []
  | e :: m => if k = e.key then ⟨k, v, e.born⟩ :: m else e :: mset k v m

def mput (k : ByteArray) (v : Value) (m : List MEnt) (clock : Nat) : List MEnt × Nat :=
  match mget k m with
  | some _ => (mset k v m, clock)
  | none => (m ++ [⟨k, v, clock⟩], clock + 1)

def mdel (k : ByteArray) : List MEnt → List MEnt
  | [] => []
  | e :: m => if k = e.key then m else e :: mdel k m

theorem map_erase : ∀ (m : List MEnt) (j : Nat), (m.map MEnt.toEntry).eraseIdx j = (m.eraseIdx j).map MEnt.toEntry
  | [], _ => rfl
  | _ :: _, 0 => rfl
  | e :: m, j + 1 => by simp [map_erase m j]

theorem mfind_get (k : ByteArray) : ∀ (m : List MEnt) (i : Nat), (mfind k m i).map (·.2) = mget k m
  | [], i => rfl
  | e :: m, i => by
    simp only [mfind, mget]
    split
    · rfl
    · exact mfind_get k m (i + 1)

theorem mfind_some {k : ByteArray} : ∀ {m : List MEnt} {i j : Nat} {v : Value}, mfind k m i = some (j, v) → ∃ n e, j = i + n ∧ m[n]? = some e ∧ e.key = k ∧ e.val = v ∧ (∀ u : Value, mset k u m = m.set n ⟨k, u, e.born⟩) ∧ mdel k m = m.eraseIdx n
  | [], _, _, _, e => by simp [mfind] at e
  | e :: m, i, j, v, h => by
    simp only [mfind] at h
    split at h
    · rename_i hk
      simp only [Option.some.injEq, Prod.mk.injEq] at h
      exact ⟨0, e, by omega, rfl, hk.symm, h.2, fun u => by simp [mset, hk], by simp [mdel, hk]⟩
    · rename_i hk
      obtain ⟨n, e', h1, h2, h3, h4, h5, h6⟩ := mfind_some h
      exact ⟨n + 1, e', by omega, by simpa using h2, h3, h4, fun u => by simp [mset, hk, h5 u], by simp [mdel, hk, h6]⟩

theorem mfind_none {k : ByteArray} : ∀ {m : List MEnt} {i : Nat}, mfind k m i = none → mget k m = none ∧ mdel k m = m
  | [], _, _ => ⟨rfl, rfl⟩
  | e :: m, i, h => by
    simp only [mfind] at h
    split at h
    · cases h
    · rename_i hk
      obtain ⟨h1, h2⟩ := mfind_none h
      exact ⟨by simp [mget, hk, h1], by simp [mdel, hk, h2]⟩

theorem str_beq (a b : ByteArray) : (a == b) = decide (a = b) := by
  rw [beq_toListBytes, ByteArray.toList_eq, ByteArray.toList_eq]
  by_cases h : a = b
  · subst h; simp
  · have : ¬ a.data.toList = b.data.toList := fun e => h (by cases a; cases b; simp at e; simpa using e)
    simp only [h, decide_false]
    exact beq_eq_false_iff_ne.2 this

theorem findNow_str (k : ByteArray) : ∀ (m : List MEnt) (i : Nat), Instr.findNow .string (.string k) (m.map MEnt.toEntry) i = some (mfind k m i)
  | [], i => rfl
  | e :: m, i => by
    simp only [List.map_cons, Instr.findNow, MEnt.toEntry, Instr.sameNow, mfind]
    rw [str_beq]
    by_cases h : k = e.key
    · simp [h]
    · simp only [h, if_false, decide_false]
      exact findNow_str k m (i + 1)

section
variable {P : Program} {L : Slots} {A D : List Assn} {ty : TypeId} {W0 w : World} {T K E : TypeId} {x y z : Operand}

theorem run_checkKey_str (n : Nat) (b : Bool) (k : ByteArray) (hk : ∀ w, (underlying K).run P w = .ok .string w) : (Instr.checkKey b (n + 1) K (.string k)).run P w = .ok () w := by
  simp [Instr.checkKey, hk]

theorem run_findKey_str (k : ByteArray) (m : List MEnt) (hk : ∀ w, (underlying K).run P w = .ok .string w) : (Instr.findKey K (.string k) (m.map MEnt.toEntry)).run P w = .ok (mfind k m 0) w := by
  simp [Instr.findKey, hk, findNow_str]

theorem run_getObj_map {r c : Nat} {m : List MEnt} (h : w.heap[r]? = some (mobj m c)) : (getObj r).run P w = .ok (mobj m c) w := by
  simp [getObj, Sem.run, h, mobj]

theorem Q.lk {i r c : Nat} {m : List MEnt} {k : ByteArray} {zv v : Value} (hT : ∀ w, (underlying T).run P w = .ok (.map K E) w) (hk : ∀ w, (underlying K).run P w = .ok .string w) (hz : ∀ w, (zeroValue E).run P w = .ok zv w)
    (ex : ev L x = some (.map (some r))) (ey : ev L y = some (.string k)) (hA : D[i]? = some (pt r (mobj m c))) (hv : (mget k m).getD zv = v) : OpQ P (.lookup T x y false) ty L D v := by
  refine ⟨fun dst pos aft g a W0 w F ag s => ⟨w, ?_, s⟩⟩
  have e1 := ag.at_ ex (by simp [Op.operands])
  have e2 := ag.at_ ey (by simp [Op.operands])
  have hb : w.heap[r]? = some (mobj m c) := s.at_ (i := i) (by rw [List.getElem?_append_left (List.getElem?_eq_some_iff.1 hA).1]; exact hA)
  have hg := run_getObj_map (P := P) hb
  have hf := mfind_get k m 0
  subst hv
  rw [← hf]
  simp only [execOp, e1, e2, Instr.lookup, Sem.run_bind, hT, Result.andThen_ok, hg, mobj, Sem.run_pure]
  rw [run_checkKey_str 9999 _ k hk]
  simp only [Result.andThen_ok, List.toList_toArray, run_findKey_str k m hk]
  cases hm : mfind k m 0 with
  | none => simp [hz]
  | some q => obtain ⟨j, u⟩ := q; simp

theorem run_setObj {i r : Nat} {m : List MEnt} {c : Nat} (s : Sat W0 w A) (hA : A[i]? = some (pt r (mobj m c))) (o : Obj) : ∃ w', (setObj r o).run P w = .ok () w' ∧ Sat W0 w' (A.set i (pt r o)) := by
  have hb := s.at_ hA
  refine ⟨{ w with heap := w.heap.setIfInBounds r o }, by simp [setObj, Sem.run, hb, mobj], s.set hA o rfl rfl rfl (hp_set w r o _ hb)⟩

theorem C.mput {i r c : Nat} {m : List MEnt} {k : ByteArray} {v : Value} (hT : ∀ w, (underlying T).run P w = .ok (.map K E) w) (hk : ∀ w, (underlying K).run P w = .ok .string w)
    (ex : ev L x = some (.map (some r))) (ey : ev L y = some (.string k)) (ez : ev L z = some v) (hA : A[i]? = some (pt r (mobj m c))) :
    OpC P (.mapUpdate T x y z) ty L A (fun u B => u = undef ∧ B = A.set i (pt r (mobj (mput k v m c).1 (mput k v m c).2))) := by
  refine ⟨fun dst pos aft g a W0 w ag s K' Q kk => ?_⟩
  have e1 := ag.at_ ex (by simp [Op.operands])
  have e2 := ag.at_ ey (by simp [Op.operands])
  have e3 := ag.at_ ez (by simp [Op.operands])
  have hg := run_getObj_map (P := P) (s.at_ hA)
  have key : ∃ w', (Instr.mapUpdate T (.map (some r)) (.string k) v).run P w = .ok () w' ∧ Sat W0 w' (A.set i (pt r (mobj (X.mput k v m c).1 (X.mput k v m c).2))) := by
    simp only [Instr.mapUpdate, Sem.run_bind, hT, Result.andThen_ok, hg, mobj, run_checkKey_str 9999 _ k hk, List.toList_toArray, run_findKey_str k m hk]
    cases hm : mfind k m 0 with
    | none =>
      obtain ⟨h1, _⟩ := mfind_none hm
      obtain ⟨w', r1, s1⟩ := run_setObj (P := P) s hA (mobj (m ++ [⟨k, v, c⟩]) (c + 1))
      refine ⟨w', ?_, ?_⟩
      · rw [← r1]; simp [mobj, MEnt.toEntry]
      · simpa [X.mput, h1, mobj] using s1
    | some q =>
      obtain ⟨j, u⟩ := q
      obtain ⟨n, e, h1, h2, h3, h4, h5, _⟩ := mfind_some hm
      have hget : mget k m = some u := by rw [← mfind_get k m 0, hm]; rfl
      obtain ⟨w', r1, s1⟩ := run_setObj (P := P) s hA (mobj (mset k v m) c)
      refine ⟨w', ?_, ?_⟩
      · have hj : j = n := by omega
        subst hj
        have hent : (((m.map MEnt.toEntry).toArray[j]?).map (·.key)).getD (.string k) = .string k := by
          simp [h2, MEnt.toEntry, h3]
        have hstay : (Instr.keyThatStays (.string k) (.string k)).run P w = .ok (.string k) w := by
          have : Instr.sameBits 10000 (.string k) (.string k) = true := by unfold Instr.sameBits; rw [str_beq]; simp
          simp only [Instr.keyThatStays, this, if_true, Sem.run_pure]
        have hmod : ((m.map MEnt.toEntry).toArray.modify j fun e => { e with key := .string k, val := v }) = ((mset k v m).map MEnt.toEntry).toArray := by
          rw [h5 v]
          apply Array.ext'
          rw [Array.toList_modify]
          apply List.ext_getElem?
          intro q
          simp only [List.getElem?_modify, List.map_set, List.getElem?_set, List.length_map]
          by_cases hq : j = q
          · subst hq
            have hlt : j < m.length := (List.getElem?_eq_some_iff.1 h2).1
            have he : m[j] = e := (List.getElem?_eq_some_iff.1 h2).2
            simp [hlt, MEnt.toEntry, he]
          · simp [hq]
        simp only [hent, Sem.run_bind, hstay, Result.andThen_ok, hmod]
        exact r1
      · simpa [X.mput, hget, mobj] using s1
  obtain ⟨w', r1, s1⟩ := key
  have hr : (execOp a.eval ⟨dst, .mapUpdate T x y z, ty, pos, aft, g⟩).run P w = .ok .skip w' := by
    simp [execOp, e1, e2, e3, r1]
  unfold Oper.wp
  rw [hr, Oper.upon_skip]
  exact kk _ _ _ ⟨rfl, rfl⟩ s1

theorem C.mdel {i r c : Nat} {m : List MEnt} {k : ByteArray} (hT : ∀ w, (underlying T).run P w = .ok (.map K E) w) (hk : ∀ w, (underlying K).run P w = .ok .string w) {ts : TypeId}
    (e : evs L [x, y] = some [.map (some r), .string k]) (hA : A[i]? = some (pt r (mobj m c))) :
    OpC P (.call { callee := .builtin .delete, args := #[x, y], argTypes := #[T, ts] }) ty L A (fun u B => u = .tuple #[] ∧ B = A.set i (pt r (mobj (mdel k m) c))) := by
  refine ⟨fun dst pos aft g a W0 w ag s K' Q kk => ?_⟩
  have hx : [x, y].map a.eval = _ := evs_map (fun x hx => ag x (by simp only [Op.operands, Call.operands]; simpa using hx)) e
  simp only [List.map_cons, List.map_nil, List.cons.injEq, and_true] at hx
  obtain ⟨e1, e2⟩ := hx
  have hg := run_getObj_map (P := P) (s.at_ hA)
  have key : ∃ w', (Builtin.delete_ #[T, ts] ty #[.map (some r), .string k]).run P w = .ok (.tuple #[]) w' ∧ Sat W0 w' (A.set i (pt r (mobj (X.mdel k m) c))) := by
    obtain ⟨w', r1, s1⟩ := run_setObj (P := P) s hA (mobj (X.mdel k m) c)
    refine ⟨w', ?_, s1⟩
    have hstep : (Builtin.delete_ #[T, ts] ty #[.map (some r), .string k]).run P w = ((setObj r (mobj (X.mdel k m) c)).run P w).andThen fun _ w' => .ok (.tuple #[]) w' := by
      simp only [Builtin.delete_, Sem.run_bind, hT, Result.andThen_ok, List.getElem?_toArray, List.getElem?_cons_zero, List.getElem?_cons_succ, hg, mobj, run_checkKey_str 9999 _ k hk, List.toList_toArray, run_findKey_str k m hk, Sem.run_pure]
      cases hm : mfind k m 0 with
      | none =>
        obtain ⟨_, h2⟩ := mfind_none hm
        simp only [h2, Sem.run_bind, Sem.run_pure]
      | some q =>
        obtain ⟨j, u⟩ := q
        obtain ⟨n, en, h1, h2, h3, h4, _, h6⟩ := mfind_some hm
        have hj : j = n := by omega
        subst hj
        have her : ((m.map MEnt.toEntry).toArray.eraseIdxIfInBounds j) = ((X.mdel k m).map MEnt.toEntry).toArray := by
          rw [h6]
          apply Array.ext'
          rw [Array.toList_eraseIdxIfInBounds]
          simp only [List.toList_toArray]
          exact map_erase m j
        simp only [her, Sem.run_bind, Sem.run_pure]
    rw [hstep, r1]; rfl
  obtain ⟨w', r1, s1⟩ := key
  have hr : (execOp a.eval ⟨dst, .call { callee := .builtin .delete, args := #[x, y], argTypes := #[T, ts] }, ty, pos, aft, g⟩).run P w = .ok (.value (.tuple #[])) w' := by
    simp [execOp, resolve, invoke, builtin, e1, e2, r1]
  unfold Oper.wp
  rw [hr, Oper.upon_value]
  exact kk _ _ _ ⟨rfl, rfl⟩ s1

def miter (r c : Nat) (seen : List Nat) : Obj := .mapIter (some r) c seen.toArray c

theorem C.range {i r c : Nat} {m : List MEnt} (hT : ∀ w, (underlying T).run P w = .ok (.map K E) w) (ex : ev L x = some (.map (some r))) (hA : A[i]? = some (pt r (mobj m c))) :
    OpC P (.range T x) ty L A (fun u B => ∃ b, u = .pointer (some ⟨b, 0, none⟩) ∧ B = pt b (miter r c []) :: A) := by
  refine ⟨fun dst pos aft g a W0 w ag s K' Q kk => ?_⟩
  have e1 := ag.at_ ex (by simp [Op.operands])
  have hg := run_getObj_map (P := P) (s.at_ hA)
  have hr : (execOp a.eval ⟨dst, .range T x, ty, pos, aft, g⟩).run P w = .ok (.value (.pointer (some ⟨w.heap.size, 0, none⟩))) { w with heap := w.heap.push (miter r c []) } := by
    simp only [execOp, e1, Instr.range, Sem.run_bind, hT, Result.andThen_ok, hg, mobj, Sem.run_pure, run_new, miter]
  unfold Oper.wp
  rw [hr, Oper.upon_value]
  exact kk _ _ _ ⟨_, rfl, rfl⟩ (s.new _)

def mleft (m : List MEnt) (seen : List Nat) : List MEnt := m.filter fun e => !seen.contains e.born

theorem C.next {i j b r c : Nat} {m : List MEnt} {seen : List Nat} (ex : ev L x = some (.pointer (some ⟨b, 0, none⟩))) (hA : A[i]? = some (pt b (miter r c seen))) (hM : A[j]? = some (pt r (mobj m c))) (hborn : ∀ e, e ∈ m → e.born < c) :
    OpC P (.next x false) ty L A (fun u B => (mleft m seen = [] ∧ u = .tuple #[.bool false] ∧ B = A) ∨ ∃ e, e ∈ mleft m seen ∧ u = .tuple #[.bool true, .string e.key, e.val] ∧ B = A.set i (pt b (miter r c (seen ++ [e.born])))) := by
  refine ⟨fun dst pos aft g a W0 w ag s K' Q kk => ?_⟩
  have e1 := ag.at_ ex (by simp [Op.operands])
  have hbI : w.heap[b]? = some (miter r c seen) := s.at_ hA
  have hgI : (getObj b).run P w = .ok (miter r c seen) w := by simp [getObj, Sem.run, hbI, miter]
  have hgM := run_getObj_map (P := P) (s.at_ hM)
  have hunsup : (!seen.toArray.isEmpty && !(m.map MEnt.toEntry).toArray.isEmpty && (m.map MEnt.toEntry).toArray.all (·.born ≥ c)) = false := by
    cases m with
    | nil => simp
    | cons e m =>
      have : ¬ c ≤ e.born := by have := hborn e (by simp); omega
      simp [MEnt.toEntry, this]
  have hleft : ((m.map MEnt.toEntry).toArray.filter fun e => !seen.toArray.contains e.born) = ((mleft m seen).map MEnt.toEntry).toArray := by
    apply Array.ext'
    simp [mleft, List.filter_map]
    rfl
  have hold : (((mleft m seen).map MEnt.toEntry).toArray.filter (·.born < c)) = ((mleft m seen).map MEnt.toEntry).toArray := by
    apply Array.ext'
    rw [Array.toList_filter]
    apply List.filter_eq_self.2
    intro e he
    simp only [List.mem_map] at he
    obtain ⟨e', he', rfl⟩ := he
    have := hborn e' (List.mem_filter.1 he').1
    exact decide_eq_true (by simpa [MEnt.toEntry] using this)
  have hnew : (((mleft m seen).map MEnt.toEntry).toArray.filter (·.born ≥ c)) = #[] := by
    apply Array.ext'
    rw [Array.toList_filter]
    apply List.filter_eq_nil_iff.2
    intro e he
    simp only [List.mem_map] at he
    obtain ⟨e', he', rfl⟩ := he
    have := hborn e' (List.mem_filter.1 he').1
    simp [MEnt.toEntry]; omega
  have key : ∃ u w' B, (Instr.next (.pointer (some ⟨b, 0, none⟩)) false ty).run P w = .ok u w' ∧ Sat W0 w' B ∧
      ((mleft m seen = [] ∧ u = .tuple #[.bool false] ∧ B = A) ∨ ∃ e, e ∈ mleft m seen ∧ u = .tuple #[.bool true, .string e.key, e.val] ∧ B = A.set i (pt b (miter r c (seen ++ [e.born])))) := by
    simp only [Instr.next, Sem.run_bind, hgI, miter, Result.andThen_ok, hgM, mobj, hunsup]
    simp only [Bool.false_eq_true, if_false, hleft, hold, hnew]
    generalize mleft m seen = ml
    have hch : ∀ n : Nat, ∃ q w1, (choose (.mapNext n)).run P w = .ok q w1 ∧ (0 < n → q < n) ∧ Sat W0 w1 A := by
      intro n
      by_cases hn : n ≤ 1
      · exact ⟨0, w, by simp [Question.forced, hn], fun h => h, s⟩
      · exact ⟨_, w.drew, by simp [Question.forced, hn]; rfl, fun h => by simp only [Question.cut]; exact Nat.mod_lt _ h, ⟨s.os, s.tape, s.out, s.heap⟩⟩
    cases ml with
    | nil =>
      obtain ⟨q, w1, hq, hlt, s1⟩ := hch 1
      have : q = 0 := by have := hlt (by omega); omega
      subst this
      refine ⟨_, w1, A, ?_, s1, .inl ⟨rfl, rfl, rfl⟩⟩
      have hc : ((if (List.map MEnt.toEntry ([] : List MEnt)).toArray.isEmpty = true then #[none] else #[]) ++ Array.map some ((List.map MEnt.toEntry ([] : List MEnt)).toArray ++ #[])) = (#[none] : Array (Option MapEntry)) := by simp
      rw [hc, Sem.run_bind, show (#[none] : Array (Option MapEntry)).size = 1 from rfl, hq]
      rfl
    | cons e0 ml =>
      obtain ⟨q, w1, hq, hlt, s1⟩ := hch (ml.length + 1)
      have hq' := hlt (by omega)
      have hb1 := s1.at_ hA
      obtain ⟨e, he⟩ : ∃ e, (e0 :: ml)[q]? = some e := ⟨(e0 :: ml)[q], List.getElem?_eq_getElem (by simpa using hq')⟩
      refine ⟨_, { w1 with heap := w1.heap.setIfInBounds b (miter r c (seen ++ [e.born])) }, _, ?_, s1.set hA (miter r c (seen ++ [e.born])) rfl rfl rfl (hp_set w1 b _ _ hb1), .inr ⟨e, List.mem_of_getElem? he, rfl, rfl⟩⟩
      have hcand : (((e0 :: ml).map MEnt.toEntry).map some)[q]? = some (some e.toEntry) := by
        rw [List.getElem?_map, List.getElem?_map, he]; rfl
      have hc : ((if (List.map MEnt.toEntry (e0 :: ml)).toArray.isEmpty = true then #[none] else #[]) ++ Array.map some ((List.map MEnt.toEntry (e0 :: ml)).toArray ++ #[])) = (((e0 :: ml).map MEnt.toEntry).map some).toArray := by
        apply Array.ext'; simp
      rw [hc, Sem.run_bind, show (((e0 :: ml).map MEnt.toEntry).map some).toArray.size = ml.length + 1 from by simp, hq]
      simp only [Result.andThen_ok, List.getElem?_toArray, hcand, Sem.run_bind]
      have hset : (setObj b (Obj.mapIter (some r) c (seen.toArray.push e.toEntry.born) c)).run P w1 = .ok () { w1 with heap := w1.heap.setIfInBounds b (miter r c (seen ++ [e.born])) } := by
        have e2 : seen.toArray.push e.toEntry.born = (seen ++ [e.born]).toArray := by simp [MEnt.toEntry]
        rw [e2]
        simp [setObj, Sem.run, hb1, miter]
      rw [hset]
      rfl
  obtain ⟨u, w', B, r1, s1, hR⟩ := key
  have hr : (execOp a.eval ⟨dst, .next x false, ty, pos, aft, g⟩).run P w = .ok (.value u) w' := by
    simp [execOp, e1, r1]
  unfold Oper.wp
  rw [hr, Oper.upon_value]
  exact kk _ _ _ hR s1
end
end Go.X
namespace Go.X
set_option linter.unusedSectionVars false
set_option linter.unusedSimpArgs false
set_option linter.unusedVariables false

def dirs (o : Oper) : List Nat := o.after.toList.filterMap fun e => if Region.binds .any e then some e.on else none

def mask1 (acc : List Nat) : List Nat → Nat
  | [] => 0
  | k :: ks => (1 <<< k) ||| ((acc[k]?).getD 0) ||| mask1 acc ks

def masks : List Nat → List Oper → List Nat
  | acc, [] => acc
  | acc, o :: r => masks (acc ++ [mask1 acc (dirs o)]) r

def memN (n : Nat) : List Nat → Bool
  | [] => false
  | k :: l => bif Nat.beq n k then true else memN n l

theorem memN_iff {n : Nat} : ∀ {l : List Nat}, memN n l = true ↔ n ∈ l
  | [] => by simp [memN]
  | k :: l => by
    simp only [memN, List.mem_cons]
    cases h : Nat.beq n k with
    | true => rw [beq_iff] at h; simp [h]
    | false =>
      have : n ≠ k := by rintro rfl; rw [Nat.beq_refl] at h; cases h
      simp [this, memN_iff (l := l)]

def allN (S : List Nat) : List Nat → Bool
  | [] => true
  | k :: l => bif memN k S then allN S l else false

theorem allN_iff {S : List Nat} : ∀ {l : List Nat}, allN S l = true ↔ ∀ k, k ∈ l → k ∈ S
  | [] => by simp [allN]
  | k :: l => by
    simp only [allN]
    cases h : memN k S with
    | true => simp [allN_iff (l := l), memN_iff.1 h]
    | false =>
      have : k ∉ S := fun e => by rw [memN_iff.2 e] at h; cases h
      simp [this]

def regOK (l : List Oper) (NQ : List Nat) : Bool :=
  let ms := masks [] l
  l.zipIdx.all fun (o, i) =>
    (match o.op with | .select .. => false | _ => true) && (dirs o).all (fun k => Nat.blt k i) &&
    (if memN i NQ then
      match o.dst with
      | none => true
      | some d => l.zipIdx.all fun (p, k) => Nat.beq k i || !((p.looksAt l.toArray).contains d || p.dst == some d) || ((ms[k]?).getD 0).testBit i || ((ms[i]?).getD 0).testBit k
    else
      match o.dst with
      | none => false
      | some d => !(o.looksAt l.toArray).contains d && l.zipIdx.all fun (p, k) => Nat.beq k i || ((!(p.looksAt l.toArray).contains d || ((ms[k]?).getD 0).testBit i) && !(p.dst == some d)))


theorem mask1_bit (acc : List Nat) (j : Nat) : ∀ ks : List Nat, (mask1 acc ks).testBit j = true → ∃ k, k ∈ ks ∧ (k = j ∨ ((acc[k]?).getD 0).testBit j = true)
  | [], h => by simp [mask1] at h
  | k :: ks, h => by
    simp only [mask1, Nat.testBit_or, Bool.or_eq_true] at h
    rcases h with (h | h) | h
    · refine ⟨k, by simp, .inl ?_⟩
      rw [Nat.one_shiftLeft, Nat.testBit_two_pow] at h
      simpa using h
    · exact ⟨k, by simp, .inr h⟩
    · obtain ⟨k', h1, h2⟩ := mask1_bit acc j ks h
      exact ⟨k', by simp [h1], h2⟩

theorem masks_prefix : ∀ (l : List Oper) (acc : List Nat) (i : Nat), i < acc.length → (masks acc l)[i]? = acc[i]?
  | [], acc, i, _ => rfl
  | o :: r, acc, i, h => by
    rw [masks, masks_prefix r _ i (by simp; omega), List.getElem?_append_left h]

theorem masks_at : ∀ (l : List Oper) (acc : List Nat) (i : Nat) (o : Oper), l[i]? = some o → ∃ acc', (masks acc l)[acc.length + i]? = some (mask1 acc' (dirs o)) ∧ (∀ k, k < acc.length + i → acc'[k]? = (masks acc l)[k]?) ∧ acc'.length = acc.length + i
  | [], _, _, _, h => by simp at h
  | o :: r, acc, 0, p, h => by
    simp at h; subst h
    refine ⟨acc, ?_, ?_, by simp⟩
    · rw [masks, masks_prefix r _ _ (by simp)]; simp
    · intro k hk
      rw [masks, masks_prefix r _ k (by simp; omega), List.getElem?_append_left (by omega)]
  | o :: r, acc, i + 1, p, h => by
    obtain ⟨acc', h1, h2, h3⟩ := masks_at r (acc ++ [mask1 acc (dirs o)]) i p (by simpa using h)
    refine ⟨acc', ?_, ?_, by simp at h3; omega⟩
    · rw [masks, ← h1]; congr 1; simp; omega
    · intro k hk; rw [masks]; exact h2 k (by simp; omega)

theorem anc_closed {l : List Oper} {T : Nat → Prop} (hT : ∀ i o, l[i]? = some o → T i → ∀ k, k ∈ dirs o → T k) (hb : ∀ i o, l[i]? = some o → ∀ k, k ∈ dirs o → k < i) :
    ∀ (i j : Nat) (o : Oper), l[i]? = some o → (∀ k, k ∈ dirs o → T k) → (((masks [] l)[i]?).getD 0).testBit j = true → T j := by
  intro i
  induction i using Nat.strongRecOn with
  | _ i ih =>
    intro j o ho hd hbit
    obtain ⟨acc', h1, h2, h3⟩ := masks_at l [] i o ho
    simp only [List.length_nil, Nat.zero_add] at h1 h2 h3
    rw [h1] at hbit
    simp only [Option.getD_some] at hbit
    obtain ⟨k, hk, hk'⟩ := mask1_bit acc' j (dirs o) hbit
    have hki := hb i o ho k hk
    rcases hk' with rfl | hk'
    · exact hd k hk
    · rw [h2 k hki] at hk'
      have hkl : k < l.length := by
        have := (List.getElem?_eq_some_iff.1 ho).1; omega
      exact ih k hki j l[k] (List.getElem?_eq_getElem hkl) (fun q hq => hT k l[k] (List.getElem?_eq_getElem hkl) (hd k hk) q hq) hk'

structure RegOK (l : List Oper) (NQ : List Nat) : Prop where
  sel : ∀ (i : Nat) (o : Oper) (cs : Array SelectCase) (b : Bool), l[i]? = some o → o.op ≠ .select cs b
  back : ∀ i o, l[i]? = some o → ∀ k, k ∈ dirs o → k < i
  chain : ∀ i o d, l[i]? = some o → i ∈ NQ → o.dst = some d → ∀ k p, l[k]? = some p → k ≠ i → (d ∈ p.looksAt l.toArray ∨ p.dst = some d) → (((masks [] l)[k]?).getD 0).testBit i = true ∨ (((masks [] l)[i]?).getD 0).testBit k = true
  quiet : ∀ i o, l[i]? = some o → i ∉ NQ → ∃ d, o.dst = some d ∧ d ∉ o.looksAt l.toArray ∧ ∀ k p, l[k]? = some p → k ≠ i → (d ∈ p.looksAt l.toArray → (((masks [] l)[k]?).getD 0).testBit i = true) ∧ p.dst ≠ some d

theorem zipIdx_all {l : List Oper} {f : Oper × Nat → Bool} (h : l.zipIdx.all f = true) {i : Nat} {o : Oper} (ho : l[i]? = some o) : f (o, i) = true := by
  rw [List.all_eq_true] at h
  refine h (o, i) ?_
  rw [List.mem_iff_getElem?]
  exact ⟨i, by rw [List.getElem?_zipIdx, ho]; simp⟩

theorem regOK_spec {l : List Oper} {NQ : List Nat} (h : regOK l NQ = true) : RegOK l NQ := by
  unfold regOK at h
  simp only at h
  have hh : ∀ i o, l[i]? = some o → _ := fun i o ho => zipIdx_all h ho
  refine ⟨?_, ?_, ?_, ?_⟩
  · intro i o cs b ho e
    have := hh i o ho
    simp [e] at this
  · intro i o ho k hk
    have := hh i o ho
    simp only [Bool.and_eq_true, List.all_eq_true] at this
    have := this.1.2 k hk
    simpa [Nat.blt_eq] using this
  · intro i o d ho hi hd k p hp hk ht
    have := hh i o ho
    simp only [Bool.and_eq_true, memN_iff.2 hi, if_true, hd] at this
    have := zipIdx_all this.2 hp
    have hkb : Nat.beq k i = false := by
      cases hb : Nat.beq k i with
      | true => exact absurd ((beq_iff _ _).1 hb) hk
      | false => rfl
    simp only [hkb, Bool.false_or, Bool.or_eq_true, Bool.not_eq_true'] at this
    rcases this with (h1 | h1) | h1
    · exfalso
      rcases ht with ht | ht
      · have : (p.looksAt l.toArray).contains d = true := by simpa using ht
        rw [this] at h1; simp at h1
      · rw [ht] at h1; simp at h1
    · exact .inl h1
    · exact .inr h1
  · intro i o ho hi
    have := hh i o ho
    have hm : memN i NQ = false := by
      cases hb : memN i NQ with
      | true => exact absurd (memN_iff.1 hb) hi
      | false => rfl
    simp only [Bool.and_eq_true, hm] at this
    cases hd : o.dst with
    | none => rw [hd] at this; simp at this
    | some d =>
      rw [hd] at this
      simp only [Bool.false_eq_true, if_false, Bool.and_eq_true] at this
      refine ⟨d, rfl, fun hm => ?_, ?_⟩
      · have h1 : (o.looksAt l.toArray).contains d = true := by simpa using hm
        rw [h1] at this; simp at this
      intro k p hp hk
      have := zipIdx_all this.2.2 hp
      have hkb : Nat.beq k i = false := by
        cases hb : Nat.beq k i with
        | true => exact absurd ((beq_iff _ _).1 hb) hk
        | false => rfl
      simp only [hkb, Bool.false_or, Bool.and_eq_true, Bool.or_eq_true, Bool.not_eq_true'] at this
      refine ⟨fun ht => ?_, fun e => ?_⟩
      · rcases this.1 with h1 | h1
        · have : (p.looksAt l.toArray).contains d = true := by simpa using ht
          rw [this] at h1; cases h1
        · exact h1
      · rw [e] at this; simp at this

section
variable [Dfs] (P : Program) (W0 : World) (N : Nat) (l : List Oper) (NQ : List Nat) (Q : Exit → Act → World → Prop)

def Pend (o : Oper) (L : Slots) (D : List Assn) (v : Value) : Prop :=
  (guardL l.toArray o.guard L = some true ∧ OpQ P o.op o.type L D v) ∨ (guardL l.toArray o.guard L = some false ∧ v = undef)

structure Inv (S : List Nat) (L : Slots) (D E : List Assn) (listed : Array Bool) (a : Act) (w : World) : Prop where
  size : listed.size = l.length
  tsz : a.tmps.size = N
  defs : a.defers = Dfs.ds
  sat : Sat W0 w (D ++ E)
  sub : ∀ i, listed.getD i false = true → i ∈ S
  closed : ∀ i o, l[i]? = some o → listed.getD i false = true → ∀ k, k ∈ dirs o → listed.getD k false = true
  scl : ∀ i o, l[i]? = some o → i ∈ S → ∀ k, k ∈ dirs o → k ∈ S
  slots : ∀ s v, find s L = some v → (∀ i o, i ∈ S → l[i]? = some o → listed.getD i false = false → o.dst ≠ some s) → a.tmps[s]? = some v
  pend : ∀ i, i ∈ S → listed.getD i false = false → ∃ o d v, l[i]? = some o ∧ i ∉ NQ ∧ o.dst = some d ∧ d < N ∧ find d L = some v ∧ Pend P l o L D v

def unl (listed : Array Bool) : Nat := ((List.range l.length).filter fun i => !listed.getD i true).length

structure RG (S : List Nat) (L : Slots) (D E : List Assn) : Prop where
  run : ∀ m listed a w, Inv P W0 N l NQ S L D E listed a w → unl l listed ≤ m → wpAny P .any l.toArray Q m listed a w
end

section
variable [Dfs] {P : Program} {W0 : World} {N : Nat} {l : List Oper} {NQ : List Nat} {Q : Exit → Act → World → Prop} {S : List Nat} {L : Slots} {D E : List Assn} {listed : Array Bool} {a : Act} {w : World}

theorem filter_lt {f g : Nat → Bool} : ∀ {r : List Nat} {i : Nat}, i ∈ r → f i = true → g i = false → (∀ j, g j = true → f j = true) → (r.filter g).length < (r.filter f).length
  | [], i, h, _, _, _ => by simp at h
  | j :: r, i, h, hf, hg, hs => by
    have hle : (r.filter g).length ≤ (r.filter f).length := by
      clear h
      induction r with
      | nil => simp
      | cons q r ih =>
        simp only [List.filter_cons]
        cases hq : g q with
        | true => simp [hs q hq, ih]
        | false =>
          cases f q <;> simp <;> omega
    rcases List.mem_cons.1 h with rfl | h
    · simp [List.filter_cons, hf, hg]; omega
    · have ih := filter_lt (r := r) h hf hg hs
      simp only [List.filter_cons]
      cases hq : g j with
      | true => simp [hs j hq, ih]
      | false => cases f j <;> simp <;> omega

theorem unl_set {i : Nat} (hs : listed.size = l.length) (hi : i < l.length) (h : listed.getD i true = false) : unl l (listed.setIfInBounds i true) < unl l listed := by
  refine filter_lt (i := i) (by simpa using hi) (by simp [h]) ?_ ?_
  · simp [hs, hi]
  · intro j hj
    by_cases hij : i = j
    · subst hij; simp [hs, hi] at hj
    · rw [getD_set_ne true hij] at hj; exact hj

theorem getD_set_self {i : Nat} (hi : i < listed.size) (d : Bool) : (listed.setIfInBounds i true).getD i d = true := by simp [hi]

theorem Inv.known (hR : RegOK l NQ) (inv : Inv P W0 N l NQ S L D E listed a w) {i : Nat} {o : Oper} (ho : l[i]? = some o) (hr : ∀ k, k ∈ dirs o → listed.getD k false = true) {s : Nat} (hs : s ∈ o.looksAt l.toArray) (v : Value) (e : find s L = some v)
    (hself : o.dst ≠ some s ∨ i ∉ S) : a.tmps[s]? = some v := by
  refine inv.slots s v e ?_
  intro j p hj hp hl hd
  by_cases hij : j = i
  · subst hij
    rw [ho] at hp; cases hp
    rcases hself with h | h
    · exact h hd
    · exact h hj
  · obtain ⟨p', d', v', h1, h2, h3, _, _, _⟩ := inv.pend j hj hl
    rw [hp] at h1; cases h1
    obtain ⟨d2, h4, _, h5⟩ := hR.quiet j p hp h2
    rw [hd] at h4; cases h4
    have hbit := (h5 i o ho (fun e => hij e.symm)).1 hs
    have := anc_closed (T := fun k => listed.getD k false = true) inv.closed hR.back i j o ho hr hbit
    rw [hl] at this; cases this

theorem looksAt_op {o : Oper} {s : Nat} (h : Operand.tmp s ∈ o.op.operands.toList) : s ∈ o.looksAt l.toArray :=
  List.mem_append_left _ (List.mem_filterMap.2 ⟨_, h, rfl⟩)

theorem agree_of {o : Oper} (h : ∀ s v, s ∈ o.looksAt l.toArray → find s L = some v → a.tmps[s]? = some v) : Agree a L o.op := by
  intro x hx u e
  cases x with
  | tmp t =>
    have := h t u (looksAt_op hx) e
    simp [Act.eval, Array.getD_eq_getD_getElem?, this]
  | const u => simpa [ev, Act.eval] using e
  | global g => simpa [ev, Act.eval] using e
  | func g => simpa [ev, Act.eval] using e

theorem wanted_of {o : Oper} {b : Bool} (h : ∀ s v, s ∈ o.looksAt l.toArray → find s L = some v → a.tmps[s]? = some v) (e : guardL l.toArray o.guard L = some b) : Region.wanted o (yielded l.toArray a.tmps) = b := by
  unfold guardL at e
  unfold Region.wanted
  cases hg : o.guard with
  | none => rw [hg] at e; simpa using e
  | some p =>
    obtain ⟨j, want⟩ := p
    rw [hg] at e
    simp only at e ⊢
    unfold yielded
    cases hd : (l.toArray[j]?).bind (·.dst) with
    | none => rw [hd] at e; cases e
    | some d =>
      rw [hd] at e
      simp only at e
      cases hf : find d L with
      | none => rw [hf] at e; cases e
      | some v =>
        rw [hf] at e
        have ht := h d v (List.mem_append_right _ (by rw [hg]; simp only; rw [hd]; simp)) hf
        simp only [Option.bind_some, ht]
        cases v <;> simp at e ⊢ <;> first | exact e | (rw [← e]; cases want <;> rename_i q <;> cases q <;> rfl) | exact e.symm

theorem Pend.more {o : Oper} {v u : Value} {d : Nat} (h : Pend P l o L D v) (hd : d ∉ o.looksAt l.toArray) : Pend P l o ((d, u) :: L) D v := by
  have hfind : ∀ s, s ∈ o.looksAt l.toArray → find s ((d, u) :: L) = find s L := by
    intro s hs
    simp only [find]
    cases hb : Nat.beq s d with
    | true => rw [beq_iff] at hb; subst hb; exact absurd hs hd
    | false => rfl
  have hg : guardL l.toArray o.guard ((d, u) :: L) = guardL l.toArray o.guard L := by
    unfold guardL
    cases hg : o.guard with
    | none => rfl
    | some p =>
      obtain ⟨j, want⟩ := p
      simp only
      cases hd : (l.toArray[j]?).bind (·.dst) with
      | none => rfl
      | some e =>
        simp only
        rw [hfind e (List.mem_append_right _ (by rw [hg]; simp only; rw [hd]; simp))]
  rcases h with ⟨h1, h2⟩ | ⟨h1, h2⟩
  · refine .inl ⟨by rw [hg]; exact h1, ⟨fun dst pos aft g a W0 w F ag s => h2.run dst pos aft g a W0 w F ?_ s⟩⟩
    intro x hx u' e
    refine ag x hx u' ?_
    cases x with
    | tmp t => simp only [ev] at e ⊢; rw [hfind t (looksAt_op hx)]; exact e
    | _ => exact e
  · exact .inr ⟨by rw [hg]; exact h1, h2⟩

theorem get_of_toArray {i : Nat} {o : Oper} : l.toArray[i]? = some o ↔ l[i]? = some o := by simp

theorem Inv.exec (hR : RegOK l NQ) (inv : Inv P W0 N l NQ S L D E listed a w) {i : Nat} {o : Oper} (ho : l[i]? = some o) (hi : i ∈ S) (hn : listed.getD i false = false) (hr : ∀ k, k ∈ dirs o → listed.getD k false = true)
    {K : Act → World → Prop} (k : ∀ a' w', Inv P W0 N l NQ S L D E (listed.setIfInBounds i true) a' w' → K a' w') : wpOp P l.toArray Q i K a w := by
  obtain ⟨o', d, v, h1, h2, h3, h4, h5, h6⟩ := inv.pend i hi hn
  rw [ho] at h1; cases h1
  have hil : i < listed.size := by rw [inv.size]; exact (List.getElem?_eq_some_iff.1 ho).1
  obtain ⟨d', hd', hdn, _⟩ := hR.quiet i o ho h2
  rw [h3] at hd'; cases hd'
  have hkn : ∀ s v, s ∈ o.looksAt l.toArray → find s L = some v → a.tmps[s]? = some v := fun s v hs e => inv.known hR ho hr hs v e (.inl (by rw [h3]; simp only [ne_eq, Option.some.injEq]; rintro rfl; exact hdn hs))
  have next : ∀ w', Sat W0 w' (D ++ E) → Inv P W0 N l NQ S L D E (listed.setIfInBounds i true) (a.put o.dst v) w' := by
    intro w' hs'
    refine ⟨by simp [inv.size], by rw [h3]; simp [Act.put, inv.tsz], by rw [h3]; exact inv.defs, hs', ?_, ?_, inv.scl, ?_, ?_⟩
    · intro j hj
      by_cases hij : i = j
      · subst hij; exact hi
      · rw [getD_set_ne false hij] at hj; exact inv.sub j hj
    · intro j p hp hj q hq'
      by_cases hij : i = j
      · subst hij; rw [ho] at hp; cases hp; exact getD_set_true (hr q hq')
      · rw [getD_set_ne false hij] at hj; exact getD_set_true (inv.closed j p hp hj q hq')
    · intro s u e hp
      rw [h3]
      simp only [Act.put, Array.getElem?_setIfInBounds]
      by_cases hsd : d = s
      · subst hsd; rw [h5] at e; cases e; simp [inv.tsz, h4]
      · rw [if_neg hsd]
        refine inv.slots s u e ?_
        intro j p hj hp' hl
        by_cases hij : i = j
        · subst hij; rw [ho] at hp'; cases hp'; rw [h3]; simpa using hsd
        · exact hp j p hj hp' (by rw [getD_set_ne false hij]; exact hl)
    · intro j hj hl
      by_cases hij : i = j
      · subst hij; rw [getD_set_self hil] at hl; cases hl
      · rw [getD_set_ne false hij] at hl; exact inv.pend j hj hl
  unfold wpOp
  rw [get_of_toArray.2 ho]
  simp only
  rcases h6 with ⟨g1, q⟩ | ⟨g1, rfl⟩
  · rw [if_pos (wanted_of hkn g1)]
    obtain ⟨dst, op, ty, pos, aft, g⟩ := o
    obtain ⟨w', r, s'⟩ := q.run dst pos aft g a W0 w E (agree_of hkn) inv.sat
    left
    unfold Oper.wp
    rw [r, Oper.upon_value]
    exact k _ _ (next w' s')
  · rw [if_neg (by rw [wanted_of hkn g1]; exact Bool.false_ne_true)]
    exact k _ _ (next w inv.sat)

theorem getD_both {i : Nat} (h : listed.getD i true = false) : listed.getD i false = false := by
  rcases Nat.lt_or_ge i listed.size with h' | h'
  · simp [h'] at h ⊢; exact h
  · simp [Array.getElem?_eq_none h'] at h
theorem getD_in {i : Nat} (hi : i < listed.size) (h : listed.getD i false = false) : listed.getD i true = false := by
  simp [hi] at h ⊢; exact h
theorem getD_replicate_false (m j : Nat) : (Array.replicate m false).getD j false = false := by
  rcases Nat.lt_or_ge j m with h | h
  · simp [h]
  · simp [h]

theorem mem_ready' {i : Nat} : i ∈ Region.ready .any l.toArray listed ↔ listed.getD i true = false ∧ ∃ o, l[i]? = some o ∧ ∀ k, k ∈ dirs o → listed.getD k false = true := by
  rw [mem_ready]
  constructor
  · rintro ⟨h0, o, ho, h⟩
    refine ⟨h0, o, by simpa using ho, fun k hk => ?_⟩
    simp only [dirs, List.mem_filterMap] at hk
    obtain ⟨e, he, hk⟩ := hk
    split at hk
    · simp only [Option.some.injEq] at hk; subst hk; exact h e (by simpa using he) (by assumption)
    · cases hk
  · rintro ⟨h0, o, ho, h⟩
    refine ⟨h0, o, by simpa using ho, fun e he hb => h e.on ?_⟩
    simp only [dirs, List.mem_filterMap]
    exact ⟨e, by simpa using he, by simp [hb]⟩

theorem ready_ne (hR : RegOK l NQ) (hs : listed.size = l.length) : ∀ (i : Nat), i < l.length → listed.getD i false = false → Region.ready .any l.toArray listed ≠ [] := by
  intro i
  induction i using Nat.strongRecOn with
  | _ i ih =>
    intro hi hn
    by_cases h : ∀ k, k ∈ dirs l[i] → listed.getD k false = true
    · have : i ∈ Region.ready .any l.toArray listed := mem_ready'.2 ⟨getD_in (by omega) hn, l[i], List.getElem?_eq_getElem hi, h⟩
      intro e; rw [e] at this; cases this
    · simp only [Classical.not_forall] at h
      obtain ⟨k, hk, hf⟩ := h
      have hki := hR.back i l[i] (List.getElem?_eq_getElem hi) k hk
      exact ih k hki (by omega) (by simpa using hf)

theorem unl_pos {i : Nat} (hi : i < l.length) (h : listed.getD i true = false) : 0 < unl l listed := by
  unfold unl
  apply List.length_pos_of_mem (a := i)
  rw [List.mem_filter]
  exact ⟨by simpa using hi, by simp [h]⟩

theorem RG.step (hR : RegOK l NQ) (hsome : ∃ i, i < l.length ∧ i ∉ S)
    (h : ∀ i o listed a w, l[i]? = some o → i ∉ S → (∀ k, k ∈ dirs o → listed.getD k false = true) → listed.getD i false = false → Inv P W0 N l NQ S L D E listed a w →
      ∀ m, (∀ a' w', (∃ S' L' D' E', RG P W0 N l NQ Q S' L' D' E' ∧ Inv P W0 N l NQ S' L' D' E' (listed.setIfInBounds i true) a' w') → wpAny P .any l.toArray Q m (listed.setIfInBounds i true) a' w') → wpOp P l.toArray Q i (wpAny P .any l.toArray Q m (listed.setIfInBounds i true)) a w) :
    RG P W0 N l NQ Q S L D E := by
  refine ⟨?_⟩
  intro m
  induction m with
  | zero =>
    intro listed a w inv hu
    obtain ⟨i, hi, hS⟩ := hsome
    have hn : listed.getD i false = false := by
      cases hb : listed.getD i false with
      | true => exact absurd (inv.sub i hb) hS
      | false => rfl
    have := unl_pos hi (getD_in (by rw [inv.size]; exact hi) hn)
    omega
  | succ m ih =>
    intro listed a w inv hu
    refine ⟨fun hr => ?_, fun i hi => ?_⟩
    · obtain ⟨i, hi, hS⟩ := hsome
      have hn : listed.getD i false = false := by
        cases hb : listed.getD i false with
        | true => exact absurd (inv.sub i hb) hS
        | false => rfl
      exact absurd hr (ready_ne hR inv.size i hi hn)
    · obtain ⟨h0, o, ho, hd⟩ := mem_ready'.1 hi
      have hil : i < l.length := (List.getElem?_eq_some_iff.1 ho).1
      have hlt := unl_set inv.size hil h0
      by_cases hS : i ∈ S
      · exact inv.exec hR ho hS (getD_both h0) hd (fun a' w' inv' => ih _ a' w' inv' (by omega))
      · refine h i o listed a w ho hS hd (getD_both h0) inv m ?_
        rintro a' w' ⟨S', L', D', E', hG, inv'⟩
        exact hG.run m _ a' w' inv' (by omega)

theorem RG.done (hR : RegOK l NQ) (hall : ∀ i, i < l.length → i ∈ S) (k : J W0 N L (D ++ E) (Q .normal)) : RG P W0 N l NQ Q S L D E := by
  refine ⟨?_⟩
  have fin : ∀ listed a w, Inv P W0 N l NQ S L D E listed a w → Region.ready .any l.toArray listed = [] → Q .normal a w := by
    intro listed a w inv hr
    refine k.run a w ⟨inv.tsz, fun s v e => inv.slots s v e ?_, inv.defs⟩ inv.sat
    intro i o hi ho hn
    exact absurd hr (ready_ne hR inv.size i (List.getElem?_eq_some_iff.1 ho).1 hn)
  intro m
  induction m with
  | zero =>
    intro listed a w inv hu
    have hr : Region.ready .any l.toArray listed = [] := by
      apply List.eq_nil_iff_forall_not_mem.2
      intro i hi
      obtain ⟨h0, o, ho, _⟩ := mem_ready'.1 hi
      have := unl_pos (List.getElem?_eq_some_iff.1 ho).1 h0
      omega
    exact ⟨hr, fin listed a w inv hr⟩
  | succ m ih =>
    intro listed a w inv hu
    refine ⟨fin listed a w inv, fun i hi => ?_⟩
    obtain ⟨h0, o, ho, hd⟩ := mem_ready'.1 hi
    have hil : i < l.length := (List.getElem?_eq_some_iff.1 ho).1
    have hlt := unl_set inv.size hil h0
    exact inv.exec hR ho (hall i hil) (getD_both h0) hd (fun a' w' inv' => ih _ a' w' inv' (by omega))

theorem RG.pend (hR : RegOK l NQ) {i d : Nat} {o : Oper} {v : Value} (ho : l[i]? = some o) (hd : o.dst = some d) (hS : allN S (dirs o) = true) (hi : memN i NQ = false) (hn : memN i S = false) (hN : Nat.blt d N = true)
    (hp : Pend P l o L D v) (k : RG P W0 N l NQ Q (i :: S) ((d, v) :: L) D E) : RG P W0 N l NQ Q S L D E := by
  have hiQ : i ∉ NQ := fun e => by rw [memN_iff.2 e] at hi; cases hi
  have hiS : i ∉ S := fun e => by rw [memN_iff.2 e] at hn; cases hn
  refine ⟨fun m listed a w inv hu => k.run m listed a w ?_ hu⟩
  obtain ⟨d', hd', hdn, hq⟩ := hR.quiet i o ho hiQ
  rw [hd] at hd'; cases hd'
  have hl : listed.getD i false = false := by
    cases hb : listed.getD i false with
    | true => exact absurd (inv.sub i hb) hiS
    | false => rfl
  have hfind : ∀ s, s ≠ d → find s ((d, v) :: L) = find s L := by
    intro s hs
    simp only [find]
    cases hb : Nat.beq s d with
    | true => rw [beq_iff] at hb; exact absurd hb hs
    | false => rfl
  refine ⟨inv.size, inv.tsz, inv.defs, inv.sat, fun j hj => List.mem_cons_of_mem _ (inv.sub j hj), inv.closed, ?_, ?_, ?_⟩
  · intro j p hp hj q hq'
    rcases List.mem_cons.1 hj with rfl | hj
    · rw [ho] at hp; cases hp; exact List.mem_cons_of_mem _ (allN_iff.1 hS q hq')
    · exact List.mem_cons_of_mem _ (inv.scl j p hp hj q hq')
  · intro s u e hp
    have hsd : s ≠ d := by rintro rfl; exact hp i o (by simp) ho hl hd
    rw [hfind s hsd] at e
    exact inv.slots s u e (fun j p hj => hp j p (List.mem_cons_of_mem _ hj))
  · intro j hj hjl
    rcases List.mem_cons.1 hj with rfl | hj
    · exact ⟨o, d, v, ho, hiQ, hd, by simpa [Nat.blt_eq] using hN, by simp [find], hp.more hdn⟩
    · obtain ⟨o', d', v', h1, h2, h3, h4, h5, h6⟩ := inv.pend j hj hjl
      have hji : j ≠ i := fun e => hiS (e ▸ hj)
      have hqj := hq j o' h1 hji
      have hdd : d' ≠ d := by rintro rfl; exact hqj.2 h3
      refine ⟨o', d', v', h1, h2, h3, h4, by rw [hfind d' hdd]; exact h5, h6.more fun hm => ?_⟩
      have hbit := hqj.1 hm
      exact hiS (anc_closed (T := fun k => k ∈ S) (fun i o h1 h2 => inv.scl i o h1 h2) hR.back j i o' h1 (fun q hq' => inv.scl j o' h1 hj q hq') hbit)

def addL : Option Nat → Value → Slots → Slots
  | some d, v, L => (d, v) :: L
  | none, _, L => L

def front (l : List Oper) (S : List Nat) : List Nat := (List.range l.length).filter fun i => !memN i S && (match l[i]? with | some o => allN S (dirs o) | none => false)

theorem RG.next (hR : RegOK l NQ) (hne : front l S ≠ [])
    (h : ∀ i, i ∈ front l S → ∃ o, l[i]? = some o ∧ i ∈ NQ ∧ (∀ d, o.dst = some d → d < N) ∧
      ((guardL l.toArray o.guard L = some false ∧ RG P W0 N l NQ Q (i :: S) (addL o.dst undef L) D E) ∨
       (guardL l.toArray o.guard L = some true ∧ ∃ R, OpC P o.op o.type L (D ++ E) R ∧
        ((∀ v B, R v B → ∃ E', B.Perm (D ++ E') ∧ RG P W0 N l NQ Q (i :: S) (addL o.dst v L) D E') ∨
         ((∀ j, j ∈ S → (((masks [] l)[i]?).getD 0).testBit j = true) ∧ ∀ v B, R v B → ∃ D' E', B.Perm (D' ++ E') ∧ RG P W0 N l NQ Q (i :: S) (addL o.dst v L) D' E'))))) :
    RG P W0 N l NQ Q S L D E := by
  have hsome : ∃ i, i < l.length ∧ i ∉ S := by
    obtain ⟨i, hi⟩ := List.exists_mem_of_ne_nil _ hne
    simp only [front, List.mem_filter, List.mem_range, Bool.and_eq_true, Bool.not_eq_true'] at hi
    exact ⟨i, hi.1, fun e => by rw [memN_iff.2 e] at hi; simp at hi⟩
  refine RG.step hR hsome ?_
  intro i o listed a w ho hS hd hn inv m K
  have hil : i < l.length := (List.getElem?_eq_some_iff.1 ho).1
  have hlsz : i < listed.size := by rw [inv.size]; exact hil
  have hf : i ∈ front l S := by
    simp only [front, List.mem_filter, List.mem_range, Bool.and_eq_true, Bool.not_eq_true']
    refine ⟨hil, ?_, ?_⟩
    · cases hb : memN i S with
      | true => exact absurd (memN_iff.1 hb) hS
      | false => rfl
    · rw [ho]; exact allN_iff.2 fun k hk => inv.sub k (hd k hk)
  obtain ⟨o', ho', hNQ, hdN, hcase⟩ := h i hf
  rw [ho] at ho'; cases ho'
  have hkn : ∀ s v, s ∈ o.looksAt l.toArray → find s L = some v → a.tmps[s]? = some v := fun s v hs e => inv.known hR ho hd hs v e (.inr hS)
  -- who waits has nothing to do with the slot
  have hpd : ∀ j, j ∈ S → listed.getD j false = false → ∀ d, o.dst = some d → ∀ p, l[j]? = some p → d ∉ p.looksAt l.toArray ∧ p.dst ≠ some d := by
    intro j hj hjl d hod p hp
    have hji : j ≠ i := by rintro rfl; exact hS hj
    have key : ¬ (d ∈ p.looksAt l.toArray ∨ p.dst = some d) := by
      intro ht
      rcases hR.chain i o d ho hNQ hod j p hp hji ht with hb | hb
      · exact hS (anc_closed (T := fun k => k ∈ S) (fun i o h1 h2 => inv.scl i o h1 h2) hR.back j i p hp (fun q hq' => inv.scl j p hp hj q hq') hb)
      · have := anc_closed (T := fun k => listed.getD k false = true) inv.closed hR.back i j o ho hd hb
        rw [hjl] at this; cases this
    exact ⟨fun x => key (.inl x), fun x => key (.inr x)⟩
  have next : ∀ (v : Value) (D' E' : List Assn) w', Sat W0 w' (D' ++ E') → (D' = D ∨ ∀ j, j ∈ S → listed.getD j false = true) →
      Inv P W0 N l NQ (i :: S) (addL o.dst v L) D' E' (listed.setIfInBounds i true) (a.put o.dst v) w' := by
    intro v D' E' w' s' hD
    have hlist : ∀ j, (listed.setIfInBounds i true).getD j false = false → j ≠ i ∧ listed.getD j false = false := by
      intro j hj
      by_cases hij : i = j
      · subst hij; rw [getD_set_self hlsz] at hj; cases hj
      · rw [getD_set_ne false hij] at hj; exact ⟨fun e => hij e.symm, hj⟩
    refine ⟨by simp [inv.size], by cases o.dst <;> simp [Act.put, inv.tsz], by cases o.dst <;> exact inv.defs, s', ?_, ?_, ?_, ?_, ?_⟩
    · intro j hj
      by_cases hij : i = j
      · subst hij; simp
      · rw [getD_set_ne false hij] at hj; exact List.mem_cons_of_mem _ (inv.sub j hj)
    · intro j p hp hj q hq'
      by_cases hij : i = j
      · subst hij; rw [ho] at hp; cases hp; exact getD_set_true (hd q hq')
      · rw [getD_set_ne false hij] at hj; exact getD_set_true (inv.closed j p hp hj q hq')
    · intro j p hp hj q hq'
      rcases List.mem_cons.1 hj with rfl | hj
      · rw [ho] at hp; cases hp; exact List.mem_cons_of_mem _ (inv.sub q (hd q hq'))
      · exact List.mem_cons_of_mem _ (inv.scl j p hp hj q hq')
    · intro s u e hp
      have hp' : ∀ j p, j ∈ S → l[j]? = some p → listed.getD j false = false → p.dst ≠ some s := by
        intro j p hj hpj hjl
        have hji : j ≠ i := by rintro rfl; exact hS hj
        exact hp j p (List.mem_cons_of_mem _ hj) hpj (by rw [getD_set_ne false (fun e => hji e.symm)]; exact hjl)
      cases hod : o.dst with
      | none => rw [hod] at e; simp only [addL] at e; exact inv.slots s u e hp'
      | some d =>
        rw [hod] at e
        simp only [addL, find] at e
        simp only [Act.put, Array.getElem?_setIfInBounds]
        cases hb : Nat.beq s d with
        | true =>
          rw [hb] at e; simp at e
          rw [beq_iff] at hb
          subst hb; subst e
          simp [inv.tsz, hdN s hod]
        | false =>
          rw [hb] at e; simp at e
          have : d ≠ s := by rintro rfl; rw [Nat.beq_refl] at hb; cases hb
          rw [if_neg this]; exact inv.slots s u e hp'
    · intro j hj hjl
      obtain ⟨hji, hjl'⟩ := hlist j hjl
      have hj' : j ∈ S := by rcases List.mem_cons.1 hj with e | e; exact absurd e hji; exact e
      rcases hD with rfl | hD
      · obtain ⟨p, d', v', h1, h2, h3, h4, h5, h6⟩ := inv.pend j hj' hjl'
        cases hod : o.dst with
        | none => exact ⟨p, d', v', h1, h2, h3, h4, h5, h6⟩
        | some d =>
          obtain ⟨x1, x2⟩ := hpd j hj' hjl' d hod p h1
          refine ⟨p, d', v', h1, h2, h3, h4, ?_, h6.more x1⟩
          simp only [addL, find]
          cases hb : Nat.beq d' d with
          | true => rw [beq_iff] at hb; subst hb; exact absurd h3 x2
          | false => simpa using h5
      · rw [hD j hj'] at hjl'; cases hjl'
  unfold wpOp
  rw [get_of_toArray.2 ho]
  simp only
  rcases hcase with ⟨g1, k⟩ | ⟨g1, R, hC, k⟩
  · rw [if_neg (by rw [wanted_of hkn g1]; exact Bool.false_ne_true)]
    exact K _ _ ⟨_, _, _, _, k, next undef D E w inv.sat (.inl rfl)⟩
  · rw [if_pos (wanted_of hkn g1)]
    left
    obtain ⟨dst, op, ty, pos, aft, g⟩ := o
    refine hC.wp dst pos aft g a W0 w (agree_of hkn) inv.sat _ _ ?_
    intro v B w' r s'
    rcases k with k | ⟨hbar, k⟩
    · obtain ⟨E', hp, hG⟩ := k v B r
      exact K _ _ ⟨_, _, _, _, hG, next v D E' w' (s'.perm hp) (.inl rfl)⟩
    · obtain ⟨D', E', hp, hG⟩ := k v B r
      refine K _ _ ⟨_, _, _, _, hG, next v D' E' w' (s'.perm hp) (.inr fun j hj => ?_)⟩
      exact anc_closed (T := fun k => listed.getD k false = true) inv.closed hR.back i j _ ho hd (hbar j hj)

end

section
variable [Dfs] {P : Program} {W0 : World} {N : Nat} {l : List Oper} {NQ : List Nat} {Q : Exit → Act → World → Prop} {S : List Nat} {L : Slots} {D E A : List Assn}

theorem J.draw (NQ : List Nat) {id : Nat} (hm : P.follows .mixedOrders = true) (hR : regOK l NQ = true) (h : RegOK l NQ → RG P W0 N l NQ Q [] L A []) : J W0 N L A ((Code.region id l.toArray true).wp P Q) := by
  refine ⟨fun a w f s => wp_region_any hm ?_⟩
  have hl : ∀ i, (Array.replicate l.toArray.size false).getD i false = false := fun i => getD_replicate_false _ i
  refine (h (regOK_spec hR)).run _ _ a _ ⟨by simp, f.size, f.defers, ⟨s.os, s.tape, s.out, by rw [List.append_nil]; exact s.heap⟩, ?_, ?_, ?_, fun s v e _ => f.get s v e, ?_⟩ ?_
  · intro i hi; rw [hl] at hi; cases hi
  · intro i o _ hi; rw [hl] at hi; cases hi
  · intro i o _ hi; cases hi
  · intro i hi; cases hi
  · unfold unl
    exact Nat.le_trans (List.length_filter_le _ _) (by simp)

theorem RG.q (i : Nat) {d : Nat} {op : Op} {ty : TypeId} {pos : String} {aft : Array Edge} {g : Option (Nat × Bool)} {v : Value} (hR : RegOK l NQ) (ho : l[i]? = some ⟨some d, op, ty, pos, aft, g⟩)
    (hS : allN S (dirs ⟨some d, op, ty, pos, aft, g⟩) = true) (hi : memN i NQ = false) (hn : memN i S = false) (hN : Nat.blt d N = true) (hg : guardL l.toArray g L = some true) (h : OpQ P op ty L D v)
    (k : RG P W0 N l NQ Q (i :: S) ((d, v) :: L) D E) : RG P W0 N l NQ Q S L D E :=
  RG.pend hR ho rfl hS hi hn hN (.inl ⟨hg, h⟩) k

theorem RG.bar (i : Nat) {dst : Option Nat} {op : Op} {ty : TypeId} {pos : String} {aft : Array Edge} {g : Option (Nat × Bool)} {R : Value → List Assn → Prop} (hR : RegOK l NQ) (hf : front l S = [i]) (ho : l[i]? = some ⟨dst, op, ty, pos, aft, g⟩)
    (hi : memN i NQ = true) (hN : (match dst with | some d => Nat.blt d N | none => true) = true) (hg : guardL l.toArray g L = some true) (hb : S.all (fun j => (((masks [] l)[i]?).getD 0).testBit j) = true)
    (h : OpC P op ty L (D ++ E) R) (k : ∀ v B, R v B → RG P W0 N l NQ Q (i :: S) (addL dst v L) B []) : RG P W0 N l NQ Q S L D E := by
  refine RG.next hR (by rw [hf]; simp) ?_
  intro j hj
  rw [hf] at hj
  obtain rfl : j = i := by simpa using hj
  refine ⟨_, ho, memN_iff.1 hi, ?_, .inr ⟨hg, R, h, .inr ⟨by simpa [List.all_eq_true] using hb, ?_⟩⟩⟩
  · intro d hd; simp only at hd; subst hd; simpa [Nat.blt_eq] using hN
  · intro v B r
    exact ⟨B, [], by simp, k v B r⟩

theorem RG.one (i : Nat) {dst : Option Nat} {op : Op} {ty : TypeId} {pos : String} {aft : Array Edge} {g : Option (Nat × Bool)} {R : Value → List Assn → Prop} (hR : RegOK l NQ) (hf : front l S = [i]) (ho : l[i]? = some ⟨dst, op, ty, pos, aft, g⟩)
    (hi : memN i NQ = true) (hN : (match dst with | some d => Nat.blt d N | none => true) = true) (hg : guardL l.toArray g L = some true)
    (h : OpC P op ty L (D ++ E) R) (k : ∀ v B, R v B → ∃ E', B.Perm (D ++ E') ∧ RG P W0 N l NQ Q (i :: S) (addL dst v L) D E') : RG P W0 N l NQ Q S L D E := by
  refine RG.next hR (by rw [hf]; simp) ?_
  intro j hj
  rw [hf] at hj
  obtain rfl : j = i := by simpa using hj
  refine ⟨_, ho, memN_iff.1 hi, ?_, .inr ⟨hg, R, h, .inl k⟩⟩
  intro d hd; simp only at hd; subst hd; simpa [Nat.blt_eq] using hN

theorem guardL_ext {L L' : Slots} (h : ∀ s, find s L = find s L') (ops : Array Oper) (g : Option (Nat × Bool)) : guardL ops g L = guardL ops g L' := by
  unfold guardL
  cases g with
  | none => rfl
  | some p =>
    obtain ⟨j, want⟩ := p
    simp only
    cases (ops[j]?).bind (·.dst) with
    | none => rfl
    | some d => simp only [h d]

theorem ev_ext {L L' : Slots} (h : ∀ s, find s L = find s L') (x : Operand) : ev L x = ev L' x := by cases x <;> simp [ev, h]

theorem RG.ext (L' : Slots) (h : ∀ s, find s L = find s L') (k : RG P W0 N l NQ Q S L' D E) : RG P W0 N l NQ Q S L D E := by
  refine ⟨fun m listed a w inv hu => k.run m listed a w ⟨inv.size, inv.tsz, inv.defs, inv.sat, inv.sub, inv.closed, inv.scl, fun s v e => inv.slots s v (by rw [h s]; exact e), ?_⟩ hu⟩
  intro i hi hl
  obtain ⟨o, d, v, h1, h2, h3, h4, h5, h6⟩ := inv.pend i hi hl
  refine ⟨o, d, v, h1, h2, h3, h4, by rw [← h d]; exact h5, ?_⟩
  rcases h6 with ⟨g1, q⟩ | ⟨g1, q⟩
  · exact .inl ⟨by rw [← guardL_ext h]; exact g1, ⟨fun dst pos aft g a W0 w F ag s => q.run dst pos aft g a W0 w F (fun x hx u e => ag x hx u (by rw [← ev_ext h]; exact e)) s⟩⟩
  · exact .inr ⟨by rw [← guardL_ext h]; exact g1, q⟩

theorem find_same {s : Nat} {u : Value} (e : find s L = some u) : ∀ t, find t L = find t ((s, u) :: L) := by
  intro t
  simp only [find]
  cases hb : Nat.beq t s with
  | true => rw [beq_iff] at hb; subst hb; simpa using e
  | false => rfl

theorem RG.cases (s : Nat) {b : Bool} (e : find s L = some (.bool b)) (ht : b = true → RG P W0 N l NQ Q S ((s, .bool true) :: L) D E) (hf : b = false → RG P W0 N l NQ Q S ((s, .bool false) :: L) D E) : RG P W0 N l NQ Q S L D E := by
  cases hb : b with
  | true => exact RG.ext _ (find_same (by rw [← hb]; exact e)) (ht hb)
  | false => exact RG.ext _ (find_same (by rw [← hb]; exact e)) (hf hb)

theorem RG.slot (s : Nat) (v : Value) {u : Value} (e : find s L = some u) (huv : u = v) (k : RG P W0 N l NQ Q S ((s, v) :: L) D E) : RG P W0 N l NQ Q S L D E := by
  subst huv; exact RG.ext _ (find_same e) k

theorem RG.fin (hR : RegOK l NQ) (hall : (List.range l.length).all (fun i => memN i S) = true) (k : J W0 N L (D ++ E) (Q .normal)) : RG P W0 N l NQ Q S L D E :=
  RG.done hR (fun i hi => memN_iff.1 (by rw [List.all_eq_true] at hall; exact hall i (by simpa using hi))) k
end
end Go.X
namespace Go.X
set_option linter.unusedSectionVars false
set_option linter.unusedSimpArgs false
set_option linter.unusedVariables false

section
variable [Dfs] {P : Program} {W0 : World} {N : Nat} {ops : Array Oper} {Q : Exit → Act → World → Prop} {L : Slots} {A : List Assn} {rest : List Oper}
variable {ty : TypeId} {pos : String} {aft : Array Edge} {g : Option (Nat × Bool)} {d : Nat} {T : TypeId} {x y : Operand}

theorem Q.bld {fs : Array Field} {pl : List (Nat × Nat)} {zv : Value} {ps : List (Nat × Operand)} {vs l : List Value} {D : List Assn} (hu : ∀ w, (underlying T).run P w = .ok (.struct fs) w) (hz : ∀ w, (zeroValue T).run P w = .ok zv w)
    (hp : ∀ w, (fs.mapM fun f => do pure (f.offset, ← sizeOf f.type) : Sem (Array (Nat × Nat))).run P w = .ok pl.toArray w) (ev_ : evs L (ps.map (·.2)) = some vs)
    (hl : Instr.fill (fun i : Nat => pl[i]?) zv.cells ((ps.map (·.1)).zip vs) = some l.toArray) : OpQ P (.build T ps.toArray) ty L D (.agg l.toArray) :=
  .pure_ fun _ _ _ _ a w ag => by
    have hx : (ps.map (·.2)).map a.eval = vs := evs_map (fun x hx => ag x (by simpa [Op.operands] using hx)) ev_
    have hpp : (ps.map fun q => (q.1, a.eval q.2)) = (ps.map (·.1)).zip vs := by
      rw [← hx]; clear hx hl ev_ ag
      induction ps with
      | nil => rfl
      | cons q r ih => simp [ih]
    have hpar : (Array.map (fun q : Nat × Operand => (q.1, a.eval q.2)) ps.toArray).toList = (ps.map (·.1)).zip vs := by simpa using hpp
    have hl' : Instr.fill (fun i : Nat => pl.toArray[i]?) zv.cells ((ps.map (·.1)).zip vs) = some l.toArray := by
      have : (fun i : Nat => pl.toArray[i]?) = (fun i : Nat => pl[i]?) := by funext i; simp
      rw [this]; exact hl
    simp only [execOp, Instr.build, Sem.run_bind, hz, hu, Result.andThen_ok]
    rw [show (fs.mapM fun f => do let __do_lift ← sizeOf f.type; pure (f.offset, __do_lift) : Sem (Array (Nat × Nat))).run P w = .ok pl.toArray w from hp w]
    simp only [Result.andThen_ok, hpar, hl', Sem.run_pure]

theorem C.stringish {i b off n c : Nat} {E : TypeId} {l : List Value} {e : TypeId} {B : List Assn} (hu : ∀ w, (underlying T).run P w = .ok (.slice E) w) (hE : ∀ w, (underlying E).run P w = .ok (.int .u8) w) (ex : ev L x = some (.slice (some ⟨b, off, none⟩) n c)) (h : A[i]? = some (pt b (.cells l.toArray e (0, 0))))
    (hB : setA i (pt b (.cells l.toArray e (l.length, l.length + 1))) A = some B) :
    OpC P (.convert T T x) ty L A (fun u C => u = .slice (some ⟨b, off, none⟩) n c ∧ C = B) := by
  refine ⟨fun dst pos aft g a W0 w ag s K Q k => ?_⟩
  have e1 := ag.at_ ex (by simp [Op.operands])
  have hb := s.at_ h
  have hr : (execOp a.eval ⟨dst, .convert T T x, ty, pos, aft, g⟩).run P w = .ok (.value (.slice (some ⟨b, off, none⟩) n c)) (w.freeze ⟨b, l.length, none⟩ 1) := by
    have hsh : w.shape? b = some (e, l.length) := by simp [World.shape?, hb]
    simp [execOp, e1, convert, hu, hE, markStringish, hsh]
  have s' : Sat W0 (w.freeze ⟨b, l.length, none⟩ 1) (A.set i (pt b (.cells l.toArray e (l.length, l.length + 1)))) := by
    refine s.set h _ rfl rfl rfl ?_
    unfold World.freeze
    rw [if_neg (by omega)]
    show hp { w with heap := w.heap.modify b _ } = _
    rw [hp_modify w _ _ _ hb]
    simp
  rw [setA_eq hB] at s'
  unfold Oper.wp
  rw [hr, Oper.upon_value]
  exact k _ _ _ ⟨rfl, rfl⟩ s'
end

section
variable [Dfs] {P : Program} {W0 : World} {N : Nat} {l : List Oper} {NQ : List Nat} {Q : Exit → Act → World → Prop} {S : List Nat} {L : Slots} {D E A Ain F : List Assn}

theorem RG.norm {B : List Assn} (e : normA D = some B) (k : RG P W0 N l NQ Q S L B E) : RG P W0 N l NQ Q S L D E := by rw [normA_eq e]; exact k

theorem RG.keep (i : Nat) {dst : Option Nat} {op : Op} {ty : TypeId} {pos : String} {aft : Array Edge} {g : Option (Nat × Bool)} {v : Value} (hR : RegOK l NQ) (hf : front l S = [i]) (ho : l[i]? = some ⟨dst, op, ty, pos, aft, g⟩)
    (hi : memN i NQ = true) (hN : (match dst with | some d => Nat.blt d N | none => true) = true) (hg : guardL l.toArray g L = some true)
    (h : OpQ P op ty L (D ++ E) v) (k : RG P W0 N l NQ Q (i :: S) (addL dst v L) D E) : RG P W0 N l NQ Q S L D E :=
  RG.one i hR hf ho hi hN hg h.toC (by rintro u B ⟨rfl, rfl⟩; exact ⟨E, List.Perm.refl _, k⟩)

theorem RG.made (i : Nat) {d : Nat} {op : Op} {ty : TypeId} {pos : String} {aft : Array Edge} {g : Option (Nat × Bool)} {v : Nat → Value} {X : Nat → Assn} (hR : RegOK l NQ) (hf : front l S = [i]) (ho : l[i]? = some ⟨some d, op, ty, pos, aft, g⟩)
    (hi : memN i NQ = true) (hN : Nat.blt d N = true) (hg : guardL l.toArray g L = some true)
    (h : OpC P op ty L (D ++ E) (fun u B => ∃ b, u = v b ∧ B = X b :: (D ++ E))) (k : ∀ b, RG P W0 N l NQ Q (i :: S) ((d, v b) :: L) D (X b :: E)) : RG P W0 N l NQ Q S L D E :=
  RG.one i hR hf ho hi hN hg h (by rintro u B ⟨b, rfl, rfl⟩; exact ⟨X b :: E, List.perm_middle.symm, k b⟩)

theorem RG.callk (i : Nat) {d : Nat} {ty : TypeId} {pos : String} {aft : Array Edge} {g : Option (Nat × Bool)} {f : FuncId} {argTypes : Array TypeId} {R : Value → List Assn → Prop} {xs : List Operand} {args : List Value} (hR : RegOK l NQ) (hf : front l S = [i])
    (ho : l[i]? = some ⟨some d, .call { callee := .value (.func f), args := xs.toArray, argTypes }, ty, pos, aft, g⟩) (hi : memN i NQ = true) (hN : Nat.blt d N = true) (hg : guardL l.toArray g L = some true)
    (hc : ∀ (args : Array Value) (w : World), (callFunc f args).run P w = .ok (.enter f args) w) (hs : FSpec P f args Ain R) (is : List Nat) (he : evs L xs = some args) (hp : X.pick is (D ++ E) = some (Ain, F))
    (k : ∀ v B, R v B → ∃ E', (B ++ F).Perm (D ++ E') ∧ RG P W0 N l NQ Q (i :: S) ((d, v) :: L) D E') : RG P W0 N l NQ Q S L D E :=
  RG.one i hR hf ho hi hN hg (OpC.call hc he hs is hp) (by rintro v _ ⟨B, r, rfl⟩; exact k v B r)

end

theorem tt_not {p : Prop} [Decidable p] (h : (!decide p) = true) : ¬ p := by simpa using h
theorem ff_not {p : Prop} [Decidable p] (h : (!decide p) = false) : p := by simpa using h

def CutQ [Dfs] {ι : Type} (W0 : World) (N : Nat) (I : ι → Prop) (Ls : ι → Slots) (As : ι → List Assn) (Q : Exit → Act → World → Prop) : Exit → Act → World → Prop
  | .normal, a, w => ∃ x, I x ∧ Fr N a (Ls x) ∧ Sat W0 w (As x)
  | e, a, w => Q e a w

section
variable [Dfs] {ι : Type} {P : Program} {W0 : World} {N : Nat} {I : ι → Prop} {Q : Exit → Act → World → Prop} {L : Slots} {A : List Assn} {x y : Code} {Ls : ι → Slots} {As : ι → List Assn}
theorem J.cut (I : ι → Prop) (Ls : ι → Slots) (As : ι → List Assn) (h1 : J W0 N L A (x.wp P (CutQ W0 N I Ls As Q))) (h2 : ∀ i, I i → J W0 N (Ls i) (As i) (y.wp P Q)) : J W0 N L A ((Code.seq x y).wp P Q) := by
  refine J.seq ⟨fun a w f s => ?_⟩
  refine Code.wp_mono ?_ (h1.run a w f s)
  intro e a w hq
  cases e with
  | normal => obtain ⟨i, hi, f, s⟩ := hq; exact (h2 i hi).run a w f s
  | _ => exact hq
theorem J.meet (i : ι) (hi : I i) (hL : Knows L (Ls i)) (hA : A = As i) : J W0 N L A (CutQ W0 N I Ls As Q .normal) := ⟨fun _ _ f s => ⟨i, hi, f.weaken hL, hA ▸ s⟩⟩
end
end Go.X
namespace Go.X
section
variable [Dfs] {P : Program} {W0 : World} {N : Nat} {l : List Oper} {NQ : List Nat} {Q : Exit → Act → World → Prop} {S : List Nat} {L : Slots} {D E A : List Assn} {d : Nat} {op : Op} {ty : TypeId} {pos : String} {aft : Array Edge} {g : Option (Nat × Bool)} {v : Value} {x : Operand} {ops : Array Oper} {rest : List Oper}
theorem RG.p (i : Nat) (hR : RegOK l NQ) (hh : (l[i]?, allN S (dirs ⟨some d, op, ty, pos, aft, g⟩), memN i NQ, memN i S, Nat.blt d N, guardL l.toArray g L) = (some ⟨some d, op, ty, pos, aft, g⟩, true, false, false, true, some true)) (h : OpQ P op ty L D v)
    (k : RG P W0 N l NQ Q (i :: S) ((d, v) :: L) D E) : RG P W0 N l NQ Q S L D E := by
  simp only [Prod.mk.injEq] at hh
  exact RG.q i hR hh.1 hh.2.1 hh.2.2.1 hh.2.2.2.1 hh.2.2.2.2.1 hh.2.2.2.2.2 h k
theorem J.p (hh : (guardL ops g L, Nat.blt d N) = (some true, true)) (h : OpQ P op ty L A v) (k : J W0 N ((d, v) :: L) A (wpList P ops Q rest)) : J W0 N L A (wpList P ops Q (⟨some d, op, ty, pos, aft, g⟩ :: rest)) := by
  simp only [Prod.mk.injEq] at hh
  exact J.q hh.1 hh.2 h k
theorem J.m (hh : (guardL ops g L, Nat.blt d N, ev L x) = (some true, true, some v)) (k : J W0 N ((d, v) :: L) A (wpList P ops Q rest)) : J W0 N L A (wpList P ops Q (⟨some d, .move x, ty, pos, aft, g⟩ :: rest)) := by
  simp only [Prod.mk.injEq] at hh
  exact J.q hh.1 hh.2.1 (Go.X.Q.mv hh.2.2) k
theorem J.k (hh : (guardL ops g L, Nat.blt d N) = (some false, true)) (k : J W0 N ((d, undef) :: L) A (wpList P ops Q rest)) : J W0 N L A (wpList P ops Q (⟨some d, op, ty, pos, aft, g⟩ :: rest)) := by
  simp only [Prod.mk.injEq] at hh
  exact J.skip hh.1 hh.2 k
end
end Go.X
namespace Go.Proofs
theorem Tryz.mixed : Tryz.prog.follows .mixedOrders = true := by kernel_rfl
theorem Tryz.places33 (w : World) : ((#[{ name := "Bucket", type := 9, offset := 0, embedded := false, tag := "", pkgPath := "", byteOffset := 0 }, { name := "Key", type := 9, offset := 1, embedded := false, tag := "", pkgPath := "", byteOffset := 16 }, { name := "Version", type := 30, offset := 2, embedded := false, tag := "", pkgPath := "", byteOffset := 32 }, { name := "Stripe", type := 30, offset := 3, embedded := false, tag := "", pkgPath := "", byteOffset := 40 }, { name := "K", type := 3, offset := 4, embedded := false, tag := "", pkgPath := "", byteOffset := 48 }, { name := "M", type := 3, offset := 5, embedded := false, tag := "", pkgPath := "", byteOffset := 56 }, { name := "Size", type := 3, offset := 6, embedded := false, tag := "", pkgPath := "", byteOffset := 64 }, { name := "Sum", type := 31, offset := 7, embedded := false, tag := "", pkgPath := "", byteOffset := 72 }, { name := "Nodes", type := 23, offset := 8, embedded := false, tag := "", pkgPath := "", byteOffset := 80 }] : Array Field).mapM fun f => do pure (f.offset, ← sizeOf f.type) : Sem (Array (Nat × Nat))).run Tryz.prog w = .ok ([(0, 1), (1, 1), (2, 1), (3, 1), (4, 1), (5, 1), (6, 1), (7, 1), (8, 1)] : List (Nat × Nat)).toArray w := by kernel_rfl
theorem Tryz.places37 (w : World) : ((#[{ name := "Bucket", type := 9, offset := 0, embedded := false, tag := "", pkgPath := "", byteOffset := 0 }, { name := "Key", type := 9, offset := 1, embedded := false, tag := "", pkgPath := "", byteOffset := 16 }, { name := "Version", type := 30, offset := 2, embedded := false, tag := "", pkgPath := "", byteOffset := 32 }, { name := "Size", type := 3, offset := 3, embedded := false, tag := "", pkgPath := "", byteOffset := 40 }] : Array Field).mapM fun f => do pure (f.offset, ← sizeOf f.type) : Sem (Array (Nat × Nat))).run Tryz.prog w = .ok ([(0, 1), (1, 1), (2, 1), (3, 1)] : List (Nat × Nat)).toArray w := by kernel_rfl
theorem Tryz.places78 (w : World) : ((#[{ name := "size", type := 3, offset := 0, embedded := false, tag := "", pkgPath := "glacier/disk", byteOffset := 0 }, { name := "used", type := 3, offset := 1, embedded := false, tag := "", pkgPath := "glacier/disk", byteOffset := 8 }, { name := "born", type := 3, offset := 2, embedded := false, tag := "", pkgPath := "glacier/disk", byteOffset := 16 }, { name := "files", type := 76, offset := 3, embedded := false, tag := "", pkgPath := "glacier/disk", byteOffset := 24 }] : Array Field).mapM fun f => do pure (f.offset, ← sizeOf f.type) : Sem (Array (Nat × Nat))).run Tryz.prog w = .ok ([(0, 1), (1, 1), (2, 1), (3, 1)] : List (Nat × Nat)).toArray w := by kernel_rfl
theorem Tryz.places87 (w : World) : ((#[{ name := "Node", type := 3, offset := 0, embedded := false, tag := "", pkgPath := "", byteOffset := 0 }, { name := "Index", type := 3, offset := 1, embedded := false, tag := "", pkgPath := "", byteOffset := 8 }, { name := "Name", type := 9, offset := 2, embedded := false, tag := "", pkgPath := "", byteOffset := 16 }, { name := "Bytes", type := 22, offset := 3, embedded := false, tag := "", pkgPath := "", byteOffset := 32 }] : Array Field).mapM fun f => do pure (f.offset, ← sizeOf f.type) : Sem (Array (Nat × Nat))).run Tryz.prog w = .ok ([(0, 1), (1, 1), (2, 1), (3, 1)] : List (Nat × Nat)).toArray w := by kernel_rfl
theorem Tryz.places127 (w : World) : ((#[{ name := "k", type := 3, offset := 0, embedded := false, tag := "", pkgPath := "glacier/rs", byteOffset := 0 }, { name := "m", type := 3, offset := 1, embedded := false, tag := "", pkgPath := "glacier/rs", byteOffset := 8 }, { name := "parity", type := 125, offset := 2, embedded := false, tag := "", pkgPath := "glacier/rs", byteOffset := 16 }] : Array Field).mapM fun f => do pure (f.offset, ← sizeOf f.type) : Sem (Array (Nat × Nat))).run Tryz.prog w = .ok ([(0, 1), (1, 1), (2, 1)] : List (Nat × Nat)).toArray w := by kernel_rfl
theorem Tryz.places148 (w : World) : ((#[{ name := "b", type := 22, offset := 0, embedded := false, tag := "", pkgPath := "glacier/disk", byteOffset := 0 }, { name := "synced", type := 3, offset := 1, embedded := false, tag := "", pkgPath := "glacier/disk", byteOffset := 24 }] : Array Field).mapM fun f => do pure (f.offset, ← sizeOf f.type) : Sem (Array (Nat × Nat))).run Tryz.prog w = .ok ([(0, 1), (1, 1)] : List (Nat × Nat)).toArray w := by kernel_rfl
end Go.Proofs
namespace Go.X
set_option linter.unusedSectionVars false
set_option linter.unusedSimpArgs false
set_option linter.unusedVariables false

section
variable [Dfs] {W0 : World} {N : Nat} {L : Slots} {A B C D : List Assn} {G : Act → World → Prop}

theorem J.unpack (i : Nat) {Bs E : List Assn} (e : X.pick [i] A = some ([star Bs], D)) (en : normA (Bs ++ D) = some E) (h : J W0 N L E G) : J W0 N L A G := by
  rw [← normA_eq en] at h
  exact h.imp fun _ s => (s.perm (pick_perm e)).unpack

theorem J.pack (is : List Nat) (e : X.pick is A = some (C, D)) (h : J W0 N L (star C :: D) G) : J W0 N L A G :=
  h.imp fun _ s => (s.perm (pick_perm e)).pack

theorem J.conv (i : Nat) {U Y : Assn} (e : X.pick [i] A = some ([U], D)) (f : ∀ h, U h → Y h) (h : J W0 N L (Y :: D) G) : J W0 N L A G :=
  h.imp fun _ s => HSat.imp (s.perm (pick_perm e)) f

theorem J.tells (i : Nat) {X : Assn} {p : Prop} (e : A[i]? = some X) (f : ∀ h, X h → p) (h : p → J W0 N L A G) : J W0 N L A G :=
  J.know (fun k s => by obtain ⟨k', a, _⟩ := s.at_ e; exact f k' a) h

theorem perm_focus {α : Type} (f : α → Assn) : ∀ {l : List α} {k : Nat} {x : α}, l[k]? = some x → (l.map f).Perm (f x :: (l.eraseIdx k).map f)
  | [], _, _, e => by simp at e
  | y :: l, 0, x, e => by simp at e; subst e; exact List.Perm.refl _
  | y :: l, k + 1, x, e => by
    simp only [List.map_cons, List.eraseIdx_cons_succ]
    exact ((perm_focus f (l := l) (k := k) (x := x) (by simpa using e)).cons _).trans (List.Perm.swap _ _ _)

theorem perm_unfocus {α : Type} (f : α → Assn) : ∀ {l : List α} {k : Nat} {x : α}, k < l.length → (f x :: (l.eraseIdx k).map f).Perm ((l.set k x).map f)
  | [], _, _, h => by simp at h
  | y :: l, 0, x, _ => by simp
  | y :: l, k + 1, x, h => by
    simp only [List.map_cons, List.eraseIdx_cons_succ, List.set_cons_succ]
    exact (List.Perm.swap _ _ _).trans ((perm_unfocus f (l := l) (k := k) (x := x) (by simpa using h)).cons _)

theorem J.focus {α : Type} {f : α → Assn} {l : List α} (i k : Nat) {x : α} (e : X.pick [i] A = some ([star (l.map f)], D)) (hk : l[k]? = some x) (h : J W0 N L (f x :: star ((l.eraseIdx k).map f) :: D) G) : J W0 N L A G :=
  h.imp fun q s => by
    have s1 := HSat.unpack (s.perm (pick_perm e))
    have s2 : HSat q ((f x :: (l.eraseIdx k).map f) ++ D) := s1.perm ((perm_focus f hk).append_right D)
    exact HSat.under (A := f x) s2 (fun _ s => HSat.pack s)

theorem J.unfocus {α : Type} {f : α → Assn} {l : List α} (i j : Nat) (k : Nat) (x : α) (e : X.pick [i, j] A = some ([f x, star ((l.eraseIdx k).map f)], D)) (hk : k < l.length) (h : J W0 N L (star ((l.set k x).map f) :: D) G) : J W0 N L A G :=
  h.imp fun q s => by
    have s1 := s.perm (pick_perm e)
    have s2 : HSat q (f x :: ((l.eraseIdx k).map f ++ D)) := HSat.under (A := f x) s1 (fun _ s => HSat.unpack s)
    exact HSat.pack (HSat.perm (As := (f x :: (l.eraseIdx k).map f) ++ D) ((perm_unfocus f hk).append_right D) s2)

theorem J.addone {α : Type} {f : α → Assn} {l : List α} (i j : Nat) (x : α) (e : X.pick [i, j] A = some ([f x, star (l.map f)], D)) (h : J W0 N L (star ((l ++ [x]).map f) :: D) G) : J W0 N L A G :=
  h.imp fun q s => by
    have s1 := s.perm (pick_perm e)
    have s2 : HSat q (f x :: (l.map f ++ D)) := HSat.under (A := f x) s1 (fun _ s => HSat.unpack s)
    have hp : (f x :: (l.map f)).Perm ((l ++ [x]).map f) := by
      rw [List.map_append]; exact (List.perm_append_singleton _ _).symm
    exact HSat.pack (HSat.perm (As := (f x :: l.map f) ++ D) (hp.append_right D) s2)
end

section
variable {P : Program} {L : Slots} {A D : List Assn} {ty : TypeId} {W0 w : World} {x : Operand}

theorem Q.entry {i j b r c : Nat} {m : List MEnt} {seen : List Nat} {e : MEnt} (ex : ev L x = some (.pointer (some ⟨b, 0, none⟩))) (hA : D[i]? = some (pt b (miter r c (seen ++ [e.born])))) (hM : D[j]? = some (pt r (mobj m c))) (he : e ∈ m) (hn : (m.map (·.born)).Nodup) :
    OpQ P (.entry x) ty L D (.tuple #[.string e.key, e.val]) := by
  refine ⟨fun dst pos aft g a W0 w F ag s => ⟨w, ?_, s⟩⟩
  have e1 := ag.at_ ex (by simp [Op.operands])
  have hb1 : w.heap[b]? = some (miter r c (seen ++ [e.born])) := s.at_ (i := i) (by rw [List.getElem?_append_left (List.getElem?_eq_some_iff.1 hA).1]; exact hA)
  have hb2 : w.heap[r]? = some (mobj m c) := s.at_ (i := j) (by rw [List.getElem?_append_left (List.getElem?_eq_some_iff.1 hM).1]; exact hM)
  have hgI : (getObj b).run P w = .ok (miter r c (seen ++ [e.born])) w := by simp [getObj, Sem.run, hb1, miter]
  have hgM := run_getObj_map (P := P) hb2
  have hfind : (m.map MEnt.toEntry).toArray.find? (fun q => q.born == e.born) = some e.toEntry := by
    have key : ∀ (m : List MEnt), e ∈ m → (m.map (·.born)).Nodup → (m.map MEnt.toEntry).find? (fun q => q.born == e.born) = some e.toEntry := by
      intro m
      induction m with
      | nil => intro h; cases h
      | cons q m ih =>
        intro h hn
        simp only [List.map_cons, List.nodup_cons] at hn
        simp only [List.map_cons, List.find?_cons]
        rcases List.mem_cons.1 h with rfl | h
        · simp [MEnt.toEntry]
        · have hne : ¬ q.born = e.born := by
            intro eq
            exact hn.1 (eq ▸ List.mem_map_of_mem h)
          have : (q.toEntry.born == e.born) = false := by simpa [MEnt.toEntry] using hne
          rw [this]; exact ih h hn.2
    rw [List.find?_toArray]; exact key m he hn
  have hback : (seen ++ [e.born]).toArray.back? = some e.born := by simp
  have hk : (Instr.entry (.pointer (some ⟨b, 0, none⟩))).run P w = .ok (.tuple #[.string e.key, e.val]) w := by
    have hcc : (c != c) = false := by simp
    simp only [Instr.entry, Sem.run_bind, hgI, miter, Result.andThen_ok, hback, hgM, mobj, hcc, hfind]
    rfl
  simp [execOp, e1, hk]

theorem Reads.within {i b off : Nat} {v : Value} {X : Assn} (h : Reads [X] b off v) (e : A[i]? = some X) : Reads A b off v := by
  intro k s
  obtain ⟨k', a, u⟩ := s.at_ e
  obtain ⟨c, t, z, h1, h2⟩ := h k' ⟨k', fun _ => none, a, trivial, fun _ => .inr rfl, Sub.refl _, fun _ _ e => nomatch e⟩
  exact ⟨c, t, z, u _ _ h1, h2⟩

theorem ReadsN.within {i b off : Nat} {vs : List Value} {X : Assn} (h : ReadsN [X] b off vs) (e : A[i]? = some X) : ReadsN A b off vs := fun j v hj => (h j v hj).within e

theorem SlR.within {sz i : Nat} {v : Value} {xs : List Value} {X : Assn} (h : SlR [X] sz v xs) (e : A[i]? = some X) : SlR A sz v xs := by
  rcases h with h | ⟨b, off, len, cap, h1, h2, h3⟩
  · exact .inl h
  · exact .inr ⟨b, off, len, cap, h1, h2, h3.within e⟩

theorem SlR.len {sz : Nat} {p : Option Addr} {n c : Nat} {xs : List Value} (h : SlR D sz (.slice p n c) xs) : xs.length = n * sz := by
  rcases h with ⟨_, c', e, rfl⟩ | ⟨b, off, len, cap, e, h2, _⟩
  · cases e; simp
  · cases e; exact h2

theorem own.slr {E sz i : Nat} {p : Option Addr} {n c : Nat} {xs : List Value} (e : D[i]? = some (own E sz (.slice p n c) xs)) : (∃ h, HSat h D) → SlR D sz (.slice p n c) xs := by
  rintro ⟨h, s⟩
  obtain ⟨k, hk, _⟩ := s.at_ e
  rcases hk with ⟨e1, e2⟩ | ⟨o, ho, _⟩
  · cases e1; exact .inl ⟨_, _, rfl, e2⟩
  · have hv := ho.val
    simp only [Value.slice.injEq] at hv
    obtain ⟨rfl, rfl, rfl⟩ := hv
    refine .inr ⟨o.b, o.off, o.len, o.cap, rfl, ho.len, ?_⟩
    intro j u hj k s
    obtain ⟨k', hk', hs⟩ := s.at_ e
    rcases hk' with ⟨e1, _⟩ | ⟨o', ho', hb⟩
    · cases e1
    · have hv' := ho'.val
      simp only [Value.slice.injEq, Option.some.injEq, Addr.mk.injEq, and_true] at hv'
      obtain ⟨⟨hb1, hb2⟩, hb3, hb4⟩ := hv'
      refine ⟨_, _, _, hs _ _ (by rw [hb1]; exact hb), ?_⟩
      have := ho'.get j u hj
      rw [← hb2] at this
      simpa using this

theorem SlR.pt (i : Nat) {b off len cap sz : Nat} {l xs : List Value} {e : TypeId} {z : Nat × Nat} (h : D[i]? = some (pt b (.cells l.toArray e z))) (hl : xs.length = len * sz) (hx : ∀ (j : Nat) u, xs[j]? = some u → l[off + j]? = some u) : SlR D sz (.slice (some ⟨b, off, none⟩) len cap) xs :=
  .inr ⟨b, off, len, cap, rfl, hl, fun j u hu => Reads.pt i h (hx j u hu)⟩

theorem own.of_pt {b len cap E sz : Nat} {l xs : List Value} {z : Nat × Nat} (hl : xs.length = len * sz) (hc : len ≤ cap) (hf : cap * sz ≤ l.length) (hx : ∀ (j : Nat) u, xs[j]? = some u → l[j]? = some u) (hz : ∀ k, k < l.length → (decide (z.1 ≤ k) && decide (k < z.2)) = false) :
    ∀ h, pt b (.cells l.toArray E z) h → own E sz (.slice (some ⟨b, 0, none⟩) len cap) xs h :=
  fun _ hp => .inr ⟨⟨b, 0, len, cap, l, z⟩, ⟨rfl, hl, hc, by simpa using hf, fun j u hj => by simpa using hx j u hj, hz⟩, hp⟩

theorem own.nil (E sz : Nat) (h : Hp) : own E sz (.slice none 0 0) [] h := .inl ⟨rfl, rfl⟩
theorem own.len {E sz : Nat} {p : Option Addr} {n c : Nat} {xs : List Value} : ∀ h, own E sz (.slice p n c) xs h → xs.length = n * sz ∧ n ≤ c := by
  rintro h (⟨e1, e2⟩ | ⟨o, ho, _⟩)
  · cases e1; subst e2; exact ⟨by simp, Nat.le_refl _⟩
  · have hv := ho.val
    simp only [Value.slice.injEq] at hv
    obtain ⟨_, rfl, rfl⟩ := hv
    exact ⟨ho.len, ho.cap⟩

theorem SlR.some_ {D : List Assn} {sz : Nat} {p : Option Addr} {n c : Nat} {xs : List Value} (h : SlR D sz (.slice p n c) xs) (hn : 0 < n) : ∃ b off, p = some ⟨b, off, none⟩ ∧ ReadsN D b off xs := by
  rcases h with ⟨_, c', e, _⟩ | ⟨b, off, len, cap, e, _, h3⟩
  · cases e; omega
  · cases e; exact ⟨b, off, rfl, h3⟩
theorem Reads.cast {D : List Assn} {b o o' : Nat} {v : Value} (h : Reads D b o v) (e : o = o') : Reads D b o' v := e ▸ h


theorem SlR.into {sz : Nat} {v : Value} {xs : List Value} {X : Assn} {As : List Assn} (i : Nat) (h : SlR [X] sz v xs) (e : As[i]? = some X) : SlR [star As] sz v xs := by
  have key : ∀ {b off : Nat} {u : Value}, Reads [X] b off u → Reads [star As] b off u := by
    intro b off u hr k s
    obtain ⟨k1, k2, hs, _, _, hsub, _⟩ := s
    obtain ⟨c, t, z, h1, h2⟩ := (hr.within (A := As) e) k1 hs
    exact ⟨c, t, z, hsub _ _ h1, h2⟩
  rcases h with h | ⟨b, off, len, cap, h1, h2, h3⟩
  · exact .inl h
  · exact .inr ⟨b, off, len, cap, h1, h2, fun j u hj => key (h3 j u hj)⟩

theorem FSpec.packed {f : FuncId} {args : List Value} {As : List Assn} {R R' : Value → List Assn → Prop} (h : FSpec P f args As R) (hr : ∀ v B, R v B → R' v [star B]) : FSpec P f args [star As] R' := by
  refine ⟨fun W0 w F s => (h.call W0 w F ?_).mono ?_⟩
  · exact s.imp fun k t => HSat.unpack (Bs := [F]) t
  · rintro e w' ⟨v, B, rfl, r, t⟩
    exact ⟨v, [star B], rfl, hr _ _ r, t.imp fun k t => HSat.pack (Bs := [F]) t⟩

theorem bytesV_one (bs : List UInt8) : ∀ v, v ∈ bytesV bs → oneC v = true := by
  intro v hv
  simp only [bytesV, List.mem_map] at hv
  obtain ⟨u, _, rfl⟩ := hv
  rfl
theorem bytesV_append (bs cs : List UInt8) : bytesV bs ++ bytesV cs = bytesV (bs ++ cs) := by simp [bytesV]

theorem J.give [Dfs] {W0 : World} {N : Nat} {G : Act → World → Prop} {X : Assn} (hx : X (fun _ => none)) (h : J W0 N L (X :: A) G) : J W0 N L A G :=
  J.imp (B := X :: A) (fun k s => ⟨fun _ => none, k, hx, s, fun _ => .inl rfl, (fun _ _ e => nomatch e), Sub.refl _⟩) h
theorem J.slr1 [Dfs] {W0 : World} {N : Nat} {G : Act → World → Prop} {E sz : Nat} {p : Option Addr} {n c : Nat} {xs : List Value} (i : Nat) (e : A[i]? = some (own E sz (.slice p n c) xs)) (h : SlR [own E sz (.slice p n c) xs] sz (.slice p n c) xs → J W0 N L A G) : J W0 N L A G :=
  J.tells (p := SlR [own E sz (.slice p n c) xs] sz (.slice p n c) xs) i e (fun k hk => own.slr (i := 0) rfl ⟨k, k, fun _ => none, hk, trivial, fun _ => .inr rfl, Sub.refl _, fun _ _ e => nomatch e⟩) h

theorem set_self {α : Type} : ∀ {l : List α} {i : Nat} {x : α}, l[i]? = some x → l.set i x = l
  | [], _, _, h => by simp at h
  | y :: l, 0, x, h => by simp at h; subst h; rfl
  | y :: l, i + 1, x, h => by rw [List.set_cons_succ, set_self (by simpa using h)]

theorem J.refocus [Dfs] {W0 : World} {N : Nat} {G : Act → World → Prop} {α : Type} {f : α → Assn} {l : List α} {D : List Assn} (i j k : Nat) (x : α) (e : X.pick [i, j] A = some ([f x, star ((l.eraseIdx k).map f)], D)) (hk : l[k]? = some x) (h : J W0 N L (star (l.map f) :: D) G) : J W0 N L A G :=
  J.unfocus i j k x e (List.getElem?_eq_some_iff.1 hk).1 (by rw [set_self hk]; exact h)

theorem C.next1 {i j b r c : Nat} {m : List MEnt} {seen : List Nat} (ex : ev L x = some (.pointer (some ⟨b, 0, none⟩))) (hA : A[i]? = some (pt b (miter r c seen))) (hM : A[j]? = some (pt r (mobj m c))) (hborn : ∀ e, e ∈ m → e.born < c) :
    OpC P (.next x false) ty L A (fun u B => ∃ (t : Bool) (rest : List Value) (seen' : List Nat), u = .tuple (.bool t :: rest).toArray ∧ B = A.set i (pt b (miter r c seen')) ∧ ((t = false ∧ mleft m seen = [] ∧ seen' = seen) ∨ (t = true ∧ ∃ e, e ∈ mleft m seen ∧ seen' = seen ++ [e.born]))) := by
  refine ⟨fun dst pos aft g a W0 w ag s K Q k => (C.next (ty := ty) ex hA hM hborn).wp dst pos aft g a W0 w ag s K Q ?_⟩
  rintro v B w' (⟨h1, rfl, rfl⟩ | ⟨e, h1, rfl, rfl⟩) s'
  · exact k _ _ _ ⟨false, [], seen, rfl, (set_self hA).symm, .inl ⟨rfl, h1, rfl⟩⟩ s'
  · exact k _ _ _ ⟨true, [_, _], _, rfl, rfl, .inr ⟨rfl, e, h1, rfl⟩⟩ s'
end
end Go.X

