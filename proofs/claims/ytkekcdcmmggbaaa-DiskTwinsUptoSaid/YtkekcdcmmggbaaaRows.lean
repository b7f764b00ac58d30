/-
  No cell of these rows narrows 'for every input' (looked for: loops, veiled, ifaces, maps, wideKeys, modest, calm, conditions, laid).
  DERIVED. THE GIVEN ROWS OF THIS SEAT. 5 by the template 'for every input the law returns true; each argument reads behind the call as it read before'; 0 by the template 'total and deterministic' (their statements: YtkekcdcmmggbaaaTotals.lean).
  GIVEN WITH THE SEED: the statements are not yours to turn. If you find one false, say at which input.
  Laid BY PROGRAM, IN A SANDBOX (cutbox-rows.mjs): the forced cells as the released guide's own fill.sh prints them over the translation 61eea7e0eb7352eb… (all of the seat's roots in one cut). By AI agents, Wed Nov 11 2026. No macro, syntax, notation, axiom, sorry.
-/
import Derived.Test.YtkekcdcmmggbaaaChecked
import GoSem.Claim
import GoSem.ClaimJoined
import GoSem.ClaimMapViews
import Derived.JoinedTies
import Derived.KernelRfl
namespace Go.Proofs.Ytkekcdcmmggbaaa
/- THE CELL 'sum', in the pinned program and in every row, IS THE sha256 OF THE DUMP (.gsa) THAT YtkekcdcmmggbaaaProg.lean LOADS. Nothing in Lean hashes anything: it is a label: what it is worth is what the hold of that sum in a sandbox is worth. -/
noncomputable def Try.pinned : Pinned := { name := "ytkekcdcmmggbaaa", sum := "61eea7e0eb7352eb19074308f614daa9be1b87ba381a95113485cf943ccd35a5", checked := Try.checked }
namespace Rows
def none {H : Type} : Left H := { results := [], args := [] }

/-- 'glacierlaw2.DiskFills': WHATEVER THE INPUT: true; the input reads as it did. -/
def diskFillsSpec : ChangeSpec := { name := "diskFills", fn := fun _ => fun
  | [d1, d2] => { results := [.lit (.bool true)], args := [d1, d2] }
  | _ => none }
def diskFillsRow : OpenClaim := { program := "ytkekcdcmmggbaaa", sum := "61eea7e0eb7352eb19074308f614daa9be1b87ba381a95113485cf943ccd35a5", func := "glacier/glacierlaw2.DiskFills", spec := "diskFills", unfollowed := true, recurses := true, apart := false }
def DiskFillsSaid : Prop := diskFillsRow.holds Try.pinned (OpenSpec.ofChange diskFillsSpec)

/-- ITS FALSE NEIGHBOUR: 'it returns false'. Refute it at one input. -/
def diskFillsWrong : ChangeSpec := { name := "diskFills", fn := fun _ => fun
  | [d1, d2] => { results := [.lit (.bool false)], args := [d1, d2] }
  | _ => none }
def DiskFillsWrongFalsely : Prop := diskFillsRow.holds Try.pinned (OpenSpec.ofChange diskFillsWrong)

/-- 'glacierlaw2.DiskRenames': WHATEVER THE INPUT: true; the input reads as it did. -/
def diskRenamesSpec : ChangeSpec := { name := "diskRenames", fn := fun _ => fun
  | [d1, d2, d3, d4] => { results := [.lit (.bool true)], args := [d1, d2, d3, d4] }
  | _ => none }
def diskRenamesRow : OpenClaim := { program := "ytkekcdcmmggbaaa", sum := "61eea7e0eb7352eb19074308f614daa9be1b87ba381a95113485cf943ccd35a5", func := "glacier/glacierlaw2.DiskRenames", spec := "diskRenames", unfollowed := true, recurses := true, apart := false }
def DiskRenamesSaid : Prop := diskRenamesRow.holds Try.pinned (OpenSpec.ofChange diskRenamesSpec)

/-- ITS FALSE NEIGHBOUR: 'it returns false'. Refute it at one input. -/
def diskRenamesWrong : ChangeSpec := { name := "diskRenames", fn := fun _ => fun
  | [d1, d2, d3, d4] => { results := [.lit (.bool false)], args := [d1, d2, d3, d4] }
  | _ => none }
def DiskRenamesWrongFalsely : Prop := diskRenamesRow.holds Try.pinned (OpenSpec.ofChange diskRenamesWrong)

/-- 'glacierlaw2.DiskFronts': WHATEVER THE INPUT: true; the input reads as it did. -/
def diskFrontsSpec : ChangeSpec := { name := "diskFronts", fn := fun _ => fun
  | [d1, d2] => { results := [.lit (.bool true)], args := [d1, d2] }
  | _ => none }
def diskFrontsRow : OpenClaim := { program := "ytkekcdcmmggbaaa", sum := "61eea7e0eb7352eb19074308f614daa9be1b87ba381a95113485cf943ccd35a5", func := "glacier/glacierlaw2.DiskFronts", spec := "diskFronts", unfollowed := true, recurses := true, apart := false }
def DiskFrontsSaid : Prop := diskFrontsRow.holds Try.pinned (OpenSpec.ofChange diskFrontsSpec)

/-- ITS FALSE NEIGHBOUR: 'it returns false'. Refute it at one input. -/
def diskFrontsWrong : ChangeSpec := { name := "diskFronts", fn := fun _ => fun
  | [d1, d2] => { results := [.lit (.bool false)], args := [d1, d2] }
  | _ => none }
def DiskFrontsWrongFalsely : Prop := diskFrontsRow.holds Try.pinned (OpenSpec.ofChange diskFrontsWrong)

/-- 'glacierlaw2.DiskTwins': WHATEVER THE INPUT: true; the input reads as it did. -/
def diskTwinsSpec : ChangeSpec := { name := "diskTwins", fn := fun _ => fun
  | [d1, d2, d3] => { results := [.lit (.bool true)], args := [d1, d2, d3] }
  | _ => none }
def diskTwinsRow : OpenClaim := { program := "ytkekcdcmmggbaaa", sum := "61eea7e0eb7352eb19074308f614daa9be1b87ba381a95113485cf943ccd35a5", func := "glacier/glacierlaw2.DiskTwins", spec := "diskTwins", unfollowed := true, recurses := true, apart := false }
def DiskTwinsSaid : Prop := diskTwinsRow.holds Try.pinned (OpenSpec.ofChange diskTwinsSpec)

/-- ITS FALSE NEIGHBOUR: 'it returns false'. Refute it at one input. -/
def diskTwinsWrong : ChangeSpec := { name := "diskTwins", fn := fun _ => fun
  | [d1, d2, d3] => { results := [.lit (.bool false)], args := [d1, d2, d3] }
  | _ => none }
def DiskTwinsWrongFalsely : Prop := diskTwinsRow.holds Try.pinned (OpenSpec.ofChange diskTwinsWrong)

/-- 'glacierlaw2.DiskPlays': WHATEVER THE INPUT: true; the input reads as it did. -/
def diskPlaysSpec : ChangeSpec := { name := "diskPlays", fn := fun _ => fun
  | [d1, d2] => { results := [.lit (.bool true)], args := [d1, d2] }
  | _ => none }
def diskPlaysRow : OpenClaim := { program := "ytkekcdcmmggbaaa", sum := "61eea7e0eb7352eb19074308f614daa9be1b87ba381a95113485cf943ccd35a5", func := "glacier/glacierlaw2.DiskPlays", spec := "diskPlays", unfollowed := true, recurses := true, apart := false }
def DiskPlaysSaid : Prop := diskPlaysRow.holds Try.pinned (OpenSpec.ofChange diskPlaysSpec)

/-- ITS FALSE NEIGHBOUR: 'it returns false'. Refute it at one input. -/
def diskPlaysWrong : ChangeSpec := { name := "diskPlays", fn := fun _ => fun
  | [d1, d2] => { results := [.lit (.bool false)], args := [d1, d2] }
  | _ => none }
def DiskPlaysWrongFalsely : Prop := diskPlaysRow.holds Try.pinned (OpenSpec.ofChange diskPlaysWrong)

/- THE SECOND FORM. 'bulk': how many values and letters a reading holds, each counted each time it is reached (what is shared counts as often as it is met; a slice's spare places count too). A statement '..UptoSaid' is the law's where the arguments, and the package variables that the reading takes, are together of bulk at most 1048576: NARROWER than '..Said'. Prove '..Said' where nothing that the law and all that it calls make is longer than what came in: it says more and counts as full. Else prove '..UptoSaid'. A law counts once. -/
mutual
def uptoBulk {H : Type} : DataW H → Nat
  | .lit (.string bytes) => bytes.length + 1
  | .lit _ => 1
  | .nil => 1
  | .ptr d => uptoBulk d + 1
  | .slice elems spare => uptoBulkAll elems + uptoBulkAll spare + 1
  | .agg parts => uptoBulkAll parts + 1
  | .iface _ d => uptoBulk d + 1
  | .map entries => uptoBulkEntries entries + 1
  | .held _ => 1
def uptoBulkAll {H : Type} : List (DataW H) → Nat
  | [] => 0
  | d :: r => uptoBulk d + uptoBulkAll r
def uptoBulkEntries {H : Type} : List (Lit × DataW H) → Nat
  | [] => 0
  | x :: r => uptoBulkEntry x + uptoBulkEntries r
def uptoBulkEntry {H : Type} : Lit × DataW H → Nat
  | (.string bytes, d) => bytes.length + uptoBulk d + 1
  | (_, d) => uptoBulk d + 1
 end
def uptoSmall : (H : Type) → List (DataW H) → Bool := fun _ ds => decide (uptoBulkAll ds ≤ 1048576)
def OpenSpec.upto (s : _root_.Go.ChangeSpec) : _root_.Go.OpenSpec := { _root_.Go.OpenSpec.ofChange s with cond := some uptoSmall }

/-- 'glacierlaw2.DiskFills', WHERE WHAT IT READS IS OF BULK AT MOST 1048576: true; the input reads as it did. -/
def diskFillsUptoRow : OpenClaim := { program := "ytkekcdcmmggbaaa", sum := "61eea7e0eb7352eb19074308f614daa9be1b87ba381a95113485cf943ccd35a5", func := "glacier/glacierlaw2.DiskFills", spec := "diskFills", unfollowed := true, recurses := true, apart := false, narrowed := true }
def DiskFillsUptoSaid : Prop := diskFillsUptoRow.holds Try.pinned (OpenSpec.upto diskFillsSpec)

/-- 'glacierlaw2.DiskRenames', WHERE WHAT IT READS IS OF BULK AT MOST 1048576: true; the input reads as it did. -/
def diskRenamesUptoRow : OpenClaim := { program := "ytkekcdcmmggbaaa", sum := "61eea7e0eb7352eb19074308f614daa9be1b87ba381a95113485cf943ccd35a5", func := "glacier/glacierlaw2.DiskRenames", spec := "diskRenames", unfollowed := true, recurses := true, apart := false, narrowed := true }
def DiskRenamesUptoSaid : Prop := diskRenamesUptoRow.holds Try.pinned (OpenSpec.upto diskRenamesSpec)

/-- 'glacierlaw2.DiskFronts', WHERE WHAT IT READS IS OF BULK AT MOST 1048576: true; the input reads as it did. -/
def diskFrontsUptoRow : OpenClaim := { program := "ytkekcdcmmggbaaa", sum := "61eea7e0eb7352eb19074308f614daa9be1b87ba381a95113485cf943ccd35a5", func := "glacier/glacierlaw2.DiskFronts", spec := "diskFronts", unfollowed := true, recurses := true, apart := false, narrowed := true }
def DiskFrontsUptoSaid : Prop := diskFrontsUptoRow.holds Try.pinned (OpenSpec.upto diskFrontsSpec)

/-- 'glacierlaw2.DiskTwins', WHERE WHAT IT READS IS OF BULK AT MOST 1048576: true; the input reads as it did. -/
def diskTwinsUptoRow : OpenClaim := { program := "ytkekcdcmmggbaaa", sum := "61eea7e0eb7352eb19074308f614daa9be1b87ba381a95113485cf943ccd35a5", func := "glacier/glacierlaw2.DiskTwins", spec := "diskTwins", unfollowed := true, recurses := true, apart := false, narrowed := true }
def DiskTwinsUptoSaid : Prop := diskTwinsUptoRow.holds Try.pinned (OpenSpec.upto diskTwinsSpec)

/-- 'glacierlaw2.DiskPlays', WHERE WHAT IT READS IS OF BULK AT MOST 1048576: true; the input reads as it did. -/
def diskPlaysUptoRow : OpenClaim := { program := "ytkekcdcmmggbaaa", sum := "61eea7e0eb7352eb19074308f614daa9be1b87ba381a95113485cf943ccd35a5", func := "glacier/glacierlaw2.DiskPlays", spec := "diskPlays", unfollowed := true, recurses := true, apart := false, narrowed := true }
def DiskPlaysUptoSaid : Prop := diskPlaysUptoRow.holds Try.pinned (OpenSpec.upto diskPlaysSpec)

end Rows
end Go.Proofs.Ytkekcdcmmggbaaa
