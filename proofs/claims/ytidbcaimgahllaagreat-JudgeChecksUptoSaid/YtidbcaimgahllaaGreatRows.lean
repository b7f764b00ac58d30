/-
  No cell of these rows narrows 'for every input' (looked for: loops, veiled, ifaces, maps, wideKeys, modest, calm, conditions, laid).
  DERIVED. THE GIVEN ROWS OF THIS SEAT. 3 by the template 'for every input the law returns true; each argument reads behind the call as it read before'; 0 by the template 'total and deterministic' (their statements: YtidbcaimgahllaaGreatTotals.lean).
  GIVEN WITH THE SEED: the statements are not yours to turn. If you find one false, say at which input.
  Laid BY PROGRAM, IN A SANDBOX (cutbox-rows.mjs): the forced cells as the released guide's own fill.sh prints them over the translation 9dfb86d5a4269b23… (all of the seat's roots in one cut). By AI agents, Wed Nov 11 2026. No macro, syntax, notation, axiom, sorry.
-/
import Derived.Test.YtidbcaimgahllaaGreatChecked
import GoSem.Claim
import GoSem.ClaimJoined
import GoSem.ClaimMapViews
import Derived.JoinedTies
import Derived.KernelRfl
namespace Go.Proofs.YtidbcaimgahllaaGreat
/- THE CELL 'sum', in the pinned program and in every row, IS THE sha256 OF THE DUMP (.gsa) THAT YtidbcaimgahllaaGreatProg.lean LOADS. Nothing in Lean hashes anything: it is a label: what it is worth is what the hold of that sum in a sandbox is worth. -/
noncomputable def Tryz.pinned : Pinned := { name := "ytidbcaimgahllaagreat", sum := "9dfb86d5a4269b2367e0a7100cb2a4d703013810d750463b0fbbc7dbdb3ad1ae", checked := Tryz.checked }
namespace Rows
def none {H : Type} : Left H := { results := [], args := [] }

/-- 'glacierlaw22.JudgeChecks': WHATEVER THE INPUT: true; the input reads as it did. -/
def judgeChecksSpec : ChangeSpec := { name := "judgeChecks", fn := fun _ => fun
  | [d1, d2] => { results := [.lit (.bool true)], args := [d1, d2] }
  | _ => none }
def judgeChecksRow : OpenClaim := { program := "ytidbcaimgahllaagreat", sum := "9dfb86d5a4269b2367e0a7100cb2a4d703013810d750463b0fbbc7dbdb3ad1ae", func := "glacier/glacierlaw22.JudgeChecks", spec := "judgeChecks", unfollowed := true, recurses := true, apart := false }
def JudgeChecksSaid : Prop := judgeChecksRow.holds Tryz.pinned (OpenSpec.ofChange judgeChecksSpec)

/-- ITS FALSE NEIGHBOUR: 'it returns false'. Refute it at one input. -/
def judgeChecksWrong : ChangeSpec := { name := "judgeChecks", fn := fun _ => fun
  | [d1, d2] => { results := [.lit (.bool false)], args := [d1, d2] }
  | _ => none }
def JudgeChecksWrongFalsely : Prop := judgeChecksRow.holds Tryz.pinned (OpenSpec.ofChange judgeChecksWrong)

/-- 'glacierlaw22.JudgeTakes': WHATEVER THE INPUT: true; the input reads as it did. -/
def judgeTakesSpec : ChangeSpec := { name := "judgeTakes", fn := fun _ => fun
  | [d1, d2, d3] => { results := [.lit (.bool true)], args := [d1, d2, d3] }
  | _ => none }
def judgeTakesRow : OpenClaim := { program := "ytidbcaimgahllaagreat", sum := "9dfb86d5a4269b2367e0a7100cb2a4d703013810d750463b0fbbc7dbdb3ad1ae", func := "glacier/glacierlaw22.JudgeTakes", spec := "judgeTakes", unfollowed := true, recurses := true, apart := false }
def JudgeTakesSaid : Prop := judgeTakesRow.holds Tryz.pinned (OpenSpec.ofChange judgeTakesSpec)

/-- ITS FALSE NEIGHBOUR: 'it returns false'. Refute it at one input. -/
def judgeTakesWrong : ChangeSpec := { name := "judgeTakes", fn := fun _ => fun
  | [d1, d2, d3] => { results := [.lit (.bool false)], args := [d1, d2, d3] }
  | _ => none }
def JudgeTakesWrongFalsely : Prop := judgeTakesRow.holds Tryz.pinned (OpenSpec.ofChange judgeTakesWrong)

/-- 'glacierlaw22.JudgeDoubles': WHATEVER THE INPUT: true; the input reads as it did. -/
def judgeDoublesSpec : ChangeSpec := { name := "judgeDoubles", fn := fun _ => fun
  | [d1, d2] => { results := [.lit (.bool true)], args := [d1, d2] }
  | _ => none }
def judgeDoublesRow : OpenClaim := { program := "ytidbcaimgahllaagreat", sum := "9dfb86d5a4269b2367e0a7100cb2a4d703013810d750463b0fbbc7dbdb3ad1ae", func := "glacier/glacierlaw22.JudgeDoubles", spec := "judgeDoubles", unfollowed := true, recurses := true, apart := false }
def JudgeDoublesSaid : Prop := judgeDoublesRow.holds Tryz.pinned (OpenSpec.ofChange judgeDoublesSpec)

/-- ITS FALSE NEIGHBOUR: 'it returns false'. Refute it at one input. -/
def judgeDoublesWrong : ChangeSpec := { name := "judgeDoubles", fn := fun _ => fun
  | [d1, d2] => { results := [.lit (.bool false)], args := [d1, d2] }
  | _ => none }
def JudgeDoublesWrongFalsely : Prop := judgeDoublesRow.holds Tryz.pinned (OpenSpec.ofChange judgeDoublesWrong)

/- THE SECOND FORM. 'bulk': how many values and letters a reading holds, each counted each time it is reached (what is shared counts as often as it is met; a slice's spare places count too). A statement '..UptoSaid' is the law's where the arguments, and the package variables that the reading takes, are together of bulk at most 1048576: NARROWER than '..Said'. Prove '..Said' where nothing that the law and all that it calls make is longer than what came in: it says more and counts as full. Else prove '..UptoSaid'. A law counts once. -/
mutual
def uptoBulk {H : Type} : DataW H → Nat
  | .lit (.string bytes) => bytes.length + 1
  | .lit _ => 1
  | .nil => 1
  | .ptr d => uptoBulk d + 1
  | .slice elems spare => uptoBulkAll elems + uptoBulkAll spare + 1
  | .agg parts => uptoBulkAll parts + 1
  | .iface _ d => uptoBulk d + 1
  | .map entries => uptoBulkEntries entries + 1
  | .held _ => 1
def uptoBulkAll {H : Type} : List (DataW H) → Nat
  | [] => 0
  | d :: r => uptoBulk d + uptoBulkAll r
def uptoBulkEntries {H : Type} : List (Lit × DataW H) → Nat
  | [] => 0
  | x :: r => uptoBulkEntry x + uptoBulkEntries r
def uptoBulkEntry {H : Type} : Lit × DataW H → Nat
  | (.string bytes, d) => bytes.length + uptoBulk d + 1
  | (_, d) => uptoBulk d + 1
 end
def uptoSmall : (H : Type) → List (DataW H) → Bool := fun _ ds => decide (uptoBulkAll ds ≤ 1048576)
def OpenSpec.upto (s : _root_.Go.ChangeSpec) : _root_.Go.OpenSpec := { _root_.Go.OpenSpec.ofChange s with cond := some uptoSmall }

/-- 'glacierlaw22.JudgeChecks', WHERE WHAT IT READS IS OF BULK AT MOST 1048576: true; the input reads as it did. -/
def judgeChecksUptoRow : OpenClaim := { program := "ytidbcaimgahllaagreat", sum := "9dfb86d5a4269b2367e0a7100cb2a4d703013810d750463b0fbbc7dbdb3ad1ae", func := "glacier/glacierlaw22.JudgeChecks", spec := "judgeChecks", unfollowed := true, recurses := true, apart := false, narrowed := true }
def JudgeChecksUptoSaid : Prop := judgeChecksUptoRow.holds Tryz.pinned (OpenSpec.upto judgeChecksSpec)

/-- 'glacierlaw22.JudgeTakes', WHERE WHAT IT READS IS OF BULK AT MOST 1048576: true; the input reads as it did. -/
def judgeTakesUptoRow : OpenClaim := { program := "ytidbcaimgahllaagreat", sum := "9dfb86d5a4269b2367e0a7100cb2a4d703013810d750463b0fbbc7dbdb3ad1ae", func := "glacier/glacierlaw22.JudgeTakes", spec := "judgeTakes", unfollowed := true, recurses := true, apart := false, narrowed := true }
def JudgeTakesUptoSaid : Prop := judgeTakesUptoRow.holds Tryz.pinned (OpenSpec.upto judgeTakesSpec)

/-- 'glacierlaw22.JudgeDoubles', WHERE WHAT IT READS IS OF BULK AT MOST 1048576: true; the input reads as it did. -/
def judgeDoublesUptoRow : OpenClaim := { program := "ytidbcaimgahllaagreat", sum := "9dfb86d5a4269b2367e0a7100cb2a4d703013810d750463b0fbbc7dbdb3ad1ae", func := "glacier/glacierlaw22.JudgeDoubles", spec := "judgeDoubles", unfollowed := true, recurses := true, apart := false, narrowed := true }
def JudgeDoublesUptoSaid : Prop := judgeDoublesUptoRow.holds Tryz.pinned (OpenSpec.upto judgeDoublesSpec)

end Rows
end Go.Proofs.YtidbcaimgahllaaGreat
