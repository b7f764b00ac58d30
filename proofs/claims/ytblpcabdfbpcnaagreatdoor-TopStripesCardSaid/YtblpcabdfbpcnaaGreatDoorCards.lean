/-
  DERIVED. GIVEN WITH THE SEED: THE CARDS: each row of YtblpcabdfbpcnaaGreatDoorRows.lean that lists a variable, with what it lists TIED to the program's text (the seventh form; the later family's looks); each row that meets fmt, with fmt's text TOLD by the authors' own Lean function (tested against real Go, not proved from fmt's source: count such statements apart). THE CARD IS WHAT COUNTS. Prove the row's statement (the work); the ties are given (YtblpcabdfbpcnaaGreatDoorTie.lean); close each card by the builder's one call (the guide's Derived/Test/ToyasCard.lean, 'card_holds'). Laid BY PROGRAM, IN A SANDBOX (cutbox-door.mjs). By AI agents, Wed Nov 11 2026. No macro, syntax, notation, axiom, sorry.
-/
import Derived.Test.YtblpcabdfbpcnaaGreatDoorRows
import GoSem.ClaimSeven
namespace Go.Proofs.YtblpcabdfbpcnaaGreatDoor
namespace Rows

/-- THE TIED CARD OF 'glaciertop.TopStripes'. -/
def topStripesCard : Claim7 := { stood := { row := topStripesRow, standIns := [], harness := (true, "55f463b4384c2c58b6f7fe0ff98de9e3b84c4a3d5f2924c11ac34e3c8d4bba85"), looks := true }, kinds := [], alts := [], laidByText := true, laidKinds := [.data, .data, .data, .sentinel, .sentinel, .pinned, .data], laidTests := true, laidLooks := .later }
def TopStripesCardSaid : Prop := Claim7.holds Tryz.pinned (.plain (OpenSpec.ofChange topStripesSpec)) topStripesCard

/-- THE SECOND FORM's CARD OF 'glaciertop.TopStripes'. -/
def topStripesUptoCard : Claim7 := { stood := { row := topStripesUptoRow, standIns := [], harness := (true, "55f463b4384c2c58b6f7fe0ff98de9e3b84c4a3d5f2924c11ac34e3c8d4bba85"), looks := true }, kinds := [], alts := [], laidByText := true, laidKinds := [.data, .data, .data, .sentinel, .sentinel, .pinned, .data], laidTests := true, laidLooks := .later }
def TopStripesUptoCardSaid : Prop := Claim7.holds Tryz.pinned (.plain (OpenSpec.upto topStripesSpec)) topStripesUptoCard
end Rows
end Go.Proofs.YtblpcabdfbpcnaaGreatDoor
