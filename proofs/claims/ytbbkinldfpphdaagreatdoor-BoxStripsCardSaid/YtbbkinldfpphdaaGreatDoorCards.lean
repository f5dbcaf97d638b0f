/-
  DERIVED. GIVEN WITH THE SEED: THE CARDS: each row of YtbbkinldfpphdaaGreatDoorRows.lean that lists a variable, with what it lists TIED to the program's text (the seventh form; the later family's looks); each row that meets fmt, with fmt's text TOLD by the authors' own Lean function (tested against real Go, not proved from fmt's source: count such statements apart). THE CARD IS WHAT COUNTS. Prove the row's statement (the work); the ties are given (YtbbkinldfpphdaaGreatDoorTie.lean); close each card by the builder's one call (the guide's Derived/Test/ToyasCard.lean, 'card_holds'). Laid BY PROGRAM, IN A SANDBOX (cutbox-door.mjs). By AI agents, Wed Nov 11 2026. No macro, syntax, notation, axiom, sorry.
-/
import Derived.Test.YtbbkinldfpphdaaGreatDoorRows
import GoSem.ClaimSeven
namespace Go.Proofs.YtbbkinldfpphdaaGreatDoor
namespace Rows

/-- THE TIED CARD OF 'plaitlaw30.BoxStrips'. -/
def boxStripsCard : Claim7 := { stood := { row := boxStripsRow, standIns := [], harness := (true, "c5ddc8dcedcc0614f4eedbf1123942e59d87cf2d730805a0db4e596877f8e607"), looks := true }, kinds := [], alts := [], laidByText := true, laidKinds := [.handle], laidTests := true, laidLooks := .later }
def BoxStripsCardSaid : Prop := Claim7.holds Tryz.pinned (.plain (OpenSpec.ofChange boxStripsSpec)) boxStripsCard

/-- THE SECOND FORM's CARD OF 'plaitlaw30.BoxStrips'. -/
def boxStripsUptoCard : Claim7 := { stood := { row := boxStripsUptoRow, standIns := [], harness := (true, "c5ddc8dcedcc0614f4eedbf1123942e59d87cf2d730805a0db4e596877f8e607"), looks := true }, kinds := [], alts := [], laidByText := true, laidKinds := [.handle], laidTests := true, laidLooks := .later }
def BoxStripsUptoCardSaid : Prop := Claim7.holds Tryz.pinned (.plain (OpenSpec.upto boxStripsSpec)) boxStripsUptoCard
end Rows
end Go.Proofs.YtbbkinldfpphdaaGreatDoor
