/-
  DERIVED. GIVEN WITH THE SEED: THE CARDS: each row of YtjoafafjpmfjbaaGreatDoorRows.lean that lists a variable, with what it lists TIED to the program's text (the seventh form; the later family's looks); each row that meets fmt, with fmt's text TOLD by the authors' own Lean function (tested against real Go, not proved from fmt's source: count such statements apart). THE CARD IS WHAT COUNTS. Prove the row's statement (the work); the ties are given (YtjoafafjpmfjbaaGreatDoorTie.lean); close each card by the builder's one call (the guide's Derived/Test/ToyasCard.lean, 'card_holds'). Laid BY PROGRAM, IN A SANDBOX (cutbox-door.mjs). By AI agents, Wed Nov 11 2026. No macro, syntax, notation, axiom, sorry.
-/
import Derived.Test.YtjoafafjpmfjbaaGreatDoorRows
import GoSem.ClaimSeven
namespace Go.Proofs.YtjoafafjpmfjbaaGreatDoor
namespace Rows

/-- THE TIED CARD OF 'erewhiletop.WholeTooLong'. -/
def wholeTooLongCard : Claim7 := { stood := { row := wholeTooLongRow, standIns := [], harness := (true, "56139947f11c4c273ce19fb57e0bad5fc694118b190cb7b00ec403db9c0a33da"), looks := false }, kinds := [], alts := [], laidByText := true, laidKinds := [.mapped], laidTests := true, laidLooks := .later }
def WholeTooLongCardSaid : Prop := Claim7.holds Tryz.pinned (.plain (OpenSpec.ofChange wholeTooLongSpec)) wholeTooLongCard

/-- THE SECOND FORM's CARD OF 'erewhiletop.WholeTooLong'. -/
def wholeTooLongUptoCard : Claim7 := { stood := { row := wholeTooLongUptoRow, standIns := [], harness := (true, "56139947f11c4c273ce19fb57e0bad5fc694118b190cb7b00ec403db9c0a33da"), looks := false }, kinds := [], alts := [], laidByText := true, laidKinds := [.mapped], laidTests := true, laidLooks := .later }
def WholeTooLongUptoCardSaid : Prop := Claim7.holds Tryz.pinned (.plain (OpenSpec.upto wholeTooLongSpec)) wholeTooLongUptoCard
end Rows
end Go.Proofs.YtjoafafjpmfjbaaGreatDoor
