/-
  DERIVED. GIVEN WITH THE SEED: THE CARDS: each row of YtnpnpgihbgohgaaDoorRows.lean that lists a variable, with what it lists TIED to the program's text (the seventh form; the later family's looks); each row that meets fmt, with fmt's text TOLD by the authors' own Lean function (tested against real Go, not proved from fmt's source: count such statements apart). THE CARD IS WHAT COUNTS. Prove the row's statement (the work); the ties are given (YtnpnpgihbgohgaaDoorTie.lean); close each card by the builder's one call (the guide's Derived/Test/ToyasCard.lean, 'card_holds'). Laid BY PROGRAM, IN A SANDBOX (cutbox-door.mjs). By AI agents, Wed Nov 11 2026. No macro, syntax, notation, axiom, sorry.
-/
import Derived.Test.YtnpnpgihbgohgaaDoorRows
import GoSem.ClaimSeven
namespace Go.Proofs.YtnpnpgihbgohgaaDoor
namespace Rows

/-- THE TIED CARD OF 'erewhilelaw50.PastDisks'. -/
def pastDisksCard : Claim7 := { stood := { row := pastDisksRow, standIns := [], harness := (true, "d4a0be4414168f9590759b93071897cd5e3e8b91f3b74075fa5745a1a232bc72"), looks := false }, kinds := [], alts := [], laidByText := true, laidKinds := [.widerDeep], laidTests := true, laidLooks := .later }
def PastDisksCardSaid : Prop := Claim7.holds Tryd.pinned (.plain (OpenSpec.ofChange pastDisksSpec)) pastDisksCard

/-- THE SECOND FORM's CARD OF 'erewhilelaw50.PastDisks'. -/
def pastDisksUptoCard : Claim7 := { stood := { row := pastDisksUptoRow, standIns := [], harness := (true, "d4a0be4414168f9590759b93071897cd5e3e8b91f3b74075fa5745a1a232bc72"), looks := false }, kinds := [], alts := [], laidByText := true, laidKinds := [.widerDeep], laidTests := true, laidLooks := .later }
def PastDisksUptoCardSaid : Prop := Claim7.holds Tryd.pinned (.plain (OpenSpec.upto pastDisksSpec)) pastDisksUptoCard
end Rows
end Go.Proofs.YtnpnpgihbgohgaaDoor
