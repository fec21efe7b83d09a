/-
  DERIVED. GIVEN WITH THE SEED: THE CARDS: each row of YtahjadbjokkjnaaDoorRows.lean that lists a variable, with what it lists TIED to the program's text (the seventh form; the later family's looks); each row that meets fmt, with fmt's text TOLD by the authors' own Lean function (tested against real Go, not proved from fmt's source: count such statements apart). THE CARD IS WHAT COUNTS. Prove the row's statement (the work); the ties are given (YtahjadbjokkjnaaDoorTie.lean); close each card by the builder's one call (the guide's Derived/Test/ToyasCard.lean, 'card_holds'). Laid BY PROGRAM, IN A SANDBOX (cutbox-door.mjs). By AI agents, Wed Nov 11 2026. No macro, syntax, notation, axiom, sorry.
-/
import Derived.Test.YtahjadbjokkjnaaDoorRows
import GoSem.ClaimSeven
namespace Go.Proofs.YtahjadbjokkjnaaDoor
namespace Rows

/-- THE TIED CARD OF 'erewhilelaw49.FsMakes'. -/
def fsMakesCard : Claim7 := { stood := { row := fsMakesRow, standIns := [], harness := (true, "82f25281ad2774a72d7301cee4e93417e23f3b1614bd693543cb2801c4f6755d"), looks := false }, kinds := [], alts := [], laidByText := true, laidKinds := [.widerDeep], laidTests := true, laidLooks := .later }
def FsMakesCardSaid : Prop := Claim7.holds Tryd.pinned (.plain (OpenSpec.ofChange fsMakesSpec)) fsMakesCard

/-- THE TIED CARD OF 'erewhilelaw49.FsTable'. -/
def fsTableCard : Claim7 := { stood := { row := fsTableRow, standIns := [], harness := (true, "82f25281ad2774a72d7301cee4e93417e23f3b1614bd693543cb2801c4f6755d"), looks := false }, kinds := [], alts := [], laidByText := true, laidKinds := [.widerDeep], laidTests := true, laidLooks := .later }
def FsTableCardSaid : Prop := Claim7.holds Tryd.pinned (.plain (OpenSpec.ofChange fsTableSpec)) fsTableCard

/-- THE TIED CARD OF 'erewhilelaw49.FsSame'. -/
def fsSameCard : Claim7 := { stood := { row := fsSameRow, standIns := [], harness := (true, "82f25281ad2774a72d7301cee4e93417e23f3b1614bd693543cb2801c4f6755d"), looks := false }, kinds := [], alts := [], laidByText := true, laidKinds := [.widerDeep], laidTests := true, laidLooks := .later }
def FsSameCardSaid : Prop := Claim7.holds Tryd.pinned (.plain (OpenSpec.ofChange fsSameSpec)) fsSameCard

/-- THE TIED CARD OF 'erewhilelaw49.FsReads'. -/
def fsReadsCard : Claim7 := { stood := { row := fsReadsRow, standIns := [], harness := (true, "82f25281ad2774a72d7301cee4e93417e23f3b1614bd693543cb2801c4f6755d"), looks := false }, kinds := [], alts := [], laidByText := true, laidKinds := [.widerDeep], laidTests := true, laidLooks := .later }
def FsReadsCardSaid : Prop := Claim7.holds Tryd.pinned (.plain (OpenSpec.ofChange fsReadsSpec)) fsReadsCard

/-- THE TIED CARD OF 'erewhilelaw49.FsHides'. -/
def fsHidesCard : Claim7 := { stood := { row := fsHidesRow, standIns := [], harness := (true, "82f25281ad2774a72d7301cee4e93417e23f3b1614bd693543cb2801c4f6755d"), looks := false }, kinds := [], alts := [], laidByText := true, laidKinds := [.widerDeep], laidTests := true, laidLooks := .later }
def FsHidesCardSaid : Prop := Claim7.holds Tryd.pinned (.plain (OpenSpec.ofChange fsHidesSpec)) fsHidesCard

/-- THE TIED CARD OF 'erewhilelaw49.FsSpoils'. -/
def fsSpoilsCard : Claim7 := { stood := { row := fsSpoilsRow, standIns := [], harness := (true, "82f25281ad2774a72d7301cee4e93417e23f3b1614bd693543cb2801c4f6755d"), looks := false }, kinds := [], alts := [], laidByText := true, laidKinds := [.widerDeep], laidTests := true, laidLooks := .later }
def FsSpoilsCardSaid : Prop := Claim7.holds Tryd.pinned (.plain (OpenSpec.ofChange fsSpoilsSpec)) fsSpoilsCard

/-- THE TIED CARD OF 'erewhilelaw49.FsFronts'. -/
def fsFrontsCard : Claim7 := { stood := { row := fsFrontsRow, standIns := [], harness := (true, "82f25281ad2774a72d7301cee4e93417e23f3b1614bd693543cb2801c4f6755d"), looks := false }, kinds := [], alts := [], laidByText := true, laidKinds := [.widerDeep], laidTests := true, laidLooks := .later }
def FsFrontsCardSaid : Prop := Claim7.holds Tryd.pinned (.plain (OpenSpec.ofChange fsFrontsSpec)) fsFrontsCard

/-- THE TIED CARD OF 'erewhilelaw49.FsBack'. -/
def fsBackCard : Claim7 := { stood := { row := fsBackRow, standIns := [], harness := (true, "82f25281ad2774a72d7301cee4e93417e23f3b1614bd693543cb2801c4f6755d"), looks := false }, kinds := [], alts := [], laidByText := true, laidKinds := [.widerDeep], laidTests := true, laidLooks := .later }
def FsBackCardSaid : Prop := Claim7.holds Tryd.pinned (.plain (OpenSpec.ofChange fsBackSpec)) fsBackCard

/-- THE SECOND FORM's CARD OF 'erewhilelaw49.FsMakes'. -/
def fsMakesUptoCard : Claim7 := { stood := { row := fsMakesUptoRow, standIns := [], harness := (true, "82f25281ad2774a72d7301cee4e93417e23f3b1614bd693543cb2801c4f6755d"), looks := false }, kinds := [], alts := [], laidByText := true, laidKinds := [.widerDeep], laidTests := true, laidLooks := .later }
def FsMakesUptoCardSaid : Prop := Claim7.holds Tryd.pinned (.plain (OpenSpec.upto fsMakesSpec)) fsMakesUptoCard

/-- THE SECOND FORM's CARD OF 'erewhilelaw49.FsTable'. -/
def fsTableUptoCard : Claim7 := { stood := { row := fsTableUptoRow, standIns := [], harness := (true, "82f25281ad2774a72d7301cee4e93417e23f3b1614bd693543cb2801c4f6755d"), looks := false }, kinds := [], alts := [], laidByText := true, laidKinds := [.widerDeep], laidTests := true, laidLooks := .later }
def FsTableUptoCardSaid : Prop := Claim7.holds Tryd.pinned (.plain (OpenSpec.upto fsTableSpec)) fsTableUptoCard

/-- THE SECOND FORM's CARD OF 'erewhilelaw49.FsSame'. -/
def fsSameUptoCard : Claim7 := { stood := { row := fsSameUptoRow, standIns := [], harness := (true, "82f25281ad2774a72d7301cee4e93417e23f3b1614bd693543cb2801c4f6755d"), looks := false }, kinds := [], alts := [], laidByText := true, laidKinds := [.widerDeep], laidTests := true, laidLooks := .later }
def FsSameUptoCardSaid : Prop := Claim7.holds Tryd.pinned (.plain (OpenSpec.upto fsSameSpec)) fsSameUptoCard

/-- THE SECOND FORM's CARD OF 'erewhilelaw49.FsReads'. -/
def fsReadsUptoCard : Claim7 := { stood := { row := fsReadsUptoRow, standIns := [], harness := (true, "82f25281ad2774a72d7301cee4e93417e23f3b1614bd693543cb2801c4f6755d"), looks := false }, kinds := [], alts := [], laidByText := true, laidKinds := [.widerDeep], laidTests := true, laidLooks := .later }
def FsReadsUptoCardSaid : Prop := Claim7.holds Tryd.pinned (.plain (OpenSpec.upto fsReadsSpec)) fsReadsUptoCard

/-- THE SECOND FORM's CARD OF 'erewhilelaw49.FsHides'. -/
def fsHidesUptoCard : Claim7 := { stood := { row := fsHidesUptoRow, standIns := [], harness := (true, "82f25281ad2774a72d7301cee4e93417e23f3b1614bd693543cb2801c4f6755d"), looks := false }, kinds := [], alts := [], laidByText := true, laidKinds := [.widerDeep], laidTests := true, laidLooks := .later }
def FsHidesUptoCardSaid : Prop := Claim7.holds Tryd.pinned (.plain (OpenSpec.upto fsHidesSpec)) fsHidesUptoCard

/-- THE SECOND FORM's CARD OF 'erewhilelaw49.FsSpoils'. -/
def fsSpoilsUptoCard : Claim7 := { stood := { row := fsSpoilsUptoRow, standIns := [], harness := (true, "82f25281ad2774a72d7301cee4e93417e23f3b1614bd693543cb2801c4f6755d"), looks := false }, kinds := [], alts := [], laidByText := true, laidKinds := [.widerDeep], laidTests := true, laidLooks := .later }
def FsSpoilsUptoCardSaid : Prop := Claim7.holds Tryd.pinned (.plain (OpenSpec.upto fsSpoilsSpec)) fsSpoilsUptoCard

/-- THE SECOND FORM's CARD OF 'erewhilelaw49.FsFronts'. -/
def fsFrontsUptoCard : Claim7 := { stood := { row := fsFrontsUptoRow, standIns := [], harness := (true, "82f25281ad2774a72d7301cee4e93417e23f3b1614bd693543cb2801c4f6755d"), looks := false }, kinds := [], alts := [], laidByText := true, laidKinds := [.widerDeep], laidTests := true, laidLooks := .later }
def FsFrontsUptoCardSaid : Prop := Claim7.holds Tryd.pinned (.plain (OpenSpec.upto fsFrontsSpec)) fsFrontsUptoCard

/-- THE SECOND FORM's CARD OF 'erewhilelaw49.FsBack'. -/
def fsBackUptoCard : Claim7 := { stood := { row := fsBackUptoRow, standIns := [], harness := (true, "82f25281ad2774a72d7301cee4e93417e23f3b1614bd693543cb2801c4f6755d"), looks := false }, kinds := [], alts := [], laidByText := true, laidKinds := [.widerDeep], laidTests := true, laidLooks := .later }
def FsBackUptoCardSaid : Prop := Claim7.holds Tryd.pinned (.plain (OpenSpec.upto fsBackSpec)) fsBackUptoCard
end Rows
end Go.Proofs.YtahjadbjokkjnaaDoor
