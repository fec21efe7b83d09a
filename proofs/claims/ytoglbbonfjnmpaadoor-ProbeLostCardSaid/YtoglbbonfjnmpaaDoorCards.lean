/-
  DERIVED. GIVEN WITH THE SEED: THE CARDS: each row of YtoglbbonfjnmpaaDoorRows.lean that lists a variable, with what it lists TIED to the program's text (the seventh form; the later family's looks); each row that meets fmt, with fmt's text TOLD by the authors' own Lean function (tested against real Go, not proved from fmt's source: count such statements apart). THE CARD IS WHAT COUNTS. Prove the row's statement (the work); the ties are given (YtoglbbonfjnmpaaDoorTie.lean); close each card by the builder's one call (the guide's Derived/Test/ToyasCard.lean, 'card_holds'). Laid BY PROGRAM, IN A SANDBOX (cutbox-door.mjs). By AI agents, Wed Nov 11 2026. No macro, syntax, notation, axiom, sorry.
-/
import Derived.Test.YtoglbbonfjnmpaaDoorRows
import GoSem.ClaimSeven
namespace Go.Proofs.YtoglbbonfjnmpaaDoor
namespace Rows

/-- THE TIED CARD OF 'erewhilelaw51.ProbeData'. -/
def probeDataCard : Claim7 := { stood := { row := probeDataRow, standIns := [], harness := (true, "d4bf635b0c2a262c3f79bf97ca4a03b95bbe0cce407e8d1d005c1895031f964a"), looks := false }, kinds := [], alts := [], laidByText := true, laidKinds := [.widerDeep, .widerDeep], laidTests := true, laidLooks := .later }
def ProbeDataCardSaid : Prop := Claim7.holds Tryd.pinned (.plain (OpenSpec.ofChange probeDataSpec)) probeDataCard

/-- THE TIED CARD OF 'erewhilelaw51.ProbeRenames'. -/
def probeRenamesCard : Claim7 := { stood := { row := probeRenamesRow, standIns := [], harness := (true, "d4bf635b0c2a262c3f79bf97ca4a03b95bbe0cce407e8d1d005c1895031f964a"), looks := false }, kinds := [], alts := [], laidByText := true, laidKinds := [.widerDeep, .widerDeep], laidTests := true, laidLooks := .later }
def ProbeRenamesCardSaid : Prop := Claim7.holds Tryd.pinned (.plain (OpenSpec.ofChange probeRenamesSpec)) probeRenamesCard

/-- THE TIED CARD OF 'erewhilelaw51.ProbeLooks'. -/
def probeLooksCard : Claim7 := { stood := { row := probeLooksRow, standIns := [], harness := (true, "d4bf635b0c2a262c3f79bf97ca4a03b95bbe0cce407e8d1d005c1895031f964a"), looks := false }, kinds := [], alts := [], laidByText := true, laidKinds := [.widerDeep, .widerDeep], laidTests := true, laidLooks := .later }
def ProbeLooksCardSaid : Prop := Claim7.holds Tryd.pinned (.plain (OpenSpec.ofChange probeLooksSpec)) probeLooksCard

/-- THE TIED CARD OF 'erewhilelaw51.ProbeCalm'. -/
def probeCalmCard : Claim7 := { stood := { row := probeCalmRow, standIns := [], harness := (true, "d4bf635b0c2a262c3f79bf97ca4a03b95bbe0cce407e8d1d005c1895031f964a"), looks := false }, kinds := [], alts := [], laidByText := true, laidKinds := [.widerDeep, .widerDeep], laidTests := true, laidLooks := .later }
def ProbeCalmCardSaid : Prop := Claim7.holds Tryd.pinned (.plain (OpenSpec.ofChange probeCalmSpec)) probeCalmCard

/-- THE TIED CARD OF 'erewhilelaw51.ProbeMixed'. -/
def probeMixedCard : Claim7 := { stood := { row := probeMixedRow, standIns := [], harness := (true, "d4bf635b0c2a262c3f79bf97ca4a03b95bbe0cce407e8d1d005c1895031f964a"), looks := false }, kinds := [], alts := [], laidByText := true, laidKinds := [.widerDeep, .widerDeep], laidTests := true, laidLooks := .later }
def ProbeMixedCardSaid : Prop := Claim7.holds Tryd.pinned (.plain (OpenSpec.ofChange probeMixedSpec)) probeMixedCard

/-- THE TIED CARD OF 'erewhilelaw51.ProbeStorm'. -/
def probeStormCard : Claim7 := { stood := { row := probeStormRow, standIns := [], harness := (true, "d4bf635b0c2a262c3f79bf97ca4a03b95bbe0cce407e8d1d005c1895031f964a"), looks := false }, kinds := [], alts := [], laidByText := true, laidKinds := [.widerDeep, .widerDeep], laidTests := true, laidLooks := .later }
def ProbeStormCardSaid : Prop := Claim7.holds Tryd.pinned (.plain (OpenSpec.ofChange probeStormSpec)) probeStormCard

/-- THE TIED CARD OF 'erewhilelaw51.ProbeLost'. -/
def probeLostCard : Claim7 := { stood := { row := probeLostRow, standIns := [], harness := (true, "d4bf635b0c2a262c3f79bf97ca4a03b95bbe0cce407e8d1d005c1895031f964a"), looks := false }, kinds := [], alts := [], laidByText := true, laidKinds := [.widerDeep, .widerDeep], laidTests := true, laidLooks := .later }
def ProbeLostCardSaid : Prop := Claim7.holds Tryd.pinned (.plain (OpenSpec.ofChange probeLostSpec)) probeLostCard

/-- THE TIED CARD OF 'erewhilelaw51.ProbeNew'. -/
def probeNewCard : Claim7 := { stood := { row := probeNewRow, standIns := [], harness := (true, "d4bf635b0c2a262c3f79bf97ca4a03b95bbe0cce407e8d1d005c1895031f964a"), looks := false }, kinds := [], alts := [], laidByText := true, laidKinds := [.widerDeep, .widerDeep], laidTests := true, laidLooks := .later }
def ProbeNewCardSaid : Prop := Claim7.holds Tryd.pinned (.plain (OpenSpec.ofChange probeNewSpec)) probeNewCard

/-- THE TIED CARD OF 'erewhilelaw51.ProbeMounted'. -/
def probeMountedCard : Claim7 := { stood := { row := probeMountedRow, standIns := [], harness := (true, "d4bf635b0c2a262c3f79bf97ca4a03b95bbe0cce407e8d1d005c1895031f964a"), looks := false }, kinds := [], alts := [], laidByText := true, laidKinds := [.widerDeep, .widerDeep, .widerDeep], laidTests := true, laidLooks := .later }
def ProbeMountedCardSaid : Prop := Claim7.holds Tryd.pinned (.plain (OpenSpec.ofChange probeMountedSpec)) probeMountedCard

/-- THE SECOND FORM's CARD OF 'erewhilelaw51.ProbeData'. -/
def probeDataUptoCard : Claim7 := { stood := { row := probeDataUptoRow, standIns := [], harness := (true, "d4bf635b0c2a262c3f79bf97ca4a03b95bbe0cce407e8d1d005c1895031f964a"), looks := false }, kinds := [], alts := [], laidByText := true, laidKinds := [.widerDeep, .widerDeep], laidTests := true, laidLooks := .later }
def ProbeDataUptoCardSaid : Prop := Claim7.holds Tryd.pinned (.plain (OpenSpec.upto probeDataSpec)) probeDataUptoCard

/-- THE SECOND FORM's CARD OF 'erewhilelaw51.ProbeRenames'. -/
def probeRenamesUptoCard : Claim7 := { stood := { row := probeRenamesUptoRow, standIns := [], harness := (true, "d4bf635b0c2a262c3f79bf97ca4a03b95bbe0cce407e8d1d005c1895031f964a"), looks := false }, kinds := [], alts := [], laidByText := true, laidKinds := [.widerDeep, .widerDeep], laidTests := true, laidLooks := .later }
def ProbeRenamesUptoCardSaid : Prop := Claim7.holds Tryd.pinned (.plain (OpenSpec.upto probeRenamesSpec)) probeRenamesUptoCard

/-- THE SECOND FORM's CARD OF 'erewhilelaw51.ProbeLooks'. -/
def probeLooksUptoCard : Claim7 := { stood := { row := probeLooksUptoRow, standIns := [], harness := (true, "d4bf635b0c2a262c3f79bf97ca4a03b95bbe0cce407e8d1d005c1895031f964a"), looks := false }, kinds := [], alts := [], laidByText := true, laidKinds := [.widerDeep, .widerDeep], laidTests := true, laidLooks := .later }
def ProbeLooksUptoCardSaid : Prop := Claim7.holds Tryd.pinned (.plain (OpenSpec.upto probeLooksSpec)) probeLooksUptoCard

/-- THE SECOND FORM's CARD OF 'erewhilelaw51.ProbeCalm'. -/
def probeCalmUptoCard : Claim7 := { stood := { row := probeCalmUptoRow, standIns := [], harness := (true, "d4bf635b0c2a262c3f79bf97ca4a03b95bbe0cce407e8d1d005c1895031f964a"), looks := false }, kinds := [], alts := [], laidByText := true, laidKinds := [.widerDeep, .widerDeep], laidTests := true, laidLooks := .later }
def ProbeCalmUptoCardSaid : Prop := Claim7.holds Tryd.pinned (.plain (OpenSpec.upto probeCalmSpec)) probeCalmUptoCard

/-- THE SECOND FORM's CARD OF 'erewhilelaw51.ProbeMixed'. -/
def probeMixedUptoCard : Claim7 := { stood := { row := probeMixedUptoRow, standIns := [], harness := (true, "d4bf635b0c2a262c3f79bf97ca4a03b95bbe0cce407e8d1d005c1895031f964a"), looks := false }, kinds := [], alts := [], laidByText := true, laidKinds := [.widerDeep, .widerDeep], laidTests := true, laidLooks := .later }
def ProbeMixedUptoCardSaid : Prop := Claim7.holds Tryd.pinned (.plain (OpenSpec.upto probeMixedSpec)) probeMixedUptoCard

/-- THE SECOND FORM's CARD OF 'erewhilelaw51.ProbeStorm'. -/
def probeStormUptoCard : Claim7 := { stood := { row := probeStormUptoRow, standIns := [], harness := (true, "d4bf635b0c2a262c3f79bf97ca4a03b95bbe0cce407e8d1d005c1895031f964a"), looks := false }, kinds := [], alts := [], laidByText := true, laidKinds := [.widerDeep, .widerDeep], laidTests := true, laidLooks := .later }
def ProbeStormUptoCardSaid : Prop := Claim7.holds Tryd.pinned (.plain (OpenSpec.upto probeStormSpec)) probeStormUptoCard

/-- THE SECOND FORM's CARD OF 'erewhilelaw51.ProbeLost'. -/
def probeLostUptoCard : Claim7 := { stood := { row := probeLostUptoRow, standIns := [], harness := (true, "d4bf635b0c2a262c3f79bf97ca4a03b95bbe0cce407e8d1d005c1895031f964a"), looks := false }, kinds := [], alts := [], laidByText := true, laidKinds := [.widerDeep, .widerDeep], laidTests := true, laidLooks := .later }
def ProbeLostUptoCardSaid : Prop := Claim7.holds Tryd.pinned (.plain (OpenSpec.upto probeLostSpec)) probeLostUptoCard

/-- THE SECOND FORM's CARD OF 'erewhilelaw51.ProbeNew'. -/
def probeNewUptoCard : Claim7 := { stood := { row := probeNewUptoRow, standIns := [], harness := (true, "d4bf635b0c2a262c3f79bf97ca4a03b95bbe0cce407e8d1d005c1895031f964a"), looks := false }, kinds := [], alts := [], laidByText := true, laidKinds := [.widerDeep, .widerDeep], laidTests := true, laidLooks := .later }
def ProbeNewUptoCardSaid : Prop := Claim7.holds Tryd.pinned (.plain (OpenSpec.upto probeNewSpec)) probeNewUptoCard

/-- THE SECOND FORM's CARD OF 'erewhilelaw51.ProbeMounted'. -/
def probeMountedUptoCard : Claim7 := { stood := { row := probeMountedUptoRow, standIns := [], harness := (true, "d4bf635b0c2a262c3f79bf97ca4a03b95bbe0cce407e8d1d005c1895031f964a"), looks := false }, kinds := [], alts := [], laidByText := true, laidKinds := [.widerDeep, .widerDeep, .widerDeep], laidTests := true, laidLooks := .later }
def ProbeMountedUptoCardSaid : Prop := Claim7.holds Tryd.pinned (.plain (OpenSpec.upto probeMountedSpec)) probeMountedUptoCard
end Rows
end Go.Proofs.YtoglbbonfjnmpaaDoor
