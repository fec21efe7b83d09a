/-
  DERIVED. GIVEN WITH THE SEED: THE CARDS: each row of YtdobjbdkfammbaaDoorRows.lean that lists a variable, with what it lists TIED to the program's text (the seventh form; the later family's looks); each row that meets fmt, with fmt's text TOLD by the authors' own Lean function (tested against real Go, not proved from fmt's source: count such statements apart). THE CARD IS WHAT COUNTS. Prove the row's statement (the work); the ties are given (YtdobjbdkfammbaaDoorTie.lean); close each card by the builder's one call (the guide's Derived/Test/ToyasCard.lean, 'card_holds'). Laid BY PROGRAM, IN A SANDBOX (cutbox-door.mjs). By AI agents, Wed Nov 11 2026. No macro, syntax, notation, axiom, sorry.
-/
import Derived.Test.YtdobjbdkfammbaaDoorRows
import GoSem.ClaimSeven
namespace Go.Proofs.YtdobjbdkfammbaaDoor
namespace Rows

/-- THE TIED CARD OF 'erewhilelaw55.AttackFlood'. -/
def attackFloodCard : Claim7 := { stood := { row := attackFloodRow, standIns := [], harness := (true, "4f90011bba9e03a45d0174cca6b77de165d0bc8bfd36337d2654c63b5089d2d5"), looks := false }, kinds := [], alts := [], laidByText := true, laidKinds := [.widerDeep], laidTests := true, laidLooks := .later }
def AttackFloodCardSaid : Prop := Claim7.holds Tryd.pinned (.plain (OpenSpec.ofChange attackFloodSpec)) attackFloodCard

/-- THE TIED CARD OF 'erewhilelaw55.AttackFloods'. -/
def attackFloodsCard : Claim7 := { stood := { row := attackFloodsRow, standIns := [], harness := (true, "4f90011bba9e03a45d0174cca6b77de165d0bc8bfd36337d2654c63b5089d2d5"), looks := false }, kinds := [], alts := [], laidByText := true, laidKinds := [.widerDeep], laidTests := true, laidLooks := .later }
def AttackFloodsCardSaid : Prop := Claim7.holds Tryd.pinned (.plain (OpenSpec.ofChange attackFloodsSpec)) attackFloodsCard

/-- THE TIED CARD OF 'erewhilelaw55.AttackRansom'. -/
def attackRansomCard : Claim7 := { stood := { row := attackRansomRow, standIns := [], harness := (true, "4f90011bba9e03a45d0174cca6b77de165d0bc8bfd36337d2654c63b5089d2d5"), looks := false }, kinds := [], alts := [], laidByText := true, laidKinds := [.widerDeep], laidTests := true, laidLooks := .later }
def AttackRansomCardSaid : Prop := Claim7.holds Tryd.pinned (.plain (OpenSpec.ofChange attackRansomSpec)) attackRansomCard

/-- THE TIED CARD OF 'erewhilelaw55.AttackThief'. -/
def attackThiefCard : Claim7 := { stood := { row := attackThiefRow, standIns := [], harness := (true, "4f90011bba9e03a45d0174cca6b77de165d0bc8bfd36337d2654c63b5089d2d5"), looks := false }, kinds := [], alts := [], laidByText := true, laidKinds := [.widerDeep], laidTests := true, laidLooks := .later }
def AttackThiefCardSaid : Prop := Claim7.holds Tryd.pinned (.plain (OpenSpec.ofChange attackThiefSpec)) attackThiefCard

/-- THE TIED CARD OF 'erewhilelaw55.AttackNone'. -/
def attackNoneCard : Claim7 := { stood := { row := attackNoneRow, standIns := [], harness := (true, "4f90011bba9e03a45d0174cca6b77de165d0bc8bfd36337d2654c63b5089d2d5"), looks := false }, kinds := [], alts := [], laidByText := true, laidKinds := [.widerDeep], laidTests := true, laidLooks := .later }
def AttackNoneCardSaid : Prop := Claim7.holds Tryd.pinned (.plain (OpenSpec.ofChange attackNoneSpec)) attackNoneCard

/-- THE TIED CARD OF 'erewhilelaw55.AttackLocks'. -/
def attackLocksCard : Claim7 := { stood := { row := attackLocksRow, standIns := [], harness := (true, "4f90011bba9e03a45d0174cca6b77de165d0bc8bfd36337d2654c63b5089d2d5"), looks := false }, kinds := [], alts := [], laidByText := true, laidKinds := [.widerDeep], laidTests := true, laidLooks := .later }
def AttackLocksCardSaid : Prop := Claim7.holds Tryd.pinned (.plain (OpenSpec.ofChange attackLocksSpec)) attackLocksCard

/-- THE TIED CARD OF 'erewhilelaw55.AttackSteals'. -/
def attackStealsCard : Claim7 := { stood := { row := attackStealsRow, standIns := [], harness := (true, "4f90011bba9e03a45d0174cca6b77de165d0bc8bfd36337d2654c63b5089d2d5"), looks := false }, kinds := [], alts := [], laidByText := true, laidKinds := [.widerDeep], laidTests := true, laidLooks := .later }
def AttackStealsCardSaid : Prop := Claim7.holds Tryd.pinned (.plain (OpenSpec.ofChange attackStealsSpec)) attackStealsCard

/-- THE TIED CARD OF 'erewhilelaw55.AttackRenames'. -/
def attackRenamesCard : Claim7 := { stood := { row := attackRenamesRow, standIns := [], harness := (true, "4f90011bba9e03a45d0174cca6b77de165d0bc8bfd36337d2654c63b5089d2d5"), looks := false }, kinds := [], alts := [], laidByText := true, laidKinds := [.widerDeep], laidTests := true, laidLooks := .later }
def AttackRenamesCardSaid : Prop := Claim7.holds Tryd.pinned (.plain (OpenSpec.ofChange attackRenamesSpec)) attackRenamesCard

/-- THE TIED CARD OF 'erewhilelaw55.AttackSeen'. -/
def attackSeenCard : Claim7 := { stood := { row := attackSeenRow, standIns := [], harness := (true, "4f90011bba9e03a45d0174cca6b77de165d0bc8bfd36337d2654c63b5089d2d5"), looks := false }, kinds := [], alts := [], laidByText := true, laidKinds := [.widerDeep, .widerDeep, .widerDeep], laidTests := true, laidLooks := .later }
def AttackSeenCardSaid : Prop := Claim7.holds Tryd.pinned (.plain (OpenSpec.ofChange attackSeenSpec)) attackSeenCard

/-- THE SECOND FORM's CARD OF 'erewhilelaw55.AttackFlood'. -/
def attackFloodUptoCard : Claim7 := { stood := { row := attackFloodUptoRow, standIns := [], harness := (true, "4f90011bba9e03a45d0174cca6b77de165d0bc8bfd36337d2654c63b5089d2d5"), looks := false }, kinds := [], alts := [], laidByText := true, laidKinds := [.widerDeep], laidTests := true, laidLooks := .later }
def AttackFloodUptoCardSaid : Prop := Claim7.holds Tryd.pinned (.plain (OpenSpec.upto attackFloodSpec)) attackFloodUptoCard

/-- THE SECOND FORM's CARD OF 'erewhilelaw55.AttackFloods'. -/
def attackFloodsUptoCard : Claim7 := { stood := { row := attackFloodsUptoRow, standIns := [], harness := (true, "4f90011bba9e03a45d0174cca6b77de165d0bc8bfd36337d2654c63b5089d2d5"), looks := false }, kinds := [], alts := [], laidByText := true, laidKinds := [.widerDeep], laidTests := true, laidLooks := .later }
def AttackFloodsUptoCardSaid : Prop := Claim7.holds Tryd.pinned (.plain (OpenSpec.upto attackFloodsSpec)) attackFloodsUptoCard

/-- THE SECOND FORM's CARD OF 'erewhilelaw55.AttackRansom'. -/
def attackRansomUptoCard : Claim7 := { stood := { row := attackRansomUptoRow, standIns := [], harness := (true, "4f90011bba9e03a45d0174cca6b77de165d0bc8bfd36337d2654c63b5089d2d5"), looks := false }, kinds := [], alts := [], laidByText := true, laidKinds := [.widerDeep], laidTests := true, laidLooks := .later }
def AttackRansomUptoCardSaid : Prop := Claim7.holds Tryd.pinned (.plain (OpenSpec.upto attackRansomSpec)) attackRansomUptoCard

/-- THE SECOND FORM's CARD OF 'erewhilelaw55.AttackThief'. -/
def attackThiefUptoCard : Claim7 := { stood := { row := attackThiefUptoRow, standIns := [], harness := (true, "4f90011bba9e03a45d0174cca6b77de165d0bc8bfd36337d2654c63b5089d2d5"), looks := false }, kinds := [], alts := [], laidByText := true, laidKinds := [.widerDeep], laidTests := true, laidLooks := .later }
def AttackThiefUptoCardSaid : Prop := Claim7.holds Tryd.pinned (.plain (OpenSpec.upto attackThiefSpec)) attackThiefUptoCard

/-- THE SECOND FORM's CARD OF 'erewhilelaw55.AttackNone'. -/
def attackNoneUptoCard : Claim7 := { stood := { row := attackNoneUptoRow, standIns := [], harness := (true, "4f90011bba9e03a45d0174cca6b77de165d0bc8bfd36337d2654c63b5089d2d5"), looks := false }, kinds := [], alts := [], laidByText := true, laidKinds := [.widerDeep], laidTests := true, laidLooks := .later }
def AttackNoneUptoCardSaid : Prop := Claim7.holds Tryd.pinned (.plain (OpenSpec.upto attackNoneSpec)) attackNoneUptoCard

/-- THE SECOND FORM's CARD OF 'erewhilelaw55.AttackLocks'. -/
def attackLocksUptoCard : Claim7 := { stood := { row := attackLocksUptoRow, standIns := [], harness := (true, "4f90011bba9e03a45d0174cca6b77de165d0bc8bfd36337d2654c63b5089d2d5"), looks := false }, kinds := [], alts := [], laidByText := true, laidKinds := [.widerDeep], laidTests := true, laidLooks := .later }
def AttackLocksUptoCardSaid : Prop := Claim7.holds Tryd.pinned (.plain (OpenSpec.upto attackLocksSpec)) attackLocksUptoCard

/-- THE SECOND FORM's CARD OF 'erewhilelaw55.AttackSteals'. -/
def attackStealsUptoCard : Claim7 := { stood := { row := attackStealsUptoRow, standIns := [], harness := (true, "4f90011bba9e03a45d0174cca6b77de165d0bc8bfd36337d2654c63b5089d2d5"), looks := false }, kinds := [], alts := [], laidByText := true, laidKinds := [.widerDeep], laidTests := true, laidLooks := .later }
def AttackStealsUptoCardSaid : Prop := Claim7.holds Tryd.pinned (.plain (OpenSpec.upto attackStealsSpec)) attackStealsUptoCard

/-- THE SECOND FORM's CARD OF 'erewhilelaw55.AttackRenames'. -/
def attackRenamesUptoCard : Claim7 := { stood := { row := attackRenamesUptoRow, standIns := [], harness := (true, "4f90011bba9e03a45d0174cca6b77de165d0bc8bfd36337d2654c63b5089d2d5"), looks := false }, kinds := [], alts := [], laidByText := true, laidKinds := [.widerDeep], laidTests := true, laidLooks := .later }
def AttackRenamesUptoCardSaid : Prop := Claim7.holds Tryd.pinned (.plain (OpenSpec.upto attackRenamesSpec)) attackRenamesUptoCard

/-- THE SECOND FORM's CARD OF 'erewhilelaw55.AttackSeen'. -/
def attackSeenUptoCard : Claim7 := { stood := { row := attackSeenUptoRow, standIns := [], harness := (true, "4f90011bba9e03a45d0174cca6b77de165d0bc8bfd36337d2654c63b5089d2d5"), looks := false }, kinds := [], alts := [], laidByText := true, laidKinds := [.widerDeep, .widerDeep, .widerDeep], laidTests := true, laidLooks := .later }
def AttackSeenUptoCardSaid : Prop := Claim7.holds Tryd.pinned (.plain (OpenSpec.upto attackSeenSpec)) attackSeenUptoCard
end Rows
end Go.Proofs.YtdobjbdkfammbaaDoor
