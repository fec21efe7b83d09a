/-
  Chapter 49: files as the document's (Plain).
-/
import Derived.Test.YtoglbbonfjnmpaaDoorFr1
import Derived.Deep.RegionLaw
namespace Go.Proofs.YtoglbbonfjnmpaaDoor
open Go.RowKit Go.Proofs.YtoglbbonfjnmpaaDoorW.PrintWords Go.Proofs.YtoglbbonfjnmpaaDoorW.PrintLast Go.Proofs.YtoglbbonfjnmpaaDoorW.PrintMore
set_option linter.unusedVariables false
set_option linter.unusedSimpArgs false

end Go.Proofs.YtoglbbonfjnmpaaDoor
