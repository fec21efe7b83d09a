/-
  The elements of the slices that come in: what was seen, versions: read off the row's reading.
-/
import Derived.Test.YtdobjbdkfammbaaDoorOpen
namespace Go.Proofs.YtdobjbdkfammbaaDoor
open Go.RowKit Go.ChangeShapes Go.WideShapes Go.ChangeAt Go.Proofs.YtdobjbdkfammbaaDoorW.PrintWords Go.Proofs.YtdobjbdkfammbaaDoorW.PrintLast Go.Proofs.YtdobjbdkfammbaaDoorW.PrintMore
set_option linter.unusedVariables false
set_option linter.unusedSimpArgs false

theorem cells_byte : Tryd.prog.cellsOf 5 = 1 := by kernel_rfl
theorem bytes_byte : Tryd.prog.bytesOf 5 = 1 := by kernel_rfl
section
variable {H : Type} {enc : TypeId × Value → H}
theorem weights_agg {P : Program} {t : TypeId} {fs : Array Field} (ht : P.underlying t = some (.struct fs)) {xs : List (DataW H)} {i : Nat} {f : Field} {x : DataW H} {m : Nat} (h1 : fs[i]? = some f) (h2 : xs[i]? = some x) (hm : m ∈ x.weights P f.type) : m ∈ (DataW.agg xs).weights P t := by
  unfold DataW.weights
  rw [ht]
  exact weightsEach_mem (i := i) (t := f.type) (by simp [h1]) h2 hm
end
end Go.Proofs.YtdobjbdkfammbaaDoor
