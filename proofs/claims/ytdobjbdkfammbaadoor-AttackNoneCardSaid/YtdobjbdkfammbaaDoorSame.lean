/-
  The comparisons of two slices, walked: true just if they are equal.
-/
import Derived.Test.YtdobjbdkfammbaaDoorTy
namespace Go.Proofs.YtdobjbdkfammbaaDoor
open Go.RowKit Go.Proofs.YtdobjbdkfammbaaDoorW.PrintWords Go.Proofs.YtdobjbdkfammbaaDoorW.PrintLast Go.Proofs.YtdobjbdkfammbaaDoorW.PrintMore

set_option linter.unusedVariables false
set_option linter.unusedSimpArgs false
theorem take_step {α : Type} [Inhabited α] {xs ys : List α} {k : Nat} (h : xs.take k = ys.take k) (hx : k < xs.length) (hy : k < ys.length) (he : gt xs k = gt ys k) : xs.take (k + 1) = ys.take (k + 1) := by
  rw [List.take_add_one, List.take_add_one, h, gt_some xs k hx, gt_some ys k hy, he]
theorem ne_of_gt {α : Type} [Inhabited α] {xs ys : List α} {k : Nat} (hx : k < xs.length) (hy : k < ys.length) (he : gt xs k ≠ gt ys k) : xs ≠ ys := fun e => he (by rw [e])
theorem ret_bool {a b : Bool} (h : a = b) : Ending.returned (.bool a) = .returned (.bool b) := by rw [h]

end Go.Proofs.YtdobjbdkfammbaaDoor
