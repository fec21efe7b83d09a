/-
  Chapter 51: from a row's condition to the walks, where fs.magic is laid too (ProbeMounted).
-/
import Derived.Test.YtoglbbonfjnmpaaDoorMg51
import Derived.Test.YtoglbbonfjnmpaaDoorFs7
namespace Go.Proofs.YtoglbbonfjnmpaaDoor
open Go.ChangeShapes Go.WideShapes Go.ChangeAt Go.RowKit Go.Proofs.YtoglbbonfjnmpaaDoorW.PrintWords Go.Proofs.YtoglbbonfjnmpaaDoorW.PrintLast Go.Proofs.YtoglbbonfjnmpaaDoorW.PrintMore
set_option linter.unusedVariables false
set_option linter.unusedSimpArgs false

theorem gMagic : Tryd.prog.globalNamed "erewhile/fs.magic" = some 1 := by kernel_rfl
theorem tMagic : (Tryd.prog.globals[1]?).map (·.type) = some 87 := by kernel_rfl
theorem cells_magic : Tryd.prog.cellsOf 87 = 5 := by kernel_rfl
def laidMP : List (String × DataW Unit) := [("erewhile/fs.magic", Rows.laid_erewhile_fs_magic), ("erewhile/probe.numbers", Rows.laid_erewhile_probe_numbers), ("erewhile/probe.endings", Rows.laid_erewhile_probe_endings)]
theorem good3_of_laid {W : World} (h : laidMetH Tryd.prog laidMP W) : MagicAt W ∧ EndAt W ∧ NumAt W := by
  rw [MakeChecks.laidMetH_plain _ _ _ (by kernel_rfl)] at h
  obtain ⟨ps, hv, _⟩ := h
  obtain ⟨g0, t0, cs0, f0, p0, q0, hg0, ht0, hv0, hd0, hrest, _⟩ := hv
  obtain rfl := Option.some.inj (gMagic.symm.trans hg0)
  obtain rfl := Option.some.inj (tMagic.symm.trans ht0)
  have hc := Lib.cells_of_tab (k := .u8) (zs := [69, 82, 69, 87, 1]) Tryd.underlying87 Tryd.underlying5 cells_byte cells_magic hd0
  refine ⟨byte_C_of51 (xs := magicB) (fun j hj => ?_) (by decide), good_of_vars hrest⟩
  have hj5 : j < 5 := hj
  have := World.var?_cell gMagic hv0 j
  rw [this, ← Array.getElem?_toList, hc]
  rcases (show j = 0 ∨ j = 1 ∨ j = 2 ∨ j = 3 ∨ j = 4 by omega) with rfl | rfl | rfl | rfl | rfl <;> rfl
/-- The door's own heap meets the condition. -/
theorem door_met3 (os : Os) (args : Array Value) : laidMetH Tryd.prog laidMP ((World.doorLaid Tryd.prog 400 os).forCall (fun _ _ => 0) ⟨#[], args, []⟩).memory :=
  laidMetH_of_parts3 (fuel := 8) (laidMet_of_run' 8 (by kernel_rfl) (by kernel_rfl)) (by kernel_rfl) (by kernel_rfl)
end Go.Proofs.YtoglbbonfjnmpaaDoor
