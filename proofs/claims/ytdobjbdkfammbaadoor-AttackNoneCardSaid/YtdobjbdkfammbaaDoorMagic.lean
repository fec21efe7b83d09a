/-
  From a row's condition to the walks: the variable fs.magic is laid; the elements of a slice of files, read off the row's reading.
-/
import Derived.Test.YtdobjbdkfammbaaDoorRows
import Derived.Test.YtdobjbdkfammbaaDoorEls
import Derived.Test.YtdobjbdkfammbaaDoorFs7
import Derived.ProofKit
import Derived.LaidMore
import Derived.OpenShut
import Derived.Stop.Joined
import Derived.Lib.LaidTab
import Derived.MakeChecks
namespace Go.Proofs.YtdobjbdkfammbaaDoor
open Go.ChangeShapes Go.WideShapes Go.ChangeAt Go.RowKit Go.Proofs.YtdobjbdkfammbaaDoorW.PrintWords Go.Proofs.YtdobjbdkfammbaaDoorW.PrintLast Go.Proofs.YtdobjbdkfammbaaDoorW.PrintMore
set_option linter.unusedVariables false
set_option linter.unusedSimpArgs false

theorem gMagic : Tryd.prog.globalNamed "erewhile/fs.magic" = some 0 := by kernel_rfl
theorem tMagic : (Tryd.prog.globals[0]?).map (·.type) = some 110 := by kernel_rfl
theorem cells_magic : Tryd.prog.cellsOf 110 = 5 := by kernel_rfl
theorem byte_C_of {W : World} {b : Nat} {xs : List UInt8} (h : ∀ j, j < xs.length → W.cell? ⟨b, j, none⟩ = some (.int .u8 ((gt xs j).toNat : Int))) (hm : xs.length ≤ 9223372036854775807) : byte.C W (some ⟨b, 0, none⟩) xs.length xs := by
  refine ⟨rfl, hm, fun _ => ⟨_, rfl, fun j p hj => ?_⟩⟩
  obtain ⟨hjl, hp⟩ := List.getElem?_eq_some_iff.1 hj
  refine ⟨[.int .u8 (p.toNat : Int)], rfl, rfl, fun i u hu => ?_⟩
  rcases i with _ | i
  · simp only [List.getElem?_cons_zero, Option.some.injEq] at hu
    subst hu
    have e : j * byte.sz + 0 = j := by show j * 1 + 0 = j; omega
    rw [e, Go.Proofs.YtdobjbdkfammbaaDoorW.PrintWords.add_plain, h j hjl, gt_eq _ _ hjl, hp]
  · simp at hu
def laidD : List (String × DataW Unit) := [("erewhile/fs.magic", Rows.laid_erewhile_fs_magic)]
theorem magic_of_laid {W : World} (h : laidMetH Tryd.prog laidD W) : MagicAt W := by
  rw [MakeChecks.laidMetH_plain _ _ _ (by kernel_rfl)] at h
  have hT := Lib.tabIs_of_head (k := .u8) (zs := [69, 82, 69, 87, 1]) gMagic tMagic Tryd.underlying110 Tryd.underlying5 cells_byte cells_magic h
  refine byte_C_of (xs := magicB) (fun j hj => ?_) (by decide)
  have hj5 : j < 5 := hj
  rw [hT.cell gMagic j hj5]
  rcases (show j = 0 ∨ j = 1 ∨ j = 2 ∨ j = 3 ∨ j = 4 by omega) with rfl | rfl | rfl | rfl | rfl <;> rfl
/-- The door's own heap meets the condition. -/
theorem door_met (os : Os) (args : Array Value) : laidMetH Tryd.prog laidD ((World.doorLaid Tryd.prog 400 os).forCall (fun _ _ => 0) ⟨#[], args, []⟩).memory :=
  laidMetH_of_parts3 (fuel := 8) (laidMet_of_run' 8 (by kernel_rfl) (by kernel_rfl)) (by kernel_rfl) (by kernel_rfl)
section
variable {H : Type} {enc : TypeId × Value → H}
theorem cells_file : Tryd.prog.cellsOf 56 = 2 := by kernel_rfl
set_option maxRecDepth 8000 in
theorem el_file {W : World} (n : Nat) (cs : List Value) (z : DataW H × List MemPlace) (h : DataW.trod enc Tryd.prog W 0 (fun _ => true) true n 56 cs = some z) (hw : ∀ m ∈ z.1.weights Tryd.prog 56, m ≤ reachBytes) :
    ∃ y, kFile.K W y cs ∧ (y.data.length ≤ 140737488351232 ∧ y.name.size ≤ 9223372036854775807) := by
  obtain ⟨xs, k, _, rfl, hl, hxl, hf⟩ := DataW.trod_struct Tryd.underlying56 h
  rw [cells_file] at hl
  match cs, hl with
  | [c0, c1], _ =>
    match xs, hxl with
    | [y0, y1], _ =>
      have e0 : DataW.trod enc Tryd.prog W 0 (fun _ => true) true k 9 [c0] = some y0 := hf 0 _ rfl
      have e1 : DataW.trod enc Tryd.prog W 0 (fun _ => true) true k 54 [c1] = some y1 := hf 1 _ rfl
      obtain ⟨s, h0, hy0, hs⟩ := DataW.trod_string Tryd.underlying9 e0
      obtain ⟨A, c, l, rfl, h2, h3, h4⟩ := open_bytes Tryd.underlying54 Tryd.underlying5 cells_byte bytes_byte e1 (fun m hm => hw m (weights_agg Tryd.underlying56 (i := 1) rfl rfl hm))
      cases h0
      exact ⟨⟨s, l⟩, ⟨[.string s], [.slice A l.length c], rfl, rfl, ⟨A, c, rfl, h2, h3⟩⟩, h4, by simpa [maxLen] using hs⟩
end
end Go.Proofs.YtdobjbdkfammbaaDoor
