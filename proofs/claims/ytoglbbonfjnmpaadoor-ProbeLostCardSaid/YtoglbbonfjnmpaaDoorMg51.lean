/-
  Chapter 51: from a row's condition to the walks: the variables probe.numbers and probe.endings are laid; the elements of a slice of the document's files.
-/
import Derived.Test.YtoglbbonfjnmpaaDoorRows
import Derived.Test.YtoglbbonfjnmpaaDoorEls
import Derived.Test.YtoglbbonfjnmpaaDoorPj
import Derived.ProofKit
import Derived.LaidMore
import Derived.OpenShut
import Derived.Stop.Joined
import Derived.Lib.LaidTab
import Derived.MakeChecks
namespace Go.Proofs.YtoglbbonfjnmpaaDoor
open Go.ChangeShapes Go.WideShapes Go.ChangeAt Go.RowKit Go.Proofs.YtoglbbonfjnmpaaDoorW.PrintWords Go.Proofs.YtoglbbonfjnmpaaDoorW.PrintLast Go.Proofs.YtoglbbonfjnmpaaDoorW.PrintMore
set_option linter.unusedVariables false
set_option linter.unusedSimpArgs false

theorem gNum : Tryd.prog.globalNamed "erewhile/probe.numbers" = some 0 := by kernel_rfl
theorem tNum : (Tryd.prog.globals[0]?).map (·.type) = some 68 := by kernel_rfl
theorem gEnd : Tryd.prog.globalNamed "erewhile/probe.endings" = some 2 := by kernel_rfl
theorem tEnd : (Tryd.prog.globals[2]?).map (·.type) = some 110 := by kernel_rfl
theorem cells_four : Tryd.prog.cellsOf 67 = 4 := by kernel_rfl
theorem cells_44 : Tryd.prog.cellsOf 68 = 16 := by kernel_rfl
theorem cells_str : Tryd.prog.cellsOf 9 = 1 := by kernel_rfl
theorem cells_4s : Tryd.prog.cellsOf 110 = 4 := by kernel_rfl
theorem byte_C_of51 {W : World} {b : Nat} {xs : List UInt8} (h : ∀ j, j < xs.length → W.cell? ⟨b, j, none⟩ = some (.int .u8 ((gt xs j).toNat : Int))) (hm : xs.length ≤ 9223372036854775807) : byte.C W (some ⟨b, 0, none⟩) xs.length xs := by
  refine ⟨rfl, hm, fun _ => ⟨_, rfl, fun j p hj => ?_⟩⟩
  obtain ⟨hjl, hp⟩ := List.getElem?_eq_some_iff.1 hj
  refine ⟨[.int .u8 (p.toNat : Int)], rfl, rfl, fun i u hu => ?_⟩
  rcases i with _ | i
  · simp only [List.getElem?_cons_zero, Option.some.injEq] at hu
    subst hu
    have e : j * byte.sz + 0 = j := by show j * 1 + 0 = j; omega
    rw [e, Go.Proofs.YtoglbbonfjnmpaaDoorW.PrintWords.add_plain, h j hjl, gt_eq _ _ hjl, hp]
  · simp at hu
theorem str_C_of51 {W : World} {b : Nat} {xs : List ByteArray} (h : ∀ j, j < xs.length → W.cell? ⟨b, j, none⟩ = some (.string (gt xs j))) (hm : xs.length ≤ 9223372036854775807) : Kd.string.C W (some ⟨b, 0, none⟩) xs.length xs := by
  refine ⟨rfl, hm, fun _ => ⟨_, rfl, fun j p hj => ?_⟩⟩
  obtain ⟨hjl, hp⟩ := List.getElem?_eq_some_iff.1 hj
  refine ⟨[.string p], rfl, rfl, fun i u hu => ?_⟩
  rcases i with _ | i
  · simp only [List.getElem?_cons_zero, Option.some.injEq] at hu
    subst hu
    have e : j * Kd.string.sz + 0 = j := by show j * 1 + 0 = j; omega
    rw [e, Go.Proofs.YtoglbbonfjnmpaaDoorW.PrintWords.add_plain, h j hjl, gt_eq _ _ hjl, hp]
  · simp at hu
theorem end_cells {W : World} {fuel : Nat} {cs : List Value} {p : List MemPlace} (h : DataW.trod (fun _ => ()) Tryd.prog W 0 (fun _ => true) false fuel 110 cs = some (Rows.laid_erewhile_probe_endings, p)) : ∀ j, j < 4 → cs[j]? = some (.string (gt endL j)) := by
  obtain ⟨xs, m, _, hz, hl, hxl, hf⟩ := DataW.trod_array Tryd.underlying110 h
  have hx : xs.map (·.1) = [.lit (.string [112, 100, 102]), .lit (.string [122, 105, 112]), .lit (.string [112, 110, 103]), .lit (.string [101, 108, 102])] := by
    have := (Prod.mk.inj hz).1
    unfold Rows.laid_erewhile_probe_endings at this
    injection this with this
    exact this.symm
  intro j hj
  have h1 := hf j hj
  rw [cells_str, Nat.mul_one] at h1
  have hjx : j < xs.length := by omega
  rw [List.getElem?_eq_getElem hjx] at h1
  obtain ⟨s, hcs, hy, _⟩ := DataW.trod_string Tryd.underlying9 h1
  have h2 : (xs.map (·.1))[j]? = some (.lit (.string s.data.toList)) := by
    rw [List.getElem?_map, List.getElem?_eq_getElem hjx, hy]; rfl
  rw [hx] at h2
  have h3 : cs[j]? = some (.string s) := by
    have h0 : ((cs.drop j).take 1)[0]? = some (.string s) := by rw [hcs]; rfl
    simpa using h0
  rw [h3]
  have key : ∀ t : ByteArray, t.data.toList = s.data.toList → s = t := fun t e => by
    have : t.data = s.data := Array.toList_inj.1 e
    cases s; cases t; cases this; rfl
  rcases (show j = 0 ∨ j = 1 ∨ j = 2 ∨ j = 3 by omega) with rfl | rfl | rfl | rfl
  · rw [key sPdf (by simpa [sPdf] using h2)]; rfl
  · rw [key sZip (by simpa [sZip] using h2)]; rfl
  · rw [key sPng (by simpa [sPng] using h2)]; rfl
  · rw [key sElf (by simpa [sElf] using h2)]; rfl
theorem num_cells {W : World} {fuel : Nat} {cs : List Value} {p : List MemPlace} (h : DataW.trod (fun _ => ()) Tryd.prog W 0 (fun _ => true) false fuel 68 cs = some (Rows.laid_erewhile_probe_numbers, p)) : ∀ j, j < 16 → cs[j]? = some (.int .u8 ((gt numL j).toNat : Int)) := by
  obtain ⟨xs, m, _, hz, hl, hxl, hf⟩ := DataW.trod_array Tryd.underlying68 h
  have hx : xs.map (·.1) = [Lib.tabData .u8 [37, 80, 68, 70], Lib.tabData .u8 [80, 75, 3, 4], Lib.tabData .u8 [137, 80, 78, 71], Lib.tabData .u8 [127, 69, 76, 70]] := by
    have := (Prod.mk.inj hz).1
    unfold Rows.laid_erewhile_probe_numbers at this
    injection this with this
    exact this.symm
  have row : ∀ i (zs : List Int), i < 4 → (xs.map (·.1))[i]? = some (Lib.tabData .u8 zs) → (cs.drop (i * 4)).take 4 = zs.map fun z => Value.int .u8 z := by
    intro i zs hi hzs
    have h1 := hf i hi
    rw [cells_four] at h1
    have hix : i < xs.length := by omega
    rw [List.getElem?_eq_getElem hix] at h1
    rw [List.getElem?_map, List.getElem?_eq_getElem hix] at hzs
    have hzs' : (xs[i]).1 = Lib.tabData .u8 zs := by simpa using hzs
    have h2 : xs[i] = (Lib.tabData .u8 zs, (xs[i]).2) := by rw [← hzs']
    rw [h2] at h1
    exact Lib.cells_of_tab Tryd.underlying67 Tryd.underlying5 cells_byte cells_four h1
  rw [hx] at row
  have r0 := row 0 _ (by omega) rfl
  have r1 := row 1 _ (by omega) rfl
  have r2 := row 2 _ (by omega) rfl
  have r3 := row 3 _ (by omega) rfl
  have at_ : ∀ i j, j < 4 → ((cs.drop (i * 4)).take 4)[j]? = cs[i * 4 + j]? := fun i j hj => by
    rw [List.getElem?_take_of_lt hj, List.getElem?_drop]
  intro j hj
  have e : j = (j / 4) * 4 + j % 4 := by omega
  have hq : j / 4 = 0 ∨ j / 4 = 1 ∨ j / 4 = 2 ∨ j / 4 = 3 := by omega
  have hr : j % 4 = 0 ∨ j % 4 = 1 ∨ j % 4 = 2 ∨ j % 4 = 3 := by omega
  rw [e, ← at_ _ _ (by omega)]
  rcases hq with hq | hq | hq | hq <;> rw [hq] <;> (first | rw [r0] | rw [r1] | rw [r2] | rw [r3]) <;> rcases hr with hr | hr | hr | hr <;> rw [hr] <;> rfl
def laidP : List (String × DataW Unit) := [("erewhile/probe.numbers", Rows.laid_erewhile_probe_numbers), ("erewhile/probe.endings", Rows.laid_erewhile_probe_endings)]
theorem good_of_vars {W : World} {ps : List MemPlace} (h : DataW.LaidVars Tryd.prog W laidP ps) : EndAt W ∧ NumAt W := by
  obtain ⟨g0, t0, cs0, f0, p0, q0, hg0, ht0, hv0, hd0, ⟨g1, t1, cs1, f1, p1, q1, hg1, ht1, hv1, hd1, _, _⟩, _⟩ := h
  obtain rfl := Option.some.inj (gNum.symm.trans hg0)
  obtain rfl := Option.some.inj (tNum.symm.trans ht0)
  obtain rfl := Option.some.inj (gEnd.symm.trans hg1)
  obtain rfl := Option.some.inj (tEnd.symm.trans ht1)
  refine ⟨str_C_of51 (xs := endL) (fun j hj => ?_) (by decide), byte_C_of51 (xs := numL) (fun j hj => ?_) (by decide)⟩
  · have := World.var?_cell gEnd hv1 j
    rw [this, ← Array.getElem?_toList]
    exact end_cells hd1 j hj
  · have := World.var?_cell gNum hv0 j
    rw [this, ← Array.getElem?_toList]
    exact num_cells hd0 j hj
theorem good_of_laid {W : World} (h : laidMetH Tryd.prog laidP W) : EndAt W ∧ NumAt W := by
  rw [MakeChecks.laidMetH_plain _ _ _ (by kernel_rfl)] at h
  obtain ⟨ps, hv, _⟩ := h
  exact good_of_vars hv
/-- The door's own heap meets the condition. -/
theorem door_met51 (os : Os) (args : Array Value) : laidMetH Tryd.prog laidP ((World.doorLaid Tryd.prog 400 os).forCall (fun _ _ => 0) ⟨#[], args, []⟩).memory :=
  laidMetH_of_parts3 (fuel := 8) (laidMet_of_run' 8 (by kernel_rfl) (by kernel_rfl)) (by kernel_rfl) (by kernel_rfl)
section
variable {H : Type} {enc : TypeId × Value → H}
theorem cells_rfile : Tryd.prog.cellsOf 48 = 2 := by kernel_rfl
set_option maxRecDepth 8000 in
theorem el_rfile {W : World} (n : Nat) (cs : List Value) (z : DataW H × List MemPlace) (h : DataW.trod enc Tryd.prog W 0 (fun _ => true) true n 48 cs = some z) (hw : ∀ m ∈ z.1.weights Tryd.prog 48, m ≤ reachBytes) :
    ∃ y, kFile.K W y cs ∧ (y.data.length ≤ 140737488351232 ∧ y.name.size ≤ 9223372036854775807) := by
  obtain ⟨xs, k, _, rfl, hl, hxl, hf⟩ := DataW.trod_struct Tryd.underlying48 h
  rw [cells_rfile] at hl
  match cs, hl with
  | [c0, c1], _ =>
    match xs, hxl with
    | [y0, y1], _ =>
      have e0 : DataW.trod enc Tryd.prog W 0 (fun _ => true) true k 9 [c0] = some y0 := hf 0 _ rfl
      have e1 : DataW.trod enc Tryd.prog W 0 (fun _ => true) true k 22 [c1] = some y1 := hf 1 _ rfl
      obtain ⟨s, h0, hy0, hs⟩ := DataW.trod_string Tryd.underlying9 e0
      obtain ⟨A, c, l, rfl, h2, h3, h4⟩ := open_bytes Tryd.underlying22 Tryd.underlying5 cells_byte bytes_byte e1 (fun m hm => hw m (weights_agg Tryd.underlying48 (i := 1) rfl rfl hm))
      cases h0
      exact ⟨⟨s, l⟩, ⟨[.string s], [.slice A l.length c], rfl, rfl, ⟨A, c, rfl, h2, h3⟩⟩, h4, by simpa [maxLen] using hs⟩
end
end Go.Proofs.YtoglbbonfjnmpaaDoor
