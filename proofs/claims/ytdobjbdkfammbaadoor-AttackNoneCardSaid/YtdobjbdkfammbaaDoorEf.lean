/-
  Chapter 55: the elements of a slice of the document's files.
-/
import Derived.Test.YtdobjbdkfammbaaDoorMagic
namespace Go.Proofs.YtdobjbdkfammbaaDoor
open Go.ChangeShapes Go.WideShapes Go.ChangeAt Go.RowKit Go.Proofs.YtdobjbdkfammbaaDoorW.PrintWords Go.Proofs.YtdobjbdkfammbaaDoorW.PrintLast Go.Proofs.YtdobjbdkfammbaaDoorW.PrintMore
set_option linter.unusedVariables false
set_option linter.unusedSimpArgs false

section
variable {H : Type} {enc : TypeId × Value → H}
theorem cells_rfile : Tryd.prog.cellsOf 64 = 2 := by kernel_rfl
set_option maxRecDepth 8000 in
theorem el_rfile {W : World} (n : Nat) (cs : List Value) (z : DataW H × List MemPlace) (h : DataW.trod enc Tryd.prog W 0 (fun _ => true) true n 64 cs = some z) (hw : ∀ m ∈ z.1.weights Tryd.prog 64, m ≤ reachBytes) :
    ∃ y, kFile.K W y cs ∧ (y.data.length ≤ 140737488351232 ∧ y.name.size ≤ 9223372036854775807) := by
  obtain ⟨xs, k, _, rfl, hl, hxl, hf⟩ := DataW.trod_struct Tryd.underlying64 h
  rw [cells_rfile] at hl
  match cs, hl with
  | [c0, c1], _ =>
    match xs, hxl with
    | [y0, y1], _ =>
      have e0 : DataW.trod enc Tryd.prog W 0 (fun _ => true) true k 9 [c0] = some y0 := hf 0 _ rfl
      have e1 : DataW.trod enc Tryd.prog W 0 (fun _ => true) true k 54 [c1] = some y1 := hf 1 _ rfl
      obtain ⟨s, h0, hy0, hs⟩ := DataW.trod_string Tryd.underlying9 e0
      obtain ⟨A, c, l, rfl, h2, h3, h4⟩ := open_bytes Tryd.underlying54 Tryd.underlying5 cells_byte bytes_byte e1 (fun m hm => hw m (weights_agg Tryd.underlying64 (i := 1) rfl rfl hm))
      cases h0
      exact ⟨⟨s, l⟩, ⟨[.string s], [.slice A l.length c], rfl, rfl, ⟨A, c, rfl, h2, h3⟩⟩, h4, by simpa [maxLen] using hs⟩
end
end Go.Proofs.YtdobjbdkfammbaaDoor
