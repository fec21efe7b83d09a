/-
  The elements of a slice of blocks, read off the row's reading.
-/
import Derived.Test.YtahjadbjokkjnaaDoorMagic
namespace Go.Proofs.YtahjadbjokkjnaaDoor
open Go.RowKit Go.ChangeShapes Go.WideShapes Go.ChangeAt Go.Proofs.YtahjadbjokkjnaaDoorW.PrintWords Go.Proofs.YtahjadbjokkjnaaDoorW.PrintLast Go.Proofs.YtahjadbjokkjnaaDoorW.PrintMore
set_option linter.unusedVariables false
set_option linter.unusedSimpArgs false

section
variable {H : Type} {enc : TypeId × Value → H}
theorem cells_block : Tryd.prog.cellsOf 40 = 32 := by kernel_rfl
theorem el_block {W : World} (n : Nat) (cs : List Value) (z : DataW H × List MemPlace) (h : DataW.trod enc Tryd.prog W 0 (fun _ => true) true n 40 cs = some z) : ∃ y, kBlock.K W y cs ∧ True := by
  obtain ⟨xs, k, _, rfl, hl, hxl, hf⟩ := DataW.trod_array Tryd.underlying40 h
  rw [cells_block] at hl
  have hone : ∀ i, i < 32 → ∃ y : UInt8, cs[i]? = some (.int .u8 (y.toNat : Int)) := by
    intro i hi
    have hE := hf i hi
    rw [cells_byte, Nat.mul_one, List.getElem?_eq_getElem (by omega)] at hE
    obtain ⟨y, hy, _⟩ := el_byte Tryd.underlying5 _ _ _ hE
    refine ⟨y, ?_⟩
    have hy' : (cs.drop i).take 1 = [.int .u8 (y.toNat : Int)] := hy
    have h0 : ((cs.drop i).take 1)[0]? = some (.int .u8 (y.toNat : Int)) := by rw [hy']; rfl
    simpa using h0
  obtain ⟨l, hll, hl2⟩ := list_of hone
  refine ⟨l, ⟨hll, ?_⟩, trivial⟩
  have hcs : cs = encs (fun x : UInt8 => Value.int .u8 (x.toNat : Int)) l := by
    rw [encs_bytes]
    apply List.ext_getElem?
    intro i
    by_cases hi : i < 32
    · rw [hl2 i hi]
      simp [bytesV, gt_some l i (by omega)]
    · rw [List.getElem?_eq_none (by omega), List.getElem?_eq_none (by rw [bytesV_len]; omega)]
  rw [hcs]
  exact Kd.reps_scalar l
end
end Go.Proofs.YtahjadbjokkjnaaDoor
