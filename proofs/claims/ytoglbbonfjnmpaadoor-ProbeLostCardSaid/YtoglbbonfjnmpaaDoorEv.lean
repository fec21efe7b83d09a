/-
  Arguments that come by value: a block, a file of the document's.
-/
import Derived.Test.YtoglbbonfjnmpaaDoorMg51
import Derived.Test.YtoglbbonfjnmpaaDoorFs1
namespace Go.Proofs.YtoglbbonfjnmpaaDoor
open Go.ChangeShapes Go.WideShapes Go.ChangeAt Go.RowKit Go.Proofs.YtoglbbonfjnmpaaDoorW.PrintWords Go.Proofs.YtoglbbonfjnmpaaDoorW.PrintLast Go.Proofs.YtoglbbonfjnmpaaDoorW.PrintMore
set_option linter.unusedVariables false
set_option linter.unusedSimpArgs false

theorem wfn16 {n : Int} (h : (Lit.int .u16 n).wf = true) : ∃ X : Nat, n = (X : Int) ∧ X ≤ 65535 := by
  have h2 : 0 ≤ n ∧ n ≤ 65535 := by simpa [Lit.wf, IntKind.min, IntKind.max, IntKind.bits, IntKind.signed] using h
  exact ⟨n.toNat, by omega, by omega⟩
section
variable {H : Type} {enc : TypeId × Value → H}
theorem okWide_array51 {P : Program} {w : World} {r : Reach} {base : Nat} {v : Value} {t : TypeId} {n : Nat} {e : TypeId} (ht : P.underlying t = some (.array n e)) (h : Value.okWide P w r base t v) : ∃ cs, v = .agg cs ∧ cs.size = P.cellsOf t := by
  unfold Value.okWide at h
  rw [ht] at h
  cases v <;> simp_all
theorem cells_blockv : Tryd.prog.cellsOf 24 = 32 := by kernel_rfl
set_option maxRecDepth 8000 in
theorem open_block {W : World} {base : Nat} {v : Value} {d : DataW H} {p : List MemPlace} (hv : Value.okWide Tryd.prog W .any base 24 v) (h : DataW.Trod enc Tryd.prog W 0 (fun _ => true) true 24 v d p) : ∃ b : List UInt8, b.length = 32 ∧ v = .agg (bytesV b).toArray := by
  obtain ⟨cs, rfl, hcs⟩ := okWide_array51 Tryd.underlying24 hv
  obtain ⟨fuel, h⟩ := h
  obtain ⟨xs, k, _, _, hl, hxl, hf⟩ := DataW.trod_array Tryd.underlying24 h
  rw [cells_blockv] at hl
  have hc : (Value.agg cs).cells.toList = cs.toList := rfl
  rw [hc] at hl hf
  have hone : ∀ i, i < 32 → ∃ y : UInt8, cs.toList[i]? = some (.int .u8 (y.toNat : Int)) := by
    intro i hi
    have hE := hf i hi
    rw [cells_byte, Nat.mul_one, List.getElem?_eq_getElem (by omega)] at hE
    obtain ⟨y, hy, _⟩ := el_byte Tryd.underlying5 _ _ _ hE
    refine ⟨y, ?_⟩
    have hy' : (cs.toList.drop i).take 1 = [.int .u8 (y.toNat : Int)] := hy
    have h0 : ((cs.toList.drop i).take 1)[0]? = some (.int .u8 (y.toNat : Int)) := by rw [hy']; rfl
    simpa using h0
  obtain ⟨l, hll, hl2⟩ := list_of hone
  refine ⟨l, hll, ?_⟩
  have : cs.toList = bytesV l := by
    apply List.ext_getElem?
    intro i
    by_cases hi : i < 32
    · rw [hl2 i hi]
      simp [bytesV, gt_some l i (by omega)]
    · rw [List.getElem?_eq_none (by omega), List.getElem?_eq_none (by simp [bytesV]; omega)]
  rw [← this]
set_option maxRecDepth 8000 in
theorem open_rfile {W : World} {base : Nat} {v : Value} {d : DataW H} {p : List MemPlace} (hv : Value.okWide Tryd.prog W .any base 48 v) (h : DataW.Trod enc Tryd.prog W 0 (fun _ => true) true 48 v d p) (hw : ∀ m ∈ d.weights Tryd.prog 48, m ≤ reachBytes) :
    ∃ (x : File) (A : Option Addr) (c : Nat), v = .agg #[.string x.name, .slice A x.data.length c] ∧ x.data.length ≤ c ∧ byte.C W A x.data.length x.data ∧ x.name.size ≤ 9223372036854775807 := by
  obtain ⟨cs, rfl, hcs⟩ := okWide_struct Tryd.underlying48 hv
  obtain ⟨fuel, h⟩ := h
  obtain ⟨x, hk, _, hn⟩ := el_rfile fuel _ _ h hw
  obtain ⟨A, c, hcl, hlc, hC⟩ := kFile_open hk
  have hc : (Value.agg cs).cells.toList = cs.toList := rfl
  rw [hc] at hcl
  exact ⟨x, A, c, by rw [← hcl], hlc, hC, hn⟩
end
end Go.Proofs.YtoglbbonfjnmpaaDoor
