/-
  Chapter 51: a well-known beginning that is lost is seen. Plain.
-/
import Derived.Test.YtoglbbonfjnmpaaDoorPn
namespace Go.Proofs.YtoglbbonfjnmpaaDoor
open Go.RowKit Go.Proofs.YtoglbbonfjnmpaaDoorW.PrintWords Go.Proofs.YtoglbbonfjnmpaaDoorW.PrintLast Go.Proofs.YtoglbbonfjnmpaaDoorW.PrintMore
set_option linter.unusedVariables false
set_option linter.unusedSimpArgs false

/-- The name of a file that has an ending. -/
def lostNm (q : Nat) : ByteArray := ⟨#[120, 46]⟩ ++ gt endL q
theorem lost_end (q : Nat) (hq : q < 4) : endB (lostNm q) = gt endL q ∧ kindOf (gt endL q) = (q : Int) := by
  rcases (show q = 0 ∨ q = 1 ∨ q = 2 ∨ q = 3 by omega) with rfl | rfl | rfl | rfl <;> exact ⟨by decide +kernel, by decide +kernel⟩
theorem lost_state (q : Nat) (hq : q < 4) (data : List UInt8) (hd : 4 ≤ data.length) : stateB ⟨lostNm q, data⟩ = if begB data (magicK q) then 1 else 2 := by
  obtain ⟨h1, h2⟩ := lost_end q hq
  unfold stateB
  rw [h1, h2, if_neg (by simp; omega)]
  simp
theorem beg_app (a b : List UInt8) : begB (a ++ b) a = true := by
  unfold begB
  exact decide_eq_true ⟨by simp, by simp⟩
theorem lost_look (F : List File) (q k : Nat) (hq : q < 4) (hF : ∀ j, j < F.length → (gt F j).name ≠ lostNm q) (data : List UInt8) (hd : 4 ≤ data.length) (hb : begB data (magicK q) = false) :
    (lookB (F.take k ++ ([⟨lostNm q, magicK q ++ data⟩] ++ F.drop k)) (F ++ [⟨lostNm q, data⟩]) true).a = true := by
  have hfind : look49 (F.take k ++ ([⟨lostNm q, magicK q ++ data⟩] ++ F.drop k)) (lostNm q) = some ⟨lostNm q, magicK q ++ data⟩ := by
    rw [look_dec, List.find?_append]
    have h1 : List.find? (fun f => decide (f.name = lostNm q)) (F.take k) = none := by
      rw [List.find?_eq_none]
      intro f hf
      obtain ⟨j, hj, rfl⟩ := List.getElem_of_mem (List.mem_of_mem_take hf)
      have := hF j hj
      rw [gt_eq F j hj] at this
      simpa using this
    rw [h1]
    simp
  have hl : (lkTo (F.take k ++ ([⟨lostNm q, magicK q ++ data⟩] ++ F.drop k)) (F ++ [⟨lostNm q, data⟩]) true (F ++ [(⟨lostNm q, data⟩ : File)]).length).brk = true := by
    rw [lkTo_all, List.foldl_append]
    show (lkStep _ _ ⟨lostNm q, data⟩).brk = true
    unfold lkStep
    rw [show (⟨lostNm q, data⟩ : File).name = lostNm q from rfl, hfind]
    show (lkWith _ _ _).brk = true
    unfold lkWith
    have s1 : stateB ⟨lostNm q, data⟩ = 2 := by rw [lost_state q hq data hd, hb]; rfl
    have s2 : stateB ⟨lostNm q, magicK q ++ data⟩ = 1 := by rw [lost_state q hq _ (by simp; omega), beg_app]; rfl
    simp [s1, s2]
  unfold lookB
  exact hl
end Go.Proofs.YtoglbbonfjnmpaaDoor
