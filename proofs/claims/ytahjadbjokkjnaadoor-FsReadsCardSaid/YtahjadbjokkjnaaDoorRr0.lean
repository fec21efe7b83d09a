/-
  Chapter 49, the document's Read, plain: it reads what fs.Read reads.
-/
import Derived.Test.YtahjadbjokkjnaaDoorRp4
namespace Go.Proofs.YtahjadbjokkjnaaDoor
open Go.RowKit Go.Proofs.YtahjadbjokkjnaaDoorW.PrintWords Go.Proofs.YtahjadbjokkjnaaDoorW.PrintLast Go.Proofs.YtahjadbjokkjnaaDoorW.PrintMore
set_option linter.unusedVariables false
set_option linter.unusedSimpArgs false

/-- What tells the blocks of a list. -/
def tellR (L : List (List UInt8)) (n : Nat) : List UInt8 := if n < L.length then gt L n else zeroB
theorem tellR_len {L : List (List UInt8)} (h : ∀ i, i < L.length → (gt L i).length = 32) (n : Nat) : (tellR L n).length = 32 := by
  unfold tellR
  split
  · next hn => exact h n hn
  · rfl
/-- The first k bytes of a file whose data begin at a block. -/
def refD (tell : Nat → List UInt8) (first k : Nat) : List UInt8 := (List.range k).map (fun j => gt (tell (first + j / 32)) (j % 32))
theorem refD_succ (tell : Nat → List UInt8) (first k : Nat) : refD tell first (k + 1) = refD tell first k ++ [gt (tell (first + k / 32)) (k % 32)] := by
  unfold refD
  rw [List.range_succ, List.map_append]
  rfl
theorem refD_len (tell : Nat → List UInt8) (first k : Nat) : (refD tell first k).length = k := by simp [refD]
def refF (tell : Nat → List UInt8) (b : List UInt8) : File := ⟨⟨(entN b).toArray⟩, refD tell (entF b) (entS b)⟩
def refTo (tell : Nat → List UInt8) (i : Nat) : List File := (List.range i).map (fun j => refF tell (tell (1 + j)))
theorem refTo_succ (tell : Nat → List UInt8) (i : Nat) : refTo tell (i + 1) = refTo tell i ++ [refF tell (tell (1 + i))] := by
  unfold refTo
  rw [List.range_succ, List.map_append]
  rfl
theorem refTo_len (tell : Nat → List UInt8) (i : Nat) : (refTo tell i).length = i := by simp [refTo]
theorem refTo_gt (tell : Nat → List UInt8) (i j : Nat) (h : j < i) : gt (refTo tell i) j = refF tell (tell (1 + j)) := by
  rw [gt_eq _ _ (by rw [refTo_len]; exact h)]
  simp [refTo]
/-- No file of the first i is too long. -/
def refOK (tell : Nat → List UInt8) (i : Nat) : Bool := (List.range i).all (fun j => decide (entS (tell (1 + j)) ≤ 256))
theorem refOK_succ (tell : Nat → List UInt8) (i : Nat) : refOK tell (i + 1) = (refOK tell i && decide (entS (tell (1 + i)) ≤ 256)) := by
  unfold refOK
  rw [List.range_succ, List.all_append]
  simp
theorem refOK_false {tell : Nat → List UInt8} {j n : Nat} (h : ¬ entS (tell (1 + j)) ≤ 256) (hj : j < n) : refOK tell n = false := by
  unfold refOK
  rw [Bool.eq_false_iff]
  intro ha
  exact h (of_decide_eq_true (List.all_eq_true.1 ha j (List.mem_range.2 hj)))
/-- The first i blocks of a disk are the told ones. -/
def refSame (tell : Nat → List UInt8) (B : List (List UInt8)) (i : Nat) : Bool := (List.range i).all (fun j => decide (gt B j = tell j))
theorem refSame_succ (tell : Nat → List UInt8) (B : List (List UInt8)) (i : Nat) : refSame tell B (i + 1) = (refSame tell B i && decide (gt B i = tell i)) := by
  unfold refSame
  rw [List.range_succ, List.all_append]
  simp
theorem refSame_false {tell : Nat → List UInt8} {B : List (List UInt8)} {j n : Nat} (h : ¬ gt B j = tell j) (hj : j < n) : refSame tell B n = false := by
  unfold refSame
  rw [Bool.eq_false_iff]
  intro ha
  exact h (of_decide_eq_true (List.all_eq_true.1 ha j (List.mem_range.2 hj)))
theorem refSame_iff (tell : Nat → List UInt8) (B : List (List UInt8)) (i : Nat) : refSame tell B i = true ↔ ∀ j, j < i → gt B j = tell j := by
  unfold refSame
  rw [List.all_eq_true]
  exact ⟨fun h j hj => of_decide_eq_true (h j (List.mem_range.2 hj)), fun h j hj => decide_eq_true (h j (List.mem_range.1 hj))⟩
/-- What the document's Read reads. -/
def refR (tell : Nat → List UInt8) : Option (List File) :=
  if (gt (tell 0) 5).toNat ≤ 8 then
    if refOK tell (gt (tell 0) 5).toNat = true then
      if togB (refTo tell (gt (tell 0) 5).toNat) = true then
        if refSame tell (makeB (refTo tell (gt (tell 0) 5).toNat)) (makeB (refTo tell (gt (tell 0) 5).toNat)).length = true then
          some (refTo tell (gt (tell 0) 5).toNat)
        else none
      else none
    else none
  else none
theorem ref_fore {tell : Nat → List UInt8} {l : List File} (h8 : l.length ≤ 8) (ht : togB l = true) (h : ∀ i, i < (makeB l).length → tell i = gt (makeB l) i) : refR tell = some l := by
  have hml := makeB_size l
  have hb8 : ∀ i, i ≤ l.length → blocksTo l i ≤ 8 * i := fun i hi => blocksTo_le ht i hi
  have hmono : ∀ i, i < l.length → blocksTo l i + manyN (gt l i).data.length ≤ blocksTo l l.length := by
    intro i hi
    have : ∀ d, i + 1 + d ≤ l.length → blocksTo l (i + 1) ≤ blocksTo l (i + 1 + d) := by
      intro d
      induction d with
      | zero => intro _; exact Nat.le_refl _
      | succ d ih =>
        intro hd
        refine Nat.le_trans (ih (by omega)) ?_
        rw [show i + 1 + (d + 1) = (i + 1 + d) + 1 by omega, blocksTo_succ l (i + 1 + d) (by omega)]
        omega
    have h1 := this (l.length - (i + 1)) (by omega)
    rw [show i + 1 + (l.length - (i + 1)) = l.length by omega, blocksTo_succ l i hi] at h1
    exact h1
  have h0 : tell 0 = headB magicB l.length (sumT (tableB l)) := by
    rw [h 0 (by omega)]
    rfl
  have hn : (gt (tell 0) 5).toNat = l.length := by
    rw [h0]
    exact (head_fore l.length (sumT (tableB l)) h8 (sumT_le _)).2.1
  have hT : ∀ i, i < l.length → tell (1 + i) = entryB (gt l i) (1 + l.length + blocksTo l i) := fun i hi => by
    rw [h (1 + i) (by omega), makeB_gt_tab l i hi, tableB_gt l i hi]
  have hent : ∀ i, i < l.length → entN (tell (1 + i)) = nmL (gt l i) ∧ entS (tell (1 + i)) = (gt l i).data.length ∧ entGood (tell (1 + i)) (1 + l.length + blocksTo l i) = true := fun i hi => by
    rw [hT i hi]
    have := hb8 i (by omega)
    exact entry_fore _ _ (tog_named ht i hi) (tog_right ht i hi).2 (by omega)
  have hok : refOK tell l.length = true := by
    unfold refOK
    rw [List.all_eq_true]
    intro i hi
    have hi := List.mem_range.1 hi
    rw [(hent i hi).2.1]
    exact decide_eq_true (tog_right ht i hi).2
  have hto : refTo tell l.length = l := by
    apply ext_gt
    · rw [refTo_len]
    · intro i hi
      rw [refTo_len] at hi
      rw [refTo_gt _ _ _ hi]
      obtain ⟨e1, e2, e3⟩ := hent i hi
      have hf : entF (tell (1 + i)) = if (gt l i).data.length = 0 then 0 else 1 + l.length + blocksTo l i := by
        unfold entGood at e3
        simp only [Bool.and_eq_true, decide_eq_true_eq] at e3
        rw [e3.2.2, e2]
      have hd : refD tell (entF (tell (1 + i))) (entS (tell (1 + i))) = (gt l i).data := by
        rw [e2]
        apply ext_gt
        · rw [refD_len]
        · intro j hj
          rw [refD_len] at hj
          rw [gt_eq _ _ (by rw [refD_len]; exact hj)]
          simp only [refD, List.getElem_map, List.getElem_range]
          rw [hf, if_neg (by omega)]
          have hq : j / 32 < manyN (gt l i).data.length := by unfold manyN; omega
          have := hmono i hi
          rw [h _ (by omega), makeB_gt_data l i (j / 32) hi hq, dataB_gt _ j hj]
      unfold refF
      rw [hd, e1]
      cases gt l i
      rfl
  unfold refR
  rw [hn, if_pos h8, if_pos hok, hto, if_pos ht, if_pos ((refSame_iff _ _ _).2 (fun j hj => (h j hj).symm))]
/-- The document reads just what fs.Read reads. -/
theorem ref_read {tell : Nat → List UInt8} (hl : ∀ n, (tell n).length = 32) : refR tell = readB tell := by
  cases hr : readB tell with
  | some l =>
    obtain ⟨h8, ht, hm, _⟩ := read_made hl hr
    exact ref_fore h8 ht (fun i hi => by rw [hm, tellN_gt _ _ _ hi])
  | none =>
    cases hf : refR tell with
    | none => rfl
    | some out =>
      unfold refR at hf
      split at hf
      · next h8 =>
        split at hf
        · next hok =>
          split at hf
          · next ht =>
            split at hf
            · next hs =>
              have h1 := made_read hl (by rw [refTo_len]; exact h8) ht (fun i hi => ((refSame_iff _ _ _).1 hs i hi).symm)
              rw [hr] at h1
              cases h1
            · cases hf
          · cases hf
        · cases hf
      · cases hf
end Go.Proofs.YtahjadbjokkjnaaDoor
