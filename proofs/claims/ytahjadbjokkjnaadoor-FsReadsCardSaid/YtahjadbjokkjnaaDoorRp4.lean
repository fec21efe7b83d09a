/-
  Chapter 49, plain: what was made is read as it was.
-/
import Derived.Test.YtahjadbjokkjnaaDoorRp3
namespace Go.Proofs.YtahjadbjokkjnaaDoor
open Go.RowKit Go.Proofs.YtahjadbjokkjnaaDoorW.PrintWords Go.Proofs.YtahjadbjokkjnaaDoorW.PrintLast Go.Proofs.YtahjadbjokkjnaaDoorW.PrintMore
set_option linter.unusedVariables false
set_option linter.unusedSimpArgs false

theorem makeB_gt_zero (l : List File) : gt (makeB l) 0 = headB magicB l.length (sumT (tableB l)) := rfl
theorem makeB_gt_tab (l : List File) (i : Nat) (h : i < l.length) : gt (makeB l) (1 + i) = gt (tableB l) i := by
  unfold makeB
  rw [List.cons_append, Nat.add_comm]
  show gt (tableB l ++ (l.map dataB).flatten) i = _
  rw [gt_left _ _ _ (by rw [tableB_len]; exact h)]
theorem drop_gt' {α : Type} [Inhabited α] (b : List α) (k : Nat) (h : k < b.length) : b.drop k = gt b k :: b.drop (k + 1) := by
  rw [List.drop_eq_getElem_cons h, gt_eq b k h]
theorem makeB_gt_data (l : List File) (i k : Nat) (h : i < l.length) (hk : k < manyN (gt l i).data.length) : gt (makeB l) (1 + l.length + blocksTo l i + k) = gt (dataB (gt l i)) k := by
  have e : (l.map dataB).flatten = ((l.take i).map dataB).flatten ++ (dataB (gt l i) ++ ((l.drop (i + 1)).map dataB).flatten) := by
    conv => lhs; rw [← List.take_append_drop i l, drop_gt' l i h]
    rw [List.map_append, List.flatten_append, List.map_cons, List.flatten_cons]
  unfold makeB
  rw [e, List.cons_append, show 1 + l.length + blocksTo l i + k = (l.length + (blocksTo l i + k)) + 1 by omega]
  show gt (tableB l ++ _) _ = _
  rw [gt_right _ _ _ _ (tableB_len l) (by omega), gt_right _ _ _ _ (flat_len l i) (by omega), gt_left _ _ _ (by rw [dataB_len]; omega)]
  congr 1
  omega
theorem entry_split (x : File) (a : Nat) : entryB x a = pad12 (nmL x) ++ ([hi2 x.data.length, lo2 x.data.length] ++ ((if 0 < x.data.length then [hi2 a, lo2 a] else [0, 0]) ++ List.replicate 16 0)) := by
  unfold entryB pad12 nmL
  simp only [List.append_assoc]
theorem pad12_len (s : List UInt8) : (pad12 s).length = 12 := by simp [pad12]
/-- What an entry says. -/
theorem entry_fore (x : File) (a : Nat) (hn : namedB x.name = true) (hd : x.data.length ≤ 256) (ha : a ≤ 65535) : entN (entryB x a) = nmL x ∧ entS (entryB x a) = x.data.length ∧ entGood (entryB x a) a = true := by
  have hnz := named_nz hn
  have hnl : (nmL x).length ≤ 12 := by
    unfold namedB at hn
    simp only [Bool.and_eq_true, decide_eq_true_eq] at hn
    unfold nmL
    rw [← Lib.size_eq]
    exact hn.2
  have hp := pad12_len (nmL x)
  have hsp := entry_split x a
  have ht12 : (entryB x a).take 12 = pad12 (nmL x) := (entry_parts x a).1
  have e12 : gt (entryB x a) 12 = hi2 x.data.length := by rw [hsp, gt_right _ _ _ _ hp (by omega)]; rfl
  have e13 : gt (entryB x a) 13 = lo2 x.data.length := by rw [hsp, gt_right _ _ _ _ hp (by omega)]; rfl
  have eN : entN (entryB x a) = nmL x := by
    unfold entN
    rw [ht12]
    exact pad12_tw _ hnl hnz
  have eS : entS (entryB x a) = x.data.length := by
    unfold entS
    rw [e12, e13]
    exact hilo_to _ (by omega)
  have e16 : (entryB x a).drop 16 = List.replicate 16 0 := by
    rw [hsp]
    split
    · rw [show (pad12 (nmL x) ++ ([hi2 x.data.length, lo2 x.data.length] ++ ([hi2 a, lo2 a] ++ List.replicate 16 0))) = (pad12 (nmL x) ++ [hi2 x.data.length, lo2 x.data.length, hi2 a, lo2 a]) ++ List.replicate 16 0 by simp]
      rw [List.drop_append_of_le_length (by simp [hp]), List.drop_of_length_le (by simp [hp])]
      rfl
    · rw [show (pad12 (nmL x) ++ ([hi2 x.data.length, lo2 x.data.length] ++ ([0, 0] ++ List.replicate 16 (0 : UInt8)))) = (pad12 (nmL x) ++ [hi2 x.data.length, lo2 x.data.length, 0, 0]) ++ List.replicate 16 0 by simp]
      rw [List.drop_append_of_le_length (by simp [hp]), List.drop_of_length_le (by simp [hp])]
      rfl
  have eF : entF (entryB x a) = if entS (entryB x a) = 0 then 0 else a := by
    unfold entF
    rw [eS, hsp, gt_right _ _ _ _ hp (by omega), gt_right _ _ _ _ hp (by omega)]
    by_cases h0 : x.data.length = 0
    · rw [if_pos h0, if_neg (by omega)]
      show (0 : UInt8).toNat * 256 + (0 : UInt8).toNat = 0
      rfl
    · rw [if_neg h0, if_pos (by omega)]
      show (hi2 a).toNat * 256 + (lo2 a).toNat = a
      exact hilo_to _ ha
  have eK : entK (entryB x a) = true := by
    unfold entK
    rw [e16, zerosB_rep, Bool.and_true]
    have : nameK (entryB x a) = (nmL x).length := by
      rw [← eN]
      rfl
    rw [this, ht12, pad12_eq _ hnl, List.drop_append_of_le_length (Nat.le_refl _), List.drop_of_length_le (Nat.le_refl _)]
    exact zerosB_rep _
  refine ⟨eN, eS, ?_⟩
  unfold entGood
  rw [eK, eF, eS, decide_eq_true hd]
  simp
/-- WHAT WAS MADE IS READ AS IT WAS. -/
theorem made_read {tell : Nat → List UInt8} (hl : ∀ n, (tell n).length = 32) {l : List File} (h8 : l.length ≤ 8) (ht : togB l = true) (h : ∀ i, i < (makeB l).length → tell i = gt (makeB l) i) : readB tell = some l := by
  have hml := makeB_size l
  have hb8 : ∀ i, i ≤ l.length → blocksTo l i ≤ 8 * i := fun i hi => blocksTo_le ht i hi
  have hmono : ∀ i, i < l.length → blocksTo l i + manyN (gt l i).data.length ≤ blocksTo l l.length := by
    intro i hi
    have : ∀ d, i + 1 + d ≤ l.length → blocksTo l (i + 1) ≤ blocksTo l (i + 1 + d) := by
      intro d
      induction d with
      | zero => intro _; exact Nat.le_refl _
      | succ d ih =>
        intro hd
        rw [show i + 1 + (d + 1) = (i + 1 + d) + 1 by omega, blocksTo_succ l (i + 1 + d) (by omega)]
        have := ih (by omega)
        omega
    have h1 := this (l.length - (i + 1)) (by omega)
    rw [show i + 1 + (l.length - (i + 1)) = l.length by omega, blocksTo_succ l i hi] at h1
    exact h1
  have h0 : tell 0 = headB magicB l.length (sumT (tableB l)) := by rw [h 0 (by omega), makeB_gt_zero]
  obtain ⟨k1, k2, k3⟩ := head_fore l.length (sumT (tableB l)) h8 (sumT_le _)
  rw [← h0] at k1 k2 k3
  have hT : tableT tell l.length = tableB l := by
    apply ext_gt
    · rw [tableT_len, tableB_len]
    · intro i hi
      rw [tableT_len] at hi
      rw [tableT_gt _ _ _ hi, h (1 + i) (by omega), makeB_gt_tab l i hi]
  have hent : ∀ i, i < l.length → entN (gt (tableB l) i) = nmL (gt l i) ∧ entS (gt (tableB l) i) = (gt l i).data.length ∧ entGood (gt (tableB l) i) (1 + l.length + blocksTo l i) = true := fun i hi => by
    rw [tableB_gt l i hi]
    have := hb8 i (by omega)
    exact entry_fore _ _ (tog_named ht i hi) (tog_right ht i hi).2 (by omega)
  have hfirst : ∀ i, i ≤ l.length → firstT (tableB l) i = 1 + l.length + blocksTo l i := by
    intro i
    induction i with
    | zero => intro _; rw [blocksTo_zero, firstT_zero, tableB_len, Nat.add_zero]
    | succ i ih =>
      intro hi
      rw [firstT_succ _ i (by rw [tableB_len]; omega), ih (by omega), blocksTo_succ l i (by omega), (hent i (by omega)).2.1]
      omega
  have hgood : goodTo (tableB l) l.length = true := by
    unfold goodTo
    rw [List.all_eq_true]
    intro i hi
    have hi := List.mem_range.1 hi
    rw [hfirst i (by omega)]
    exact (hent i hi).2.2
  have hnm : ∀ i, i < l.length → (nameF (gt (tableB l) i)).name = (gt l i).name := fun i hi => name_ext (hent i hi).1
  have htog : togB ((tableB l).map nameF) = true := by
    rw [← ht]
    refine tog_face (by simp [tableB_len]) (fun k hk => ?_) (fun k hk => ?_) (fun k hk => ?_)
    · rw [List.length_map, tableB_len] at hk
      rw [gt_eq ((tableB l).map nameF) k (by simpa [tableB_len] using hk), List.getElem_map, ← gt_eq (tableB l) k (by rw [tableB_len]; exact hk)]
      exact hnm k hk
    · rw [gt_eq _ _ hk, List.getElem_map]
      exact Nat.zero_le _
    · rw [List.length_map, tableB_len] at hk
      exact (tog_right ht k hk).2
  have hdat : ∀ i, i < l.length → (dataI tell (tableB l) i).take (entS (gt (tableB l) i)) = (gt l i).data ∧ zerosB ((dataI tell (tableB l) i).drop (entS (gt (tableB l) i))) = true := fun i hi => by
    unfold dataI
    rw [hfirst i (by omega), (hent i hi).2.1]
    refine data_fore tell hl _ _ (fun k hk => ?_)
    have := hmono i hi
    rw [h _ (by omega), makeB_gt_data l i k hi hk]
  have hrest : restTo tell (tableB l) l.length = true := by
    unfold restTo
    rw [List.all_eq_true]
    intro i hi
    exact (hdat i (List.mem_range.1 hi)).2
  have hfiles : filesTo tell (tableB l) l.length = l := by
    apply ext_gt
    · rw [filesTo_len, tableB_len]
    · intro i hi
      rw [filesTo_len, tableB_len] at hi
      rw [filesTo_gt _ _ _ _ (by rw [tableB_len]; exact hi), if_pos hi]
      have e1 := hnm i hi
      have e2 := (hdat i hi).1
      cases hx : gt l i
      rw [hx] at e1 e2
      unfold fileT
      rw [e2]
      simp only at e1
      rw [← e1]
      rfl
  unfold readB
  rw [k2, hT, k3, k1, hgood, htog, hrest, hfiles, if_pos rfl, if_pos rfl, if_pos rfl, if_pos rfl, if_pos rfl]
end Go.Proofs.YtahjadbjokkjnaaDoor
