/-
  Chapter 49, plain: what is read has just this disk.
-/
import Derived.Test.YtahjadbjokkjnaaDoorRp2
namespace Go.Proofs.YtahjadbjokkjnaaDoor
open Go.RowKit Go.Proofs.YtahjadbjokkjnaaDoorW.PrintWords Go.Proofs.YtahjadbjokkjnaaDoorW.PrintLast Go.Proofs.YtahjadbjokkjnaaDoorW.PrintMore
set_option linter.unusedVariables false
set_option linter.unusedSimpArgs false

/-- Files of the same names, none of them too long, are together alike. -/
theorem tog_face {l m : List File} (hl : l.length = m.length) (hn : ∀ k, k < l.length → (gt l k).name = (gt m k).name) (h1 : ∀ k, k < l.length → (gt l k).data.length ≤ 256) (h2 : ∀ k, k < l.length → (gt m k).data.length ≤ 256) : togB l = togB m := by
  have hnm : l.map nmL = m.map nmL := by
    apply ext_gt
    · simpa using hl
    · intro i hi
      rw [List.length_map] at hi
      have := hn i hi
      rw [gt_eq _ _ (by simpa using hi), gt_eq _ _ (by simpa using hl ▸ hi)]
      rw [gt_eq _ _ hi, gt_eq _ _ (by omega)] at this
      simp [nmL, this]
  have : ∀ k, k ≤ l.length → togTo l k = togTo m k := by
    intro k
    induction k with
    | zero => intro _; rfl
    | succ k ih =>
      intro hk
      have e1 : (l.take k).map nmL = (m.take k).map nmL := by rw [List.map_take, List.map_take, hnm]
      have e2 := hn k (by omega)
      unfold togTo
      rw [ih (by omega), e1]
      unfold rightB nmL
      rw [e2, decide_eq_true (h1 k (by omega)), decide_eq_true (h2 k (by omega))]
  unfold togB
  rw [← hl]
  exact this l.length (Nat.le_refl _)
theorem blocksTo_succ (l : List File) (k : Nat) (hk : k < l.length) : blocksTo l (k + 1) = blocksTo l k + manyN (gt l k).data.length := by
  unfold blocksTo
  rw [List.take_add_one, gt_some l k hk, List.map_append, List.sum_append]
  simp
theorem blocksTo_zero (l : List File) : blocksTo l 0 = 0 := by simp [blocksTo]
theorem flat_len (l : List File) (k : Nat) : (((l.take k).map dataB).flatten).length = blocksTo l k := by
  unfold blocksTo
  simp only [List.length_flatten, List.map_map]
  congr 1
  apply List.map_congr_left
  intro x _
  simp [dataB]
theorem makeB_size (l : List File) : (makeB l).length = 1 + l.length + blocksTo l l.length := by
  have h := flat_len l l.length
  rw [List.take_of_length_le (Nat.le_refl _)] at h
  unfold makeB
  rw [List.cons_append, List.length_cons, List.length_append, h]
  simp only [tableB, List.length_map, List.length_range]
  omega
theorem tableB_len (l : List File) : (tableB l).length = l.length := by simp [tableB]
theorem tableB_gt (l : List File) (i : Nat) (h : i < l.length) : gt (tableB l) i = entryB (gt l i) (1 + l.length + blocksTo l i) := by
  rw [gt_eq _ _ (by rw [tableB_len]; exact h)]
  simp [tableB]
theorem nameF_nm (b : List UInt8) : nmL (nameF b) = entN b := rfl
theorem readB_some {tell : Nat → List UInt8} {l : List File} (h : readB tell = some l) : headOK (tell 0) = true ∧ (gt (tell 0) 6).toNat * 256 + (gt (tell 0) 7).toNat = sumT (tableT tell (gt (tell 0) 5).toNat) ∧ goodTo (tableT tell (gt (tell 0) 5).toNat) (gt (tell 0) 5).toNat = true ∧
    togB ((tableT tell (gt (tell 0) 5).toNat).map nameF) = true ∧ restTo tell (tableT tell (gt (tell 0) 5).toNat) (gt (tell 0) 5).toNat = true ∧ l = filesTo tell (tableT tell (gt (tell 0) 5).toNat) (gt (tell 0) 5).toNat := by
  unfold readB at h
  split at h
  · next h1 =>
    split at h
    · next h2 =>
      split at h
      · next h3 =>
        split at h
        · next h4 =>
          split at h
          · next h5 => exact ⟨h1, h2, h3, h4, h5, (Option.some.inj h).symm⟩
          · cases h
        · cases h
      · cases h
    · cases h
  · cases h
theorem goodTo_at {T : List (List UInt8)} {n : Nat} (h : goodTo T n = true) (i : Nat) (hi : i < n) : entGood (gt T i) (firstT T i) = true := by
  unfold goodTo at h
  exact List.all_eq_true.1 h i (List.mem_range.2 hi)
theorem restTo_at {tell : Nat → List UInt8} {T : List (List UInt8)} {n : Nat} (h : restTo tell T n = true) (i : Nat) (hi : i < n) : zerosB ((dataI tell T i).drop (entS (gt T i))) = true := by
  unfold restTo at h
  exact List.all_eq_true.1 h i (List.mem_range.2 hi)
/-- WHAT IS READ HAS JUST THIS DISK. -/
theorem read_made {tell : Nat → List UInt8} (hl : ∀ n, (tell n).length = 32) {l : List File} (h : readB tell = some l) :
    l.length ≤ 8 ∧ togB l = true ∧ makeB l = tellN tell (makeB l).length ∧ (makeB l).length = firstT (tableT tell (gt (tell 0) 5).toNat) (gt (tell 0) 5).toNat := by
  obtain ⟨h1, h2, h3, h4, h5, h6⟩ := readB_some h
  obtain ⟨n, hn⟩ : ∃ n, n = (gt (tell 0) 5).toNat := ⟨_, rfl⟩
  rw [← hn] at h2 h3 h4 h5 h6 ⊢
  obtain ⟨T, hT⟩ : ∃ T, T = tableT tell n := ⟨_, rfl⟩
  rw [← hT] at h2 h3 h4 h5 h6 ⊢
  have hTl : T.length = n := by rw [hT, tableT_len]
  have hTg : ∀ i, i < n → gt T i = tell (1 + i) := fun i hi => by rw [hT, tableT_gt _ _ _ hi]
  have hn8 : n ≤ 8 := by
    have := h1
    unfold headOK at this
    simp only [Bool.and_eq_true, decide_eq_true_eq] at this
    rw [hn]; exact this.2.1
  have hll : l.length = n := by rw [h6, filesTo_len, hTl]
  have hlg : ∀ i, i < n → gt l i = fileT tell T i := fun i hi => by rw [h6, filesTo_gt _ _ _ _ (by omega), if_pos hi]
  have hsz : ∀ i, i < n → entS (gt T i) ≤ 256 := fun i hi => goodTo_size h3 i hi
  have hdl : ∀ i, i < n → (gt l i).data.length = entS (gt T i) := fun i hi => by
    rw [hlg i hi]
    show ((dataI tell T i).take (entS (gt T i))).length = _
    unfold dataI
    rw [List.length_take, dataT_len tell hl]
    unfold manyN
    omega
  have hfirst : ∀ i, i ≤ n → 1 + n + blocksTo l i = firstT T i := by
    intro i
    induction i with
    | zero => intro _; rw [blocksTo_zero, firstT_zero, hTl, Nat.add_zero]
    | succ i ih =>
      intro hi
      rw [blocksTo_succ l i (by omega), firstT_succ T i (by omega), ← ih (by omega), hdl i (by omega)]
      omega
  have hmk : (makeB l).length = firstT T n := by rw [makeB_size, hll, hfirst n (Nat.le_refl _)]
  have htab : tableB l = T := by
    apply ext_gt
    · rw [tableB_len]; omega
    · intro i hi
      rw [tableB_len, hll] at hi
      rw [tableB_gt l i (by omega), hll, hfirst i (by omega)]
      refine entry_back _ (by rw [hTg i hi]; exact hl _) _ (goodTo_at h3 i hi) _ ?_ (hdl i hi)
      rw [hlg i hi]
      rfl
  have hdat : ∀ i, i < n → dataB (gt l i) = tellN (fun j => tell (firstT T i + j)) (manyN (entS (gt T i))) := fun i hi => by
    refine data_back tell hl _ _ _ ?_ (restTo_at h5 i hi)
    rw [hlg i hi]
    rfl
  have hflat : ∀ i, i ≤ n → ((l.take i).map dataB).flatten = tellN (fun j => tell (1 + n + j)) (blocksTo l i) := by
    intro i
    induction i with
    | zero => intro _; rw [blocksTo_zero]; rfl
    | succ i ih =>
      intro hi
      rw [List.take_add_one, gt_some l i (by omega), List.map_append, List.flatten_append, ih (by omega), blocksTo_succ l i (by omega), tellN_add, hdl i (by omega)]
      congr 1
      show ([dataB (gt l i)]).flatten = _
      rw [List.flatten_cons, List.flatten_nil, List.append_nil, hdat i (by omega), ← hfirst i (by omega)]
      unfold tellN
      apply List.map_congr_left
      intro j _
      show tell _ = tell _
      congr 1
      omega
  have hall := hflat n (Nat.le_refl _)
  rw [List.take_of_length_le (by omega)] at hall
  refine ⟨by omega, ?_, ?_, hmk⟩
  · rw [← h4]
    refine tog_face (by simp; omega) (fun k hk => ?_) (fun k hk => by rw [hdl k (by omega)]; exact hsz k (by omega)) (fun k hk => ?_)
    · rw [hlg k (by omega), gt_eq (T.map nameF) k (by simp; omega), List.getElem_map, ← gt_eq T k (by omega)]
      rfl
    · rw [gt_eq (T.map nameF) k (by simp; omega), List.getElem_map]
      exact Nat.zero_le _
  · rw [makeB_size, hll, tellN_add, tellN_add]
    unfold makeB
    rw [hall, htab, hll, head_back (tell 0) (hl 0) h1 n _ hn h2, hT]
    rfl
end Go.Proofs.YtahjadbjokkjnaaDoor
