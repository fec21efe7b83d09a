/-
  Chapter 49, plain: a block of a disk that isn't told.
-/
import Derived.Test.YtahjadbjokkjnaaDoorLb
namespace Go.Proofs.YtahjadbjokkjnaaDoor
open Go.RowKit Go.Proofs.YtahjadbjokkjnaaDoorW.PrintWords Go.Proofs.YtahjadbjokkjnaaDoorW.PrintLast Go.Proofs.YtahjadbjokkjnaaDoorW.PrintMore
set_option linter.unusedVariables false
set_option linter.unusedSimpArgs false

/-- A file whose k-th block (its first is the a-th) is noughts. -/
def hideF (k a : Nat) (x : File) : File := ⟨x.name, (List.range x.data.length).map (fun j => if a + j / 32 = k then 0 else gt x.data j)⟩
theorem hideF_len (k a : Nat) (x : File) : (hideF k a x).data.length = x.data.length := by simp [hideF]
theorem hideF_gt (k a : Nat) (x : File) (j : Nat) (h : j < x.data.length) : gt (hideF k a x).data j = if a + j / 32 = k then 0 else gt x.data j := by
  rw [gt_eq _ _ (by rw [hideF_len]; exact h)]
  simp [hideF]
def hideL (k : Nat) (l : List File) : List File := (List.range l.length).map (fun i => hideF k (1 + l.length + blocksTo l i) (gt l i))
theorem hideL_len (k : Nat) (l : List File) : (hideL k l).length = l.length := by simp [hideL]
theorem hideL_gt (k : Nat) (l : List File) (i : Nat) (h : i < l.length) : gt (hideL k l) i = hideF k (1 + l.length + blocksTo l i) (gt l i) := by
  rw [gt_eq _ _ (by rw [hideL_len]; exact h)]
  simp [hideL]
theorem hideL_blocks (k : Nat) (l : List File) : ∀ i, i ≤ l.length → blocksTo (hideL k l) i = blocksTo l i := by
  intro i
  induction i with
  | zero => intro _; rw [blocksTo_zero, blocksTo_zero]
  | succ i ih =>
    intro hi
    rw [blocksTo_succ _ _ (by rw [hideL_len]; omega), blocksTo_succ _ _ (by omega), ih (by omega), hideL_gt k l i (by omega), hideF_len]
theorem hideL_table (k : Nat) (l : List File) : tableB (hideL k l) = tableB l := by
  apply ext_gt
  · rw [tableB_len, tableB_len, hideL_len]
  · intro i hi
    rw [tableB_len, hideL_len] at hi
    rw [tableB_gt _ _ (by rw [hideL_len]; exact hi), tableB_gt _ _ hi, hideL_len, hideL_blocks k l i (by omega), hideL_gt k l i hi]
    unfold entryB
    rw [hideF_len]
    rfl
theorem gt_rep (n j : Nat) (h : j < n) : gt (List.replicate n (0 : UInt8)) j = 0 := by
  rw [gt_eq _ _ (by rw [List.length_replicate]; exact h), List.getElem_replicate]
theorem hideF_data (k a : Nat) (x : File) (q : Nat) (hq : q < manyN x.data.length) : gt (dataB (hideF k a x)) q = if a + q = k then zeroB else gt (dataB x) q := by
  apply ext_gt
  · rw [dataB_32 _ _ (by rw [hideF_len]; exact hq)]
    split
    · rfl
    · rw [dataB_32 _ _ hq]
  · intro j hj
    rw [dataB_32 _ _ (by rw [hideF_len]; exact hq)] at hj
    have hz : gt zeroB j = 0 := gt_rep 32 j hj
    have e1 : (32 * q + j) / 32 = q := by omega
    have e2 : (32 * q + j) % 32 = j := by omega
    by_cases hi : 32 * q + j < x.data.length
    · have h1 := dataB_gt (hideF k a x) (32 * q + j) (by rw [hideF_len]; exact hi)
      have h2 := dataB_gt x (32 * q + j) hi
      rw [e1, e2] at h1 h2
      rw [h1, hideF_gt k a x _ hi, e1]
      split
      · exact hz.symm
      · exact h2.symm
    · have h1 := dataB_gt0 (hideF k a x) (32 * q + j) (by rw [hideF_len]; omega) (by rw [hideF_len]; omega)
      have h2 := dataB_gt0 x (32 * q + j) (by omega) (by omega)
      rw [e1, e2] at h1 h2
      rw [h1]
      split
      · exact hz.symm
      · exact h2.symm
/-- A block of the data is one file's. -/
theorem block_of (l : List File) : ∀ n, n ≤ l.length → ∀ d, d < blocksTo l n → ∃ i q, i < n ∧ q < manyN (gt l i).data.length ∧ d = blocksTo l i + q := by
  intro n
  induction n with
  | zero => intro _ d hd; rw [blocksTo_zero] at hd; omega
  | succ n ih =>
    intro hn d hd
    by_cases h : d < blocksTo l n
    · obtain ⟨i, q, h1, h2, h3⟩ := ih (by omega) d h
      exact ⟨i, q, by omega, h2, h3⟩
    · rw [blocksTo_succ l n (by omega)] at hd
      exact ⟨n, d - blocksTo l n, by omega, by omega, by omega⟩
theorem diskT_32 {L : List (List UInt8)} (hL : ∀ i, i < L.length → (gt L i).length = 32) (hk : Option Nat) (n : Nat) : (diskT L hk n).length = 32 := by
  unfold diskT
  split
  · next hn => exact hL n hn.1
  · rfl
/-- A block of data isn't told: it is noughts. -/
theorem hide_read {l : List File} (hL : ∀ i, i < (makeB l).length → (gt (makeB l) i).length = 32) (h8 : l.length ≤ 8) (ht : togB l = true) (k : Nat) (hk : l.length < k) : readB (diskT (makeB l) (some k)) = some (hideL k l) := by
  refine made_read (diskT_32 hL _) (by rw [hideL_len]; exact h8) ?_ (fun t hti => ?_)
  · rw [← ht]
    refine tog_face (hideL_len k l) (fun i hi => ?_) (fun i hi => ?_) (fun i hi => ?_)
    · rw [hideL_len] at hi
      rw [hideL_gt k l i hi]; rfl
    · rw [hideL_len] at hi
      rw [hideL_gt k l i hi, hideF_len]; exact (tog_right ht i hi).2
    · rw [hideL_len] at hi
      exact (tog_right ht i hi).2
  · have hlen : (makeB (hideL k l)).length = (makeB l).length := by rw [makeB_size, makeB_size, hideL_len, hideL_blocks k l _ (Nat.le_refl _)]
    rw [hlen] at hti
    have hsz := makeB_size l
    by_cases h0 : t = 0
    · subst h0
      unfold diskT
      rw [if_pos ⟨hti, by intro e; injection e with e; omega⟩, makeB_gt_zero, makeB_gt_zero, hideL_len, hideL_table]
    · by_cases h1 : t ≤ l.length
      · unfold diskT
        rw [if_pos ⟨hti, by intro e; injection e with e; omega⟩]
        obtain ⟨i, rfl⟩ : ∃ i, t = 1 + i := ⟨t - 1, by omega⟩
        rw [makeB_gt_tab _ _ (by omega), makeB_gt_tab _ _ (by rw [hideL_len]; omega), hideL_table]
      · obtain ⟨i, q, hi, hq, hd⟩ := block_of l l.length (Nat.le_refl _) (t - (1 + l.length)) (by omega)
        have e : t = 1 + l.length + blocksTo l i + q := by omega
        have e' : t = 1 + (hideL k l).length + blocksTo (hideL k l) i + q := by rw [hideL_len, hideL_blocks k l i (by omega)]; exact e
        have hr : gt (makeB (hideL k l)) t = gt (dataB (gt (hideL k l) i)) q := by
          rw [e', makeB_gt_data _ i q (by rw [hideL_len]; exact hi) (by rw [hideL_gt k l i hi, hideF_len]; exact hq)]
        have hr2 : gt (makeB l) t = gt (dataB (gt l i)) q := by rw [e, makeB_gt_data _ i q hi hq]
        rw [hr, hideL_gt k l i hi, hideF_data _ _ _ q hq, ← e]
        unfold diskT
        by_cases htk : t = k
        · rw [if_neg, if_pos htk]
          rintro ⟨_, h⟩
          exact h (by rw [htk])
        · rw [if_pos ⟨hti, by intro e; injection e with e; omega⟩, if_neg htk, hr2]
theorem entry_nz {x : File} {a : Nat} (hn : namedB x.name = true) : entryB x a ≠ zeroB := by
  intro h
  have h1 := (entry_parts x a).1
  rw [h] at h1
  have hnl : (nmL x).length ≤ 12 := by
    have := hn
    unfold namedB at this
    simp only [Bool.and_eq_true, decide_eq_true_eq] at this
    unfold nmL
    rw [← Lib.size_eq]
    exact this.2
  have h2 := pad12_tw (nmL x) hnl (named_nz hn)
  rw [← h1] at h2
  have h3 : (zeroB.take 12).takeWhile (fun x => x != 0) = [] := by decide
  rw [h3] at h2
  have : 1 ≤ x.name.size := by
    have := hn
    unfold namedB at this
    simp only [Bool.and_eq_true, decide_eq_true_eq] at this
    exact this.1.2
  rw [Lib.size_eq] at this
  have h4 : (nmL x).length = 0 := by rw [← h2]; rfl
  unfold nmL at h4
  simp only [Array.length_toList] at h4
  have h5 : x.name.data.size = x.name.data.toList.length := by simp
  first | omega | (simp at this h4; omega)
/-- The head, or a block of the table, isn't told: there are no files. -/
theorem hide_none {l : List File} (hL : ∀ i, i < (makeB l).length → (gt (makeB l) i).length = 32) (h8 : l.length ≤ 8) (k : Nat) (hk : k ≤ l.length) : readB (diskT (makeB l) (some k)) = none := by
  have hsz := makeB_size l
  cases hr : readB (diskT (makeB l) (some k)) with
  | none => rfl
  | some m =>
    exfalso
    obtain ⟨h1, _, _, _, _, h6⟩ := readB_some hr
    by_cases h0 : k = 0
    · subst h0
      have e : diskT (makeB l) (some 0) 0 = zeroB := by unfold diskT; rw [if_neg]; rintro ⟨_, h⟩; exact h rfl
      rw [e] at h1
      exact absurd h1 (by decide)
    · have e0 : diskT (makeB l) (some k) 0 = headB magicB l.length (sumT (tableB l)) := by
        unfold diskT
        rw [if_pos ⟨by omega, by intro e; injection e with e; omega⟩, makeB_gt_zero]
      have hn := (head_fore l.length (sumT (tableB l)) h8 (sumT_le _)).2.1
      rw [← e0] at hn
      have hml : m.length = l.length := by rw [h6, filesTo_len, tableT_len, hn]
      obtain ⟨_, ht, he, _⟩ := read_made (diskT_32 hL _) hr
      have hms := makeB_size m
      have ek : gt (makeB m) k = zeroB := by
        rw [he, tellN_gt _ _ _ (by omega)]
        unfold diskT
        rw [if_neg]
        rintro ⟨_, h⟩
        exact h rfl
      obtain ⟨i, rfl⟩ : ∃ i, k = 1 + i := ⟨k - 1, by omega⟩
      rw [makeB_gt_tab m i (by omega), tableB_gt m i (by omega)] at ek
      exact entry_nz (tog_named ht i (by omega)) ek
end Go.Proofs.YtahjadbjokkjnaaDoor
