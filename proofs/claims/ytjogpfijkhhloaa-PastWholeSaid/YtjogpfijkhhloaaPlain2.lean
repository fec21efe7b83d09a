/-
  Chapter 50, plain laws of the document's history: which of the moments become its rows.
-/
import Derived.Test.YtjogpfijkhhloaaLawOf
namespace Go.Proofs.Ytjogpfijkhhloaa
open Go.RowKit Go.Proofs.YtjogpfijkhhloaaW.PrintWords Go.Proofs.YtjogpfijkhhloaaW.PrintLast Go.Proofs.YtjogpfijkhhloaaW.PrintMore
set_option linter.unusedVariables false
set_option linter.unusedSimpArgs false

theorem gt_pre2 {α : Type} [Inhabited α] {xs ys : List α} (h : xs <+: ys) {k : Nat} (hk : k < xs.length) : gt ys k = gt xs k := by
  have hl := h.length_le
  rw [gt_eq _ _ hk, gt_eq _ _ (by omega)]
  exact (h.getElem hk).symm
theorem gt_snoc {α : Type} [Inhabited α] (xs : List α) (x : α) : gt (xs ++ [x]) xs.length = x := by
  rw [gt_eq _ _ (by simp)]; simp
theorem normS_moment (x : Seen) : (normS x).moment = x.moment := by unfold normS; split <;> rfl
theorem normS_there (x : Seen) : (normS x).there = x.there := by unfold normS; split <;> rfl
theorem normS_told (x : Seen) : (normS x).told = x.told := by unfold normS; split <;> rfl
theorem refStep_cases (out : List Seen) (x : Seen) : (refStep out x = out ∧ (x.told = false ∨ x.told = true ∧ ∃ u, out.getLast? = some u ∧ u.there = x.there ∧ u.data = (normS x).data)) ∨
    (x.told = true ∧ refStep out x = out ++ [normS x] ∧ ∀ u, out.getLast? = some u → ¬ (u.there = x.there ∧ u.data = (normS x).data)) := by
  unfold refStep
  cases ht : x.told
  · left; simp
  · cases hg : out.getLast? with
    | none => right; simp
    | some u =>
      by_cases hc : u.there = x.there ∧ u.data = (normS x).data
      · left; simp [hc.1, hc.2]
      · right
        have : (u.there == x.there && decide (u.data = (normS x).data)) = false := by
          rw [Bool.eq_false_iff]
          intro h
          simp only [Bool.and_eq_true, beq_iff_eq, decide_eq_true_eq] at h
          exact hc h
        simp only [this]
        refine ⟨trivial, by simp, fun v hv => ?_⟩
        cases hv
        exact hc
theorem refStep_pre (out : List Seen) (x : Seen) : out <+: refStep out x := by
  rcases refStep_cases out x with ⟨h, _⟩ | ⟨_, h, _⟩
  · rw [h]; exact List.prefix_refl _
  · rw [h]; exact List.prefix_append _ _
theorem refFold_pre (l : List Seen) : ∀ out, out <+: l.foldl refStep out := by
  induction l with
  | nil => exact fun out => List.prefix_refl _
  | cons m ms ih => exact fun out => List.IsPrefix.trans (refStep_pre out m) (ih _)
theorem refSpec_pre (l : List Seen) (k : Nat) : refSpec (l.take k) <+: refSpec l := by
  have : refSpec l = (l.drop k).foldl refStep (refSpec (l.take k)) := by
    unfold refSpec
    rw [← List.foldl_append, List.take_append_drop]
  rw [this]
  exact refFold_pre _ _
theorem ref_from (l : List Seen) (i : Nat) (hi : i ≤ l.length) : ∀ n, n < (refSpec (l.take i)).length → ∃ j, j < i ∧ (gt (refSpec (l.take i)) n).moment = (gt l j).moment := by
  induction i with
  | zero => intro n hn; simp [refSpec] at hn
  | succ i ih =>
    intro n hn
    rw [refSpec_succ l i (by omega)] at hn ⊢
    rcases refStep_cases (refSpec (l.take i)) (gt l i) with ⟨h, _⟩ | ⟨_, h, _⟩
    · rw [h] at hn ⊢
      obtain ⟨j, hj, e⟩ := ih (by omega) n hn
      exact ⟨j, by omega, e⟩
    · rw [h] at hn ⊢
      simp only [List.length_append, List.length_singleton] at hn
      by_cases hlt : n < (refSpec (l.take i)).length
      · rw [gt_pre2 (List.prefix_append _ _) hlt]
        obtain ⟨j, hj, e⟩ := ih (by omega) n hlt
        exact ⟨j, by omega, e⟩
      · have : n = (refSpec (l.take i)).length := by omega
        subst this
        rw [gt_snoc, normS_moment]
        exact ⟨i, by omega, rfl⟩
theorem ref_later (l : List Seen) (i d : Nat) (hi : i + d ≤ l.length) : ∀ n, (refSpec (l.take i)).length ≤ n → n < (refSpec (l.take (i + d))).length → ∃ j, i ≤ j ∧ j < i + d ∧ (gt (refSpec (l.take (i + d))) n).moment = (gt l j).moment := by
  induction d with
  | zero => intro n h1 h2; simp only [Nat.add_zero] at h2; omega
  | succ d ih =>
    intro n h1 hn
    rw [← Nat.add_assoc, refSpec_succ l (i + d) (by omega)] at hn ⊢
    rcases refStep_cases (refSpec (l.take (i + d))) (gt l (i + d)) with ⟨h, _⟩ | ⟨_, h, _⟩
    · rw [h] at hn ⊢
      obtain ⟨j, hj, hj2, e⟩ := ih (by omega) n h1 hn
      exact ⟨j, hj, by omega, e⟩
    · rw [h] at hn ⊢
      simp only [List.length_append, List.length_singleton] at hn
      by_cases hlt : n < (refSpec (l.take (i + d))).length
      · rw [gt_pre2 (List.prefix_append _ _) hlt]
        obtain ⟨j, hj, hj2, e⟩ := ih (by omega) n h1 hlt
        exact ⟨j, hj, by omega, e⟩
      · have : n = (refSpec (l.take (i + d))).length := by omega
        subst this
        rw [gt_snoc, normS_moment]
        exact ⟨i + d, by omega, by omega, rfl⟩
theorem ref_adj (l : List Seen) (i : Nat) (hi : i ≤ l.length) : ∀ n, n + 1 < (refSpec (l.take i)).length → ¬ ((gt (refSpec (l.take i)) n).there = (gt (refSpec (l.take i)) (n + 1)).there ∧ (gt (refSpec (l.take i)) n).data = (gt (refSpec (l.take i)) (n + 1)).data) := by
  induction i with
  | zero => intro n hn; simp [refSpec] at hn
  | succ i ih =>
    intro n hn
    rw [refSpec_succ l i (by omega)] at hn ⊢
    rcases refStep_cases (refSpec (l.take i)) (gt l i) with ⟨h, _⟩ | ⟨_, h, hnot⟩
    · rw [h] at hn ⊢
      exact ih (by omega) n hn
    · rw [h] at hn ⊢
      simp only [List.length_append, List.length_singleton] at hn
      by_cases hlt : n + 1 < (refSpec (l.take i)).length
      · rw [gt_pre2 (List.prefix_append _ _) hlt, gt_pre2 (List.prefix_append _ _) (show n < _ by omega)]
        exact ih (by omega) n hlt
      · have hl : n + 1 = (refSpec (l.take i)).length := by omega
        have hne : refSpec (l.take i) ≠ [] := fun e => by rw [e] at hl; simp at hl
        have hg := getLast_gt _ hne
        have h2 := hnot _ hg
        rw [hl, gt_snoc, gt_pre2 (List.prefix_append _ _) (show n < _ by omega), normS_there]
        rw [← hl] at h2
        simpa using h2
/-- What a moment does to the history. -/
def ReadsAt (rs : List Seen) (x : Seen) (n n' : Nat) : Prop :=
  (x.told = false ∧ n' = n ∧ (n < rs.length → (gt rs n).moment ≠ x.moment) ∧ (0 < n → (gt rs (n - 1)).moment ≠ x.moment)) ∨
  (x.told = true ∧ n' = n + 1 ∧ n < rs.length ∧ gt rs n = normS x) ∨
  (x.told = true ∧ n' = n ∧ 0 < n ∧ (n < rs.length → (gt rs n).moment ≠ x.moment) ∧ (gt rs (n - 1)).there = x.there ∧ (gt rs (n - 1)).data = (normS x).data)
theorem reads_at {l : List Seen} (hS : Small l) (i : Nat) (hi : i < l.length) : ReadsAt (refSpec l) (gt l i) (refSpec (l.take i)).length (refSpec (l.take (i + 1))).length := by
  have hpre := refSpec_pre l i
  have hpre1 := refSpec_pre l (i + 1)
  have hback : ∀ n, n < (refSpec (l.take i)).length → (gt (refSpec l) n).moment ≠ (gt l i).moment := by
    intro n hn
    rw [gt_pre2 hpre hn]
    obtain ⟨j, hj, e⟩ := ref_from l i (by omega) n hn
    rw [e]
    exact hS.apart i hi j hj
  have hfwd : (refSpec (l.take (i + 1))).length = (refSpec (l.take i)).length → ∀ n, (refSpec (l.take i)).length ≤ n → n < (refSpec l).length → (gt (refSpec l) n).moment ≠ (gt l i).moment := by
    intro he n h1 h2
    have := ref_later l (i + 1) (l.length - (i + 1)) (by omega) n (by omega)
    rw [show i + 1 + (l.length - (i + 1)) = l.length by omega, List.take_length] at this
    obtain ⟨j, hj, hj2, e⟩ := this h2
    rw [e]
    exact fun e => hS.apart j (by omega) i (by omega) e.symm
  rw [refSpec_succ l i hi] at hfwd hpre1 ⊢
  rcases refStep_cases (refSpec (l.take i)) (gt l i) with ⟨h, h2⟩ | ⟨ht, h, _⟩
  · rw [h] at hfwd ⊢
    rcases h2 with h2 | ⟨ht, u, hu, h3, h4⟩
    · exact .inl ⟨h2, rfl, fun hn => hfwd rfl _ (Nat.le_refl _) hn, fun hn => hback _ (by omega)⟩
    · have hne : refSpec (l.take i) ≠ [] := fun e => by rw [e] at hu; simp at hu
      have hpos := List.length_pos_iff.mpr hne
      rw [getLast_gt _ hne] at hu
      cases hu
      exact .inr (.inr ⟨ht, rfl, hpos, fun hn => hfwd rfl _ (Nat.le_refl _) hn, by rw [gt_pre2 hpre (by omega)]; exact h3, by rw [gt_pre2 hpre (by omega)]; exact h4⟩)
  · rw [h] at hpre1 ⊢
    have hll := hpre1.length_le
    simp only [List.length_append, List.length_singleton] at hll
    refine .inr (.inl ⟨ht, by simp, by omega, ?_⟩)
    rw [gt_pre2 hpre1 (by simp), gt_snoc]
end Go.Proofs.Ytjogpfijkhhloaa
