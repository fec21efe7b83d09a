/-
  Chapter 50, plain laws for PastWhole: who had it whole last.
-/
import Derived.Test.YtjogpfijkhhloaaPlain2
import Derived.Test.YtjogpfijkhhloaaLast
namespace Go.Proofs.Ytjogpfijkhhloaa
open Go.RowKit Go.Proofs.YtjogpfijkhhloaaW.PrintWords Go.Proofs.YtjogpfijkhhloaaW.PrintLast Go.Proofs.YtjogpfijkhhloaaW.PrintMore
set_option linter.unusedVariables false
set_option linter.unusedSimpArgs false

theorem refFold_sub (l : List Seen) : ∀ out, ∃ r, l.foldl refStep out = out ++ r ∧ (r.map Seen.moment).Sublist (l.map Seen.moment) ∧ ∀ y ∈ r, ∃ x ∈ l, x.told = true ∧ y = normS x := by
  induction l with
  | nil => exact fun out => ⟨[], by simp, by simp, by simp⟩
  | cons x l ih =>
    intro out
    rcases refStep_cases out x with ⟨h, _⟩ | ⟨ht, h, _⟩
    · obtain ⟨r, h1, h2, h3⟩ := ih out
      refine ⟨r, by simp only [List.foldl_cons, h, h1], ?_, fun y hy => ?_⟩
      · simp only [List.map_cons]
        exact h2.cons _
      · obtain ⟨z, hz, hz2⟩ := h3 y hy
        exact ⟨z, List.mem_cons_of_mem _ hz, hz2⟩
    · obtain ⟨r, h1, h2, h3⟩ := ih (out ++ [normS x])
      refine ⟨normS x :: r, by simp only [List.foldl_cons, h, h1, List.append_assoc, List.singleton_append], ?_, fun y hy => ?_⟩
      · simp only [List.map_cons, normS_moment]
        exact h2.cons_cons _
      · rcases List.mem_cons.1 hy with rfl | hy
        · exact ⟨x, List.mem_cons_self, ht, rfl⟩
        · obtain ⟨z, hz, hz2⟩ := h3 y hy
          exact ⟨z, List.mem_cons_of_mem _ hz, hz2⟩
theorem ref_mem {l : List Seen} {y : Seen} (h : y ∈ refSpec l) : ∃ x ∈ l, x.told = true ∧ y = normS x := by
  obtain ⟨r, h1, _, h3⟩ := refFold_sub l []
  unfold refSpec at h
  rw [h1] at h
  exact h3 y (by simpa using h)
theorem moments_nodup {l : List Seen} (hS : Small l) : (l.map Seen.moment).Nodup := by
  rw [List.nodup_iff_pairwise_ne, List.pairwise_iff_getElem]
  intro i j hi hj hij
  simp only [List.length_map] at hi hj
  have := hS.apart j hj i hij
  rw [gt_eq l j hj, gt_eq l i hi] at this
  simpa using this
theorem ref_nodup {l : List Seen} (hS : Small l) : ((refSpec l).map Seen.moment).Nodup := by
  obtain ⟨r, h1, h2, _⟩ := refFold_sub l []
  unfold refSpec
  rw [h1]
  exact (moments_nodup hS).sublist (by simpa using h2)
theorem nodup_gt {l : List Seen} (h : (l.map Seen.moment).Nodup) {i j : Nat} (hi : i < l.length) (hj : j < l.length) (he : (gt l i).moment = (gt l j).moment) : i = j := by
  rw [gt_eq l i hi, gt_eq l j hj] at he
  have h1 : i < (l.map Seen.moment).length := by simpa using hi
  have h2 : j < (l.map Seen.moment).length := by simpa using hj
  exact (List.getElem_inj (h₀ := h1) (h₁ := h2) h).1 (by simpa using he)
theorem seen_uni {l : List Seen} (hS : Small l) {x y : Seen} (hx : x ∈ l) (hy : y ∈ l) (he : x.moment = y.moment) : x = y := by
  obtain ⟨i, hi, rfl⟩ := List.getElem_of_mem hx
  obtain ⟨j, hj, rfl⟩ := List.getElem_of_mem hy
  have := nodup_gt (moments_nodup hS) hi hj (by rw [gt_eq l i hi, gt_eq l j hj]; exact he)
  subst this
  rfl
theorem normS_id {x : Seen} (h : x.there = true) : normS x = x := by unfold normS; rw [if_pos h]
def wholeAt (b : UInt8) (x : Seen) : Bool := x.told && x.there && firstIs b x.data
theorem gt_mem {α : Type} [Inhabited α] (l : List α) (k : Nat) (h : k < l.length) : gt l k ∈ l := by rw [gt_eq l k h]; exact List.getElem_mem h
theorem last_mem {p : List UInt8 → Bool} {rs : List Seen} {v : Vers} (h : lastSpec p (rs.map toVers) = some v) : ∃ r ∈ rs, v = toVers r ∧ r.there = true ∧ p r.data = true := by
  unfold lastSpec at h
  have h1 := List.find?_some h
  have h2 := List.mem_of_find?_eq_some h
  rw [List.mem_reverse, List.mem_map] at h2
  obtain ⟨r, hr, rfl⟩ := h2
  simp only [Bool.and_eq_true] at h1
  exact ⟨r, hr, rfl, h1.1, h1.2⟩
theorem last_ex {p : List UInt8 → Bool} {rs : List Seen} {r : Seen} (hr : r ∈ rs) (h1 : r.there = true) (h2 : p r.data = true) : (lastSpec p (rs.map toVers)).isSome = true := by
  unfold lastSpec
  rw [List.find?_isSome]
  exact ⟨toVers r, by rw [List.mem_reverse, List.mem_map]; exact ⟨r, hr, rfl⟩, by simp [toVers, h1, h2]⟩
theorem whole_some {l : List Seen} (b : UInt8) : l.any (wholeAt b) = (lastSpec (firstIs b) ((refSpec l).map toVers)).isSome := by
  rw [Bool.eq_iff_iff]
  constructor
  · intro h
    obtain ⟨x, hx, hw⟩ := List.any_eq_true.1 h
    unfold wholeAt at hw
    simp only [Bool.and_eq_true] at hw
    obtain ⟨⟨h1, h2⟩, h3⟩ := hw
    obtain ⟨k, hk, rfl⟩ := List.getElem_of_mem hx
    have hpre := refSpec_pre l k
    have hpre1 := refSpec_pre l (k + 1)
    rw [refSpec_succ l k hk, gt_eq l k hk] at hpre1
    rcases refStep_cases (refSpec (l.take k)) l[k] with ⟨h, h4⟩ | ⟨_, h, _⟩
    · rcases h4 with h4 | ⟨_, u, hu, h5, h6⟩
      · rw [h1] at h4; cases h4
      · exact last_ex (hpre.subset (List.mem_of_getLast? hu)) (by rw [h5]; exact h2) (by rw [h6, normS_id h2]; exact h3)
    · rw [h, normS_id h2] at hpre1
      exact last_ex (hpre1.subset (by simp)) h2 h3
  · intro h
    obtain ⟨v, hv⟩ := Option.isSome_iff_exists.1 h
    obtain ⟨r, hr, _, h1, h2⟩ := last_mem hv
    obtain ⟨x, hx, ht, rfl⟩ := ref_mem hr
    rw [normS_there] at h1
    rw [normS_id h1] at h2
    exact List.any_eq_true.2 ⟨x, hx, by unfold wholeAt; rw [ht, h1, h2]; rfl⟩
theorem whole_at {l : List Seen} (hS : Small l) (b : UInt8) (k : Nat) (hk : k < l.length) (h : (lastSpec (firstIs b) ((refSpec l).map toVers)).isSome = true) (hm : (gt l k).moment = lastN (lastSpec (firstIs b) ((refSpec l).map toVers))) : wholeAt b (gt l k) = true := by
  obtain ⟨v, hv⟩ := Option.isSome_iff_exists.1 h
  rw [hv] at hm
  obtain ⟨r, hr, rfl, h1, h2⟩ := last_mem hv
  obtain ⟨x, hx, ht, rfl⟩ := ref_mem hr
  rw [normS_there] at h1
  rw [normS_id h1] at h2 hm
  have : gt l k = x := seen_uni hS (gt_mem l k hk) hx hm
  rw [this]
  unfold wholeAt
  rw [ht, h1, h2]
  rfl
/-- A row of the history: its moment is told, and there are files. -/
theorem ref_look {l : List Seen} (hS : Small l) {n : Nat} (hn : n < (refSpec l).length) : ∃ s, look l (gt (refSpec l) n).moment = some s ∧ s.told = true := by
  obtain ⟨x, hx, ht, he⟩ := ref_mem (gt_mem _ n hn)
  obtain ⟨j, hj, rfl⟩ := List.getElem_of_mem hx
  refine ⟨l[j], ?_, ht⟩
  rw [he, normS_moment]
  have := look_at hS hj
  rwa [gt_eq l j hj] at this
theorem files_pos (s : Seen) : 0 < (filesOf (some s)).length := by
  unfold filesOf
  simp only
  split <;> simp
end Go.Proofs.Ytjogpfijkhhloaa
