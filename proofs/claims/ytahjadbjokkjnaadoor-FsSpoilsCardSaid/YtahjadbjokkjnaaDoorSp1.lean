/-
  Chapter 49, plain: a byte of a disk that is changed.
-/
import Derived.Test.YtahjadbjokkjnaaDoorHd1
namespace Go.Proofs.YtahjadbjokkjnaaDoor
open Go.RowKit Go.Proofs.YtahjadbjokkjnaaDoorW.PrintWords Go.Proofs.YtahjadbjokkjnaaDoorW.PrintLast Go.Proofs.YtahjadbjokkjnaaDoorW.PrintMore
set_option linter.unusedVariables false
set_option linter.unusedSimpArgs false

theorem gt_set_ne {α : Type} [Inhabited α] (xs : List α) (i j : Nat) (x : α) (h : i ≠ j) : gt (xs.set i x) j = gt xs j := by
  unfold gt
  rw [List.getD_eq_getElem?_getD, List.getD_eq_getElem?_getD, List.getElem?_set_ne h]
/-- A disk with one block changed. -/
structure Spoiled (L L' : List (List UInt8)) (q : Nat) : Prop where
  len : L'.length = L.length
  at_ : q < L.length
  ne : gt L' q ≠ gt L q
  same : ∀ i, i ≠ q → gt L' i = gt L i
theorem spoiled_tell {L L' : List (List UInt8)} {q : Nat} (h : Spoiled L L' q) (i : Nat) (hi : i < L.length) : diskT L' none i = gt L' i := by
  unfold diskT
  rw [if_pos ⟨by rw [h.len]; exact hi, by simp⟩]
section
variable {l m : List File} {L' : List (List UInt8)} {q : Nat}
/-- What is read of it isn't what was made. -/
theorem spoiled_ne (h : Spoiled (makeB l) L' q) (hL : ∀ i, i < L'.length → (gt L' i).length = 32) (hm : readB (diskT L' none) = some m) : sameB m l = false := by
  cases hs : sameB m l
  · rfl
  · exfalso
    obtain rfl := sameB_eq hs
    obtain ⟨_, _, he, _⟩ := read_made (diskT_32 hL _) hm
    have h1 : gt (makeB m) q = gt L' q := by
      conv => lhs; rw [he]
      rw [tellN_gt _ _ _ h.at_, spoiled_tell h q h.at_]
    exact h.ne h1.symm
theorem spoiled_at (h : Spoiled (makeB l) L' q) (hL : ∀ i, i < L'.length → (gt L' i).length = 32) (hm : readB (diskT L' none) = some m) (i : Nat) (hi : i < (makeB m).length) (hi2 : i < L'.length) : gt (makeB m) i = gt L' i := by
  obtain ⟨_, _, he, _⟩ := read_made (diskT_32 hL _) hm
  conv => lhs; rw [he]
  rw [tellN_gt _ _ _ hi, spoiled_tell h i (by rw [← h.len]; exact hi2)]
/-- A byte behind the table: as many files, of the same names and lengths. -/
theorem spoiled_face (h : Spoiled (makeB l) L' q) (hL : ∀ i, i < L'.length → (gt L' i).length = 32) (hm : readB (diskT L' none) = some m) (h8 : l.length ≤ 8) (ht : togB l = true) (hq : l.length < q) :
    m.length = l.length ∧ ∀ i, i < l.length → (gt m i).name = (gt l i).name ∧ (gt m i).data.length = (gt l i).data.length := by
  have hsz := makeB_size l
  have hqn := h.at_
  obtain ⟨hm8, htm, he, _⟩ := read_made (diskT_32 hL _) hm
  obtain ⟨_, _, _, _, _, h6⟩ := readB_some hm
  have e0 : diskT L' none 0 = headB magicB l.length (sumT (tableB l)) := by
    rw [spoiled_tell h 0 (by omega), h.same 0 (by omega), makeB_gt_zero]
  have hn := (head_fore l.length (sumT (tableB l)) h8 (sumT_le _)).2.1
  rw [← e0] at hn
  have hml : m.length = l.length := by rw [h6, filesTo_len, tableT_len, hn]
  have hms := makeB_size m
  have htab : ∀ i, i < l.length → gt (tableB m) i = gt (tableB l) i := fun i hi => by
    have h1 := spoiled_at h hL hm (1 + i) (by omega) (by rw [h.len]; omega)
    rw [makeB_gt_tab m i (by omega), h.same (1 + i) (by omega), makeB_gt_tab l i hi] at h1
    exact h1
  refine ⟨hml, fun i hi => ?_⟩
  have hbl := blocksTo_le ht i (by omega)
  have hbm := blocksTo_le htm i (by omega)
  have f1 := entry_fore (gt l i) (1 + l.length + blocksTo l i) (tog_named ht i hi) (tog_right ht i hi).2 (by omega)
  have f2 := entry_fore (gt m i) (1 + m.length + blocksTo m i) (tog_named htm i (by omega)) (tog_right htm i (by omega)).2 (by omega)
  have h2 := htab i hi
  rw [tableB_gt l i hi, tableB_gt m i (by omega)] at h2
  rw [h2] at f2
  exact ⟨name_ext (f2.1.symm.trans f1.1), f2.2.1.symm.trans f1.2.1⟩
/-- Just one file's data is another. -/
theorem spoiled_one (h : Spoiled (makeB l) L' q) (hL : ∀ i, i < L'.length → (gt L' i).length = 32) (hm : readB (diskT L' none) = some m) (h8 : l.length ≤ 8) (ht : togB l = true) (hq : l.length < q) :
    (makeB m).length = (makeB l).length ∧ ∃ i0, i0 < l.length ∧ ∀ i, i < l.length → decide ((gt m i).data = (gt l i).data) = !decide (i = i0) := by
  obtain ⟨hml, hf⟩ := spoiled_face h hL hm h8 ht hq
  have hb : ∀ i, i ≤ l.length → blocksTo m i = blocksTo l i := by
    intro i
    induction i with
    | zero => intro _; rw [blocksTo_zero, blocksTo_zero]
    | succ i ih =>
      intro hi
      rw [blocksTo_succ m i (by omega), blocksTo_succ l i (by omega), ih (by omega), (hf i (by omega)).2]
  have hsz := makeB_size l
  have hlen : (makeB m).length = (makeB l).length := by rw [makeB_size, makeB_size, hml, hb _ (Nat.le_refl _)]
  have hqn := h.at_
  obtain ⟨i0, q0, hi0, hq0, hd⟩ := block_of l l.length (Nat.le_refl _) (q - (1 + l.length)) (by omega)
  have hqe : q = 1 + l.length + blocksTo l i0 + q0 := by omega
  have hin : ∀ i p, i < l.length → p < manyN (gt l i).data.length → 1 + l.length + blocksTo l i + p < (makeB l).length := by
    intro i p hi hp
    have h1 : ∀ n, n ≤ l.length → i < n → blocksTo l i + manyN (gt l i).data.length ≤ blocksTo l n := by
      intro n
      induction n with
      | zero => intro _ h; omega
      | succ n ih =>
        intro hn hin
        rw [blocksTo_succ l n (by omega)]
        by_cases e : i = n
        · subst e; exact Nat.le_refl _
        · have := ih (by omega) (by omega)
          omega
    have := h1 l.length (Nat.le_refl _) hi
    omega
  have hblk : ∀ i p, i < l.length → p < manyN (gt l i).data.length → gt (dataB (gt m i)) p = gt L' (1 + l.length + blocksTo l i + p) := by
    intro i p hi hp
    have h1 := spoiled_at h hL hm (1 + l.length + blocksTo l i + p) (by rw [hlen]; exact hin i p hi hp) (by rw [h.len]; exact hin i p hi hp)
    rw [← h1]
    have h2 := makeB_gt_data m i p (by omega) (by rw [(hf i hi).2]; exact hp)
    rw [hml, hb i (by omega)] at h2
    exact h2.symm
  refine ⟨hlen, i0, hi0, fun i hi => ?_⟩
  by_cases hii : i = i0
  · subst hii
    rw [decide_eq_true rfl, Bool.not_true, decide_eq_false_iff_not]
    intro he
    have h1 := hblk i q0 hi hq0
    rw [← hqe] at h1
    have h2 : gt (dataB (gt m i)) q0 = gt (dataB (gt l i)) q0 := by unfold dataB; rw [he]
    have h3 := makeB_gt_data l i q0 hi hq0
    rw [← hqe] at h3
    exact h.ne (by rw [← h1, h2, h3])
  · rw [decide_eq_false hii, Bool.not_false, decide_eq_true_eq]
    refine dataB_inj (hf i hi).2 ?_
    apply ext_gt
    · rw [dataB_len, dataB_len, (hf i hi).2]
    · intro p hp
      rw [dataB_len, (hf i hi).2] at hp
      rw [hblk i p hi hp]
      have hne : 1 + l.length + blocksTo l i + p ≠ q := by
        intro e
        -- two places of one block are one file's
        rcases Nat.lt_or_gt_of_ne hii with hlt | hgt
        · have : ∀ n, n ≤ l.length → i < n → blocksTo l i + manyN (gt l i).data.length ≤ blocksTo l n := by
            intro n
            induction n with
            | zero => intro _ h; omega
            | succ n ih =>
              intro hn hin
              rw [blocksTo_succ l n (by omega)]
              by_cases e : i = n
              · subst e; exact Nat.le_refl _
              · have := ih (by omega) (by omega)
                omega
          have := this i0 (by omega) hlt
          omega
        · have : ∀ n, n ≤ l.length → i0 < n → blocksTo l i0 + manyN (gt l i0).data.length ≤ blocksTo l n := by
            intro n
            induction n with
            | zero => intro _ h; omega
            | succ n ih =>
              intro hn hin
              rw [blocksTo_succ l n (by omega)]
              by_cases e : i0 = n
              · subst e; exact Nat.le_refl _
              · have := ih (by omega) (by omega)
                omega
          have := this i (by omega) hgt
          omega
      rw [h.same _ hne, makeB_gt_data l i p hi hp]
end
end Go.Proofs.YtahjadbjokkjnaaDoor
