/-
  Chapter 49, plain: what is read is what was made; what was made is read: the data, the head, the whole.
-/
import Derived.Test.YtahjadbjokkjnaaDoorRp1
namespace Go.Proofs.YtahjadbjokkjnaaDoor
open Go.RowKit Go.Proofs.YtahjadbjokkjnaaDoorW.PrintWords Go.Proofs.YtahjadbjokkjnaaDoorW.PrintLast Go.Proofs.YtahjadbjokkjnaaDoorW.PrintMore
set_option linter.unusedVariables false
set_option linter.unusedSimpArgs false

theorem ext_gt {α : Type} [Inhabited α] {xs ys : List α} (hl : xs.length = ys.length) (h : ∀ i, i < xs.length → gt xs i = gt ys i) : xs = ys := by
  apply List.ext_getElem hl
  intro i h1 h2
  have := h i h1
  rwa [gt_eq xs i h1, gt_eq ys i h2] at this
theorem gt_left {α : Type} [Inhabited α] (xs ys : List α) (i : Nat) (h : i < xs.length) : gt (xs ++ ys) i = gt xs i := by
  simp [gt, List.getElem?_append_left h]
theorem gt_right {α : Type} [Inhabited α] (xs ys : List α) (i n : Nat) (hn : xs.length = n) (h : n ≤ i) : gt (xs ++ ys) i = gt ys (i - n) := by
  subst hn
  simp [gt, List.getElem?_append_right h]
theorem dataT_gt (tell : Nat → List UInt8) (hl : ∀ n, (tell n).length = 32) (first m i : Nat) (h : i < 32 * m) : gt (dataT tell first m) i = gt (tell (first + i / 32)) (i % 32) := by
  induction m with
  | zero => omega
  | succ m ih =>
    rw [dataT_succ]
    have hd := dataT_len tell hl first m
    by_cases hi : i < 32 * m
    · rw [gt_left _ _ _ (by omega), ih hi]
    · rw [gt_right _ _ _ _ hd (by omega), show i / 32 = m by omega, show i % 32 = i - 32 * m by omega]
theorem dataB_len (x : File) : (dataB x).length = manyN x.data.length := by simp [dataB]
theorem dataB_32 (x : File) (k : Nat) (h : k < manyN x.data.length) : (gt (dataB x) k).length = 32 := by
  rw [gt_eq _ _ (by rw [dataB_len]; exact h)]
  simp [dataB, pad_len]
theorem dataB_gt0 (x : File) (j : Nat) (hj : x.data.length ≤ j) (hm : j < 32 * manyN x.data.length) : gt (gt (dataB x) (j / 32)) (j % 32) = 0 := by
  have hq : j / 32 < manyN x.data.length := by omega
  have e : gt (dataB x) (j / 32) = pad (chunk x.data (j / 32)) := by
    rw [gt_eq _ _ (by simpa [dataB] using hq)]
    simp [dataB]
  have hc := chunk_len x.data (j / 32)
  rw [e, pad_eq _ (by rw [chunk_len]; omega), gt_right _ _ _ _ rfl (by rw [hc]; omega), gt_eq _ _ (by rw [List.length_replicate]; omega)]
  simp
/-- The blocks of a file's data are those that are told, if its data are the head of theirs and noughts stand behind. -/
theorem data_back (tell : Nat → List UInt8) (hl : ∀ n, (tell n).length = 32) (first s : Nat) (x : File) (hx : x.data = (dataT tell first (manyN s)).take s) (hz : zerosB ((dataT tell first (manyN s)).drop s) = true) :
    dataB x = tellN (fun j => tell (first + j)) (manyN s) := by
  have hd := dataT_len tell hl first (manyN s)
  have hms : s ≤ 32 * manyN s := by unfold manyN; omega
  have hxl : x.data.length = s := by rw [hx, List.length_take]; omega
  apply ext_gt
  · rw [dataB_len, tellN_len, hxl]
  · intro k hk
    rw [dataB_len, hxl] at hk
    rw [tellN_gt _ _ _ hk]
    apply ext_gt
    · rw [dataB_32 x k (by rw [hxl]; exact hk), hl]
    · intro j hj
      rw [dataB_32 x k (by rw [hxl]; exact hk)] at hj
      have e1 := dataT_gt tell hl first (manyN s) (32 * k + j) (by omega)
      rw [show (32 * k + j) / 32 = k by omega, show (32 * k + j) % 32 = j by omega] at e1
      by_cases hi : 32 * k + j < s
      · have e2 := dataB_gt x (32 * k + j) (by omega)
        rw [show (32 * k + j) / 32 = k by omega, show (32 * k + j) % 32 = j by omega] at e2
        rw [e2, ← e1, hx, gt_eq _ _ (by rw [List.length_take]; omega), gt_eq _ _ (by omega)]
        simp
      · have e2 := dataB_gt0 x (32 * k + j) (by omega) (by rw [hxl]; omega)
        rw [show (32 * k + j) / 32 = k by omega, show (32 * k + j) % 32 = j by omega] at e2
        rw [e2, ← e1]
        have h0 := (zerosB_iff _).1 hz (gt (dataT tell first (manyN s)) (32 * k + j)) (by
          rw [gt_eq _ _ (by omega)]
          have : (dataT tell first (manyN s))[32 * k + j]'(by omega) = ((dataT tell first (manyN s)).drop s)[32 * k + j - s]'(by rw [List.length_drop]; omega) := by
            rw [List.getElem_drop]
            congr 1
            omega
          rw [this]
          exact List.getElem_mem _)
        exact h0.symm
theorem data_fore (tell : Nat → List UInt8) (hl : ∀ n, (tell n).length = 32) (first : Nat) (x : File) (h : ∀ k, k < manyN x.data.length → tell (first + k) = gt (dataB x) k) :
    (dataT tell first (manyN x.data.length)).take x.data.length = x.data ∧ zerosB ((dataT tell first (manyN x.data.length)).drop x.data.length) = true := by
  have hd := dataT_len tell hl first (manyN x.data.length)
  have hms : x.data.length ≤ 32 * manyN x.data.length := by unfold manyN; omega
  constructor
  · apply ext_gt
    · rw [List.length_take]; omega
    · intro i hi
      rw [List.length_take] at hi
      have e1 := dataT_gt tell hl first (manyN x.data.length) i (by omega)
      rw [h (i / 32) (by omega), dataB_gt x i (by omega)] at e1
      rw [← e1, gt_eq _ _ (by rw [List.length_take]; omega), gt_eq _ _ (by omega)]
      simp
  · rw [zerosB_iff]
    intro y hy
    obtain ⟨i, hi, rfl⟩ := List.getElem_of_mem hy
    rw [List.length_drop] at hi
    rw [List.getElem_drop]
    have e1 := dataT_gt tell hl first (manyN x.data.length) (x.data.length + i) (by omega)
    rw [h ((x.data.length + i) / 32) (by omega), dataB_gt0 x _ (by omega) (by omega), gt_eq _ _ (by omega)] at e1
    exact e1
/-! ### the head -/
theorem head_back (h : List UInt8) (hl : h.length = 32) (hk : headOK h = true) (n s : Nat) (hn : n = (gt h 5).toNat) (hs : (gt h 6).toNat * 256 + (gt h 7).toNat = s) : headB magicB n s = h := by
  unfold headOK at hk
  simp only [Bool.and_eq_true, decide_eq_true_eq] at hk
  obtain ⟨h1, h2, h3⟩ := hk
  have e8 : h.drop 8 = List.replicate 24 0 := by
    have := zerosB_eq h3
    rwa [List.length_drop, hl] at this
  obtain ⟨s1, s2⟩ := hilo_of (gt h 6) (gt h 7)
  have e5 : UInt8.ofNat n = gt h 5 := by rw [hn]; simp
  conv => rhs; rw [← List.take_append_drop 5 h, drop_gt h 5 (by omega), drop_gt h 6 (by omega), drop_gt h 7 (by omega), h1, e8]
  unfold headB
  rw [← hs, s1, s2, e5]
  simp
theorem head_fore (n s : Nat) (hn : n ≤ 8) (hs : s ≤ 65535) : headOK (headB magicB n s) = true ∧ (gt (headB magicB n s) 5).toNat = n ∧ (gt (headB magicB n s) 6).toNat * 256 + (gt (headB magicB n s) 7).toNat = s := by
  have e5 : gt (headB magicB n s) 5 = UInt8.ofNat n := rfl
  have e6 : gt (headB magicB n s) 6 = hi2 s := rfl
  have e7 : gt (headB magicB n s) 7 = lo2 s := rfl
  have en : (UInt8.ofNat n).toNat = n := by rw [UInt8.toNat_ofNat']; omega
  refine ⟨?_, by rw [e5, en], by rw [e6, e7]; exact hilo_to s hs⟩
  unfold headOK
  rw [e5, en, decide_eq_true (show (headB magicB n s).take 5 = magicB by rfl), decide_eq_true hn]
  exact zerosB_rep 24
end Go.Proofs.YtahjadbjokkjnaaDoor
