/-
  Chapter 49, plain: what was made is read as it was.
-/
import Derived.Test.YtnpnpgihbgohgaaDoorGn
import Derived.Test.YtnpnpgihbgohgaaDoorGh
/-
  Chapter 49, plain: what is read is what was made; what was made is read.
-/
namespace Go.Proofs.YtnpnpgihbgohgaaDoor
open Go.RowKit Go.Proofs.YtnpnpgihbgohgaaDoorW.PrintWords Go.Proofs.YtnpnpgihbgohgaaDoorW.PrintLast Go.Proofs.YtnpnpgihbgohgaaDoorW.PrintMore
set_option linter.unusedVariables false
set_option linter.unusedSimpArgs false

/-- The first blocks that are told. -/
def tellN (tell : Nat → List UInt8) (n : Nat) : List (List UInt8) := (List.range n).map tell
theorem tellN_len (tell : Nat → List UInt8) (n : Nat) : (tellN tell n).length = n := by simp [tellN]
theorem tellN_gt (tell : Nat → List UInt8) (n i : Nat) (h : i < n) : gt (tellN tell n) i = tell i := by
  rw [gt_eq _ _ (by rw [tellN_len]; exact h)]
  simp [tellN]
theorem tellN_add (tell : Nat → List UInt8) (n m : Nat) : tellN tell (n + m) = tellN tell n ++ tellN (fun i => tell (n + i)) m := by
  unfold tellN
  rw [List.range_add, List.map_append, List.map_map]
  rfl
theorem tellN_eq {tell : Nat → List UInt8} {L : List (List UInt8)} (h : ∀ i, i < L.length → tell i = gt L i) : L = tellN tell L.length := by
  apply List.ext_getElem
  · rw [tellN_len]
  · intro i h1 h2
    rw [← gt_eq L i h1, ← h i h1]
    simp [tellN]
theorem zerosB_eq {xs : List UInt8} (h : zerosB xs = true) : xs = List.replicate xs.length 0 := List.eq_replicate_iff.2 ⟨rfl, (zerosB_iff xs).1 h⟩
theorem zerosB_rep (n : Nat) : zerosB (List.replicate n 0) = true := (zerosB_iff _).2 (fun x hx => (List.mem_replicate.1 hx).2)
theorem hilo_of (a b : UInt8) : hi2 (a.toNat * 256 + b.toNat) = a ∧ lo2 (a.toNat * 256 + b.toNat) = b := by
  have h1 := a.toNat_lt
  have h2 := b.toNat_lt
  refine ⟨UInt8.toNat_inj.mp ?_, UInt8.toNat_inj.mp ?_⟩ <;> simp only [hi2, lo2, UInt8.toNat_ofNat'] <;> omega
theorem hilo_to (n : Nat) (h : n ≤ 65535) : (hi2 n).toNat * 256 + (lo2 n).toNat = n := by
  simp only [hi2, lo2, UInt8.toNat_ofNat']
  omega
theorem drop_gt (b : List UInt8) (k : Nat) (h : k < b.length) : b.drop k = gt b k :: b.drop (k + 1) := by
  rw [List.drop_eq_getElem_cons h, gt_eq b k h]
theorem block_cut (b : List UInt8) (h : b.length = 32) : b = b.take 12 ++ ([gt b 12, gt b 13] ++ ([gt b 14, gt b 15] ++ b.drop 16)) := by
  conv => lhs; rw [← List.take_append_drop 12 b, drop_gt b 12 (by omega), drop_gt b 13 (by omega), drop_gt b 14 (by omega), drop_gt b 15 (by omega)]
  rfl
theorem take12_of (b : List UInt8) (h : b.length = 32) (hz : zerosB ((b.take 12).drop (nameK b)) = true) : b.take 12 = pad12 (entN b) := by
  have hn := nameK_le b
  have e0 : entN b = (b.take 12).take (nameK b) := List.prefix_iff_eq_take.1 (List.takeWhile_prefix _)
  have hl : (entN b).length = nameK b := rfl
  have e1 : (b.take 12).drop (nameK b) = List.replicate (12 - nameK b) 0 := by
    have := zerosB_eq hz
    rwa [List.length_drop, List.length_take, h, Nat.min_eq_left (by omega)] at this
  rw [pad12_eq _ (by rw [hl]; exact hn), hl, ← e1]
  conv => lhs; rw [← List.take_append_drop (nameK b) (b.take 12), ← e0]
/-- A right entry is the entry of its name, its length and its place. -/
theorem entry_back (b : List UInt8) (h : b.length = 32) (first : Nat) (hg : entGood b first = true) (x : File) (hx : nmL x = entN b) (hd : x.data.length = entS b) : entryB x first = b := by
  unfold entGood entK at hg
  simp only [Bool.and_eq_true, decide_eq_true_eq] at hg
  obtain ⟨⟨h1, h2⟩, h3, h4⟩ := hg
  have hp := take12_of b h h1
  have e16 : b.drop 16 = List.replicate 16 0 := by
    have := zerosB_eq h2
    rwa [List.length_drop, h] at this
  obtain ⟨s1, s2⟩ := hilo_of (gt b 12) (gt b 13)
  obtain ⟨f1, f2⟩ := hilo_of (gt b 14) (gt b 15)
  have hS : entS b = (gt b 12).toNat * 256 + (gt b 13).toNat := rfl
  have hF : entF b = (gt b 14).toNat * 256 + (gt b 15).toNat := rfl
  have e : entryB x first = pad12 (nmL x) ++ ([hi2 x.data.length, lo2 x.data.length] ++ ((if 0 < x.data.length then [hi2 first, lo2 first] else [0, 0]) ++ List.replicate 16 0)) := by
    unfold entryB pad12 nmL
    simp only [List.append_assoc]
  rw [e, hx, hd]
  conv => rhs; rw [block_cut b h, hp, e16]
  rw [hS, s1, s2]
  rw [hF, hS] at h4
  by_cases h0 : (gt b 12).toNat * 256 + (gt b 13).toNat = 0
  · rw [if_neg (by omega)]
    rw [if_pos h0] at h4
    have a1 : gt b 14 = 0 := UInt8.toNat_inj.mp (by simp only [UInt8.toNat_zero]; omega)
    have a2 : gt b 15 = 0 := UInt8.toNat_inj.mp (by simp only [UInt8.toNat_zero]; omega)
    rw [a1, a2]
  · rw [if_pos (by omega)]
    rw [if_neg h0] at h4
    rw [← h4, f1, f2]
end Go.Proofs.YtnpnpgihbgohgaaDoor
/-
  Chapter 49, plain: what is read is what was made; what was made is read: the data, the head, the whole.
-/
namespace Go.Proofs.YtnpnpgihbgohgaaDoor
open Go.RowKit Go.Proofs.YtnpnpgihbgohgaaDoorW.PrintWords Go.Proofs.YtnpnpgihbgohgaaDoorW.PrintLast Go.Proofs.YtnpnpgihbgohgaaDoorW.PrintMore
set_option linter.unusedVariables false
set_option linter.unusedSimpArgs false

theorem ext_gt {α : Type} [Inhabited α] {xs ys : List α} (hl : xs.length = ys.length) (h : ∀ i, i < xs.length → gt xs i = gt ys i) : xs = ys := by
  apply List.ext_getElem hl
  intro i h1 h2
  have := h i h1
  rwa [gt_eq xs i h1, gt_eq ys i h2] at this
theorem gt_left {α : Type} [Inhabited α] (xs ys : List α) (i : Nat) (h : i < xs.length) : gt (xs ++ ys) i = gt xs i := by
  simp [gt, List.getElem?_append_left h]
theorem gt_right {α : Type} [Inhabited α] (xs ys : List α) (i n : Nat) (hn : xs.length = n) (h : n ≤ i) : gt (xs ++ ys) i = gt ys (i - n) := by
  subst hn
  simp [gt, List.getElem?_append_right h]
theorem dataT_gt (tell : Nat → List UInt8) (hl : ∀ n, (tell n).length = 32) (first m i : Nat) (h : i < 32 * m) : gt (dataT tell first m) i = gt (tell (first + i / 32)) (i % 32) := by
  induction m with
  | zero => omega
  | succ m ih =>
    rw [dataT_succ]
    have hd := dataT_len tell hl first m
    by_cases hi : i < 32 * m
    · rw [gt_left _ _ _ (by omega), ih hi]
    · rw [gt_right _ _ _ _ hd (by omega), show i / 32 = m by omega, show i % 32 = i - 32 * m by omega]
theorem dataB_len (x : File) : (dataB x).length = manyN x.data.length := by simp [dataB]
theorem dataB_32 (x : File) (k : Nat) (h : k < manyN x.data.length) : (gt (dataB x) k).length = 32 := by
  rw [gt_eq _ _ (by rw [dataB_len]; exact h)]
  simp [dataB, pad_len]
theorem dataB_gt0 (x : File) (j : Nat) (hj : x.data.length ≤ j) (hm : j < 32 * manyN x.data.length) : gt (gt (dataB x) (j / 32)) (j % 32) = 0 := by
  have hq : j / 32 < manyN x.data.length := by omega
  have e : gt (dataB x) (j / 32) = pad (chunk x.data (j / 32)) := by
    rw [gt_eq _ _ (by simpa [dataB] using hq)]
    simp [dataB]
  have hc := chunk_len x.data (j / 32)
  rw [e, pad_eq _ (by rw [chunk_len]; omega), gt_right _ _ _ _ rfl (by rw [hc]; omega), gt_eq _ _ (by rw [List.length_replicate]; omega)]
  simp
/-- The blocks of a file's data are those that are told, if its data are the head of theirs and noughts stand behind. -/
theorem data_back (tell : Nat → List UInt8) (hl : ∀ n, (tell n).length = 32) (first s : Nat) (x : File) (hx : x.data = (dataT tell first (manyN s)).take s) (hz : zerosB ((dataT tell first (manyN s)).drop s) = true) :
    dataB x = tellN (fun j => tell (first + j)) (manyN s) := by
  have hd := dataT_len tell hl first (manyN s)
  have hms : s ≤ 32 * manyN s := by unfold manyN; omega
  have hxl : x.data.length = s := by rw [hx, List.length_take]; omega
  apply ext_gt
  · rw [dataB_len, tellN_len, hxl]
  · intro k hk
    rw [dataB_len, hxl] at hk
    rw [tellN_gt _ _ _ hk]
    apply ext_gt
    · rw [dataB_32 x k (by rw [hxl]; exact hk), hl]
    · intro j hj
      rw [dataB_32 x k (by rw [hxl]; exact hk)] at hj
      have e1 := dataT_gt tell hl first (manyN s) (32 * k + j) (by omega)
      rw [show (32 * k + j) / 32 = k by omega, show (32 * k + j) % 32 = j by omega] at e1
      by_cases hi : 32 * k + j < s
      · have e2 := dataB_gt x (32 * k + j) (by omega)
        rw [show (32 * k + j) / 32 = k by omega, show (32 * k + j) % 32 = j by omega] at e2
        rw [e2, ← e1, hx, gt_eq _ _ (by rw [List.length_take]; omega), gt_eq _ _ (by omega)]
        simp
      · have e2 := dataB_gt0 x (32 * k + j) (by omega) (by rw [hxl]; omega)
        rw [show (32 * k + j) / 32 = k by omega, show (32 * k + j) % 32 = j by omega] at e2
        rw [e2, ← e1]
        have h0 := (zerosB_iff _).1 hz (gt (dataT tell first (manyN s)) (32 * k + j)) (by
          rw [gt_eq _ _ (by omega)]
          have : (dataT tell first (manyN s))[32 * k + j]'(by omega) = ((dataT tell first (manyN s)).drop s)[32 * k + j - s]'(by rw [List.length_drop]; omega) := by
            rw [List.getElem_drop]
            congr 1
            omega
          rw [this]
          exact List.getElem_mem _)
        exact h0.symm
theorem data_fore (tell : Nat → List UInt8) (hl : ∀ n, (tell n).length = 32) (first : Nat) (x : File) (h : ∀ k, k < manyN x.data.length → tell (first + k) = gt (dataB x) k) :
    (dataT tell first (manyN x.data.length)).take x.data.length = x.data ∧ zerosB ((dataT tell first (manyN x.data.length)).drop x.data.length) = true := by
  have hd := dataT_len tell hl first (manyN x.data.length)
  have hms : x.data.length ≤ 32 * manyN x.data.length := by unfold manyN; omega
  constructor
  · apply ext_gt
    · rw [List.length_take]; omega
    · intro i hi
      rw [List.length_take] at hi
      have e1 := dataT_gt tell hl first (manyN x.data.length) i (by omega)
      rw [h (i / 32) (by omega), dataB_gt x i (by omega)] at e1
      rw [← e1, gt_eq _ _ (by rw [List.length_take]; omega), gt_eq _ _ (by omega)]
      simp
  · rw [zerosB_iff]
    intro y hy
    obtain ⟨i, hi, rfl⟩ := List.getElem_of_mem hy
    rw [List.length_drop] at hi
    rw [List.getElem_drop]
    have e1 := dataT_gt tell hl first (manyN x.data.length) (x.data.length + i) (by omega)
    rw [h ((x.data.length + i) / 32) (by omega), dataB_gt0 x _ (by omega) (by omega), gt_eq _ _ (by omega)] at e1
    exact e1
/-! ### the head -/
theorem head_back (h : List UInt8) (hl : h.length = 32) (hk : headOK h = true) (n s : Nat) (hn : n = (gt h 5).toNat) (hs : (gt h 6).toNat * 256 + (gt h 7).toNat = s) : headB magicB n s = h := by
  unfold headOK at hk
  simp only [Bool.and_eq_true, decide_eq_true_eq] at hk
  obtain ⟨h1, h2, h3⟩ := hk
  have e8 : h.drop 8 = List.replicate 24 0 := by
    have := zerosB_eq h3
    rwa [List.length_drop, hl] at this
  obtain ⟨s1, s2⟩ := hilo_of (gt h 6) (gt h 7)
  have e5 : UInt8.ofNat n = gt h 5 := by rw [hn]; simp
  conv => rhs; rw [← List.take_append_drop 5 h, drop_gt h 5 (by omega), drop_gt h 6 (by omega), drop_gt h 7 (by omega), h1, e8]
  unfold headB
  rw [← hs, s1, s2, e5]
  simp
theorem head_fore (n s : Nat) (hn : n ≤ 8) (hs : s ≤ 65535) : headOK (headB magicB n s) = true ∧ (gt (headB magicB n s) 5).toNat = n ∧ (gt (headB magicB n s) 6).toNat * 256 + (gt (headB magicB n s) 7).toNat = s := by
  have e5 : gt (headB magicB n s) 5 = UInt8.ofNat n := rfl
  have e6 : gt (headB magicB n s) 6 = hi2 s := rfl
  have e7 : gt (headB magicB n s) 7 = lo2 s := rfl
  have en : (UInt8.ofNat n).toNat = n := by rw [UInt8.toNat_ofNat']; omega
  refine ⟨?_, by rw [e5, en], by rw [e6, e7]; exact hilo_to s hs⟩
  unfold headOK
  rw [e5, en, decide_eq_true (show (headB magicB n s).take 5 = magicB by rfl), decide_eq_true hn]
  exact zerosB_rep 24
end Go.Proofs.YtnpnpgihbgohgaaDoor
/-
  Chapter 49, plain: what is read has just this disk.
-/
namespace Go.Proofs.YtnpnpgihbgohgaaDoor
open Go.RowKit Go.Proofs.YtnpnpgihbgohgaaDoorW.PrintWords Go.Proofs.YtnpnpgihbgohgaaDoorW.PrintLast Go.Proofs.YtnpnpgihbgohgaaDoorW.PrintMore
set_option linter.unusedVariables false
set_option linter.unusedSimpArgs false

/-- Files of the same names, none of them too long, are together alike. -/
theorem tog_face {l m : List File} (hl : l.length = m.length) (hn : ∀ k, k < l.length → (gt l k).name = (gt m k).name) (h1 : ∀ k, k < l.length → (gt l k).data.length ≤ 256) (h2 : ∀ k, k < l.length → (gt m k).data.length ≤ 256) : togB l = togB m := by
  have hnm : l.map nmL = m.map nmL := by
    apply ext_gt
    · simpa using hl
    · intro i hi
      rw [List.length_map] at hi
      have := hn i hi
      rw [gt_eq _ _ (by simpa using hi), gt_eq _ _ (by simpa using hl ▸ hi)]
      rw [gt_eq _ _ hi, gt_eq _ _ (by omega)] at this
      simp [nmL, this]
  have : ∀ k, k ≤ l.length → togTo l k = togTo m k := by
    intro k
    induction k with
    | zero => intro _; rfl
    | succ k ih =>
      intro hk
      have e1 : (l.take k).map nmL = (m.take k).map nmL := by rw [List.map_take, List.map_take, hnm]
      have e2 := hn k (by omega)
      unfold togTo
      rw [ih (by omega), e1]
      unfold rightB nmL
      rw [e2, decide_eq_true (h1 k (by omega)), decide_eq_true (h2 k (by omega))]
  unfold togB
  rw [← hl]
  exact this l.length (Nat.le_refl _)
theorem blocksTo_succ (l : List File) (k : Nat) (hk : k < l.length) : blocksTo l (k + 1) = blocksTo l k + manyN (gt l k).data.length := by
  unfold blocksTo
  rw [List.take_add_one, gt_some l k hk, List.map_append, List.sum_append]
  simp
theorem blocksTo_zero (l : List File) : blocksTo l 0 = 0 := by simp [blocksTo]
theorem flat_len (l : List File) (k : Nat) : (((l.take k).map dataB).flatten).length = blocksTo l k := by
  unfold blocksTo
  simp only [List.length_flatten, List.map_map]
  congr 1
  apply List.map_congr_left
  intro x _
  simp [dataB]
theorem makeB_size (l : List File) : (makeB l).length = 1 + l.length + blocksTo l l.length := by
  have h := flat_len l l.length
  rw [List.take_of_length_le (Nat.le_refl _)] at h
  unfold makeB
  rw [List.cons_append, List.length_cons, List.length_append, h]
  simp only [tableB, List.length_map, List.length_range]
  omega
theorem tableB_len (l : List File) : (tableB l).length = l.length := by simp [tableB]
theorem tableB_gt (l : List File) (i : Nat) (h : i < l.length) : gt (tableB l) i = entryB (gt l i) (1 + l.length + blocksTo l i) := by
  rw [gt_eq _ _ (by rw [tableB_len]; exact h)]
  simp [tableB]
theorem nameF_nm (b : List UInt8) : nmL (nameF b) = entN b := rfl
theorem readB_some {tell : Nat → List UInt8} {l : List File} (h : readB tell = some l) : headOK (tell 0) = true ∧ (gt (tell 0) 6).toNat * 256 + (gt (tell 0) 7).toNat = sumT (tableT tell (gt (tell 0) 5).toNat) ∧ goodTo (tableT tell (gt (tell 0) 5).toNat) (gt (tell 0) 5).toNat = true ∧
    togB ((tableT tell (gt (tell 0) 5).toNat).map nameF) = true ∧ restTo tell (tableT tell (gt (tell 0) 5).toNat) (gt (tell 0) 5).toNat = true ∧ l = filesTo tell (tableT tell (gt (tell 0) 5).toNat) (gt (tell 0) 5).toNat := by
  unfold readB at h
  split at h
  · next h1 =>
    split at h
    · next h2 =>
      split at h
      · next h3 =>
        split at h
        · next h4 =>
          split at h
          · next h5 => exact ⟨h1, h2, h3, h4, h5, (Option.some.inj h).symm⟩
          · cases h
        · cases h
      · cases h
    · cases h
  · cases h
theorem goodTo_at {T : List (List UInt8)} {n : Nat} (h : goodTo T n = true) (i : Nat) (hi : i < n) : entGood (gt T i) (firstT T i) = true := by
  unfold goodTo at h
  exact List.all_eq_true.1 h i (List.mem_range.2 hi)
theorem restTo_at {tell : Nat → List UInt8} {T : List (List UInt8)} {n : Nat} (h : restTo tell T n = true) (i : Nat) (hi : i < n) : zerosB ((dataI tell T i).drop (entS (gt T i))) = true := by
  unfold restTo at h
  exact List.all_eq_true.1 h i (List.mem_range.2 hi)
/-- WHAT IS READ HAS JUST THIS DISK. -/
theorem read_made {tell : Nat → List UInt8} (hl : ∀ n, (tell n).length = 32) {l : List File} (h : readB tell = some l) :
    l.length ≤ 8 ∧ togB l = true ∧ makeB l = tellN tell (makeB l).length ∧ (makeB l).length = firstT (tableT tell (gt (tell 0) 5).toNat) (gt (tell 0) 5).toNat := by
  obtain ⟨h1, h2, h3, h4, h5, h6⟩ := readB_some h
  obtain ⟨n, hn⟩ : ∃ n, n = (gt (tell 0) 5).toNat := ⟨_, rfl⟩
  rw [← hn] at h2 h3 h4 h5 h6 ⊢
  obtain ⟨T, hT⟩ : ∃ T, T = tableT tell n := ⟨_, rfl⟩
  rw [← hT] at h2 h3 h4 h5 h6 ⊢
  have hTl : T.length = n := by rw [hT, tableT_len]
  have hTg : ∀ i, i < n → gt T i = tell (1 + i) := fun i hi => by rw [hT, tableT_gt _ _ _ hi]
  have hn8 : n ≤ 8 := by
    have := h1
    unfold headOK at this
    simp only [Bool.and_eq_true, decide_eq_true_eq] at this
    rw [hn]; exact this.2.1
  have hll : l.length = n := by rw [h6, filesTo_len, hTl]
  have hlg : ∀ i, i < n → gt l i = fileT tell T i := fun i hi => by rw [h6, filesTo_gt _ _ _ _ (by omega), if_pos hi]
  have hsz : ∀ i, i < n → entS (gt T i) ≤ 256 := fun i hi => goodTo_size h3 i hi
  have hdl : ∀ i, i < n → (gt l i).data.length = entS (gt T i) := fun i hi => by
    rw [hlg i hi]
    show ((dataI tell T i).take (entS (gt T i))).length = _
    unfold dataI
    rw [List.length_take, dataT_len tell hl]
    unfold manyN
    omega
  have hfirst : ∀ i, i ≤ n → 1 + n + blocksTo l i = firstT T i := by
    intro i
    induction i with
    | zero => intro _; rw [blocksTo_zero, firstT_zero, hTl, Nat.add_zero]
    | succ i ih =>
      intro hi
      rw [blocksTo_succ l i (by omega), firstT_succ T i (by omega), ← ih (by omega), hdl i (by omega)]
      omega
  have hmk : (makeB l).length = firstT T n := by rw [makeB_size, hll, hfirst n (Nat.le_refl _)]
  have htab : tableB l = T := by
    apply ext_gt
    · rw [tableB_len]; omega
    · intro i hi
      rw [tableB_len, hll] at hi
      rw [tableB_gt l i (by omega), hll, hfirst i (by omega)]
      refine entry_back _ (by rw [hTg i hi]; exact hl _) _ (goodTo_at h3 i hi) _ ?_ (hdl i hi)
      rw [hlg i hi]
      rfl
  have hdat : ∀ i, i < n → dataB (gt l i) = tellN (fun j => tell (firstT T i + j)) (manyN (entS (gt T i))) := fun i hi => by
    refine data_back tell hl _ _ _ ?_ (restTo_at h5 i hi)
    rw [hlg i hi]
    rfl
  have hflat : ∀ i, i ≤ n → ((l.take i).map dataB).flatten = tellN (fun j => tell (1 + n + j)) (blocksTo l i) := by
    intro i
    induction i with
    | zero => intro _; rw [blocksTo_zero]; rfl
    | succ i ih =>
      intro hi
      rw [List.take_add_one, gt_some l i (by omega), List.map_append, List.flatten_append, ih (by omega), blocksTo_succ l i (by omega), tellN_add, hdl i (by omega)]
      congr 1
      show ([dataB (gt l i)]).flatten = _
      rw [List.flatten_cons, List.flatten_nil, List.append_nil, hdat i (by omega), ← hfirst i (by omega)]
      unfold tellN
      apply List.map_congr_left
      intro j _
      show tell _ = tell _
      congr 1
      omega
  have hall := hflat n (Nat.le_refl _)
  rw [List.take_of_length_le (by omega)] at hall
  refine ⟨by omega, ?_, ?_, hmk⟩
  · rw [← h4]
    refine tog_face (by simp; omega) (fun k hk => ?_) (fun k hk => by rw [hdl k (by omega)]; exact hsz k (by omega)) (fun k hk => ?_)
    · rw [hlg k (by omega), gt_eq (T.map nameF) k (by simp; omega), List.getElem_map, ← gt_eq T k (by omega)]
      rfl
    · rw [gt_eq (T.map nameF) k (by simp; omega), List.getElem_map]
      exact Nat.zero_le _
  · rw [makeB_size, hll, tellN_add, tellN_add]
    unfold makeB
    rw [hall, htab, hll, head_back (tell 0) (hl 0) h1 n _ hn h2, hT]
    rfl
end Go.Proofs.YtnpnpgihbgohgaaDoor
namespace Go.Proofs.YtnpnpgihbgohgaaDoor
open Go.RowKit Go.Proofs.YtnpnpgihbgohgaaDoorW.PrintWords Go.Proofs.YtnpnpgihbgohgaaDoorW.PrintLast Go.Proofs.YtnpnpgihbgohgaaDoorW.PrintMore
set_option linter.unusedVariables false
set_option linter.unusedSimpArgs false

theorem makeB_gt_zero (l : List File) : gt (makeB l) 0 = headB magicB l.length (sumT (tableB l)) := rfl
theorem makeB_gt_tab (l : List File) (i : Nat) (h : i < l.length) : gt (makeB l) (1 + i) = gt (tableB l) i := by
  unfold makeB
  rw [List.cons_append, Nat.add_comm]
  show gt (tableB l ++ (l.map dataB).flatten) i = _
  rw [gt_left _ _ _ (by rw [tableB_len]; exact h)]
theorem drop_gt' {α : Type} [Inhabited α] (b : List α) (k : Nat) (h : k < b.length) : b.drop k = gt b k :: b.drop (k + 1) := by
  rw [List.drop_eq_getElem_cons h, gt_eq b k h]
theorem makeB_gt_data (l : List File) (i k : Nat) (h : i < l.length) (hk : k < manyN (gt l i).data.length) : gt (makeB l) (1 + l.length + blocksTo l i + k) = gt (dataB (gt l i)) k := by
  have e : (l.map dataB).flatten = ((l.take i).map dataB).flatten ++ (dataB (gt l i) ++ ((l.drop (i + 1)).map dataB).flatten) := by
    conv => lhs; rw [← List.take_append_drop i l, drop_gt' l i h]
    rw [List.map_append, List.flatten_append, List.map_cons, List.flatten_cons]
  unfold makeB
  rw [e, List.cons_append, show 1 + l.length + blocksTo l i + k = (l.length + (blocksTo l i + k)) + 1 by omega]
  show gt (tableB l ++ _) _ = _
  rw [gt_right _ _ _ _ (tableB_len l) (by omega), gt_right _ _ _ _ (flat_len l i) (by omega), gt_left _ _ _ (by rw [dataB_len]; omega)]
  congr 1
  omega
theorem entry_split (x : File) (a : Nat) : entryB x a = pad12 (nmL x) ++ ([hi2 x.data.length, lo2 x.data.length] ++ ((if 0 < x.data.length then [hi2 a, lo2 a] else [0, 0]) ++ List.replicate 16 0)) := by
  unfold entryB pad12 nmL
  simp only [List.append_assoc]
theorem pad12_len (s : List UInt8) : (pad12 s).length = 12 := by simp [pad12]
/-- What an entry says. -/
theorem entry_fore (x : File) (a : Nat) (hn : namedB x.name = true) (hd : x.data.length ≤ 256) (ha : a ≤ 65535) : entN (entryB x a) = nmL x ∧ entS (entryB x a) = x.data.length ∧ entGood (entryB x a) a = true := by
  have hnz := named_nz hn
  have hnl : (nmL x).length ≤ 12 := by
    unfold namedB at hn
    simp only [Bool.and_eq_true, decide_eq_true_eq] at hn
    unfold nmL
    rw [← Lib.size_eq]
    exact hn.2
  have hp := pad12_len (nmL x)
  have hsp := entry_split x a
  have ht12 : (entryB x a).take 12 = pad12 (nmL x) := (entry_parts x a).1
  have e12 : gt (entryB x a) 12 = hi2 x.data.length := by rw [hsp, gt_right _ _ _ _ hp (by omega)]; rfl
  have e13 : gt (entryB x a) 13 = lo2 x.data.length := by rw [hsp, gt_right _ _ _ _ hp (by omega)]; rfl
  have eN : entN (entryB x a) = nmL x := by
    unfold entN
    rw [ht12]
    exact pad12_tw _ hnl hnz
  have eS : entS (entryB x a) = x.data.length := by
    unfold entS
    rw [e12, e13]
    exact hilo_to _ (by omega)
  have e16 : (entryB x a).drop 16 = List.replicate 16 0 := by
    rw [hsp]
    split
    · rw [show (pad12 (nmL x) ++ ([hi2 x.data.length, lo2 x.data.length] ++ ([hi2 a, lo2 a] ++ List.replicate 16 0))) = (pad12 (nmL x) ++ [hi2 x.data.length, lo2 x.data.length, hi2 a, lo2 a]) ++ List.replicate 16 0 by simp]
      rw [List.drop_append_of_le_length (by simp [hp]), List.drop_of_length_le (by simp [hp])]
      rfl
    · rw [show (pad12 (nmL x) ++ ([hi2 x.data.length, lo2 x.data.length] ++ ([0, 0] ++ List.replicate 16 (0 : UInt8)))) = (pad12 (nmL x) ++ [hi2 x.data.length, lo2 x.data.length, 0, 0]) ++ List.replicate 16 0 by simp]
      rw [List.drop_append_of_le_length (by simp [hp]), List.drop_of_length_le (by simp [hp])]
      rfl
  have eF : entF (entryB x a) = if entS (entryB x a) = 0 then 0 else a := by
    unfold entF
    rw [eS, hsp, gt_right _ _ _ _ hp (by omega), gt_right _ _ _ _ hp (by omega)]
    by_cases h0 : x.data.length = 0
    · rw [if_pos h0, if_neg (by omega)]
      show (0 : UInt8).toNat * 256 + (0 : UInt8).toNat = 0
      rfl
    · rw [if_neg h0, if_pos (by omega)]
      show (hi2 a).toNat * 256 + (lo2 a).toNat = a
      exact hilo_to _ ha
  have eK : entK (entryB x a) = true := by
    unfold entK
    rw [e16, zerosB_rep, Bool.and_true]
    have : nameK (entryB x a) = (nmL x).length := by
      rw [← eN]
      rfl
    rw [this, ht12, pad12_eq _ hnl, List.drop_append_of_le_length (Nat.le_refl _), List.drop_of_length_le (Nat.le_refl _)]
    exact zerosB_rep _
  refine ⟨eN, eS, ?_⟩
  unfold entGood
  rw [eK, eF, eS, decide_eq_true hd]
  simp
/-- WHAT WAS MADE IS READ AS IT WAS. -/
theorem made_read {tell : Nat → List UInt8} (hl : ∀ n, (tell n).length = 32) {l : List File} (h8 : l.length ≤ 8) (ht : togB l = true) (h : ∀ i, i < (makeB l).length → tell i = gt (makeB l) i) : readB tell = some l := by
  have hml := makeB_size l
  have hb8 : ∀ i, i ≤ l.length → blocksTo l i ≤ 8 * i := fun i hi => blocksTo_le ht i hi
  have hmono : ∀ i, i < l.length → blocksTo l i + manyN (gt l i).data.length ≤ blocksTo l l.length := by
    intro i hi
    have : ∀ d, i + 1 + d ≤ l.length → blocksTo l (i + 1) ≤ blocksTo l (i + 1 + d) := by
      intro d
      induction d with
      | zero => intro _; exact Nat.le_refl _
      | succ d ih =>
        intro hd
        rw [show i + 1 + (d + 1) = (i + 1 + d) + 1 by omega, blocksTo_succ l (i + 1 + d) (by omega)]
        have := ih (by omega)
        omega
    have h1 := this (l.length - (i + 1)) (by omega)
    rw [show i + 1 + (l.length - (i + 1)) = l.length by omega, blocksTo_succ l i hi] at h1
    exact h1
  have h0 : tell 0 = headB magicB l.length (sumT (tableB l)) := by rw [h 0 (by omega), makeB_gt_zero]
  obtain ⟨k1, k2, k3⟩ := head_fore l.length (sumT (tableB l)) h8 (sumT_le _)
  rw [← h0] at k1 k2 k3
  have hT : tableT tell l.length = tableB l := by
    apply ext_gt
    · rw [tableT_len, tableB_len]
    · intro i hi
      rw [tableT_len] at hi
      rw [tableT_gt _ _ _ hi, h (1 + i) (by omega), makeB_gt_tab l i hi]
  have hent : ∀ i, i < l.length → entN (gt (tableB l) i) = nmL (gt l i) ∧ entS (gt (tableB l) i) = (gt l i).data.length ∧ entGood (gt (tableB l) i) (1 + l.length + blocksTo l i) = true := fun i hi => by
    rw [tableB_gt l i hi]
    have := hb8 i (by omega)
    exact entry_fore _ _ (tog_named ht i hi) (tog_right ht i hi).2 (by omega)
  have hfirst : ∀ i, i ≤ l.length → firstT (tableB l) i = 1 + l.length + blocksTo l i := by
    intro i
    induction i with
    | zero => intro _; rw [blocksTo_zero, firstT_zero, tableB_len, Nat.add_zero]
    | succ i ih =>
      intro hi
      rw [firstT_succ _ i (by rw [tableB_len]; omega), ih (by omega), blocksTo_succ l i (by omega), (hent i (by omega)).2.1]
      omega
  have hgood : goodTo (tableB l) l.length = true := by
    unfold goodTo
    rw [List.all_eq_true]
    intro i hi
    have hi := List.mem_range.1 hi
    rw [hfirst i (by omega)]
    exact (hent i hi).2.2
  have hnm : ∀ i, i < l.length → (nameF (gt (tableB l) i)).name = (gt l i).name := fun i hi => name_ext (hent i hi).1
  have htog : togB ((tableB l).map nameF) = true := by
    rw [← ht]
    refine tog_face (by simp [tableB_len]) (fun k hk => ?_) (fun k hk => ?_) (fun k hk => ?_)
    · rw [List.length_map, tableB_len] at hk
      rw [gt_eq ((tableB l).map nameF) k (by simpa [tableB_len] using hk), List.getElem_map, ← gt_eq (tableB l) k (by rw [tableB_len]; exact hk)]
      exact hnm k hk
    · rw [gt_eq _ _ hk, List.getElem_map]
      exact Nat.zero_le _
    · rw [List.length_map, tableB_len] at hk
      exact (tog_right ht k hk).2
  have hdat : ∀ i, i < l.length → (dataI tell (tableB l) i).take (entS (gt (tableB l) i)) = (gt l i).data ∧ zerosB ((dataI tell (tableB l) i).drop (entS (gt (tableB l) i))) = true := fun i hi => by
    unfold dataI
    rw [hfirst i (by omega), (hent i hi).2.1]
    refine data_fore tell hl _ _ (fun k hk => ?_)
    have := hmono i hi
    rw [h _ (by omega), makeB_gt_data l i k hi hk]
  have hrest : restTo tell (tableB l) l.length = true := by
    unfold restTo
    rw [List.all_eq_true]
    intro i hi
    exact (hdat i (List.mem_range.1 hi)).2
  have hfiles : filesTo tell (tableB l) l.length = l := by
    apply ext_gt
    · rw [filesTo_len, tableB_len]
    · intro i hi
      rw [filesTo_len, tableB_len] at hi
      rw [filesTo_gt _ _ _ _ (by rw [tableB_len]; exact hi), if_pos hi]
      have e1 := hnm i hi
      have e2 := (hdat i hi).1
      cases hx : gt l i
      rw [hx] at e1 e2
      unfold fileT
      rw [e2]
      simp only at e1
      rw [← e1]
      rfl
  unfold readB
  rw [k2, hT, k3, k1, hgood, htog, hrest, hfiles, if_pos rfl, if_pos rfl, if_pos rfl, if_pos rfl, if_pos rfl]
end Go.Proofs.YtnpnpgihbgohgaaDoor
