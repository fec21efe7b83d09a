/-
  AttackFloods, walked: it returns true.
-/
import Derived.Test.YtdobjbdkfammbaaDoorLAFlood
namespace Go.Proofs.YtdobjbdkfammbaaDoor
open Go.RowKit Go.Shelf Go.Proofs.YtdobjbdkfammbaaDoorW.PrintWords Go.Proofs.YtdobjbdkfammbaaDoorW.PrintLast Go.Proofs.YtdobjbdkfammbaaDoorW.PrintMore
set_option linter.unusedVariables false
set_option linter.unusedSimpArgs false

theorem flood_gt (vol blocks x : Int) (n k : Nat) (hk : k < n) : gt (floodD vol blocks x n) k = ⟨1, [floodW vol blocks (floodX x k)], 0⟩ := by
  rw [gt_eq _ _ (by rw [floodD_len]; exact hk)]
  simp [floodD]
/-- The one write of a deed of a flood. -/
theorem wr_one {w : World} {A : Option Addr} {y : Wr} (h : kWr.C w A 1 [y]) : ∃ ad, A = some ad ∧ y.data.length = 32 ∧ (∀ j u, (wrV y)[j]? = some u → w.cell? (ad.add j) = some u) ∧ w.cell? ad = some (.int .i64 0) ∧ w.cell? ⟨ad.block, ad.off + 1, none⟩ = some (.int .i64 y.vol) ∧ w.cell? ⟨ad.block, ad.off + 2, none⟩ = some (.int .i64 y.blk) := by
  obtain ⟨ad, e, hl, hc⟩ := wr_at h (k := 0) (by omega)
  have h0 : gt [y] 0 = y := rfl
  rw [h0] at hl hc
  have hc' : ∀ j u, (wrV y)[j]? = some u → w.cell? (ad.add j) = some u := fun j u hu => by
    have := hc j u hu
    rwa [Deep.add_add, Nat.zero_mul, Nat.zero_add] at this
  refine ⟨ad, e, hl, hc', ?_, ?_, ?_⟩
  · have := hc' 0 _ rfl
    rwa [Addr.add, if_pos rfl] at this
  · rw [← add_pos ad 1 (by omega)]; exact hc' 1 _ rfl
  · rw [← add_pos ad 2 (by omega)]; exact hc' 2 _ rfl
set_option maxRecDepth 4000 in
set_option maxHeartbeats 3200000 in
theorem law_afloods (vol : Int) (b : UInt8) (X Y : Nat) (hX : X ≤ 65535) (hY : Y ≤ 65535) (seed : Int) (hx : U64 seed) (w : World) (hmg : MagicAt w) :
    Calls Tryd.prog 4 #[.int .i64 vol, .int .u8 (b.toNat : Int), .int .u16 (X : Int), .int .u16 (Y : Int), .int .u64 seed] w fun e w' => e = .returned (.bool true) ∧ Below w.heap.size w w' := by
  have HMG := Aside0.mk hmg
  have HX := Aside0.mk hx
  have hb8 := b.toNat_lt
  obtain ⟨m, hm⟩ : ∃ m, m = X % 2000 := ⟨_, rfl⟩
  obtain ⟨k, hk⟩ : ∃ k, k = Y % (m + 1) := ⟨_, rfl⟩
  have hm2 : m ≤ 1999 := by omega
  have hkm : k ≤ m := by
    have := Nat.mod_lt Y (show 0 < m + 1 by omega)
    omega
  have e1 : (X : Int).tmod 2000 = (m : Int) := by rw [hm]; exact (Int.ofNat_tmod _ _).symm
  have e2 : (Y : Int).tmod ((m : Int) + 1) = (k : Int) := by rw [hk, show (m : Int) + 1 = ((m + 1 : Nat) : Int) by omega]; exact (Int.ofNat_tmod _ _).symm
  have hb1 : (1 : Int) ≤ 1 + (b.toNat : Int) := by omega
  obtain ⟨n1, hn1⟩ : ∃ n1, n1 = (if (m : Int) < 1000 then (m : Int) else 1000).toNat := ⟨_, rfl⟩
  obtain ⟨n2, hn2⟩ : ∃ n2, n2 = (if (k : Int) < 1000 then (k : Int) else 1000).toNat := ⟨_, rfl⟩
  have HN1 := Aside0.mk hn1
  have HN2 := Aside0.mk hn2
  have hl1 : n1 ≤ 1000 := by split at hn1 <;> omega
  have hl2 : n2 ≤ 1000 := by split at hn2 <;> omega
  clear hmg hx hm hk hn1 hn2
  go_enter Tryd.func4, Tryd.ntmps4
  have hcase : (m : Int) ≤ 1000 ∧ n1 = m ∨ ¬ (m : Int) ≤ 1000 ∧ n1 = 1000 := by
    have h := HN1.out
    split at h <;> omega
  have hcase2 : (k : Int) ≤ 1000 ∧ n2 = k ∨ ¬ (k : Int) ≤ 1000 ∧ n2 = 1000 := by
    have h := HN2.out
    split at h <;> omega
  have HC1 := Aside0.mk hcase
  have HC2 := Aside0.mk hcase2
  clear hcase hcase2
  go_upto_region 7 with (first | (go_at_call 12; refine (awake55 _ HMG.out).mono ?_; rintro e w1 ⟨rfl, hb⟩; have HB1 := Aside0.mk hb; clear hb) | (go_at_call 14; (first | ((with_reducible refine (flood_as vol (1 + (b.toNat : Int)) m seed w1 hb1 (by omega) HX.out n1 HN1.out).mono ?_); rintro e w2 ⟨A2, c2, rfl, ho, hb⟩; have HB2 := Aside0.mk (below_step HB1.out hb); have hC := (Kd.R_reads' ho).2.2; rw [floodD_len] at hC; have HL2 := Aside0.mk hC; clear ho hb hC) | ((with_reducible refine (flood_as vol (1 + (b.toNat : Int)) k seed w2 hb1 (by omega) HX.out n2 HN2.out).mono ?_); rintro e w3 ⟨A3, c3, rfl, ho, hb⟩; have HB3 := Aside0.mk (below_step HB2.out hb); have hC := (Kd.R_reads' ho).2.2; rw [floodD_len] at hC; have HL3 := Aside0.mk hC; have HL2b := Aside0.mk (Kd.C_below HL2.out hb); clear ho hb hC))))
  obtain ⟨V, rfl⟩ : ∃ V, V = w3 := ⟨_, rfl⟩
  go_cut [52] (fun v52 wd => v52 = .bool false ∧ Aside0 (wd = V))
  case first =>
    rcases HC1.out with ⟨h1, h2⟩ | ⟨h1, h2⟩
    · have f1 : ((n1 : Int) != (m : Int)) = false := by rw [h2]; simp
      rcases HC2.out with ⟨h3, h4⟩ | ⟨h3, h4⟩
      · have f2 : ((n2 : Int) != (k : Int)) = false := by rw [h4]; simp
        clear h2 h4
        go_wp2_with fail
        go_meet
        case rel => exact ⟨rfl, ⟨rfl⟩⟩
      · have f2 : ((n2 : Int) != 1000) = false := by rw [h4]; rfl
        clear h2 h4
        go_wp2_with fail
        go_meet
        case rel => exact ⟨rfl, ⟨rfl⟩⟩
    · have f1 : ((n1 : Int) != 1000) = false := by rw [h2]; rfl
      rcases HC2.out with ⟨h3, h4⟩ | ⟨h3, h4⟩
      · have f2 : ((n2 : Int) != (k : Int)) = false := by rw [h4]; simp
        clear h2 h4
        go_wp2_with fail
        go_meet
        case rel => exact ⟨rfl, ⟨rfl⟩⟩
      · have f2 : ((n2 : Int) != 1000) = false := by rw [h4]; rfl
        clear h2 h4
        go_wp2_with fail
        go_meet
        case rel => exact ⟨rfl, ⟨rfl⟩⟩
  obtain ⟨rfl, HWC⟩ := hcut
  rw [HWC.out]
  go_wp2_with fail
  have hn1x : n1 ≤ 1000 := hl1
  go_loopg [55, 16, 17] n1 (fun gk i _ _ wr => ∃ j : Nat, j ≤ n1 ∧ Aside0 (gk = n1 - j) ∧ i = .int .i64 j ∧ Aside0 (Below V.heap.size V wr))
  case atStart => exact ⟨0, Nat.zero_le _, ⟨rfl⟩, rfl, ⟨Below.refl _ _⟩⟩
  case round =>
    obtain ⟨j, hj, HGJ, rfl, HB⟩ := hrel
    by_cases hlt : j < n1
    · have hjn : (j : Int) < (n1 : Int) := by omega
      obtain ⟨ad, A1, d1, rfl, g0, g1, g2, hl1', hC1⟩ := dd_at (Kd.C_below HL2b.out HB.out) hlt
      rw [flood_gt vol (1 + (b.toNat : Int)) seed n1 j hlt] at g0 g1 g2 hl1' hC1
      obtain ⟨y, hy⟩ : ∃ y, y = floodW vol (1 + (b.toNat : Int)) (floodX seed j) := ⟨_, rfl⟩
      rw [← hy] at hC1
      have hr0 : 0 ≤ y.blk := by rw [hy]; exact Int.emod_nonneg _ (by omega)
      have hr1 : y.blk < 1 + (b.toNat : Int) := by rw [hy]; exact Int.emod_lt_of_pos _ (by omega)
      have hv : y.vol = vol := by rw [hy]; rfl
      simp only [List.length_cons, List.length_nil, Nat.zero_add] at g1 hl1' hC1
      have HC1 := Aside0.mk hC1
      have HY := Aside0.mk hy
      clear hy hC1
      go_upto_region 12 with fail
      obtain ⟨W1, hW1⟩ : ∃ W1, wr.alloc (.cells #[.int .i64 1, .slice A1 1 d1, .int .i64 0] 33) = W1 := ⟨_, rfl⟩
      have hb1' : Below wr.heap.size wr W1 := by rw [← hW1]; exact below_alloc (Below.refl _ _) _
      have hbx : W1.heap[wr.heap.size]? = some (.cells #[.int .i64 1, .slice A1 1 d1, .int .i64 0] 33 (0, 0)) := by rw [← hW1]; exact blk_new wr _
      have z0 := blk_cell hbx 0
      have z1 := blk_cell hbx 1
      have z2 := blk_cell hbx 2
      simp only [List.getElem?_toArray, List.getElem?_cons_zero, List.getElem?_cons_succ] at z0 z1 z2
      have HB1 := Aside0.mk (below_step HB.out hb1')
      obtain ⟨yd, rfl, hy32, hyc, q0, q1, q2⟩ := wr_one (Kd.C_below HC1.out hb1')
      rw [hv] at q1
      obtain ⟨bk, hbk⟩ : ∃ bk, bk = y.blk := ⟨_, rfl⟩
      rw [← hbk] at q2 hr0 hr1
      have HYC := Aside0.mk hyc
      obtain ⟨Bd, hBd⟩ : ∃ Bd, Bd = wr.heap.size := ⟨_, rfl⟩
      have hbk1 : ¬ bk < 0 := by omega
      have hbk2 : ¬ (1 + (b.toNat : Int)) ≤ bk := by omega
      rw [hW1]
      rw [← hBd] at z0 z1 z2 ⊢
      clear hW1 hb1' hbx hBd g0 g1 g2 hv hbk hyc
      go_wp2_with fail
      by_cases hj2 : j < n2
      · have hjn2 : (j : Int) < (n2 : Int) := by omega
        obtain ⟨fd, A4, d4, rfl, _, k1, _, _, hC4⟩ := dd_at (Kd.C_below HL3.out HB1.out) hj2
        rw [flood_gt vol (1 + (b.toNat : Int)) seed n2 j hj2, ← HY.out] at k1 hC4
        simp only [List.length_cons, List.length_nil, Nat.zero_add] at k1 hC4
        obtain ⟨yf, rfl, _, hyf, _, _, _⟩ := wr_one hC4
        have HYF := Aside0.mk hyf
        have he := eq_wr y hy32
        clear hC4 hyf q0 q1 q2 hbk1 hbk2 z0 z2
        (refine wp_region_quiet_lit (by kernel_rfl) (by kernel_rfl) ?_)
        repeat (first | (refine load_write_quiet rfl _ rfl yd rfl y hy32 HYC.out ?_; dsimp only [Act.put]; simp only [List.setIfInBounds_toArray, List.set_cons_succ, List.set_cons_zero]) | (refine load_write_quiet rfl _ rfl yf rfl y hy32 HYF.out ?_; dsimp only [Act.put]; simp only [List.setIfInBounds_toArray, List.set_cons_succ, List.set_cons_zero]) | go_big_quiet_step (fail))
        refine wpQuiet_nil ?_
        intro _ hw'
        obtain ⟨nq, hw''⟩ := hw'
        subst hw''
        go_wp2_with fail
        go_roundg (n1 - (j + 1))
        case measure => have := HGJ.out; omega
        case rel => exact ⟨j + 1, by omega, ⟨rfl⟩, by go_num, ⟨pw_below_drewN HB1.out _⟩⟩
      · have hjn2 : ¬ (j : Int) < (n2 : Int) := by omega
        have hjn3 : decide ((j : Int) < (n2 : Int)) = false := decide_eq_false hjn2
        have hjn4 : decide (j < n2) = false := decide_eq_false hj2
        clear q0 q1 q2 hbk1 hbk2 z0 z2
        go_quiet (fail)
        go_wp2_with fail
        go_roundg (n1 - (j + 1))
        case measure => have := HGJ.out; omega
        case rel => exact ⟨j + 1, by omega, ⟨rfl⟩, by go_num, ⟨pw_below_drewN HB1.out _⟩⟩
    · have hjn : ¬ (j : Int) < (n1 : Int) := by omega
      go_wp2_with fail
      go_ret
      exact ⟨rfl, below_step HB3.out HB.out⟩
end Go.Proofs.YtdobjbdkfammbaaDoor
