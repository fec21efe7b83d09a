/-
  ProbeMounted, walked: it returns true.
-/
import Derived.Test.YtoglbbonfjnmpaaDoorPj
import Derived.Test.YtoglbbonfjnmpaaDoorMt1
namespace Go.Proofs.YtoglbbonfjnmpaaDoor
open Go.RowKit Go.Proofs.YtoglbbonfjnmpaaDoorW.PrintWords Go.Proofs.YtoglbbonfjnmpaaDoorW.PrintLast Go.Proofs.YtoglbbonfjnmpaaDoorW.PrintMore
set_option linter.unusedVariables false
set_option linter.unusedSimpArgs false

set_option maxRecDepth 4000 in
set_option maxHeartbeats 6400000 in
theorem law_pmnt (A B : Option Addr) (before now : List File) (c1 c2 : Nat) (w : World) (h1 : kFile.C w A before.length before) (h2 : kFile.C w B now.length now)
    (hs1 : ∀ k, k < before.length → (gt before k).name.size ≤ 9223372036854775807) (hs2 : ∀ k, k < now.length → (gt now k).name.size ≤ 9223372036854775807) (he : EndAt w) (hn : NumAt w) (hmg : MagicAt w) :
    Calls Tryd.prog 11 #[.slice A before.length c1, .slice B now.length c2] w fun e w' => e = .returned (.bool true) ∧ Below w.heap.size w w' := by
  have H1 := Aside0.mk h1
  have H2 := Aside0.mk h2
  have HS1 := Aside0.mk hs1
  have HS2 := Aside0.mk hs2
  have HE := Aside0.mk he
  have HNM := Aside0.mk hn
  have HEW := Aside0.mk he
  have HNW := Aside0.mk hn
  have HMG := Aside0.mk hmg
  have hmx1 := Kd.C_max h1
  have hmx2 := Kd.C_max h2
  clear h1 h2 hs1 hs2 he hn hmg
  cases hb1 : smallB before
  · have HS := Aside0.mk hb1
    clear hb1
    go_enter Tryd.func11, Tryd.ntmps11
    go_wp2_with (first | (go_at_call 12; refine (awake_any _ HE.out HNM.out).mono ?_; rintro e w1 ⟨rfl, hb⟩; have HB1 := Aside0.mk hb; clear hb) | (go_at_call_of 20 (Value.slice A before.length c1); refine (small_any A before c1 false HS.out 0 rfl _ (Kd.C_below H1.out HB1.out) HS1.out).mono ?_; rintro e w2 ⟨rfl, hb⟩; have HB2 := Aside0.mk (below_step HB1.out hb); clear hb))
    go_ret
    exact ⟨rfl, HB2.out⟩
  · cases hb2 : smallB now
    · have HSA := Aside0.mk hb1
      have HSB := Aside0.mk hb2
      clear hb1 hb2
      go_enter Tryd.func11, Tryd.ntmps11
      go_wp2_with (first | (go_at_call 12; refine (awake_any _ HE.out HNM.out).mono ?_; rintro e w1 ⟨rfl, hb⟩; have HB1 := Aside0.mk hb; clear hb) | (go_at_call_of 20 (Value.slice A before.length c1); refine (small_any A before c1 true HSA.out 1 rfl _ (Kd.C_below H1.out HB1.out) HS1.out).mono ?_; rintro e w2 ⟨rfl, hb⟩; have HB2 := Aside0.mk (below_step HB1.out hb); clear hb) | (go_at_call_of 20 (Value.slice B now.length c2); refine (small_any B now c2 false HSB.out 0 rfl _ (Kd.C_below H2.out HB2.out) HS2.out).mono ?_; rintro e w3 ⟨rfl, hb⟩; have HB3 := Aside0.mk (below_step HB2.out hb); clear hb))
      go_ret
      exact ⟨rfl, HB3.out⟩
    · have HSA := Aside0.mk hb1
      have HSB := Aside0.mk hb2
      have HMA := Aside0.mk (mild_of_small hb1)
      have HMB := Aside0.mk (mild_of_small hb2)
      obtain ⟨⟨a, b, cc⟩, hr⟩ : ∃ r, lookB before now true = r := ⟨_, rfl⟩
      have HR := Aside0.mk hr
      obtain ⟨r, hrn⟩ : ∃ r, renN before now = r := ⟨_, rfl⟩
      have HRN := Aside0.mk hrn
      obtain ⟨E1, hE1⟩ : ∃ E, makeE before = E := ⟨_, rfl⟩
      obtain ⟨E2, hE2⟩ : ∃ E, makeE now = E := ⟨_, rfl⟩
      obtain ⟨m1, hm1⟩ : ∃ n, (makeV before).length = n := ⟨_, rfl⟩
      obtain ⟨m2, hm2⟩ : ∃ n, (makeV now).length = n := ⟨_, rfl⟩
      have HM1 := Aside0.mk hm1
      have HM2 := Aside0.mk hm2
      have HE1 := Aside0.mk hE1
      have HE2 := Aside0.mk hE2
      clear hb1 hb2 hr hrn hE1 hE2 hm1 hm2
      by_cases h10 : E1 = 0
      · subst h10
        by_cases h20 : E2 = 0
        · subst h20
          go_enter Tryd.func11, Tryd.ntmps11
          go_upto_region 11 with (first | (go_at_call 12; refine (awake_any _ HE.out HNM.out).mono ?_; rintro e w1 ⟨rfl, hb⟩; have HB1 := Aside0.mk hb; clear hb) | (go_at_call_of 20 (Value.slice A before.length c1); refine (small_any A before c1 true HSA.out 1 rfl _ (Kd.C_below H1.out HB1.out) HS1.out).mono ?_; rintro e w2 ⟨rfl, hb⟩; have HB2 := Aside0.mk (below_step HB1.out hb); clear hb) | (go_at_call_of 20 (Value.slice B now.length c2); refine (small_any B now c2 true HSB.out 1 rfl _ (Kd.C_below H2.out HB2.out) HS2.out).mono ?_; rintro e w3 ⟨rfl, hb⟩; have HB3 := Aside0.mk (below_step HB2.out hb); clear hb) | (go_at_call_of 22 (Value.slice A before.length c1); refine (files_any A before c1 _ (Kd.C_below H1.out HB3.out) HMA.out.1 (fun k hk => (HMA.out.2 k hk).2)).mono ?_; rintro e w4 ⟨Ap, cp, rfl, ho, hb⟩; have HO4 := Aside0.mk (Kd.R_reads' ho).2.2; have HB4 := Aside0.mk (below_step HB3.out hb); clear ho hb) | (go_at_call_of 27 (Value.slice Ap before.length cp); refine (make_at Ap before before.length cp rfl _ HO4.out HS1.out (Kd.C_below HMG.out HB4.out) m1 HM1.out _ HE1.out).mono ?_; rintro e w5 ⟨Ab, cb, rfl, ho, hb⟩; have HR5 := Aside0.mk ho; have HB5 := Aside0.mk (below_step HB4.out hb); clear ho hb) | (go_at_call_of 22 (Value.slice B now.length c2); refine (files_any B now c2 _ (Kd.C_below H2.out HB5.out) HMB.out.1 (fun k hk => (HMB.out.2 k hk).2)).mono ?_; rintro e w6 ⟨Aq, cq, rfl, ho, hb⟩; have HO6 := Aside0.mk (Kd.R_reads' ho).2.2; have HR6 := Aside0.mk (Kd.R_below HR5.out hb); have HB6 := Aside0.mk (below_step HB5.out hb); clear ho hb) | (go_at_call_of 27 (Value.slice Aq now.length cq); refine (make_at Aq now now.length cq rfl _ HO6.out HS2.out (Kd.C_below HMG.out HB6.out) m2 HM2.out _ HE2.out).mono ?_; rintro e w7 ⟨Ad, cd, rfl, ho, hb⟩; have HR7 := Aside0.mk ho; have HRa := Aside0.mk (Kd.R_below HR6.out hb); have HB7 := Aside0.mk (below_step HB6.out hb); clear ho hb) | (go_at_call_of 28 (Value.slice Ab m1 cb); refine (mount_any before HE1.out before.length rfl m1 cb HM1.out Ab _ HRa.out (Kd.C_below HMG.out HB7.out)).mono ?_; rintro e w8 ⟨Ax, cx, rfl, hC, hb⟩; have HX8 := Aside0.mk hC; have HRb := Aside0.mk (Kd.R_below HR7.out hb); have HB8 := Aside0.mk (below_step HB7.out hb); clear hC hb) | (go_at_call_of 28 (Value.slice Ad m2 cd); refine (mount_any now HE2.out now.length rfl m2 cd HM2.out Ad _ HRb.out (Kd.C_below HMG.out HB8.out)).mono ?_; rintro e w9 ⟨Ay, cy, rfl, hC, hb⟩; have HY := Aside0.mk hC; have HX := Aside0.mk (Kd.C_below HX8.out hb); have HBc := Aside0.mk (below_step HB8.out hb); clear hC hb))
          go_wp2_with (first | (go_at_call_of 24 (Value.slice Ax before.length cx); refine (look_as Ax Ay before now before.length now.length cx cy rfl rfl true a b cc HR.out _ HX.out HY.out HMA.out HMB.out (Kd.C_below HEW.out HBc.out) (Kd.C_below HNW.out HBc.out)).mono ?_; rintro e wz ⟨rfl, hb⟩; (have HBn := Aside0.mk (below_step HBc.out hb); have HXn := Aside0.mk (Kd.C_below HX.out hb); have HYn := Aside0.mk (Kd.C_below HY.out hb); clear HBc HX HY; have HBc := HBn; have HX := HXn; have HY := HYn; clear HBn HXn HYn); clear hb) | (go_at_call_of 21 (Value.slice Ax before.length cx); refine (renames_as Ax Ay before now before.length now.length cx cy rfl rfl r HRN.out _ HX.out HY.out HMA.out HMB.out).mono ?_; rintro e wz ⟨rfl, hb⟩; (have HBn := Aside0.mk (below_step HBc.out hb); have HXn := Aside0.mk (Kd.C_below HX.out hb); have HYn := Aside0.mk (Kd.C_below HY.out hb); clear HBc HX HY; have HBc := HBn; have HX := HXn; have HY := HYn; clear HBn HXn HYn); clear hb) | (go_at_call_of 22 (Value.slice A before.length c1); refine (files_any A before c1 _ (Kd.C_below H1.out HBc.out) HMA.out.1 (fun k hk => (HMA.out.2 k hk).2)).mono ?_; rintro e wz ⟨Ap, cp, rfl, ho, hb⟩; have HP := Aside0.mk (Kd.R_reads' ho).2.2; (have HBn := Aside0.mk (below_step HBc.out hb); have HXn := Aside0.mk (Kd.C_below HX.out hb); have HYn := Aside0.mk (Kd.C_below HY.out hb); clear HBc HX HY; have HBc := HBn; have HX := HXn; have HY := HYn; clear HBn HXn HYn); clear ho hb) | (go_at_call_of 22 (Value.slice B now.length c2); refine (files_any B now c2 _ (Kd.C_below H2.out HBc.out) HMB.out.1 (fun k hk => (HMB.out.2 k hk).2)).mono ?_; rintro e wz ⟨Aq, cq, rfl, ho, hb⟩; have HQ := Aside0.mk (Kd.R_reads' ho).2.2; have HP := Aside0.mk (Kd.C_below HP.out hb); (have HBn := Aside0.mk (below_step HBc.out hb); have HXn := Aside0.mk (Kd.C_below HX.out hb); have HYn := Aside0.mk (Kd.C_below HY.out hb); clear HBc HX HY; have HBc := HBn; have HX := HXn; have HY := HYn; clear HBn HXn HYn); clear ho hb) | (go_at_call 24; refine (look_as Ap Aq before now before.length now.length cp cq rfl rfl true a b cc HR.out _ HP.out HQ.out HMA.out HMB.out (Kd.C_below HEW.out HBc.out) (Kd.C_below HNW.out HBc.out)).mono ?_; rintro e wz ⟨rfl, hb⟩; (have HBn := Aside0.mk (below_step HBc.out hb); have HXn := Aside0.mk (Kd.C_below HX.out hb); have HYn := Aside0.mk (Kd.C_below HY.out hb); clear HBc HX HY; have HBc := HBn; have HX := HXn; have HY := HYn; clear HBn HXn HYn); clear hb HP HQ) | (go_at_call 21; refine (renames_as Ap Aq before now before.length now.length cp cq rfl rfl r HRN.out _ HP.out HQ.out HMA.out HMB.out).mono ?_; rintro e wz ⟨rfl, hb⟩; (have HBn := Aside0.mk (below_step HBc.out hb); have HXn := Aside0.mk (Kd.C_below HX.out hb); have HYn := Aside0.mk (Kd.C_below HY.out hb); clear HBc HX HY; have HBc := HBn; have HX := HXn; have HY := HYn; clear HBn HXn HYn); clear hb HP HQ))
          go_ret
          exact ⟨rfl, HBc.out⟩
        · have hE1 : (E2 != 0) = true := bne_iff_ne.mpr h20
          go_enter Tryd.func11, Tryd.ntmps11
          go_wp2_with (first | (go_at_call 12; refine (awake_any _ HE.out HNM.out).mono ?_; rintro e w1 ⟨rfl, hb⟩; have HB1 := Aside0.mk hb; clear hb) | (go_at_call_of 20 (Value.slice A before.length c1); refine (small_any A before c1 true HSA.out 1 rfl _ (Kd.C_below H1.out HB1.out) HS1.out).mono ?_; rintro e w2 ⟨rfl, hb⟩; have HB2 := Aside0.mk (below_step HB1.out hb); clear hb) | (go_at_call_of 20 (Value.slice B now.length c2); refine (small_any B now c2 true HSB.out 1 rfl _ (Kd.C_below H2.out HB2.out) HS2.out).mono ?_; rintro e w3 ⟨rfl, hb⟩; have HB3 := Aside0.mk (below_step HB2.out hb); clear hb) | (go_at_call_of 22 (Value.slice A before.length c1); refine (files_any A before c1 _ (Kd.C_below H1.out HB3.out) HMA.out.1 (fun k hk => (HMA.out.2 k hk).2)).mono ?_; rintro e w4 ⟨Ap, cp, rfl, ho, hb⟩; have HO4 := Aside0.mk (Kd.R_reads' ho).2.2; have HB4 := Aside0.mk (below_step HB3.out hb); clear ho hb) | (go_at_call_of 27 (Value.slice Ap before.length cp); refine (make_at Ap before before.length cp rfl _ HO4.out HS1.out (Kd.C_below HMG.out HB4.out) m1 HM1.out _ HE1.out).mono ?_; rintro e w5 ⟨Ab, cb, rfl, ho, hb⟩; have HR5 := Aside0.mk ho; have HB5 := Aside0.mk (below_step HB4.out hb); clear ho hb) | (go_at_call_of 22 (Value.slice B now.length c2); refine (files_any B now c2 _ (Kd.C_below H2.out HB5.out) HMB.out.1 (fun k hk => (HMB.out.2 k hk).2)).mono ?_; rintro e w6 ⟨Aq, cq, rfl, ho, hb⟩; have HO6 := Aside0.mk (Kd.R_reads' ho).2.2; have HR6 := Aside0.mk (Kd.R_below HR5.out hb); have HB6 := Aside0.mk (below_step HB5.out hb); clear ho hb) | (go_at_call_of 27 (Value.slice Aq now.length cq); refine (make_at Aq now now.length cq rfl _ HO6.out HS2.out (Kd.C_below HMG.out HB6.out) m2 HM2.out _ HE2.out).mono ?_; rintro e w7 ⟨Ad, cd, rfl, ho, hb⟩; have HR7 := Aside0.mk ho; have HRa := Aside0.mk (Kd.R_below HR6.out hb); have HB7 := Aside0.mk (below_step HB6.out hb); clear ho hb) | (go_at_call_of 28 (Value.slice Ab m1 cb); refine (mount_any before HE1.out before.length rfl m1 cb HM1.out Ab _ HRa.out (Kd.C_below HMG.out HB7.out)).mono ?_; rintro e w8 ⟨Ax, cx, rfl, hC, hb⟩; have HX8 := Aside0.mk hC; have HRb := Aside0.mk (Kd.R_below HR7.out hb); have HB8 := Aside0.mk (below_step HB7.out hb); clear hC hb) | (go_at_call_of 28 (Value.slice Ad m2 cd); refine (mount_any now HE2.out now.length rfl m2 cd HM2.out Ad _ HRb.out (Kd.C_below HMG.out HB8.out)).mono ?_; rintro e w9 ⟨Ay, cy, rfl, hC, hb⟩; have HY := Aside0.mk hC; have HX := Aside0.mk (Kd.C_below HX8.out hb); have HBc := Aside0.mk (below_step HB8.out hb); clear hC hb))
          go_ret
          exact ⟨rfl, HB7.out⟩
      · have hE1 : (E1 != 0) = true := bne_iff_ne.mpr h10
        go_enter Tryd.func11, Tryd.ntmps11
        go_wp2_with (first | (go_at_call 12; refine (awake_any _ HE.out HNM.out).mono ?_; rintro e w1 ⟨rfl, hb⟩; have HB1 := Aside0.mk hb; clear hb) | (go_at_call_of 20 (Value.slice A before.length c1); refine (small_any A before c1 true HSA.out 1 rfl _ (Kd.C_below H1.out HB1.out) HS1.out).mono ?_; rintro e w2 ⟨rfl, hb⟩; have HB2 := Aside0.mk (below_step HB1.out hb); clear hb) | (go_at_call_of 20 (Value.slice B now.length c2); refine (small_any B now c2 true HSB.out 1 rfl _ (Kd.C_below H2.out HB2.out) HS2.out).mono ?_; rintro e w3 ⟨rfl, hb⟩; have HB3 := Aside0.mk (below_step HB2.out hb); clear hb) | (go_at_call_of 22 (Value.slice A before.length c1); refine (files_any A before c1 _ (Kd.C_below H1.out HB3.out) HMA.out.1 (fun k hk => (HMA.out.2 k hk).2)).mono ?_; rintro e w4 ⟨Ap, cp, rfl, ho, hb⟩; have HO4 := Aside0.mk (Kd.R_reads' ho).2.2; have HB4 := Aside0.mk (below_step HB3.out hb); clear ho hb) | (go_at_call_of 27 (Value.slice Ap before.length cp); refine (make_at Ap before before.length cp rfl _ HO4.out HS1.out (Kd.C_below HMG.out HB4.out) m1 HM1.out _ HE1.out).mono ?_; rintro e w5 ⟨Ab, cb, rfl, ho, hb⟩; have HR5 := Aside0.mk ho; have HB5 := Aside0.mk (below_step HB4.out hb); clear ho hb) | (go_at_call_of 22 (Value.slice B now.length c2); refine (files_any B now c2 _ (Kd.C_below H2.out HB5.out) HMB.out.1 (fun k hk => (HMB.out.2 k hk).2)).mono ?_; rintro e w6 ⟨Aq, cq, rfl, ho, hb⟩; have HO6 := Aside0.mk (Kd.R_reads' ho).2.2; have HR6 := Aside0.mk (Kd.R_below HR5.out hb); have HB6 := Aside0.mk (below_step HB5.out hb); clear ho hb) | (go_at_call_of 27 (Value.slice Aq now.length cq); refine (make_at Aq now now.length cq rfl _ HO6.out HS2.out (Kd.C_below HMG.out HB6.out) m2 HM2.out _ HE2.out).mono ?_; rintro e w7 ⟨Ad, cd, rfl, ho, hb⟩; have HR7 := Aside0.mk ho; have HRa := Aside0.mk (Kd.R_below HR6.out hb); have HB7 := Aside0.mk (below_step HB6.out hb); clear ho hb) | (go_at_call_of 28 (Value.slice Ab m1 cb); refine (mount_any before HE1.out before.length rfl m1 cb HM1.out Ab _ HRa.out (Kd.C_below HMG.out HB7.out)).mono ?_; rintro e w8 ⟨Ax, cx, rfl, hC, hb⟩; have HX8 := Aside0.mk hC; have HRb := Aside0.mk (Kd.R_below HR7.out hb); have HB8 := Aside0.mk (below_step HB7.out hb); clear hC hb) | (go_at_call_of 28 (Value.slice Ad m2 cd); refine (mount_any now HE2.out now.length rfl m2 cd HM2.out Ad _ HRb.out (Kd.C_below HMG.out HB8.out)).mono ?_; rintro e w9 ⟨Ay, cy, rfl, hC, hb⟩; have HY := Aside0.mk hC; have HX := Aside0.mk (Kd.C_below HX8.out hb); have HBc := Aside0.mk (below_step HB8.out hb); clear hC hb))
        go_ret
        exact ⟨rfl, HB7.out⟩
end Go.Proofs.YtoglbbonfjnmpaaDoor
