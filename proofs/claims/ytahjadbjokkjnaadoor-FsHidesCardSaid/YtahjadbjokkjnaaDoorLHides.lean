/-
  FsHides, walked: it returns true.
-/
import Derived.Test.YtahjadbjokkjnaaDoorHd1
namespace Go.Proofs.YtahjadbjokkjnaaDoor
open Go.RowKit Go.Proofs.YtahjadbjokkjnaaDoorW.PrintWords Go.Proofs.YtahjadbjokkjnaaDoorW.PrintLast Go.Proofs.YtahjadbjokkjnaaDoorW.PrintMore
set_option linter.unusedVariables false
set_option linter.unusedSimpArgs false

theorem disk_atH {W : World} {e base n c k K : Nat} {ok : Nat → Prop} {A : Option Addr} {L : List (List UInt8)} {B1 B2 : Nat} (h : kBlock.R e W base ok (.slice A n c) L) (hn : L.length = n) (h1 : W.cell? ⟨B1, 0, none⟩ = some (.slice A n c)) (h2 : W.cell? ⟨B2, 0, none⟩ = some (.func (.func 25) #[] #[.pointer (some ⟨K, 0, none⟩)])) (h3 : W.cell? ⟨K, 0, none⟩ = some (.int .i64 (k : Int))) : DiskAt W B1 B2 L (some k) A c := by
  subst hn
  exact ⟨h1, readsS' h, fun hp => (R_formV h hp).imp fun g hg => hg.1, .inr ⟨k, K, rfl, h2, h3⟩⟩
set_option maxRecDepth 8000 in
set_option maxHeartbeats 6400000 in
theorem law_hides (A : Option Addr) (l : List File) (c : Nat) (x : UInt8) (w : World) (h0 : kFile.C w A l.length l) (hs : ∀ k, k < l.length → (gt l k).name.size ≤ 9223372036854775807) (hmg : MagicAt w) :
    Calls Tryd.prog 7 #[.slice A l.length c, .int .u8 (x.toNat : Int)] w fun e w' => e = .returned (.bool true) ∧ Below w.heap.size w w' := by
  obtain ⟨N, hN⟩ : ∃ N, l.length = N := ⟨_, rfl⟩
  rw [hN] at h0 ⊢
  have hmx := Kd.C_max h0
  have H := Aside0.mk h0
  have HN := Aside0.mk hN
  have HS := Aside0.mk hs
  have HMG := Aside0.mk hmg
  obtain ⟨g, hg⟩ : ∃ g, greatB l = g := ⟨_, rfl⟩
  have HG := Aside0.mk hg
  obtain ⟨X, hX⟩ : ∃ X, x.toNat = X := ⟨_, rfl⟩
  have hX8 : X < 256 := by rw [← hX]; exact x.toNat_lt
  rw [hX]
  clear h0 hs hmg hN hX
  obtain ⟨E, hE⟩ : ∃ E, makeE l = E := ⟨_, rfl⟩
  obtain ⟨nb, hnb⟩ : ∃ n, (makeV l).length = n := ⟨_, rfl⟩
  have HE := Aside0.mk hE
  have HNB := Aside0.mk hnb
  clear hE hnb
  cases g
  · clear hg
    by_cases hE0 : E = 0
    · subst hE0
      obtain ⟨h8, ht, hv⟩ := makeE_zero HE.out
      have hnb1 : 0 < nb := by rw [← HNB.out, hv, makeB_size]; omega
      have hnb9 : nb ≤ 1000 := by rw [← HNB.out, hv, makeB_size]; have := blocksTo_le ht l.length (by omega); omega
      have hnb0 : ((nb : Int) == 0) = false := beq_eq_false_iff_ne.mpr (by omega)
      have hN8 : N ≤ 8 := by have := HN.out; omega
      have HH8 := Aside0.mk h8
      have HT := Aside0.mk ht
      have HV := Aside0.mk hv
      obtain ⟨k, hk⟩ : ∃ k, X % nb = k := ⟨_, rfl⟩
      have hkn : k < nb := by rw [← hk]; exact Nat.mod_lt _ hnb1
      have r1 : (X : Int).tmod (nb : Int) = (k : Int) := by rw [← hk]; exact (Int.ofNat_tmod X nb).symm
      have r2 : IntKind.i64.wrap (X : Int) = (X : Int) := IntWalk.i64_in _ (by omega)
      have r3 : IntKind.i64.wrap (k : Int) = (k : Int) := IntWalk.i64_in _ (by omega)
      have r4 : ¬ (nb : Int) = 0 := by omega
      have HKN := Aside0.mk hkn
      clear h8 ht hv hk
      go_enter Tryd.func7, Tryd.ntmps7
      go_upto_region 9 with (first | (go_at_call 11; refine (awake_any _ HMG.out).mono ?_; rintro e w1 ⟨rfl, hb1⟩; have HB1 := Aside0.mk hb1; clear hb1) | (go_at_call 12; refine (great_at A l N c HN.out _ HG.out _ (Kd.C_below H.out HB1.out) HS.out).mono ?_; rintro e w2 ⟨rfl, rfl⟩) | (go_at_call 16; refine (make_at A l N c HN.out _ (Kd.C_below H.out HB1.out) HS.out (Kd.C_below HMG.out HB1.out) nb HNB.out _ HE.out).mono ?_; rintro e w3 ⟨Aa, ca, rfl, ho, hb⟩; have HOb := Aside0.mk ho; have HB3 := Aside0.mk (below_step HB1.out hb); clear ho hb) | (go_at_call 24; refine (disk_hide Aa nb ca K _).mono ?_; rintro e w5 ⟨B1, B2, rfl, k1, k2, hb⟩; have HK5 := Aside0.mk (disk_atH (Kd.R_below HOb4.out hb) HNB.out k1 k2 (cell_old hb HKC.out)); have HB5 := Aside0.mk (below_step HB4.out hb); have HKC5 := Aside0.mk (cell_old hb HKC.out); clear k1 k2 hb) | (go_at_call 22; refine (read_disk HK5.out (Kd.C_below HMG.out HB5.out) _ HF.out _ HE'.out _ HN'.out).mono ?_; rintro e w6 ⟨Ax, cx, rfl, hcx, hC, hb⟩; have HX6 := Aside0.mk hC; have HB6 := Aside0.mk (below_step HB5.out hb); have kc := cell_old hb HKC5.out; have HKC6 := Aside0.mk kc; clear hC hb))
      have hn4 := blk_new w3 (.cells #[.int .i64 (k : Int)] 3)
      have hb4 := below_alloc (Below.refl w3.heap.size w3) (.cells #[.int .i64 (k : Int)] 3)
      obtain ⟨w4, hw4⟩ : ∃ W, W = w3.alloc (.cells #[.int .i64 (k : Int)] 3) := ⟨_, rfl⟩
      obtain ⟨K, hK⟩ : ∃ K, K = w3.heap.size := ⟨_, rfl⟩
      rw [← hw4] at hn4 hb4 ⊢
      rw [← hK] at hn4 ⊢
      have hkc := blk_cell hn4 0
      simp only [List.getElem?_toArray, List.getElem?_cons_zero] at hkc
      have HKC := Aside0.mk hkc
      have HOb4 := Aside0.mk (Kd.R_below HOb.out hb4)
      have HB4 := Aside0.mk (below_step HB3.out hb4)
      clear hn4 hb4 hw4 hK hkc HOb r1 r2 r3 r4
      have hL32 := (row_32 HOb4.out).2
      rw [HV.out] at hL32
      have HL32 := Aside0.mk hL32
      clear hL32
      by_cases hkN : k ≤ N
      · have hkN' : (k : Int) ≤ (N : Int) := by omega
        have hno := hide_none HL32.out HH8.out k (by have := HN.out; omega)
        rw [← HV.out] at hno
        obtain ⟨F, hF⟩ : ∃ F : List File, F = [] := ⟨_, rfl⟩
        obtain ⟨E', hE'⟩ : ∃ E' : Int, E' = 3 := ⟨_, rfl⟩
        obtain ⟨n', hn'⟩ : ∃ n' : Nat, n' = 0 := ⟨_, rfl⟩
        have HF : Aside0 (readF (diskT (makeV l) (some k)) = F) := ⟨by unfold readF; rw [hno, hF]; rfl⟩
        have HE' : Aside0 (readE (diskT (makeV l) (some k)) = E') := ⟨by unfold readE; rw [hno, hE']; rfl⟩
        have HN' : Aside0 (F.length = n') := ⟨by rw [hF, hn']; rfl⟩
        subst hE' hn'
        clear hF hno
        go_wp2_with (first | (go_at_call 11; refine (awake_any _ HMG.out).mono ?_; rintro e w1 ⟨rfl, hb1⟩; have HB1 := Aside0.mk hb1; clear hb1) | (go_at_call 12; refine (great_at A l N c HN.out _ HG.out _ (Kd.C_below H.out HB1.out) HS.out).mono ?_; rintro e w2 ⟨rfl, rfl⟩) | (go_at_call 16; refine (make_at A l N c HN.out _ (Kd.C_below H.out HB1.out) HS.out (Kd.C_below HMG.out HB1.out) nb HNB.out _ HE.out).mono ?_; rintro e w3 ⟨Aa, ca, rfl, ho, hb⟩; have HOb := Aside0.mk ho; have HB3 := Aside0.mk (below_step HB1.out hb); clear ho hb) | (go_at_call 24; refine (disk_hide Aa nb ca K _).mono ?_; rintro e w5 ⟨B1, B2, rfl, k1, k2, hb⟩; have HK5 := Aside0.mk (disk_atH (Kd.R_below HOb4.out hb) HNB.out k1 k2 (cell_old hb HKC.out)); have HB5 := Aside0.mk (below_step HB4.out hb); have HKC5 := Aside0.mk (cell_old hb HKC.out); clear k1 k2 hb) | (go_at_call 22; refine (read_disk HK5.out (Kd.C_below HMG.out HB5.out) _ HF.out _ HE'.out _ HN'.out).mono ?_; rintro e w6 ⟨Ax, cx, rfl, hcx, hC, hb⟩; have HX6 := Aside0.mk hC; have HB6 := Aside0.mk (below_step HB5.out hb); have kc := cell_old hb HKC5.out; have HKC6 := Aside0.mk kc; clear hC hb))
        go_ret
        exact ⟨rfl, HB6.out⟩
      · have hkN' : ¬ (k : Int) ≤ (N : Int) := by omega
        have hno := hide_read HL32.out HH8.out HT.out k (by have := HN.out; omega)
        rw [← HV.out] at hno
        obtain ⟨F, hF⟩ : ∃ F : List File, F = hideL k l := ⟨_, rfl⟩
        obtain ⟨E', hE'⟩ : ∃ E' : Int, E' = 0 := ⟨_, rfl⟩
        obtain ⟨n', hn'⟩ : ∃ n' : Nat, n' = N := ⟨_, rfl⟩
        have HF : Aside0 (readF (diskT (makeV l) (some k)) = F) := ⟨by unfold readF; rw [hno, hF]; rfl⟩
        have HE' : Aside0 (readE (diskT (makeV l) (some k)) = E') := ⟨by unfold readE; rw [hno, hE']; rfl⟩
        have HN' : Aside0 (F.length = n') := ⟨by rw [hF, hn', hideL_len, HN.out]⟩
        subst hE' hn'
        have HFH := Aside0.mk hF
        have i1 : IntKind.i64.wrap (1 + (n' : Int)) = 1 + (n' : Int) := IntWalk.i64_in _ (by omega)
        clear hF hno
        go_wp2_with (first | (go_at_call 11; refine (awake_any _ HMG.out).mono ?_; rintro e w1 ⟨rfl, hb1⟩; have HB1 := Aside0.mk hb1; clear hb1) | (go_at_call 12; refine (great_at A l N c HN.out _ HG.out _ (Kd.C_below H.out HB1.out) HS.out).mono ?_; rintro e w2 ⟨rfl, rfl⟩) | (go_at_call 16; refine (make_at A l N c HN.out _ (Kd.C_below H.out HB1.out) HS.out (Kd.C_below HMG.out HB1.out) nb HNB.out _ HE.out).mono ?_; rintro e w3 ⟨Aa, ca, rfl, ho, hb⟩; have HOb := Aside0.mk ho; have HB3 := Aside0.mk (below_step HB1.out hb); clear ho hb) | (go_at_call 24; refine (disk_hide Aa nb ca K _).mono ?_; rintro e w5 ⟨B1, B2, rfl, k1, k2, hb⟩; have HK5 := Aside0.mk (disk_atH (Kd.R_below HOb4.out hb) HNB.out k1 k2 (cell_old hb HKC.out)); have HB5 := Aside0.mk (below_step HB4.out hb); have HKC5 := Aside0.mk (cell_old hb HKC.out); clear k1 k2 hb) | (go_at_call 22; refine (read_disk HK5.out (Kd.C_below HMG.out HB5.out) _ HF.out _ HE'.out _ HN'.out).mono ?_; rintro e w6 ⟨Ax, cx, rfl, hcx, hC, hb⟩; have HX6 := Aside0.mk hC; have HB6 := Aside0.mk (below_step HB5.out hb); have kc := cell_old hb HKC5.out; have HKC6 := Aside0.mk kc; clear hC hb))
        go_loopg [11, 10, 12, 13] n' (fun gk v11 v10 _ _ wr => ∃ i : Nat, i ≤ n' ∧ Aside0 (gk = n' - i) ∧ v11 = .int .i64 i ∧ v10 = .int .i64 ((1 + n' + blocksTo l i : Nat) : Int) ∧ Aside0 (Below w6.heap.size w6 wr))
        case atStart => exact ⟨0, Nat.zero_le _, ⟨rfl⟩, rfl, by rw [blocksTo_zero]; go_num, ⟨Below.refl _ _⟩⟩
        case round =>
          obtain ⟨i, hi, HGK, rfl, rfl, HBr⟩ := hrel
          by_cases hlt : i < n'
          · obtain ⟨ad, A1, d1, hA, g0, g1, _, hd1⟩ := file_at (Kd.C_below (Kd.C_below H.out HB6.out) HBr.out) hlt
            obtain ⟨adx, Ax1, dx1, hAx, x0, x1, _, hdx⟩ := file_at (Kd.C_below HX6.out HBr.out) hlt
            rw [HFH.out, hideL_gt k l i (by rw [HN.out]; exact hlt), HN.out] at x0 x1 hdx
            have hbl := blocksTo_le HT.out i (by have := HN.out; omega)
            have hsucc := blocksTo_succ l i (by have := HN.out; omega)
            have hd256 := (tog_right HT.out i (by have := HN.out; omega)).2
            obtain ⟨a, ha⟩ : ∃ a, 1 + n' + blocksTo l i = a := ⟨_, rfl⟩
            obtain ⟨f, hf⟩ : ∃ f, gt l i = f := ⟨_, rfl⟩
            rw [hf] at g0 g1 hd1 x0 x1 hdx hsucc hd256
            rw [ha] at x0 x1 hdx
            rw [ha]
            rw [hideF_len] at x1 hdx
            have x0' : wr.cell? (adx.add (i * 2)) = some (.string f.name) := x0
            obtain ⟨d, hd⟩ : ∃ d, f.data.length = d := ⟨_, rfl⟩
            rw [hd] at g1 hd1 x1 hdx hsucc hd256
            have HNX : Aside0 (1 + n' + blocksTo l (i + 1) = a + (d + 31) / 32) := ⟨by rw [hsucc, ← ha]; unfold manyN; omega⟩
            have ha9 : a ≤ 1000 := by omega
            have HD := Aside0.mk hd
            have HG1 := Aside0.mk g1
            have HX1 := Aside0.mk x1
            have HD1 := Aside0.mk hd1
            have HDX := Aside0.mk hdx
            have hlt' : (i : Int) < (n' : Int) := by omega
            subst hA hAx
            clear hbl hsucc ha hf hd hd1 hdx x0
            go_wp2_with fail
            go_quiet (fail)
            go_wp2_with fail
            clear g0 g1 x0' x1
            go_loopg [12, 13] d (fun gk v12 _ wz => ∃ j : Nat, j ≤ d ∧ Aside0 (gk = d - j) ∧ v12 = .int .i64 j ∧ Aside0 (Below wr.heap.size wr wz))
            case atStart => exact ⟨0, Nat.zero_le _, ⟨rfl⟩, rfl, ⟨pw_below_drewN (Below.refl _ _) _⟩⟩
            case round =>
              obtain ⟨j, hj, HGJ, rfl, HBz⟩ := hrel
              have g1 := cell_old HBz.out HG1.out
              by_cases hjd : j < d
              · have x1 := cell_old HBz.out HX1.out
                have kc := cell_old HBz.out (cell_old HBr.out HKC6.out)
                obtain ⟨b1, rfl, y1⟩ := byte_at (Kd.C_below HD1.out HBz.out) hjd
                obtain ⟨b2, rfl, y2⟩ := byte_at (Kd.C_below HDX.out HBz.out) hjd
                rw [hideF_gt k a f j (by rw [HD.out]; exact hjd)] at y2
                obtain ⟨y, hy⟩ : ∃ y, gt f.data j = y := ⟨_, rfl⟩
                rw [hy] at y1 y2
                obtain ⟨q, hq⟩ : ∃ q, j / 32 = q := ⟨_, rfl⟩
                rw [hq] at y2
                have hq9 : q ≤ 8 := by omega
                have q1 : (j : Int).tdiv 32 = (q : Int) := by rw [← hq]; exact (Int.ofNat_tdiv j 32).symm
                have q2 : IntKind.i64.wrap (q : Int) = (q : Int) := IntWalk.i64_in _ (by omega)
                have q3 : IntKind.i64.wrap ((a : Int) + (q : Int)) = (a : Int) + (q : Int) := IntWalk.i64_in _ (by omega)
                have hjd' : (j : Int) < (d : Int) := by omega
                clear hy hq
                by_cases hak : a + q = k
                · have hak' : ((a : Int) + (q : Int) == (k : Int)) = true := beq_iff_eq.mpr (by omega)
                  rw [if_pos hak] at y2
                  clear hak
                  go_wp2_with fail
                  go_roundg (d - (j + 1))
                  case measure => have := HGJ.out; omega
                  case rel => exact ⟨j + 1, by omega, ⟨rfl⟩, by go_num, HBz⟩
                · have hak' : ((a : Int) + (q : Int) == (k : Int)) = false := beq_eq_false_iff_ne.mpr (by omega)
                  rw [if_neg hak] at y2
                  clear hak
                  go_wp2_with fail
                  go_roundg (d - (j + 1))
                  case measure => have := HGJ.out; omega
                  case rel => exact ⟨j + 1, by omega, ⟨rfl⟩, by go_num, HBz⟩
              · have p1 : IntKind.i64.wrap ((d : Int) + 31) = (d : Int) + 31 := IntWalk.i64_in _ (by omega)
                have p3 : IntKind.i64.wrap ((a : Int) + ((d + 31) / 32 : Nat)) = (a : Int) + ((d + 31) / 32 : Nat) := IntWalk.i64_in _ (by omega)
                go_wp2_with fail
                go_roundg (n' - (i + 1))
                case measure => have := HGK.out; omega
                case rel => exact ⟨i + 1, by omega, ⟨rfl⟩, by go_num, by rw [HNX.out]; go_num, ⟨below_step HBr.out HBz.out⟩⟩
          · go_wp2_with fail
            go_ret
            exact ⟨rfl, below_step HB6.out HBr.out⟩
    · have hE1 : (E != 0) = true := bne_iff_ne.mpr hE0
      go_enter Tryd.func7, Tryd.ntmps7
      go_wp2_with (first | (go_at_call 11; refine (awake_any _ HMG.out).mono ?_; rintro e w1 ⟨rfl, hb1⟩; have HB1 := Aside0.mk hb1; clear hb1) | (go_at_call 12; refine (great_at A l N c HN.out _ HG.out _ (Kd.C_below H.out HB1.out) HS.out).mono ?_; rintro e w2 ⟨rfl, rfl⟩) | (go_at_call 16; refine (make_at A l N c HN.out _ (Kd.C_below H.out HB1.out) HS.out (Kd.C_below HMG.out HB1.out) nb HNB.out _ HE.out).mono ?_; rintro e w3 ⟨Aa, ca, rfl, ho, hb⟩; have HOb := Aside0.mk ho; have HB3 := Aside0.mk (below_step HB1.out hb); clear ho hb) | (go_at_call 24; refine (disk_hide Aa nb ca K _).mono ?_; rintro e w5 ⟨B1, B2, rfl, k1, k2, hb⟩; have HK5 := Aside0.mk (disk_atH (Kd.R_below HOb4.out hb) HNB.out k1 k2 (cell_old hb HKC.out)); have HB5 := Aside0.mk (below_step HB4.out hb); have HKC5 := Aside0.mk (cell_old hb HKC.out); clear k1 k2 hb) | (go_at_call 22; refine (read_disk HK5.out (Kd.C_below HMG.out HB5.out) _ HF.out _ HE'.out _ HN'.out).mono ?_; rintro e w6 ⟨Ax, cx, rfl, hcx, hC, hb⟩; have HX6 := Aside0.mk hC; have HB6 := Aside0.mk (below_step HB5.out hb); have kc := cell_old hb HKC5.out; have HKC6 := Aside0.mk kc; clear hC hb))
      go_ret
      exact ⟨rfl, HB3.out⟩
  · clear hg
    go_enter Tryd.func7, Tryd.ntmps7
    go_wp2_with (first | (go_at_call 11; refine (awake_any _ HMG.out).mono ?_; rintro e w1 ⟨rfl, hb1⟩; have HB1 := Aside0.mk hb1; clear hb1) | (go_at_call 12; refine (great_at A l N c HN.out _ HG.out _ (Kd.C_below H.out HB1.out) HS.out).mono ?_; rintro e w2 ⟨rfl, rfl⟩) | (go_at_call 16; refine (make_at A l N c HN.out _ (Kd.C_below H.out HB1.out) HS.out (Kd.C_below HMG.out HB1.out) nb HNB.out _ HE.out).mono ?_; rintro e w3 ⟨Aa, ca, rfl, ho, hb⟩; have HOb := Aside0.mk ho; have HB3 := Aside0.mk (below_step HB1.out hb); clear ho hb) | (go_at_call 24; refine (disk_hide Aa nb ca K _).mono ?_; rintro e w5 ⟨B1, B2, rfl, k1, k2, hb⟩; have HK5 := Aside0.mk (disk_atH (Kd.R_below HOb4.out hb) HNB.out k1 k2 (cell_old hb HKC.out)); have HB5 := Aside0.mk (below_step HB4.out hb); have HKC5 := Aside0.mk (cell_old hb HKC.out); clear k1 k2 hb) | (go_at_call 22; refine (read_disk HK5.out (Kd.C_below HMG.out HB5.out) _ HF.out _ HE'.out _ HN'.out).mono ?_; rintro e w6 ⟨Ax, cx, rfl, hcx, hC, hb⟩; have HX6 := Aside0.mk hC; have HB6 := Aside0.mk (below_step HB5.out hb); have kc := cell_old hb HKC5.out; have HKC6 := Aside0.mk kc; clear hC hb))
    go_ret
    exact ⟨rfl, HB1.out⟩
end Go.Proofs.YtahjadbjokkjnaaDoor
