/-
  Chapter 50, PastReads, walked: the history is what one reads; no two versions beside one another are alike.
-/
import Derived.Test.YtjogpfijkhhloaaPlain2
namespace Go.Proofs.Ytjogpfijkhhloaa
open Go.RowKit Go.Proofs.YtjogpfijkhhloaaW.PrintWords Go.Proofs.YtjogpfijkhhloaaW.PrintLast Go.Proofs.YtjogpfijkhhloaaW.PrintMore
set_option linter.unusedVariables false
set_option linter.unusedSimpArgs false

set_option maxRecDepth 4000 in
set_option maxHeartbeats 6400000 in
theorem law_reads (A : Option Addr) (l : List Seen) (c : Nat) (w : World) (h : kSeen.C w A l.length l) :
    Calls Try.prog 4 #[.slice A l.length c] w fun e w' => e = .returned (.bool true) ∧ Below w.heap.size w w' := by
  have hmx := Kd.C_max h
  cases hgb : greatB l
  · have HGB := Aside0.mk hgb
    have HS := Aside0.mk (small_of hgb)
    have hfew := HS.out.few
    clear hgb
    have HD : Aside0 (∀ k, k < l.length → (gt l k).data.length ≤ 140737488355328) := ⟨fun k hk => Nat.le_trans (HS.out.short k hk) (by decide)⟩
    obtain ⟨L, hL⟩ : ∃ L, l.map Seen.moment = L := ⟨_, rfl⟩
    have hLl : L.length = l.length := by rw [← hL]; simp
    have hLl' : L.length ≤ 1000000000 := by omega
    obtain ⟨rs, hrs⟩ : ∃ rs, refSpec l = rs := ⟨_, rfl⟩
    have hrl : rs.length ≤ l.length := refSpec_few HS.out hrs
    have HL := Aside0.mk hL
    have HRS := Aside0.mk hrs
    clear hL hrs hLl
    go_enter Try.func4, Try.ntmps4
    go_wp2_with (first | (go_at_call 11; ((with_reducible refine (awake_any w).mono ?_)); rintro e w1 ⟨rfl, hb⟩; have HB1 := Aside0.mk hb; clear hb) | (go_at_call 12; refine (great_any A l c w1 (Kd.C_below h HB1.out)).mono ?_; unfold GreatPost; rw [HGB.out]; rintro e w2 ⟨rfl, n2, hw2⟩; have HB2 : Aside0 (Below w.heap.size w w2) := ⟨by rw [hw2]; exact pw_below_drewN HB1.out _⟩; clear hw2) | (go_at_call 14; refine (moments_any A l c L HL.out w2 (Kd.C_below h HB2.out) (by omega)).mono ?_; rintro e w3 ⟨v, rfl, ho, hb⟩; obtain ⟨Am, cm, rfl⟩ := Kd.R_slice ho; have H3 := Aside0.mk (readsI ho); have HB3 := Aside0.mk (below_step HB2.out hb); clear ho hb) | (go_at_call 15; refine (at_any _ _ rfl).mono ?_; rintro e wx ⟨rfl, rfl⟩) | (go_at_call 13; refine (of_rs Am L cm w3.heap.size A l c rs _ HL.out HRS.out HS.out (Kd.C_alloc H3.out _) (blk_new w3 _) (Kd.C_below h (below_alloc HB3.out _)) HD.out hLl').mono ?_; rintro e w5 ⟨B, c5, rfl, ho, hb⟩; have HV := Aside0.mk (readsVm ho); have HB5 := Aside0.mk (below_step (below_alloc HB3.out _) hb); clear ho hb))
    go_loopw [4, 5] (fun v4 i wr => ∃ k n : Nat, k ≤ l.length ∧ i = .int .i64 k ∧ v4 = .int .i64 ((n : Int) - 1) ∧ n ≤ rs.length ∧ Aside0 (n = (refSpec (l.take k)).length) ∧ Aside0 (kVers.C wr B rs.length (rs.map toVers)) ∧ Aside0 (Below w.heap.size w wr)) (fun _ i _ => l.length - (intOf i).toNat)
    case atStart => exact ⟨0, 0, Nat.zero_le _, rfl, rfl, Nat.zero_le _, ⟨rfl⟩, HV, HB5⟩
    case round =>
      obtain ⟨k, n, hk, rfl, rfl, hn, HN, HVr, HBr⟩ := hrel
      clear HV HB5 HB3 HB2 HB1 H3
      by_cases hlt : k < l.length
      · have hat := reads_at HS.out k hlt
        rw [HRS.out, ← HN.out] at hat
        obtain ⟨x, hx⟩ : ∃ x, x = gt l k := ⟨_, rfl⟩
        obtain ⟨n', hn'⟩ : ∃ n', n' = (refSpec (l.take (k + 1))).length := ⟨_, rfl⟩
        rw [← hx, ← hn'] at hat
        have hn2 : n' ≤ rs.length := by rw [hn', ← HRS.out]; exact (refSpec_pre l (k + 1)).length_le
        have HN' := Aside0.mk hn'
        obtain ⟨ad, A3, c3, rfl, g0, g1, g2, g3, hc3, hd⟩ := seen_at h hlt
        rw [← hx] at g0 g1 g2 g3 hc3 hd
        have G := And.intro g0 (And.intro g1 (And.intro g2 g3))
        have HG := Aside0.mk G
        have HD3 := Aside0.mk hd
        replace g0 := cell_old HBr.out g0
        clear g1 g2 g3 hc3 hd hx hn' G
        have i0 : IntKind.i64.wrap (n : Int) = (n : Int) := IntWalk.i64_in _ (by omega)
        have i1 : IntKind.i64.wrap ((n : Int) - 1 + 1) = (n : Int) := by rw [Int.sub_add_cancel]; exact i0
        rcases hat with ⟨ht, he, ha, hb⟩ | ⟨ht, he, hnl, hg⟩ | ⟨ht, he, hp, ha, hth, hda⟩
        all_goals
          replace he := he.symm
          subst he
        · rcases Nat.lt_or_ge n rs.length with hnl | hnl
          · have hne := ha hnl
            obtain ⟨ad1, A1, c1, rfl, p0, p1, p2, hc1, hd1⟩ := verR_at HVr.out hnl
            clear p1 p2 hc1 hd1 ha
            go_wp2
            go_quiet (fail)
            (obtain ⟨W5, hW5⟩ : ∃ W, W = wr.drewN nq := ⟨_, rfl⟩; rw [← hW5]; have HB5 : Aside0 (Below w.heap.size w W5) := ⟨by rw [hW5]; exact pw_below_drewN HBr.out _⟩; have HV5 : Aside0 (kVers.C W5 (some ad1) rs.length (rs.map toVers)) := ⟨by rw [hW5]; exact Kd.C_drewN HVr.out _⟩; clear hW5)
            obtain ⟨g0, g1, g2, g3⟩ := HG.out; replace g0 := cell_old HB5.out g0; replace g1 := cell_old HB5.out g1; clear g2 g3; rcases Nat.eq_zero_or_pos n with h0 | h0; (· (have hb0 : (0 : Int) ≤ (n : Int) - 1 → False := (fun hh => by omega); go_wp2; go_quiet (fail); go_wp2; go_roundw; (case rel => exact ⟨k + 1, n, by omega, by go_num, (by first | rfl | (rw [show ((n : Nat) : Int) - 1 = (n : Int) by omega])), by omega, HN', ⟨Kd.C_drewN HV5.out _⟩, ⟨pw_below_drewN HB5.out _⟩⟩); (case measure => (simp [intOf]; omega)))); (· (have hne2 : ((gt rs (n - 1)).moment == x.moment) = false := beq_eq_false_iff_ne.mpr (hb h0); obtain ⟨ad2, A2, c2, e2, q0, q1, q2, hc2, hd2⟩ := verR_at HV5.out (show n - 1 < rs.length by omega); cases e2; clear q1 q2 hc2 hd2; have i3 : ((n : Int) - 1).toNat = n - 1 := (by omega); have i4 : (0 : Int) ≤ (n : Int) - 1 := (by omega); have i5 : (n : Int) - 1 < (rs.length : Int) := (by omega); have i6 : ¬ ((n : Int) - 1 < 0) := (by omega); have i7 : decide ((n : Int) - 1 < 0) = false := decide_eq_false (by omega); have i8 : (1 : Int) ≤ (n : Int) := (by omega); have i9 : 1 ≤ n := (by omega); have i10 : ¬ (n < 1) := (by omega); have i11 : ¬ ((n : Int) < 1) := (by omega); go_wp2; go_quiet (fail); go_wp2; go_roundw; (case rel => exact ⟨k + 1, n, by omega, by go_num, (by first | rfl | (rw [show ((n : Nat) : Int) - 1 = (n : Int) by omega])), by omega, HN', ⟨Kd.C_drewN HV5.out _⟩, ⟨pw_below_drewN HB5.out _⟩⟩); (case measure => (simp [intOf]; omega))))
          · have hnl2 : ¬ (n < rs.length) := by omega
            clear ha
            go_wp2
            go_quiet (fail)
            (obtain ⟨W5, hW5⟩ : ∃ W, W = wr.drewN nq := ⟨_, rfl⟩; rw [← hW5]; have HB5 : Aside0 (Below w.heap.size w W5) := ⟨by rw [hW5]; exact pw_below_drewN HBr.out _⟩; have HV5 : Aside0 (kVers.C W5 B rs.length (rs.map toVers)) := ⟨by rw [hW5]; exact Kd.C_drewN HVr.out _⟩; clear hW5)
            obtain ⟨g0, g1, g2, g3⟩ := HG.out; replace g0 := cell_old HB5.out g0; replace g1 := cell_old HB5.out g1; clear g2 g3; rcases Nat.eq_zero_or_pos n with h0 | h0; (· (have hb0 : (0 : Int) ≤ (n : Int) - 1 → False := (fun hh => by omega); go_wp2; go_quiet (fail); go_wp2; go_roundw; (case rel => exact ⟨k + 1, n, by omega, by go_num, (by first | rfl | (rw [show ((n : Nat) : Int) - 1 = (n : Int) by omega])), by omega, HN', ⟨Kd.C_drewN HV5.out _⟩, ⟨pw_below_drewN HB5.out _⟩⟩); (case measure => (simp [intOf]; omega)))); (· (have hne2 : ((gt rs (n - 1)).moment == x.moment) = false := beq_eq_false_iff_ne.mpr (hb h0); obtain ⟨ad2, A2, c2, e2, q0, q1, q2, hc2, hd2⟩ := verR_at HV5.out (show n - 1 < rs.length by omega); subst e2; clear q1 q2 hc2 hd2; have i3 : ((n : Int) - 1).toNat = n - 1 := (by omega); have i4 : (0 : Int) ≤ (n : Int) - 1 := (by omega); have i5 : (n : Int) - 1 < (rs.length : Int) := (by omega); have i6 : ¬ ((n : Int) - 1 < 0) := (by omega); have i7 : decide ((n : Int) - 1 < 0) = false := decide_eq_false (by omega); have i8 : (1 : Int) ≤ (n : Int) := (by omega); have i9 : 1 ≤ n := (by omega); have i10 : ¬ (n < 1) := (by omega); have i11 : ¬ ((n : Int) < 1) := (by omega); go_wp2; go_quiet (fail); go_wp2; go_roundw; (case rel => exact ⟨k + 1, n, by omega, by go_num, (by first | rfl | (rw [show ((n : Nat) : Int) - 1 = (n : Int) by omega])), by omega, HN', ⟨Kd.C_drewN HV5.out _⟩, ⟨pw_below_drewN HB5.out _⟩⟩); (case measure => (simp [intOf]; omega))))
        · obtain ⟨ad1, A1, c1, rfl, p0, p1, p2, hc1, hd1⟩ := verR_at HVr.out hnl
          rw [hg, normS_moment] at p0
          have HGg := Aside0.mk hg
          clear p1 p2 hc1 hd1 hg
          go_wp2
          go_quiet (fail)
          (obtain ⟨W5, hW5⟩ : ∃ W, W = wr.drewN nq := ⟨_, rfl⟩; rw [← hW5]; have HB5 : Aside0 (Below w.heap.size w W5) := ⟨by rw [hW5]; exact pw_below_drewN HBr.out _⟩; have HV5 : Aside0 (kVers.C W5 (some ad1) rs.length (rs.map toVers)) := ⟨by rw [hW5]; exact Kd.C_drewN HVr.out _⟩; clear hW5)
          obtain ⟨_, A1, c1, e1, p0, p1, p2, hc1, hd1⟩ := verR_at HV5.out hnl
          cases e1
          rw [HGg.out] at p0 p1 p2 hc1 hd1
          rw [normS_moment] at p0
          rw [normS_there] at p1
          obtain ⟨g0, g1, g2, g3⟩ := HG.out
          replace g0 := cell_old HB5.out g0
          replace g1 := cell_old HB5.out g1
          replace g2 := cell_old HB5.out g2
          replace g3 := cell_old HB5.out g3
          have j0 : ¬ ((n : Int) < 0) := by omega
          have j1 : decide ((n : Int) < 0) = false := decide_eq_false (by omega)
          cases hv : x.there
          · rw [show (normS x).data = [] by unfold normS; rw [if_neg (by rw [hv]; decide)]] at p2 hd1
            go_wp2
            go_quiet (fail)
            go_wp2
            go_roundw; (case rel => exact ⟨k + 1, (n + 1), by omega, by go_num, (by first | rfl | (rw [show (((n + 1) : Nat) : Int) - 1 = (n : Int) by omega])), by omega, HN', ⟨Kd.C_drewN HV5.out _⟩, ⟨pw_below_drewN HB5.out _⟩⟩); (case measure => (simp [intOf]; omega))
          · rw [show normS x = x by unfold normS; rw [if_pos hv]] at p2 hd1
            have HD1 := Aside0.mk hd1
            have HD5 := Aside0.mk (Kd.C_below HD3.out HB5.out)
            clear hd1
            go_wp2
            go_quiet ((go_at_call 17; exact Calls.quiet_of (same50_refl A1 A3 x.data c1 c3 _ (Kd.C_drewN HD1.out _) (Kd.C_drewN HD5.out _))))
            go_wp2
            go_roundw; (case rel => exact ⟨k + 1, (n + 1), by omega, by go_num, (by first | rfl | (rw [show (((n + 1) : Nat) : Int) - 1 = (n : Int) by omega])), by omega, HN', ⟨Kd.C_drewN HV5.out _⟩, ⟨pw_below_drewN HB5.out _⟩⟩); (case measure => (simp [intOf]; omega))
        · have HTH := Aside0.mk hth
          have HDA := Aside0.mk hda
          clear hth hda
          rcases Nat.lt_or_ge n rs.length with hnl | hnl
          · have hne : ((gt rs n).moment == x.moment) = false := beq_eq_false_iff_ne.mpr (ha hnl)
            obtain ⟨ad1, A1, c1, rfl, p0, p1, p2, hc1, hd1⟩ := verR_at HVr.out hnl
            clear p1 p2 hc1 hd1 ha
            go_wp2
            go_quiet (fail)
            (obtain ⟨W5, hW5⟩ : ∃ W, W = wr.drewN nq := ⟨_, rfl⟩; rw [← hW5]; have HB5 : Aside0 (Below w.heap.size w W5) := ⟨by rw [hW5]; exact pw_below_drewN HBr.out _⟩; have HV5 : Aside0 (kVers.C W5 (some ad1) rs.length (rs.map toVers)) := ⟨by rw [hW5]; exact Kd.C_drewN HVr.out _⟩; clear hW5)
            obtain ⟨g0, g1, g2, g3⟩ := HG.out; replace g0 := cell_old HB5.out g0; replace g1 := cell_old HB5.out g1; replace g2 := cell_old HB5.out g2; replace g3 := cell_old HB5.out g3; obtain ⟨ad2, A2, c2, e2, q0, q1, q2, hc2, hd2⟩ := verR_at HV5.out (show n - 1 < rs.length by omega); cases e2; rw [HDA.out] at q2 hd2; rw [HTH.out] at q1; clear q0 hc2; have i3 : ((n : Int) - 1).toNat = n - 1 := (by omega); have i4 : (0 : Int) ≤ (n : Int) - 1 := (by omega); have i5 : (n : Int) - 1 < (rs.length : Int) := (by omega); have i6 : ¬ ((n : Int) - 1 < 0) := (by omega); have i7 : decide ((n : Int) - 1 < 0) = false := decide_eq_false (by omega); have i8 : (1 : Int) ≤ (n : Int) := (by omega); have i9 : 1 ≤ n := (by omega); have i10 : ¬ (n < 1) := (by omega); have i11 : ¬ ((n : Int) < 1) := (by omega); cases hv : x.there; (· (rw [show (normS x).data = [] by unfold normS; rw [if_neg (by rw [hv]; decide)]] at q2 hd2; clear hd2; go_wp2; go_quiet (fail); go_wp2; go_roundw; (case rel => exact ⟨k + 1, n, by omega, by go_num, (by first | rfl | (rw [show ((n : Nat) : Int) - 1 = (n : Int) by omega])), by omega, HN', ⟨Kd.C_drewN HV5.out _⟩, ⟨pw_below_drewN HB5.out _⟩⟩); (case measure => (simp [intOf]; omega)))); (· (rw [show normS x = x by unfold normS; rw [if_pos hv]] at q2 hd2; have HD1 := Aside0.mk hd2; have HD5 := Aside0.mk (Kd.C_below HD3.out HB5.out); clear hd2; go_wp2; go_quiet ((go_at_call 17; exact Calls.quiet_of (same50_refl A2 A3 x.data c2 c3 _ (Kd.C_drewN HD1.out _) (Kd.C_drewN HD5.out _)))); go_wp2; go_roundw; (case rel => exact ⟨k + 1, n, by omega, by go_num, (by first | rfl | (rw [show ((n : Nat) : Int) - 1 = (n : Int) by omega])), by omega, HN', ⟨Kd.C_drewN HV5.out _⟩, ⟨pw_below_drewN HB5.out _⟩⟩); (case measure => (simp [intOf]; omega))))
          · have hnl2 : ¬ (n < rs.length) := by omega
            clear ha
            go_wp2
            go_quiet (fail)
            (obtain ⟨W5, hW5⟩ : ∃ W, W = wr.drewN nq := ⟨_, rfl⟩; rw [← hW5]; have HB5 : Aside0 (Below w.heap.size w W5) := ⟨by rw [hW5]; exact pw_below_drewN HBr.out _⟩; have HV5 : Aside0 (kVers.C W5 B rs.length (rs.map toVers)) := ⟨by rw [hW5]; exact Kd.C_drewN HVr.out _⟩; clear hW5)
            obtain ⟨g0, g1, g2, g3⟩ := HG.out; replace g0 := cell_old HB5.out g0; replace g1 := cell_old HB5.out g1; replace g2 := cell_old HB5.out g2; replace g3 := cell_old HB5.out g3; obtain ⟨ad2, A2, c2, e2, q0, q1, q2, hc2, hd2⟩ := verR_at HV5.out (show n - 1 < rs.length by omega); subst e2; rw [HDA.out] at q2 hd2; rw [HTH.out] at q1; clear q0 hc2; have i3 : ((n : Int) - 1).toNat = n - 1 := (by omega); have i4 : (0 : Int) ≤ (n : Int) - 1 := (by omega); have i5 : (n : Int) - 1 < (rs.length : Int) := (by omega); have i6 : ¬ ((n : Int) - 1 < 0) := (by omega); have i7 : decide ((n : Int) - 1 < 0) = false := decide_eq_false (by omega); have i8 : (1 : Int) ≤ (n : Int) := (by omega); have i9 : 1 ≤ n := (by omega); have i10 : ¬ (n < 1) := (by omega); have i11 : ¬ ((n : Int) < 1) := (by omega); cases hv : x.there; (· (rw [show (normS x).data = [] by unfold normS; rw [if_neg (by rw [hv]; decide)]] at q2 hd2; clear hd2; go_wp2; go_quiet (fail); go_wp2; go_roundw; (case rel => exact ⟨k + 1, n, by omega, by go_num, (by first | rfl | (rw [show ((n : Nat) : Int) - 1 = (n : Int) by omega])), by omega, HN', ⟨Kd.C_drewN HV5.out _⟩, ⟨pw_below_drewN HB5.out _⟩⟩); (case measure => (simp [intOf]; omega)))); (· (rw [show normS x = x by unfold normS; rw [if_pos hv]] at q2 hd2; have HD1 := Aside0.mk hd2; have HD5 := Aside0.mk (Kd.C_below HD3.out HB5.out); clear hd2; go_wp2; go_quiet ((go_at_call 17; exact Calls.quiet_of (same50_refl A2 A3 x.data c2 c3 _ (Kd.C_drewN HD1.out _) (Kd.C_drewN HD5.out _)))); go_wp2; go_roundw; (case rel => exact ⟨k + 1, n, by omega, by go_num, (by first | rfl | (rw [show ((n : Nat) : Int) - 1 = (n : Int) by omega])), by omega, HN', ⟨Kd.C_drewN HV5.out _⟩, ⟨pw_below_drewN HB5.out _⟩⟩); (case measure => (simp [intOf]; omega))))
      · have htk : l.take k = l := List.take_of_length_le (by omega)
        have hnr : n = rs.length := by rw [HN.out, htk, HRS.out]
        subst hnr
        have i0 : IntKind.i64.wrap ((rs.length : Int) - 1) = (rs.length : Int) - 1 := IntWalk.i64_in _ (by omega)
        have HADJ : Aside0 (∀ n, n + 1 < rs.length → ¬ ((gt rs n).there = (gt rs (n + 1)).there ∧ (gt rs n).data = (gt rs (n + 1)).data)) := ⟨by have := ref_adj l l.length (Nat.le_refl _); rwa [List.take_length, HRS.out] at this⟩
        clear htk HN
        go_wp2
        go_loopw [6] (fun i wr => ∃ n : Nat, (n ≤ rs.length) ∧ i = .int .i64 ((n : Int) + 1) ∧ Aside0 (kVers.C wr B rs.length (rs.map toVers)) ∧ Aside0 (Below w.heap.size w wr)) (fun i _ => rs.length + 1 - (intOf i).toNat)
        case atStart => exact ⟨0, Nat.zero_le _, rfl, HVr, HBr⟩
        case round =>
          obtain ⟨n, hn1, rfl, HVr, HBr⟩ := hrel
          by_cases hlt2 : n + 1 < rs.length
          · obtain ⟨ad1, A1, c1, rfl, p0, p1, p2, hc1, hd1⟩ := verR_at HVr.out hlt2
            obtain ⟨_, A2, c2, e2, q0, q1, q2, hc2, hd2⟩ := verR_at HVr.out (show n < rs.length by omega)
            cases e2
            have hadj := HADJ.out n hlt2
            obtain ⟨y, hy⟩ : ∃ y, y = gt rs (n + 1) := ⟨_, rfl⟩
            obtain ⟨z, hz⟩ : ∃ z, z = gt rs n := ⟨_, rfl⟩
            rw [← hy] at p0 p1 p2 hc1 hd1 hadj
            rw [← hz] at q0 q1 q2 hc2 hd2 hadj
            have HD1 := Aside0.mk hd1
            have HD2 := Aside0.mk hd2
            have i1 : IntKind.i64.wrap ((n : Int) + 1 - 1) = (n : Int) := by rw [Int.add_sub_cancel]; exact IntWalk.i64_in _ (by omega)
            have i2 : IntKind.i64.wrap (n : Int) = (n : Int) := IntWalk.i64_in _ (by omega)
            have i3 : ((n : Int) + 1).toNat = n + 1 := by omega
            have i4 : (0 : Int) ≤ (n : Int) + 1 := by omega
            have i5 : (n : Int) + 1 < (rs.length : Int) := by omega
            have i6 : (n : Int) < (rs.length : Int) := by omega
            have i7 : IntKind.i64.wrap ((n : Int) + 1 + 1) = (n : Int) + 1 + 1 := IntWalk.i64_in _ (by omega)
            clear hd1 hd2 hy hz hc1 hc2 p0 q0
            cases hth : (y.there == z.there)
            · clear hadj
              go_wp2
              go_quiet (fail)
              go_wp2
              go_roundw
              case rel => exact ⟨n + 1, by omega, by go_num, ⟨Kd.C_drewN HVr.out _⟩, ⟨pw_below_drewN HBr.out _⟩⟩
              case measure => simp [intOf]; omega
            · have hdn : ¬ (y.data = z.data) := fun e => hadj ⟨(by simpa using hth : y.there = z.there).symm, e.symm⟩
              clear hadj
              go_wp2
              go_quiet ((go_at_call 17; exact Calls.quiet_of (same50 A1 A2 y.data z.data c1 c2 _ (Kd.C_drewN HD1.out _) (Kd.C_drewN HD2.out _))))
              go_wp2
              go_roundw
              case rel => exact ⟨n + 1, by omega, by go_num, ⟨Kd.C_drewN HVr.out _⟩, ⟨pw_below_drewN HBr.out _⟩⟩
              case measure => simp [intOf]; omega
          · have i5 : ¬ ((n : Int) + 1 < (rs.length : Int)) := by omega
            go_wp2
            go_ret
            exact ⟨rfl, HBr.out⟩
  · have HGB := Aside0.mk hgb
    clear hgb
    go_enter Try.func4, Try.ntmps4
    go_wp2_with (first | (go_at_call 11; ((with_reducible refine (awake_any w).mono ?_)); rintro e w1 ⟨rfl, hb⟩; have HB1 := Aside0.mk hb; clear hb) | (go_at_call 12; refine (great_any A l c w1 (Kd.C_below h HB1.out)).mono ?_; unfold GreatPost; rw [HGB.out]; rintro e w2 ⟨rfl, n2, hw2⟩; have HB2 : Aside0 (Below w.heap.size w w2) := ⟨by rw [hw2]; exact pw_below_drewN HB1.out _⟩; clear hw2) | (go_at_call 11; refine (awake_any w2).mono ?_; rintro e w3 ⟨rfl, hb⟩; have HB3 := Aside0.mk (below_step HB2.out hb); clear hb))
    go_ret
    exact ⟨rfl, HB3.out⟩
end Go.Proofs.Ytjogpfijkhhloaa
