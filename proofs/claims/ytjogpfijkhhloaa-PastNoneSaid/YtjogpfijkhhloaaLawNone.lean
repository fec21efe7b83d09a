/-
  Chapter 50, PastNone, walked: for whatever was seen and any name it returns true and leaves all memory as it was.
-/
import Derived.Test.YtjogpfijkhhloaaPlain
namespace Go.Proofs.Ytjogpfijkhhloaa
open Go.RowKit Go.Proofs.YtjogpfijkhhloaaW.PrintWords Go.Proofs.YtjogpfijkhhloaaW.PrintLast Go.Proofs.YtjogpfijkhhloaaW.PrintMore
set_option linter.unusedVariables false
set_option linter.unusedSimpArgs false

theorem eql_nil29 (w : World) : (binOp .eql 29 .nilFunc .nilFunc).run Try.prog w = .ok (.bool true) w := by
  kernel_rfl
theorem of_nil (v u : Value) (w : World) : Calls Try.prog 13 #[v, .nilFunc, u] w fun e w' => e = .returned (.slice none 0 0) ∧ w = w' := by
  have q := eql_nil29
  go_enter Try.func13, Try.ntmps13
  go_wp2
  go_ret
  exact ⟨rfl, rfl⟩

set_option maxHeartbeats 3200000 in
theorem law_none (A : Option Addr) (l : List Seen) (c : Nat) (s : ByteArray) (w : World) (h : kSeen.C w A l.length l) :
    Calls Try.prog 7 #[.slice A l.length c, .string s] w fun e w' => e = .returned (.bool true) ∧ Below w.heap.size w w' := by
  have hmx := Kd.C_max h
  cases hgb : greatB l
  · have HGB := Aside0.mk hgb
    have HS := Aside0.mk (small_of hgb)
    have hfew := HS.out.few
    clear hgb
    cases h1 : (s.toList == [97])
    · cases h2 : (s.toList == [98])
      · have HN := Aside0.mk (none_all HS.out s h1 h2)
        have HD : Aside0 (∀ k, k < l.length → (gt l k).data.length ≤ 140737488355328) := ⟨fun k hk => Nat.le_trans (HS.out.short k hk) (by decide)⟩
        obtain ⟨L, hL⟩ : ∃ L, l.map Seen.moment = L := ⟨_, rfl⟩
        have hLl : L.length = l.length := by rw [← hL]; simp
        have hLl' : L.length ≤ 1000000000 := by omega
        rw [hL] at HN
        obtain ⟨vs, hvs⟩ : ∃ vs, ofSpec (tells l) s L = vs := ⟨_, rfl⟩
        rw [hvs] at HN
        have HL := Aside0.mk hL
        have HVS := Aside0.mk hvs
        clear hL hvs hLl
        go_enter Try.func7, Try.ntmps7
        go_wp2_with (first | (go_at_call 11; ((with_reducible refine (awake_any w).mono ?_)); rintro e w1 ⟨rfl, hb⟩; have HB1 := Aside0.mk hb; clear hb) | (go_at_call 12; refine (great_any A l c w1 (Kd.C_below h HB1.out)).mono ?_; unfold GreatPost; rw [HGB.out]; rintro e w2 ⟨rfl, n2, hw2⟩; have HB2 : Aside0 (Below w.heap.size w w2) := ⟨by rw [hw2]; exact pw_below_drewN HB1.out _⟩; clear hw2) | (go_at_call 14; refine (moments_any A l c L HL.out w2 (Kd.C_below h HB2.out) (by omega)).mono ?_; rintro e w3 ⟨v, rfl, ho, hb⟩; obtain ⟨Am, cm, rfl⟩ := Kd.R_slice ho; have H3 := Aside0.mk (readsI ho); have HB3 := Aside0.mk (below_step HB2.out hb); clear ho hb) | (go_at_call 15; refine (at_any _ _ rfl).mono ?_; rintro e wx ⟨rfl, rfl⟩) | (go_at_call 13; refine (of_n Am L.length L rfl cm w3.heap.size A l c s vs _ HVS.out (Kd.C_alloc H3.out _) (blk_new w3 _) (Kd.C_below h (below_alloc HB3.out _)) HD.out hLl').mono ?_; rintro e w5 ⟨B, c5, rfl, ho, hb⟩; have HV := Aside0.mk (readsV ho); have HB5 := Aside0.mk (below_step (below_alloc HB3.out _) hb); clear ho hb))
        go_loopw [6, 7] (fun v6 i wr => ∃ k : Nat, k ≤ l.length ∧ i = .int .i64 k ∧ v6 = .bool ((l.take k).any Seen.told) ∧ Aside0 (kVers.C wr B vs.length vs) ∧ Aside0 (Below w.heap.size w wr)) (fun _ i _ => l.length - (intOf i).toNat)
        case atStart => exact ⟨0, Nat.zero_le _, rfl, rfl, HV, HB5⟩
        case round =>
          obtain ⟨k, hk, rfl, rfl, HVr, HBr⟩ := hrel
          by_cases hlt : k < l.length
          · obtain ⟨ad, A3, c3, rfl, g0, g1, g2, g3, hc3, hd⟩ := seen_at h hlt
            replace g1 := cell_old HBr.out g1
            clear g0 g2 g3 hc3 hd
            have HT := Aside0.mk (any_take_succ l k hlt)
            obtain ⟨tt, htt⟩ : ∃ tt, (l.take k).any Seen.told = tt := ⟨_, rfl⟩
            rw [htt] at HT ⊢
            clear htt
            cases tt
            all_goals
              go_wp2
              go_roundw
              case rel => exact ⟨k + 1, by omega, by go_num, by rw [HT.out]; rfl, HVr, HBr⟩
              case measure => simp [intOf]; omega
          · have htk : l.take k = l := List.take_of_length_le (by omega)
            rw [htk]
            clear htk
            rcases HN.out with ⟨e1, e2⟩ | ⟨e1, m, e2⟩
            all_goals
              rw [e1]
              subst e2
              clear e1 HN
            · go_wp2_with (first | (go_at_call 15; refine (at_any _ _ rfl).mono ?_; rintro e wx ⟨rfl, rfl⟩) | (go_at_call 13; ((with_reducible refine (of_nil _ _ _).mono ?_)); rintro e wy ⟨rfl, rfl⟩) | (go_at_call 13; refine (of_n none 0 [] rfl 0 wr.heap.size A l c ⟨#[97]⟩ [] _ rfl (Kd.C_nil _ _) (blk_new wr _) (Kd.C_below h (below_alloc HBr.out _)) HD.out (by simp)).mono ?_; rintro e w6 ⟨B6, c6, rfl, ho, hb⟩; have HV6 := Aside0.mk (Kd.C_below (Kd.C_alloc HVr.out _) hb); have HB6 := Aside0.mk (below_step (below_alloc HBr.out _) hb); clear ho hb) | (go_at_call 14; refine (moments_any _ l c L HL.out w6 (Kd.C_below h HB6.out) (by omega)).mono ?_; rintro e w7 ⟨v7, rfl, ho, hb⟩; have HV7 := Aside0.mk (Kd.C_below HV6.out hb); have HB7 := Aside0.mk (below_step HB6.out hb); clear ho hb) | (go_at_call 19; have hcc := changed_n B 0 [] rfl c5 [] rfl w7 HV7.out (by simp); ((with_reducible refine hcc.mono ?_)); clear hcc; rintro e w8 ⟨A8, c8, rfl, _, hb⟩; have HV8 := Aside0.mk (Kd.C_below HV7.out hb); have HB8 := Aside0.mk (below_step HB7.out hb); clear hb) | (go_at_call 19; have hcc := changed_n none 0 [] rfl 0 [] rfl w8 (Kd.C_nil _ _) (by decide); ((with_reducible refine hcc.mono ?_)); clear hcc; rintro e w9 ⟨A9, c9, rfl, _, hb⟩; have HV9 := Aside0.mk (Kd.C_below HV8.out hb); have HB9 := Aside0.mk (below_step HB8.out hb); clear hb; skip))
              go_ret
              exact ⟨rfl, HB9.out⟩
            · obtain ⟨ad0, D0, d0, rfl, p0, p1, p2, _, _⟩ := vers_at HVr.out (k := 0) (by simp)
              clear p0 p1 p2
              go_wp2_with (first | (go_at_call 15; refine (at_any _ _ rfl).mono ?_; rintro e wx ⟨rfl, rfl⟩) | (go_at_call 13; ((with_reducible refine (of_nil _ _ _).mono ?_)); rintro e wy ⟨rfl, rfl⟩) | (go_at_call 13; refine (of_n none 0 [] rfl 0 wr.heap.size A l c ⟨#[97]⟩ [] _ rfl (Kd.C_nil _ _) (blk_new wr _) (Kd.C_below h (below_alloc HBr.out _)) HD.out (by simp)).mono ?_; rintro e w6 ⟨B6, c6, rfl, ho, hb⟩; have HV6 := Aside0.mk (Kd.C_below (Kd.C_alloc HVr.out _) hb); have HB6 := Aside0.mk (below_step (below_alloc HBr.out _) hb); clear ho hb) | (go_at_call 14; refine (moments_any _ l c L HL.out w6 (Kd.C_below h HB6.out) (by omega)).mono ?_; rintro e w7 ⟨v7, rfl, ho, hb⟩; have HV7 := Aside0.mk (Kd.C_below HV6.out hb); have HB7 := Aside0.mk (below_step HB6.out hb); clear ho hb) | (go_at_call 19; have hcc := changed_n (some ad0) 1 [(⟨m, false, []⟩ : Vers)] rfl c5 [] rfl w7 HV7.out (by simp); ((with_reducible refine hcc.mono ?_)); clear hcc; rintro e w8 ⟨A8, c8, rfl, _, hb⟩; have HV8 := Aside0.mk (Kd.C_below HV7.out hb); have HB8 := Aside0.mk (below_step HB7.out hb); clear hb) | (go_at_call 19; have hcc := changed_n none 0 [] rfl 0 [] rfl w8 (Kd.C_nil _ _) (by decide); ((with_reducible refine hcc.mono ?_)); clear hcc; rintro e w9 ⟨A9, c9, rfl, _, hb⟩; have HV9 := Aside0.mk (Kd.C_below HV8.out hb); have HB9 := Aside0.mk (below_step HB8.out hb); clear hb; (obtain ⟨_, D0, d0, e0, p0, p1, p2, _, _⟩ := vers_at HV9.out (k := 0) (by simp); cases e0; simp [gt, Addr.add] at p0 p1 p2)))
              go_ret
              exact ⟨rfl, HB9.out⟩
      · go_enter Try.func7, Try.ntmps7
        go_wp2_with (first | (go_at_call 11; ((with_reducible refine (awake_any w).mono ?_)); rintro e w1 ⟨rfl, hb⟩; have HB1 := Aside0.mk hb; clear hb) | (go_at_call 12; refine (great_any A l c w1 (Kd.C_below h HB1.out)).mono ?_; unfold GreatPost; rw [HGB.out]; rintro e w2 ⟨rfl, n2, hw2⟩; have HB2 : Aside0 (Below w.heap.size w w2) := ⟨by rw [hw2]; exact pw_below_drewN HB1.out _⟩; clear hw2) | (go_at_call 11; refine (awake_any w2).mono ?_; rintro e w3 ⟨rfl, hb⟩; have HB3 := Aside0.mk (below_step HB2.out hb); clear hb))
        go_ret
        exact ⟨rfl, HB3.out⟩
    · go_enter Try.func7, Try.ntmps7
      go_wp2_with (first | (go_at_call 11; ((with_reducible refine (awake_any w).mono ?_)); rintro e w1 ⟨rfl, hb⟩; have HB1 := Aside0.mk hb; clear hb) | (go_at_call 12; refine (great_any A l c w1 (Kd.C_below h HB1.out)).mono ?_; unfold GreatPost; rw [HGB.out]; rintro e w2 ⟨rfl, n2, hw2⟩; have HB2 : Aside0 (Below w.heap.size w w2) := ⟨by rw [hw2]; exact pw_below_drewN HB1.out _⟩; clear hw2) | (go_at_call 11; refine (awake_any w2).mono ?_; rintro e w3 ⟨rfl, hb⟩; have HB3 := Aside0.mk (below_step HB2.out hb); clear hb))
      go_ret
      exact ⟨rfl, HB3.out⟩
  · have HGB := Aside0.mk hgb
    clear hgb
    go_enter Try.func7, Try.ntmps7
    go_wp2_with (first | (go_at_call 11; ((with_reducible refine (awake_any w).mono ?_)); rintro e w1 ⟨rfl, hb⟩; have HB1 := Aside0.mk hb; clear hb) | (go_at_call 12; refine (great_any A l c w1 (Kd.C_below h HB1.out)).mono ?_; unfold GreatPost; rw [HGB.out]; rintro e w2 ⟨rfl, n2, hw2⟩; have HB2 : Aside0 (Below w.heap.size w w2) := ⟨by rw [hw2]; exact pw_below_drewN HB1.out _⟩; clear hw2) | (go_at_call 11; refine (awake_any w2).mono ?_; rintro e w3 ⟨rfl, hb⟩; have HB3 := Aside0.mk (below_step HB2.out hb); clear hb))
    go_ret
    exact ⟨rfl, HB3.out⟩
end Go.Proofs.Ytjogpfijkhhloaa
