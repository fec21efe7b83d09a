/-
  AttackFlood, walked: it returns true.
-/
import Derived.Test.YtdobjbdkfammbaaDoorSm
namespace Go.Proofs.YtdobjbdkfammbaaDoor
open Go.RowKit Go.Shelf Go.Proofs.YtdobjbdkfammbaaDoorW.PrintWords Go.Proofs.YtdobjbdkfammbaaDoorW.PrintLast Go.Proofs.YtdobjbdkfammbaaDoorW.PrintMore
set_option linter.unusedVariables false
set_option linter.unusedSimpArgs false

theorem i64_hi {n : Int} (h : (Lit.int .i64 n).wf = true) : -9223372036854775808 ≤ n ∧ n ≤ 9223372036854775807 := by
  simpa [Lit.wf, IntKind.min, IntKind.max, IntKind.bits, IntKind.signed] using h
theorem u64_hi {n : Int} (h : (Lit.int .u64 n).wf = true) : U64 n := by
  unfold U64
  simpa [Lit.wf, IntKind.min, IntKind.max, IntKind.bits, IntKind.signed] using h
theorem flood_same (vol blocks x : Int) (n : Nat) : ∀ k, k < n → gt (floodD vol blocks x n) k = ddOf (gt (floodR vol blocks x n) k) := fun k hk => by
  rw [gt_eq _ _ (by rw [floodD_len]; exact hk), gt_eq _ _ (by rw [floodR_len]; exact hk)]
  simp [floodD, floodR, ddOf]
theorem rflood_as (vol blocks many seed : Int) (w : World) (hb1 : 1 ≤ blocks) (hb2 : blocks ≤ 9223372036854775807) (hx : U64 seed) (n : Nat) (hn : n = (if many < 1000 then many else 1000).toNat) :
    Calls Tryd.prog 15 #[.int .i64 vol, .int .i64 blocks, .int .i64 many, .int .u64 seed] w fun e w' => ∃ A c, e = .returned (.slice A n c) ∧ kRd.R 73 w' w.heap.size (fun _ => True) (.slice A n c) (floodR vol blocks seed n) ∧ Below w.heap.size w w' := by
  refine (rflood_any vol blocks many seed w hb1 hb2 hx n hn).mono ?_
  rintro e w' ⟨v, rfl, ho, hb⟩
  obtain ⟨A, c, rfl⟩ := Kd.R_slice ho
  rw [floodR_len] at ho
  exact ⟨A, c, by rw [floodR_len], ho, hb⟩
set_option maxHeartbeats 1600000 in
theorem law_aflood (vol blocks many seed : Int) (hb2 : blocks ≤ 9223372036854775807) (hx : U64 seed) (w : World) (hmg : MagicAt w) :
    Calls Tryd.prog 3 #[.int .i64 vol, .int .i64 blocks, .int .i64 many, .int .u64 seed] w fun e w' => e = .returned (.bool true) ∧ Below w.heap.size w w' := by
  have HMG := Aside0.mk hmg
  have HX := Aside0.mk hx
  have HB2 := Aside0.mk hb2
  clear hmg hx hb2
  by_cases h1 : 1 ≤ blocks
  · obtain ⟨n, hn⟩ : ∃ n, n = (if many < 1000 then many else 1000).toNat := ⟨_, rfl⟩
    have hn1 : n ≤ 1000 := by split at hn <;> omega
    have HN := Aside0.mk hn
    clear hn
    go_enter Tryd.func3, Tryd.ntmps3
    go_wp2_with (first | (go_at_call 12; refine (awake55 _ HMG.out).mono ?_; rintro e w1 ⟨rfl, hb⟩; have HB1 := Aside0.mk hb; clear hb) | (go_at_call 14; refine (flood_as vol blocks many seed _ h1 HB2.out HX.out n HN.out).mono ?_; rintro e w2 ⟨A2, c2, rfl, ho, hb⟩; have hC := (Kd.R_reads' ho).2.2; rw [floodD_len] at hC; have HC2 := Aside0.mk hC; have HB2' := Aside0.mk (below_step HB1.out hb); clear ho hb hC) | (go_at_call 15; refine (rflood_as vol blocks many seed _ h1 HB2.out HX.out n HN.out).mono ?_; rintro e w3 ⟨A3, c3, rfl, ho, hb⟩; have hC := (Kd.R_reads' ho).2.2; rw [floodR_len] at hC; have HC3 := Aside0.mk hC; have HC2b := Aside0.mk (Kd.C_below HC2.out hb); have HB3 := Aside0.mk (below_step HB2'.out hb); clear ho hb hC) | (go_at_call 13; refine (same55 A2 A3 n c2 c3 _ _ _ HC2b.out HC3.out (flood_same vol blocks seed n) (by omega)).mono ?_; rintro e w4 ⟨rfl, hb⟩; have HB4 := Aside0.mk (below_step HB3.out hb); clear hb))
    go_ret
    exact ⟨rfl, HB4.out⟩
  · have h1' : blocks < 1 := by omega
    go_enter Tryd.func3, Tryd.ntmps3
    go_wp2_with (first | (go_at_call 12; refine (awake55 _ HMG.out).mono ?_; rintro e w1 ⟨rfl, hb⟩; have HB1 := Aside0.mk hb; clear hb) | (go_at_call 14; refine (flood_none vol blocks many seed _ h1').mono ?_; rintro e w2 ⟨rfl, rfl⟩) | (go_at_call 15; refine (rflood_none vol blocks many seed _ h1').mono ?_; rintro e w3 ⟨A3, c3, rfl, hb⟩; have HB3 := Aside0.mk (below_step HB1.out hb); clear hb) | (go_at_call 13; refine (same55 none A3 0 0 c3 [] [] _ (Kd.C_nil _ _) ⟨rfl, by decide, fun h => absurd h (by omega)⟩ (fun k hk => absurd hk (by omega)) (by omega)).mono ?_; rintro e w4 ⟨rfl, hb⟩; have HB4 := Aside0.mk (below_step HB3.out hb); clear hb))
    go_ret
    exact ⟨rfl, HB4.out⟩
end Go.Proofs.YtdobjbdkfammbaaDoor
