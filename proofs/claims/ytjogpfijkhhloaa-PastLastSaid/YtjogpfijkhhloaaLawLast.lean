/-
  Chapter 50, PastLast, walked: for any versions and any byte it returns true and leaves all memory as it was.
-/
import Derived.Test.YtjogpfijkhhloaaLast
namespace Go.Proofs.Ytjogpfijkhhloaa
open Go.RowKit Go.Proofs.YtjogpfijkhhloaaW.PrintWords Go.Proofs.YtjogpfijkhhloaaW.PrintLast Go.Proofs.YtjogpfijkhhloaaW.PrintMore
set_option linter.unusedVariables false

theorem lastSpec_snoc (p : List UInt8 → Bool) (l : List Vers) (k : Nat) (hk : k < l.length) : lastSpec p (l.take (k + 1)) = if ((gt l k).there && p (gt l k).data) = true then some (gt l k) else lastSpec p (l.take k) := by
  unfold lastSpec
  rw [List.take_add_one, gt_some l k hk]
  simp only [Option.toList_some, List.reverse_append, List.reverse_singleton, List.singleton_append, List.find?_cons]
  cases ((gt l k).there && p (gt l k).data) <;> simp

set_option maxHeartbeats 3200000 in
theorem law_last (A : Option Addr) (l : List Vers) (c : Nat) (b : UInt8) (w : World) (h : kVers.C w A l.length l) (hd : ∀ k, k < l.length → (gt l k).data.length ≤ 140737488355328) :
    Calls Try.prog 9 #[.slice A l.length c, .int .u8 (b.toNat : Int)] w fun e w' => e = .returned (.bool true) ∧ Below w.heap.size w w' := by
  have hmx := Kd.C_max h
  have HD := Aside0.mk hd
  clear hd
  have hA0 := below_alloc (Below.refl w.heap.size w) (.cells #[.int .u8 (b.toNat : Int)] 5)
  have HA0 := Aside0.mk hA0
  clear hA0
  by_cases hs : l.length ≤ 30
  · obtain ⟨o1, ho1⟩ : ∃ o, lastSpec (firstIs b) l = o := ⟨_, rfl⟩
    obtain ⟨o3, ho3⟩ : ∃ o, lastSpec anyData l = o := ⟨_, rfl⟩
    have HO1 := Aside0.mk ho1
    have HO3 := Aside0.mk ho3
    clear ho1 ho3
    go_enter Try.func9, Try.ntmps9
    go_wp2_with (first | (go_at_call 11; refine (awake_any _).mono ?_; rintro e w1 ⟨rfl, hb⟩; have HB1 := Aside0.mk (below_step HA0.out hb); have HG1 := Aside0.mk (blk_below (blk_new w (.cells #[.int .u8 (b.toNat : Int)] 5)) hb); clear hb) | (go_at_call 21; refine (last1_any A l c b w.heap.size o1 w1 HO1.out (Kd.C_below h HB1.out) HD.out (by rw [blk_cell HG1.out]; rfl)).mono ?_; rintro e w2 ⟨rfl, hb⟩; have HB2 := Aside0.mk (below_step HB1.out hb); have HG2 := Aside0.mk (blk_below HG1.out hb); clear hb))
    go_loopw [8, 9, 10] (fun v8 v9 i wr => ∃ (k : Nat) (o : Option Vers), k ≤ l.length ∧ i = .int .i64 k ∧ v8 = .int .u64 (lastN o) ∧ v9 = .bool o.isSome ∧ Aside0 (lastSpec (firstIs b) (l.take k) = o) ∧ Aside0 (Below w.heap.size w wr) ∧ Aside0 (wr.heap[w.heap.size]? = some (.cells #[.int .u8 (b.toNat : Int)] 5))) (fun _ _ i _ => l.length - (intOf i).toNat)
    case atStart => exact ⟨0, none, Nat.zero_le _, rfl, rfl, rfl, ⟨rfl⟩, HB2, HG2⟩
    case round =>
      obtain ⟨k, o, hk, rfl, rfl, rfl, HO, HB, HG⟩ := hrel
      by_cases hlt : k < l.length
      · obtain ⟨x, hx⟩ : ∃ x, x = gt l k := ⟨_, rfl⟩
        obtain ⟨ad, Ac, cc, rfl, g0, g1, g2, hc0, hd0⟩ := vers_at h hlt
        rw [← hx] at g0 g1 g2 hc0 hd0
        replace g0 := cell_old HB.out g0
        replace g1 := cell_old HB.out g1
        replace g2 := cell_old HB.out g2
        have HD0 := Aside0.mk (Kd.C_below hd0 HB.out)
        have HS := Aside0.mk (lastSpec_snoc (firstIs b) l k hlt)
        rw [← hx] at HS
        clear hd0 hx
        cases ht : x.there
        · go_wp2
          go_roundw
          case rel => exact ⟨k + 1, o, by omega, by go_num, rfl, rfl, ⟨by rw [HS.out, ht, HO.out]; rfl⟩, HB, HG⟩
          case measure => simp [intOf]; omega
        · obtain ⟨pv, hp⟩ : ∃ pv, firstIs b x.data = pv := ⟨_, rfl⟩
          have HP := Aside0.mk hp
          clear hp
          cases pv
          all_goals
            go_wp2_with (go_at_call 20; refine (first1_any Ac x.data cc b w.heap.size wr HD0.out (by rw [blk_cell HG.out]; rfl)).mono ?_; rw [HP.out]; rintro e w4 ⟨rfl, n4, hw4⟩; have HB4 : Aside0 (Below w.heap.size w w4) := ⟨by rw [hw4]; exact pw_below_drewN HB.out _⟩; have HG4 : Aside0 (w4.heap[w.heap.size]? = some (.cells #[.int .u8 (b.toNat : Int)] 5)) := ⟨by rw [hw4]; exact blk_drewN HG.out _⟩; have g5 : w4.cell? (ad.add (k * 3)) = some (.int .u64 x.from_) := (by rw [hw4]; exact g0); clear hw4)
          · go_roundw
            case rel => exact ⟨k + 1, o, by omega, by go_num, rfl, rfl, ⟨by rw [HS.out, ht, HP.out, HO.out]; rfl⟩, HB4, HG4⟩
            case measure => simp [intOf]; omega
          · go_roundw
            case rel => exact ⟨k + 1, some x, by omega, by go_num, rfl, rfl, ⟨by rw [HS.out, ht, HP.out]; rfl⟩, HB4, HG4⟩
            case measure => simp [intOf]; omega
      · have hoo : o1 = o := by
          have := HO.out
          rw [List.take_of_length_le (by omega)] at this
          rw [← this, ← HO1.out]
        subst hoo
        go_wp2_with (first | (go_at_call 21; ((with_reducible refine (last_nil (.slice A l.length c) wr).mono ?_)); rintro e w5 ⟨rfl, rfl⟩) | (go_at_call 21; refine (last3_any A l c b 0 o3 wr HO3.out (Kd.C_below h HB.out) HD.out trivial).mono ?_; rintro e w6 ⟨rfl, hb⟩; have HB6 := Aside0.mk (below_step HB.out hb); clear hb))
        go_loopw [15] (fun i wr => ∃ (i' : Int) (k : Nat), i = .int .i64 i' ∧ i' + 1 = k ∧ k ≤ l.length ∧ Aside0 (∀ j, k ≤ j → j < l.length → (gt l j).there = false) ∧ Aside0 (Below w.heap.size w wr)) (fun i _ => (intOf i + 1).toNat)
        case atStart => exact ⟨_, l.length, rfl, by omega, Nat.le_refl _, ⟨fun j h1 h2 => absurd h2 (by omega)⟩, HB6⟩
        case round =>
          obtain ⟨i', k2, rfl, hik, hk2, HN, HB7⟩ := hrel
          rcases Nat.eq_zero_or_pos k2 with h0 | h0
          · have hlt2 : ¬ (0 : Int) ≤ i' := by omega
            have e1 : o1 = none := by rw [← HO1.out]; exact lastSpec_none _ _ (fun j hj => by rw [HN.out j (by omega) hj]; rfl)
            have e3 : o3 = none := by rw [← HO3.out]; exact lastSpec_none _ _ (fun j hj => by rw [HN.out j (by omega) hj]; rfl)
            subst e1 e3
            go_wp2
            go_ret
            exact ⟨rfl, HB7.out⟩
          · obtain ⟨n, rfl⟩ : ∃ n, k2 = n + 1 := ⟨k2 - 1, by omega⟩
            obtain rfl : i' = (n : Int) := by omega
            clear hik
            obtain ⟨x, hx⟩ : ∃ x, x = gt l n := ⟨_, rfl⟩
            obtain ⟨ad, Ac, cc, rfl, g0, g1, g2, hc0, hd0⟩ := vers_at h (show n < l.length by omega)
            rw [← hx] at g0 g1 g2 hc0 hd0
            replace g0 := cell_old HB7.out g0
            replace g1 := cell_old HB7.out g1
            have HX := Aside0.mk hx
            clear hd0 hx g2
            cases ht : x.there
            · go_wp2
              go_roundw
              case rel => exact ⟨(n : Int) - 1, n, by go_num, by omega, by omega, ⟨fun j h1 h2 => if hj : j = n then by rw [hj, ← HX.out, ht] else HN.out j (by omega) h2⟩, HB7⟩
              case measure => simp [intOf] <;> omega
            · have e3 : o3 = some x := by rw [← HO3.out, HX.out]; exact lastSpec_some _ l n (by omega) (by rw [← HX.out, ht]; rfl) (fun j h1 h2 => by rw [HN.out j (by omega) h2]; rfl)
              subst e3
              go_wp2
              go_ret
              exact ⟨ret_bool (show (lastN (some x) == x.from_) = true by simp [lastN]), HB7.out⟩
  · go_enter Try.func9, Try.ntmps9
    go_wp2_with (first | (go_at_call 11; ((with_reducible refine (awake_any (w.alloc (.cells #[.int .u8 (b.toNat : Int)] 5))).mono ?_)); rintro e w1 ⟨rfl, hb⟩; have HB0 := Aside0.mk (below_step HA0.out hb); clear hb) | (go_at_call 11; refine (awake_any w1).mono ?_; rintro e w2 ⟨rfl, hb⟩; have HB1 := Aside0.mk hb; clear hb))
    go_ret
    exact ⟨rfl, below_step HB0.out HB1.out⟩
end Go.Proofs.Ytjogpfijkhhloaa
