/-
  Chapter 50, the small functions: the moments of what was seen, whether there is too much of it, which versions change something.
-/
import Derived.Test.YtjogpfijkhhloaaBytes
namespace Go.Proofs.Ytjogpfijkhhloaa
open Go.RowKit Go.Proofs.YtjogpfijkhhloaaW.PrintWords Go.Proofs.YtjogpfijkhhloaaW.PrintLast Go.Proofs.YtjogpfijkhhloaaW.PrintMore
set_option linter.unusedVariables false

theorem info_u64 : (Try.prog.info? 32).map (fun i => (i.zero, i.size, i.bytes)) = some (some (.int .u64 0), 1, 8) := by kernel_rfl
theorem map_take_succ {α β : Type} [Inhabited α] (f : α → β) (l : List α) (k : Nat) (h : k < l.length) : (l.take (k + 1)).map f = (l.take k).map f ++ [f (gt l k)] := by
  rw [List.take_add_one, gt_some l k h]
  simp

theorem drop_take_succ {α β : Type} [Inhabited α] (f : α → β) (l : List α) (k : Nat) (h : k < l.length) (h0 : 0 < k) : ((l.take (k + 1)).drop 1).map f = ((l.take k).drop 1).map f ++ [f (gt l k)] := by
  rw [List.take_add_one, gt_some l k h, List.drop_append_of_le_length (by simp; omega)]
  simp
set_option maxHeartbeats 400000 in
theorem moments_any (A : Option Addr) (l : List Seen) (c : Nat) (L : List Int) (hL : l.map Seen.moment = L) (w : World) (h : kSeen.C w A l.length l) (hl : l.length ≤ 1000000000) :
    Calls Try.prog 14 #[.slice A l.length c] w fun e w' => ∃ v, e = .returned v ∧ (Kd.int .u64).R 32 w' w.heap.size (fun _ => True) v L ∧ Below w.heap.size w w' := by
  subst hL
  go_enter Try.func14, Try.ntmps14
  go_wp2
  go_loopw [3, 4] (fun v i wr => ∃ k : Nat, k ≤ l.length ∧ i = .int .i64 k ∧ Aside0 ((Kd.int .u64).R 32 wr w.heap.size (fun _ => True) v ((l.take k).map Seen.moment)) ∧ Aside0 (Below w.heap.size w wr)) (fun _ i _ => l.length - (intOf i).toNat)
  case atStart => exact ⟨0, Nat.zero_le _, rfl, ⟨Kd.R_nil _ _ _ _ _⟩, ⟨Below.refl _ _⟩⟩
  case round =>
    obtain ⟨k, hk, rfl, HO, HB⟩ := hrel
    by_cases hlt : k < l.length
    · obtain ⟨ad, A3, c3, rfl, g0, g1, g2, g3, hc3, hd⟩ := seen_at h hlt
      replace g0 := cell_old HB.out g0
      clear g1 g2 g3 hc3 hd
      go_wp2_with ((with_reducible refine gate_builtin (b := .append) (xs := #[.tmp 11, .tmp 17]) rfl ?_); at_builtin; refine Kd.R_append (Kd.int .u64) (w0 := w) w.heap.size rfl (.tmp 11) (.tmp 17) 27 32 (.int .u64 0) 8 rfl Try.underlying27 info_u64 rfl (by decide) (by omega) _ ((l.take k).map Seen.moment) (gt l k).moment [.int .u64 (gt l k).moment] (fun _ => True) (fun _ => False) rfl ?aX1 ?aP1 (fun _ hk => hk.elim) ?aF1 ?aO1 ?aB1 ?aS1 ?aL1 ?_; (case aX1 => first | rfl | (go_simp; done) | (simp [go_sem]; done)); (case aP1 => exact rfl); (case aB1 => exact HB.out); (case aF1 => exact (fun _ _ => trivial)); (case aO1 => exact HO.out); (case aS1 => exact (HB.out).size); (case aL1 => (simp; omega)); intro v1 w1 ho1 hb1 hg1 hat1; have HO1 := Aside0.mk ho1; have HB1 := Aside0.mk hb1; clear ho1 hb1 hg1 hat1)
      go_roundw
      case rel => exact ⟨k + 1, by omega, by go_num, ⟨by rw [map_take_succ _ _ _ hlt]; exact HO1.out⟩, HB1⟩
      case measure => simp [intOf]; omega
    · go_wp2
      go_ret
      exact ⟨_, rfl, by have := HO.out; rwa [List.take_of_length_le (by omega)] at this, HB.out⟩

set_option maxHeartbeats 400000 in
theorem changed_any (A : Option Addr) (l : List Vers) (c : Nat) (L : List Int) (hL : (l.drop 1).map Vers.from_ = L) (w : World) (h : kVers.C w A l.length l) (hl : l.length ≤ 1000000000) :
    Calls Try.prog 19 #[.slice A l.length c] w fun e w' => ∃ v, e = .returned v ∧ (Kd.int .u64).R 32 w' w.heap.size (fun _ => True) v L ∧ Below w.heap.size w w' := by
  subst hL
  go_enter Try.func19, Try.ntmps19
  go_wp2
  go_loopw [3, 8] (fun v i wr => ∃ k : Nat, k ≤ l.length ∧ i = .int .i64 k ∧ Aside0 ((Kd.int .u64).R 32 wr w.heap.size (fun _ => True) v (((l.take k).drop 1).map Vers.from_)) ∧ Aside0 (Below w.heap.size w wr)) (fun _ i _ => l.length - (intOf i).toNat)
  case atStart => exact ⟨0, Nat.zero_le _, rfl, ⟨Kd.R_nil _ _ _ _ _⟩, ⟨Below.refl _ _⟩⟩
  case round =>
    obtain ⟨k, hk, rfl, HO, HB⟩ := hrel
    by_cases hlt : k < l.length
    · obtain ⟨ad, A2, c2, rfl, g0, g1, g2, hc2, hd⟩ := vers_at h hlt
      replace g0 := cell_old HB.out g0
      replace g1 := cell_old HB.out g1
      replace g2 := cell_old HB.out g2
      clear hc2 hd
      by_cases h0 : 0 < k
      · go_wp2_with ((with_reducible refine gate_builtin (b := .append) (xs := #[.tmp 15, .tmp 18]) rfl ?_); at_builtin; refine Kd.R_append (Kd.int .u64) (w0 := w) w.heap.size rfl (.tmp 15) (.tmp 18) 27 32 (.int .u64 0) 8 rfl Try.underlying27 info_u64 rfl (by decide) (by omega) _ (((l.take k).drop 1).map Vers.from_) (gt l k).from_ [.int .u64 (gt l k).from_] (fun _ => True) (fun _ => False) rfl ?aX1 ?aP1 (fun _ hk => hk.elim) ?aF1 ?aO1 ?aB1 ?aS1 ?aL1 ?_; (case aX1 => first | rfl | (go_simp; done) | (simp [go_sem]; done)); (case aP1 => exact rfl); (case aB1 => exact (below_alloc HB.out _)); (case aF1 => exact (fun _ _ => trivial)); (case aO1 => exact (Kd.R_alloc HO.out _)); (case aS1 => exact ((below_alloc HB.out _)).size); (case aL1 => (simp; omega)); intro v1 w1 ho1 hb1 hg1 hat1; have HO1 := Aside0.mk ho1; have HB1 := Aside0.mk hb1; clear ho1 hb1 hg1 hat1)
        go_roundw
        case rel => exact ⟨k + 1, by omega, by go_num, ⟨by rw [drop_take_succ _ _ _ hlt h0]; exact HO1.out⟩, HB1⟩
        case measure => simp [intOf]; omega
      · go_wp2
        go_roundw
        case rel =>
          obtain rfl : k = 0 := by omega
          exact ⟨1, by omega, by go_num, ⟨by have := Kd.R_alloc HO.out (.cells #[.int .u64 (gt l 0).from_, .bool (gt l 0).there, .slice A2 (gt l 0).data.length c2] 35); simpa [List.drop_take] using this⟩, ⟨below_alloc HB.out _⟩⟩
        case measure => simp [intOf]; omega
    · go_wp2
      go_ret
      exact ⟨_, rfl, by have := HO.out; rwa [List.take_of_length_le (by omega)] at this, HB.out⟩

/-- Few enough things were seen, each short, at moments that differ. -/
structure Small (l : List Seen) : Prop where
  few : l.length ≤ 30
  short : ∀ i, i < l.length → (gt l i).data.length ≤ 256
  apart : ∀ i, i < l.length → ∀ k, k < i → (gt l k).moment ≠ (gt l i).moment
open Classical in
noncomputable def greatB (l : List Seen) : Bool := decide (¬ Small l)
theorem greatB_true {l : List Seen} (h : ¬ Small l) : greatB l = true := by simp [greatB, h]
theorem greatB_false {l : List Seen} (h : Small l) : greatB l = false := by simp [greatB, h]
theorem small_of {l : List Seen} (h : greatB l = false) : Small l := Classical.byContradiction fun hn => by rw [greatB_true hn] at h; cases h
def GreatPost (l : List Seen) (w : World) (e : Ending) (w' : World) : Prop := e = .returned (.bool (greatB l)) ∧ ∃ n, w' = w.drewN n
structure SmallTo (l : List Seen) (i : Nat) : Prop where
  short : ∀ j, j < i → (gt l j).data.length ≤ 256
  apart : ∀ j, j < i → ∀ k, k < j → (gt l k).moment ≠ (gt l j).moment
set_option maxHeartbeats 800000 in
theorem great_any (A : Option Addr) (l : List Seen) (c : Nat) (w : World) (h : kSeen.C w A l.length l) :
    Calls Try.prog 12 #[.slice A l.length c] w (GreatPost l w) := by
  have hmx := Kd.C_max h
  go_enter Try.func12, Try.ntmps12
  by_cases h30 : l.length ≤ 30
  · go_wp2
    go_loopw [3] (fun i wr => ∃ k : Nat, k ≤ l.length ∧ i = .int .i64 k ∧ SmallTo l k ∧ ∃ n, wr = w.drewN n) (fun i _ => l.length - (intOf i).toNat)
    case atStart => exact ⟨0, Nat.zero_le _, rfl, ⟨fun _ h => absurd h (by omega), fun _ h => absurd h (by omega)⟩, 0, rfl⟩
    case round =>
      obtain ⟨k, hk, rfl, hS, n, rfl⟩ := hrel
      by_cases hlt : k < l.length
      · obtain ⟨ad, A3, c3, rfl, g0, g1, g2, g3, hc3, hd⟩ := seen_at h hlt
        by_cases hsh : (gt l k).data.length ≤ 256
        · go_wp2
          go_loopw [4] (fun i wr => ∃ j : Nat, j ≤ k ∧ i = .int .i64 j ∧ Aside0 (∀ q, q < j → (gt l q).moment ≠ (gt l k).moment) ∧ ∃ n, wr = w.drewN n) (fun i _ => k - (intOf i).toNat)
          case atStart => exact ⟨0, Nat.zero_le _, rfl, ⟨fun _ h => absurd h (by omega)⟩, n, rfl⟩
          case round =>
            obtain ⟨j, hj, rfl, hN, n2, rfl⟩ := hrel
            by_cases hjk : j < k
            · obtain ⟨ad', A4, c4, e4, f0, f1, f2, f3, hc4, hd4⟩ := seen_at h (show j < l.length by omega)
              cases e4
              by_cases he : (gt l j).moment = (gt l k).moment
              · have he' : ((gt l j).moment == (gt l k).moment) = true := beq_iff_eq.mpr he
                go_wp2
                go_quiet (fail)
                go_wp2
                go_ret
                exact ⟨by rw [greatB_true (fun hs => hs.apart k hlt j hjk he)]; rfl, _, by first | rfl | exact World.drewN_drewN ..⟩
              · have he' : ((gt l j).moment == (gt l k).moment) = false := beq_eq_false_iff_ne.mpr he
                go_wp2
                go_quiet (fail)
                go_wp2
                go_roundw
                case rel => exact ⟨j + 1, by omega, by go_num, ⟨fun q hq => if hqj : q = j then hqj ▸ he else hN.out q (by omega)⟩, _, by first | rfl | exact World.drewN_drewN ..⟩
                case measure => simp [intOf]; omega
            · obtain rfl : j = k := by omega
              go_wp2
              go_roundw
              case rel => exact ⟨j + 1, by omega, by go_num, ⟨fun q hq => if hqj : q = j then hqj ▸ hsh else hS.short q (by omega), fun q hq p hp => if hqj : q = j then by subst hqj; exact hN.out p hp else hS.apart q (by omega) p hp⟩, n2, rfl⟩
              case measure => simp [intOf]; omega
        · go_wp2
          go_ret
          exact ⟨by rw [greatB_true (fun hs => hsh (hs.short k hlt))]; rfl, n, rfl⟩
      · obtain rfl : k = l.length := by omega
        go_wp2
        go_ret
        exact ⟨by rw [greatB_false ⟨h30, hS.short, hS.apart⟩]; rfl, n, rfl⟩
  · go_wp2
    go_ret
    exact ⟨by rw [greatB_true (fun hs => h30 hs.few)]; rfl, 0, rfl⟩
end Go.Proofs.Ytjogpfijkhhloaa
