/-
  Chapter 50, PastChanged, walked: for any versions it returns true and leaves all memory as it was.
-/
import Derived.Test.YtjogpfijkhhloaaAwake
namespace Go.Proofs.Ytjogpfijkhhloaa
open Go.RowKit Go.Proofs.YtjogpfijkhhloaaW.PrintWords Go.Proofs.YtjogpfijkhhloaaW.PrintLast Go.Proofs.YtjogpfijkhhloaaW.PrintMore
set_option linter.unusedVariables false

theorem drop_take_one (l : List Vers) : [] = ((l.take 1).drop 1).map Vers.from_ := by simp
set_option maxHeartbeats 1600000 in
theorem law_changed (A : Option Addr) (l : List Vers) (c : Nat) (w : World) (h : kVers.C w A l.length l) :
    Calls Try.prog 5 #[.slice A l.length c] w fun e w' => e = .returned (.bool true) ∧ Below w.heap.size w w' := by
  have hmx := Kd.C_max h
  obtain ⟨L, hL⟩ : ∃ L, (l.drop 1).map Vers.from_ = L := ⟨_, rfl⟩
  have HLL := Aside0.mk hL
  clear hL
  by_cases hs : l.length ≤ 90
  · go_enter Try.func5, Try.ntmps5
    go_wp2_with (go_at_call 11; refine (awake_any _).mono ?_; rintro e w1 ⟨rfl, hb⟩; have HB0 := Aside0.mk hb; clear hb)
    go_loopw [3, 4] (fun v i wr => ∃ k : Nat, 1 ≤ k ∧ k ≤ l.length + 1 ∧ i = .int .i64 k ∧ Aside0 ((Kd.int .u64).R 32 wr w.heap.size (fun _ => True) v (((l.take k).drop 1).map Vers.from_)) ∧ Aside0 (Below w.heap.size w wr)) (fun _ i _ => l.length + 1 - (intOf i).toNat)
    case atStart => exact ⟨1, by omega, by omega, rfl, ⟨drop_take_one l ▸ Kd.R_nil _ _ _ _ _⟩, HB0⟩
    case round =>
      obtain ⟨k, h1, hk, rfl, HO, HB⟩ := hrel
      by_cases hlt : k < l.length
      · obtain ⟨ad, A2, c2, rfl, g0, g1, g2, hc2, hd⟩ := vers_at h hlt
        replace g0 := cell_old HB.out g0
        clear g1 g2 hc2 hd
        go_wp2_with ((with_reducible refine gate_builtin (b := .append) (xs := #[.tmp 19, .tmp 25]) rfl ?_); at_builtin; refine Kd.R_append (Kd.int .u64) (w0 := w) w.heap.size rfl (.tmp 19) (.tmp 25) 27 32 (.int .u64 0) 8 rfl Try.underlying27 info_u64 rfl (by decide) (by omega) _ (((l.take k).drop 1).map Vers.from_) (gt l k).from_ [.int .u64 (gt l k).from_] (fun _ => True) (fun _ => False) rfl ?aX1 ?aP1 (fun _ hk => hk.elim) ?aF1 ?aO1 ?aB1 ?aS1 ?aL1 ?_; (case aX1 => first | rfl | (go_simp; done) | (simp [go_sem]; done)); (case aP1 => exact rfl); (case aB1 => exact HB.out); (case aF1 => exact (fun _ _ => trivial)); (case aO1 => exact HO.out); (case aS1 => exact (HB.out).size); (case aL1 => (simp; omega)); intro v1 w1 ho1 hb1 hg1 hat1; have HO1 := Aside0.mk ho1; have HB1 := Aside0.mk hb1; clear ho1 hb1 hg1 hat1)
        go_roundw
        case rel => exact ⟨k + 1, by omega, by omega, by go_num, ⟨by rw [drop_take_succ _ _ _ hlt h1]; exact HO1.out⟩, HB1⟩
        case measure => simp [intOf]; omega
      · have ht : l.take k = l := List.take_of_length_le (by omega)
        rw [ht, HLL.out] at HO
        obtain ⟨Aw, cw, hv⟩ := Kd.R_slice HO.out
        rw [hv] at HO ⊢
        have HW := Aside0.mk (readsI HO.out)
        go_wp2_with (first | (go_at_call 19; refine (changed_any A l c L HLL.out wr (Kd.C_below h HB.out) (by omega)).mono ?_; rintro e w5 ⟨v5, rfl, ho, hb⟩; obtain ⟨A5, c5, rfl⟩ := Kd.R_slice ho; have H5 := Aside0.mk (readsI ho); have HB5 := Aside0.mk (below_step HB.out hb); have HW5 := Aside0.mk (Kd.C_below HW.out hb); clear ho hb) | (go_at_call 18; refine (same18 A5 Aw L L c5 cw _ H5.out HW5.out).mono ?_; rintro e w6 ⟨rfl, n6, hw6⟩; have HB6 : Aside0 (Below w5.heap.size w5 w6) := ⟨by rw [hw6]; exact pw_below_drewN (Below.refl _ _) _⟩; clear hw6))
        go_ret
        exact ⟨ret_bool (by simp), below_step HB5.out HB6.out⟩
  · go_enter Try.func5, Try.ntmps5
    go_wp2_with (first | (go_at_call 11; ((with_reducible refine (awake_any w).mono ?_)); rintro e w1 ⟨rfl, hb⟩; have HB0 := Aside0.mk hb; clear hb) | (go_at_call 11; refine (awake_any w1).mono ?_; rintro e w2 ⟨rfl, hb⟩; have HB1 := Aside0.mk hb; clear hb))
    go_ret
    exact ⟨rfl, below_step HB0.out HB1.out⟩
end Go.Proofs.Ytjogpfijkhhloaa
