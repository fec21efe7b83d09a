/-
  The comparisons of two slices, walked: true just if they are equal.
-/
import Derived.Test.YtahjadbjokkjnaaDoorTy
namespace Go.Proofs.YtahjadbjokkjnaaDoor
open Go.RowKit Go.Proofs.YtahjadbjokkjnaaDoorW.PrintWords Go.Proofs.YtahjadbjokkjnaaDoorW.PrintLast Go.Proofs.YtahjadbjokkjnaaDoorW.PrintMore

set_option linter.unusedVariables false
set_option linter.unusedSimpArgs false
theorem take_step {α : Type} [Inhabited α] {xs ys : List α} {k : Nat} (h : xs.take k = ys.take k) (hx : k < xs.length) (hy : k < ys.length) (he : gt xs k = gt ys k) : xs.take (k + 1) = ys.take (k + 1) := by
  rw [List.take_add_one, List.take_add_one, h, gt_some xs k hx, gt_some ys k hy, he]
theorem ne_of_gt {α : Type} [Inhabited α] {xs ys : List α} {k : Nat} (hx : k < xs.length) (hy : k < ys.length) (he : gt xs k ≠ gt ys k) : xs ≠ ys := fun e => he (by rw [e])
theorem ret_bool {a b : Bool} (h : a = b) : Ending.returned (.bool a) = .returned (.bool b) := by rw [h]

set_option maxHeartbeats 400000 in
theorem same01 (A B : Option Addr) (xs ys : List UInt8) (c1 c2 : Nat) (w : World) (h1 : byte.C w A xs.length xs) (h2 : byte.C w B ys.length ys) :
    Calls Tryd.prog 26 #[.slice A xs.length c1, .slice B ys.length c2] w fun e w' => e = .returned (.bool (decide (xs = ys))) ∧ ∃ n, w' = w.drewN n := by
  have hm1 := Kd.C_max h1
  by_cases hl : xs.length = ys.length
  · have hl' : ((xs.length : Int) != (ys.length : Int)) = false := bne_eq_false_iff_eq.mpr (by omega)
    go_enter Tryd.func26, Tryd.ntmps26
    go_wp2
    go_loopw [5] (fun i wr => ∃ k : Nat, k ≤ xs.length ∧ i = .int .i64 k ∧ Aside0 (xs.take k = ys.take k) ∧ ∃ n, wr = w.drewN n) (fun i _ => xs.length - (intOf i).toNat)
    case atStart => exact ⟨0, Nat.zero_le _, rfl, ⟨by simp⟩, 0, rfl⟩
    case round =>
      obtain ⟨k, hk, rfl, ht, n, rfl⟩ := hrel
      by_cases hlt : k < xs.length
      · have hlt2 : k < ys.length := by omega
        obtain ⟨a1, rfl, g1⟩ := byte_at h1 hlt
        obtain ⟨a2, rfl, g2⟩ := byte_at h2 hlt2
        by_cases he : gt xs k = gt ys k
        · have he' : (((gt xs k).toNat : Int) != ((gt ys k).toNat : Int)) = false := by rw [he]; simp
          go_wp2
          go_quiet (fail)
          go_wp2
          go_roundw
          case rel => exact ⟨k + 1, by omega, by go_num, ⟨take_step ht.out hlt hlt2 he⟩, _, by first | rfl | exact World.drewN_drewN ..⟩
          case measure => simp [intOf]; omega
        · have he' : (((gt xs k).toNat : Int) != ((gt ys k).toNat : Int)) = true := by simpa using fun h => he (byte_inj h)
          go_wp2
          go_quiet (fail)
          go_wp2
          go_ret
          exact ⟨ret_bool (by simpa using ne_of_gt hlt hlt2 he), _, by first | rfl | exact World.drewN_drewN ..⟩
      · go_wp2
        go_ret
        refine ⟨ret_bool ?_, n, rfl⟩
        have := ht.out
        rw [List.take_of_length_le (by omega), List.take_of_length_le (by omega)] at this
        simpa using this
  · have hl' : ((xs.length : Int) != (ys.length : Int)) = true := bne_iff_ne.mpr (by omega)
    go_enter Tryd.func26, Tryd.ntmps26
    go_wp2
    go_ret
    exact ⟨ret_bool (by simpa using fun h => hl (by rw [h])), 0, rfl⟩
end Go.Proofs.YtahjadbjokkjnaaDoor
