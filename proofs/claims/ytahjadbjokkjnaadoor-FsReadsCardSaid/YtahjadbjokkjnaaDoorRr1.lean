/-
  Chapter 49: erewhileref49.at, walked.
-/
import Derived.Test.YtahjadbjokkjnaaDoorRr0
import Derived.Test.YtahjadbjokkjnaaDoorRd4
namespace Go.Proofs.YtahjadbjokkjnaaDoor
open Go.RowKit Go.Proofs.YtahjadbjokkjnaaDoorW.PrintWords Go.Proofs.YtahjadbjokkjnaaDoorW.PrintLast Go.Proofs.YtahjadbjokkjnaaDoorW.PrintMore
set_option linter.unusedVariables false
set_option linter.unusedSimpArgs false

set_option maxRecDepth 8000 in
set_option maxHeartbeats 3200000 in
theorem at_any (A : Option Addr) (L : List (List UInt8)) (N c n : Nat) (hN : L.length = N) (b : List UInt8) (hb : tellR L n = b) (w : World) (h : kBlock.C w A N L) (hn : n ≤ 1000000) :
    Calls Tryd.prog 43 #[.slice A N c, .int .i64 (n : Int)] w fun e w' => e = .returned (.agg (bytesV b).toArray) ∧ b.length = 32 ∧ Below w.heap.size w w' := by
  have hmx := Kd.C_max h
  have hb1 := below_alloc (Below.refl w.heap.size w) (.cells (bytesV zeroB).toArray 40)
  have hz := blk_new w (.cells (bytesV zeroB).toArray 40)
  obtain ⟨W1, hW1⟩ : ∃ W1, W1 = w.alloc (.cells (bytesV zeroB).toArray 40) := ⟨_, rfl⟩
  rw [← hW1] at hb1 hz
  have h1 := Kd.C_below h hb1
  obtain ⟨R, hR⟩ : ∃ R, R = w.heap.size := ⟨_, rfl⟩
  rw [← hR] at hz
  have HW1 := Aside0.mk hW1
  have HR := Aside0.mk hR
  have HZ := Aside0.mk hz
  have HB1 := Aside0.mk hb1
  have H1 := Aside0.mk h1
  have HN := Aside0.mk hN
  have HB := Aside0.mk hb
  have HFIN : Aside0 (∀ W5, W1.grownBy W5 (some R) → Below w.heap.size w W5) := ⟨fun W5 hg => pw_below_grown hb1 (some R) hb1.size hg (fun k hk => by cases hk; omega)⟩
  clear hb1 hz h1 h hN hb
  go_enter Tryd.func43, Tryd.ntmps43
  go_upto_region 0 with fail
  go_cut [4] (fun v4 wd => v4 = .pointer (some ⟨R, 0, none⟩) ∧ Aside0 (wd = W1))
  case first =>
    go_wp2_with fail
    go_meet
    case rel => exact ⟨by rw [HR.out], ⟨HW1.out.symm⟩⟩
  obtain ⟨rfl, HWC⟩ := hcut
  rw [HWC.out]
  clear HWC hW1 hR
  have h0 : ¬ ((n : Int) < 0) := by omega
  by_cases hlt : n < N
  · have hge : ¬ ((N : Int) ≤ (n : Int)) := by omega
    have HG : Aside0 (gt L n = b) := ⟨by rw [← HB.out]; unfold tellR; rw [if_pos (by rw [HN.out]; exact hlt)]⟩
    obtain ⟨ad, hA, h32, hcl⟩ := block_at H1.out hlt
    subst hA
    rw [HG.out] at h32 hcl
    have HC := Aside0.mk hcl
    have hnk : ((n : Int)).toNat = n := by simp
    clear hcl
    go_wp2_with (first | ((with_reducible refine gate_dst (N := 17) rfl ?_); refine load_block rfl _ rfl (ad.add (n * 32)) rfl b h32 HC.out ?_) | ((with_reducible refine gate_store (t := 40) (p := 4) rfl ?_); refine store_block_blk rfl (.tmp 4) (.tmp 17) rfl R zeroB rfl HZ.out rfl b h32 rfl ?_; intro W5 hb5 hg5; have HB5 := Aside0.mk hb5; have HG5 := Aside0.mk hg5; clear hb5 hg5))
    refine bodyPost_ret (results_c rfl _ _ R b h32 rfl HB5.out) rfl ?_
    exact ⟨rfl, HFIN.out _ HG5.out⟩
  · have hge : (N : Int) ≤ (n : Int) := by omega
    have HT : Aside0 (b = zeroB) := ⟨by rw [← HB.out]; unfold tellR; rw [if_neg]; rw [HN.out]; exact hlt⟩
    go_wp2_with (first | ((with_reducible refine gate_dst (N := 13) rfl ?_); refine build_on rfl 40 _ rfl (bytesV zeroB).toArray (by exact build_zero) ?_) | ((with_reducible refine gate_store (t := 40) (p := 4) rfl ?_); refine store_block_blk rfl (.tmp 4) (.tmp 13) rfl R zeroB rfl HZ.out rfl zeroB rfl rfl ?_; intro W5 hb5 hg5; have HB5 := Aside0.mk hb5; have HG5 := Aside0.mk hg5; clear hb5 hg5))
    refine bodyPost_ret (results_c rfl _ _ R zeroB rfl rfl HB5.out) rfl ?_
    exact ⟨by rw [HT.out], by rw [HT.out]; rfl, HFIN.out _ HG5.out⟩
end Go.Proofs.YtahjadbjokkjnaaDoor
