/-
  Chapter 49: the law's own disk, walked: what it tells.
-/
import Derived.Test.YtahjadbjokkjnaaDoorDk1
namespace Go.Proofs.YtahjadbjokkjnaaDoor
open Go.RowKit Go.Proofs.YtahjadbjokkjnaaDoorW.PrintWords Go.Proofs.YtahjadbjokkjnaaDoorW.PrintLast Go.Proofs.YtahjadbjokkjnaaDoorW.PrintMore
set_option linter.unusedVariables false
set_option linter.unusedSimpArgs false

def Dk1Post (L : List (List UInt8)) (hk : Option Nat) (n : Nat) (w : World) (e : Ending) (w' : World) : Prop := ∃ b ok, e = .returned (.tuple #[.agg (bytesV b).toArray, .bool ok]) ∧ b.length = 32 ∧ (if ok = true then b else zeroB) = diskT L hk n ∧ Below w.heap.size w w'
theorem hide_as (n k K : Nat) (r : Bool) (hr : decide (n = k) = r) (w : World) (h : w.cell? ⟨K, 0, none⟩ = some (.int .i64 (k : Int))) :
    Calls Tryd.prog 25 #[.int .i64 (n : Int), .pointer (some ⟨K, 0, none⟩)] w fun e w' => e = .returned (.bool r) ∧ w' = w := by
  subst hr
  exact hide_any n k K w h
set_option maxHeartbeats 3200000 in
theorem disk1_any (B1 B2 n : Nat) (L : List (List UInt8)) (hk : Option Nat) (A : Option Addr) (c : Nat) (w : World) (h : DiskAt w B1 B2 L hk A c) (hn : n ≤ 1000) :
    Calls Tryd.prog 44 #[.int .i64 (n : Int), .pointer (some ⟨B1, 0, none⟩), .pointer (some ⟨B2, 0, none⟩)] w (Dk1Post L hk n w) := by
  have hb1 := below_alloc (Below.refl w.heap.size w) (.cells (bytesV zeroB).toArray 40)
  have hz := blk_new w (.cells (bytesV zeroB).toArray 40)
  obtain ⟨W1, hW1⟩ : ∃ W1, W1 = w.alloc (.cells (bytesV zeroB).toArray 40) := ⟨_, rfl⟩
  rw [← hW1] at hb1 hz
  have h1 := h.below hb1
  obtain ⟨R, hR⟩ : ∃ R, R = w.heap.size := ⟨_, rfl⟩
  rw [← hR] at hz
  have HW1 := Aside0.mk hW1
  have HR := Aside0.mk hR
  have HZ := Aside0.mk hz
  have HB1 := Aside0.mk hb1
  have H1 := Aside0.mk h1
  have HFIN : Aside0 (∀ W5, W1.grownBy W5 (some R) → Below w.heap.size w W5) := ⟨fun W5 hg => pw_below_grown hb1 (some R) hb1.size hg (fun k hk => by cases hk; omega)⟩
  clear hb1 hz h1 h
  go_enter Tryd.func44, Tryd.ntmps44
  go_upto_region 0 with fail
  go_cut [4, 5] (fun v4 v5 wd => v4 = .pointer (some ⟨R, 0, none⟩) ∧ Aside0 (wd = W1))
  case first =>
    go_wp2_with fail
    go_meet
    case rel => exact ⟨by rw [HR.out], ⟨HW1.out.symm⟩⟩
  obtain ⟨rfl, HWC⟩ := hcut
  rw [HWC.out]
  clear HWC hW1 hR
  have y1 := H1.out.cell1
  have h0 : ¬ ((n : Int) < 0) := by omega
  by_cases hlt : n < L.length
  · have hge : ¬ ((L.length : Int) ≤ (n : Int)) := by omega
    obtain ⟨g, hg⟩ := H1.out.form (by omega)
    have hro := H1.out.row
    rw [hg] at y1 hro
    have hbi := block_in hro hlt
    obtain ⟨b, hb⟩ : ∃ b, b = gt L n := ⟨_, rfl⟩
    rw [← hb] at hbi
    have HB := Aside0.mk hb
    have hb32 := hbi.1
    have HBI := Aside0.mk hbi.2
    clear hb hbi hro
    rcases H1.out.hide with ⟨rfl, y2⟩ | ⟨k, K, rfl, y2, y3⟩
    · have hnn := neq_nil_nil
      have HT : Aside0 (diskT L none n = b) := ⟨by unfold diskT; rw [if_pos ⟨hlt, by simp⟩, HB.out]⟩
      go_wp2_with (first | ((with_reducible refine gate_dst (N := 27) rfl ?_); refine load_block rfl _ rfl ⟨g, n * 32, none⟩ rfl b hb32 HBI.out ?_) | ((with_reducible refine gate_store (t := 40) (p := 4) rfl ?_); refine store_block_blk rfl (.tmp 4) (.tmp 27) rfl R zeroB rfl HZ.out rfl b hb32 rfl ?_; intro W5 hb5 hg5; have HB5 := Aside0.mk hb5; have HG5 := Aside0.mk hg5; clear hb5 hg5))
      refine bodyPost_ret (results_ct rfl _ _ R b hb32 rfl HB5.out) rfl ?_
      exact Exists.intro b (Exists.intro true ⟨rfl, hb32, HT.out.symm, HFIN.out _ HG5.out⟩)
    · have hnf := neq_func_nil
      by_cases hnk : n = k
      · have hd : decide (n = k) = true := decide_eq_true hnk
        subst hnk
        have HT : Aside0 (diskT L (some n) n = zeroB) := ⟨by unfold diskT; rw [if_neg]; rintro ⟨_, h⟩; exact h rfl⟩
        go_wp2_with (first | ((with_reducible refine gate_dst (N := 23) rfl ?_); refine build_on rfl 40 _ rfl (bytesV zeroB).toArray (by exact build_zero) ?_) | ((with_reducible refine gate_store (t := 40) (p := 4) rfl ?_); refine store_block_blk rfl (.tmp 4) (.tmp 23) rfl R zeroB rfl HZ.out rfl zeroB rfl rfl ?_; intro W5 hb5 hg5; have HB5 := Aside0.mk hb5; have HG5 := Aside0.mk hg5; clear hb5 hg5) | (go_at_call 25; go_loud (refine (hide_as n n K true (by simp) _ y3).mono ?_; rintro e w7 ⟨rfl, rfl⟩)))
        refine bodyPost_ret (results_ct rfl _ _ R zeroB rfl rfl HB5.out) rfl ?_
        exact Exists.intro zeroB (Exists.intro false ⟨rfl, rfl, HT.out.symm, HFIN.out _ HG5.out⟩)
      · have hd : decide (n = k) = false := decide_eq_false hnk
        have HT : Aside0 (diskT L (some k) n = b) := ⟨by unfold diskT; rw [if_pos ⟨hlt, by intro e; injection e with e; exact hnk e.symm⟩, HB.out]⟩
        go_wp2_with (first | ((with_reducible refine gate_dst (N := 27) rfl ?_); refine load_block rfl _ rfl ⟨g, n * 32, none⟩ rfl b hb32 HBI.out ?_) | ((with_reducible refine gate_store (t := 40) (p := 4) rfl ?_); refine store_block_blk rfl (.tmp 4) (.tmp 27) rfl R zeroB rfl HZ.out rfl b hb32 rfl ?_; intro W5 hb5 hg5; have HB5 := Aside0.mk hb5; have HG5 := Aside0.mk hg5; clear hb5 hg5) | (go_at_call 25; go_loud (refine (hide_as n k K false hd _ y3).mono ?_; rintro e w7 ⟨rfl, rfl⟩)))
        refine bodyPost_ret (results_ct rfl _ _ R b hb32 rfl HB5.out) rfl ?_
        exact Exists.intro b (Exists.intro true ⟨rfl, hb32, HT.out.symm, HFIN.out _ HG5.out⟩)
  · have hge : (L.length : Int) ≤ (n : Int) := by omega
    have HT : Aside0 (diskT L hk n = zeroB) := ⟨by unfold diskT; rw [if_neg]; rintro ⟨h, _⟩; exact hlt h⟩
    go_wp2_with (first | ((with_reducible refine gate_dst (N := 23) rfl ?_); refine build_on rfl 40 _ rfl (bytesV zeroB).toArray (by exact build_zero) ?_) | ((with_reducible refine gate_store (t := 40) (p := 4) rfl ?_); refine store_block_blk rfl (.tmp 4) (.tmp 23) rfl R zeroB rfl HZ.out rfl zeroB rfl rfl ?_; intro W5 hb5 hg5; have HB5 := Aside0.mk hb5; have HG5 := Aside0.mk hg5; clear hb5 hg5))
    refine bodyPost_ret (results_ct rfl _ _ R zeroB rfl rfl HB5.out) rfl ?_
    exact Exists.intro zeroB (Exists.intro false ⟨rfl, rfl, HT.out.symm, HFIN.out _ HG5.out⟩)
end Go.Proofs.YtahjadbjokkjnaaDoor
