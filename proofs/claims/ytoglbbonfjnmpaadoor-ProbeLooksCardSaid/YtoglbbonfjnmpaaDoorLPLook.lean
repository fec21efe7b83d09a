/-
  ProbeLooks, walked: it returns true.
-/
import Derived.Test.YtoglbbonfjnmpaaDoorPj
namespace Go.Proofs.YtoglbbonfjnmpaaDoor
open Go.RowKit Go.Proofs.YtoglbbonfjnmpaaDoorW.PrintWords Go.Proofs.YtoglbbonfjnmpaaDoorW.PrintLast Go.Proofs.YtoglbbonfjnmpaaDoorW.PrintMore
set_option linter.unusedVariables false
set_option linter.unusedSimpArgs false

set_option maxRecDepth 4000 in
set_option maxHeartbeats 3200000 in
theorem law_plooks (A B : Option Addr) (before now : List File) (c1 c2 : Nat) (right : Bool) (w : World) (h1 : kFile.C w A before.length before) (h2 : kFile.C w B now.length now)
    (hs1 : ∀ k, k < before.length → (gt before k).name.size ≤ 9223372036854775807) (hs2 : ∀ k, k < now.length → (gt now k).name.size ≤ 9223372036854775807) (he : EndAt w) (hn : NumAt w) :
    Calls Tryd.prog 5 #[.slice A before.length c1, .slice B now.length c2, .bool right] w fun e w' => e = .returned (.bool true) ∧ Below w.heap.size w w' := by
  have H1 := Aside0.mk h1
  have H2 := Aside0.mk h2
  have HS1 := Aside0.mk hs1
  have HS2 := Aside0.mk hs2
  have HE := Aside0.mk he
  have HNM := Aside0.mk hn
  have hmx1 := Kd.C_max h1
  have hmx2 := Kd.C_max h2
  clear h1 h2 hs1 hs2 he hn
  cases hb1 : smallB before
  · have HS := Aside0.mk hb1
    clear hb1
    go_enter Tryd.func5, Tryd.ntmps5
    go_wp2_with (first | (go_at_call 12; refine (awake_any _ HE.out HNM.out).mono ?_; rintro e w1 ⟨rfl, hb⟩; have HB1 := Aside0.mk hb; clear hb) | (go_at_call_of 20 (Value.slice A before.length c1); refine (small_any A before c1 false HS.out 0 rfl _ (Kd.C_below H1.out HB1.out) HS1.out).mono ?_; rintro e w2 ⟨rfl, hb⟩; have HB2 := Aside0.mk (below_step HB1.out hb); clear hb))
    go_ret
    exact ⟨rfl, HB2.out⟩
  · cases hb2 : smallB now
    · have HSA := Aside0.mk hb1
      have HSB := Aside0.mk hb2
      clear hb1 hb2
      go_enter Tryd.func5, Tryd.ntmps5
      go_wp2_with (first | (go_at_call 12; refine (awake_any _ HE.out HNM.out).mono ?_; rintro e w1 ⟨rfl, hb⟩; have HB1 := Aside0.mk hb; clear hb) | (go_at_call_of 20 (Value.slice A before.length c1); refine (small_any A before c1 true HSA.out 1 rfl _ (Kd.C_below H1.out HB1.out) HS1.out).mono ?_; rintro e w2 ⟨rfl, hb⟩; have HB2 := Aside0.mk (below_step HB1.out hb); clear hb) | (go_at_call_of 20 (Value.slice B now.length c2); refine (small_any B now c2 false HSB.out 0 rfl _ (Kd.C_below H2.out HB2.out) HS2.out).mono ?_; rintro e w3 ⟨rfl, hb⟩; have HB3 := Aside0.mk (below_step HB2.out hb); clear hb))
      go_ret
      exact ⟨rfl, HB3.out⟩
    · have HSA := Aside0.mk hb1
      have HSB := Aside0.mk hb2
      have HMA := Aside0.mk (mild_of_small hb1)
      have HMB := Aside0.mk (mild_of_small hb2)
      obtain ⟨⟨a, b, c⟩, hr⟩ : ∃ r, lookB before now right = r := ⟨_, rfl⟩
      have HR := Aside0.mk hr
      clear hb1 hb2 hr
      cases a <;> cases b <;> cases c
      all_goals
        go_enter Tryd.func5, Tryd.ntmps5
        go_wp2_with (first | (go_at_call 12; refine (awake_any _ HE.out HNM.out).mono ?_; rintro e w1 ⟨rfl, hb⟩; have HB1 := Aside0.mk hb; clear hb) | (go_at_call_of 20 (Value.slice A before.length c1); refine (small_any A before c1 true HSA.out 1 rfl _ (Kd.C_below H1.out HB1.out) HS1.out).mono ?_; rintro e w2 ⟨rfl, hb⟩; have HB2 := Aside0.mk (below_step HB1.out hb); clear hb) | (go_at_call_of 20 (Value.slice B now.length c2); refine (small_any B now c2 true HSB.out 1 rfl _ (Kd.C_below H2.out HB2.out) HS2.out).mono ?_; rintro e w3 ⟨rfl, hb⟩; have HB3 := Aside0.mk (below_step HB2.out hb); clear hb) | (go_at_call_of 22 (Value.slice A before.length c1); refine (files_any A before c1 _ (Kd.C_below H1.out HB3.out) HMA.out.1 (fun k hk => (HMA.out.2 k hk).2)).mono ?_; rintro e w4 ⟨Ap, cp, rfl, ho, hb⟩; have HO4 := Aside0.mk (Kd.R_reads' ho).2.2; have HB4 := Aside0.mk (below_step HB3.out hb); clear ho hb) | (go_at_call_of 22 (Value.slice B now.length c2); refine (files_any B now c2 _ (Kd.C_below H2.out HB4.out) HMB.out.1 (fun k hk => (HMB.out.2 k hk).2)).mono ?_; rintro e w5 ⟨Aq, cq, rfl, ho, hb⟩; have HO5 := Aside0.mk (Kd.R_reads' ho).2.2; have HC4 := Aside0.mk (Kd.C_below HO4.out hb); have HB5 := Aside0.mk (below_step HB4.out hb); clear ho hb) | (go_at_call 24; refine (look_as Ap Aq before now before.length now.length cp cq rfl rfl right _ _ _ HR.out _ HC4.out HO5.out HMA.out HMB.out (Kd.C_below HE.out HB5.out) (Kd.C_below HNM.out HB5.out)).mono ?_; rintro e w6 ⟨rfl, hb⟩; have HB6 := Aside0.mk (below_step HB5.out hb); clear hb) | (go_at_call 25; refine (rlook_any A B before now c1 c2 right _ HR.out _ (Kd.C_below H1.out (below_alloc HB6.out _)) (Kd.C_below H2.out (below_alloc HB6.out _)) HMA.out HMB.out).mono ?_; rintro e w7 ⟨rfl, hb⟩; have HX7 := Aside0.mk (blk_below (blk_new w6 _) hb); have x0 := blk_cell HX7.out 0; have x1 := blk_cell HX7.out 1; have x2 := blk_cell HX7.out 2; simp only [List.getElem?_toArray, List.getElem?_cons_zero, List.getElem?_cons_succ] at x0 x1 x2; have HB7 := Aside0.mk (below_step (below_alloc HB6.out _) hb); clear hb) | (go_at_call 26; refine (bad_any _ _ _ _ rfl _).mono ?_; rintro e w8 ⟨rfl, hb⟩; have HB8 := Aside0.mk (below_step HB7.out hb); clear hb))
        go_ret
        exact ⟨rfl, HB8.out⟩
end Go.Proofs.YtoglbbonfjnmpaaDoor
