/-
  FsSame, walked: it returns true.
-/
import Derived.Test.YtahjadbjokkjnaaDoorFi
namespace Go.Proofs.YtahjadbjokkjnaaDoor
open Go.RowKit Go.Proofs.YtahjadbjokkjnaaDoorW.PrintWords Go.Proofs.YtahjadbjokkjnaaDoorW.PrintLast Go.Proofs.YtahjadbjokkjnaaDoorW.PrintMore
set_option linter.unusedVariables false
set_option linter.unusedSimpArgs false

def alikeTo (x y : List (List UInt8)) (k : Nat) : Bool := decide (x.length = y.length) && (List.range k).all fun j => decide (gt x j = gt y j)
theorem alikeTo_zero (x y : List (List UInt8)) : alikeTo x y 0 = decide (x.length = y.length) := by simp [alikeTo]
theorem alikeTo_succ (x y : List (List UInt8)) (k : Nat) : alikeTo x y (k + 1) = (alikeTo x y k && decide (gt x k = gt y k)) := by
  unfold alikeTo
  rw [List.range_succ, List.all_append, Bool.and_assoc]
  simp
theorem alikeTo_end (x y : List (List UInt8)) (k : Nat) (hx : k ≤ x.length) (hy : k ≤ y.length) (h : ¬ (k < x.length ∧ k < y.length)) : alikeTo x y k = decide (x = y) := by
  unfold alikeTo
  by_cases hl : x.length = y.length
  · rw [decide_eq_true hl, Bool.true_and, Bool.eq_iff_iff]
    simp only [List.all_eq_true, List.mem_range, decide_eq_true_eq]
    constructor
    · intro h1
      apply List.ext_getElem hl
      intro i h2 h3
      have := h1 i (by omega)
      rwa [gt_eq _ _ h2, gt_eq _ _ h3] at this
    · rintro rfl j _; rfl
  · rw [decide_eq_false hl, Bool.false_and]
    exact (decide_eq_false fun e => hl (by rw [e])).symm
theorem makeV_same {a b : List File} (ha : makeE a = 0) (hb : makeE b = 0) : decide (makeV a = makeV b) = sameB a b := by
  obtain ⟨ha8, hta, hva⟩ := makeE_zero ha
  obtain ⟨hb8, htb, hvb⟩ := makeE_zero hb
  rw [hva, hvb, Bool.eq_iff_iff]
  simp only [decide_eq_true_eq]
  exact ⟨makeB_inj hta htb ha8 hb8, fun h => by rw [sameB_eq h]⟩
set_option maxRecDepth 8000 in
set_option maxHeartbeats 6400000 in
theorem law_same (A B : Option Addr) (a b : List File) (c1 c2 : Nat) (w : World) (ha : kFile.C w A a.length a) (hbk : kFile.C w B b.length b) (hsa : ∀ k, k < a.length → (gt a k).name.size ≤ 9223372036854775807) (hsb : ∀ k, k < b.length → (gt b k).name.size ≤ 9223372036854775807) (hmg : MagicAt w) :
    Calls Tryd.prog 5 #[.slice A a.length c1, .slice B b.length c2] w fun e w' => e = .returned (.bool true) ∧ Below w.heap.size w w' := by
  have HA := Aside0.mk ha
  have HBb := Aside0.mk hbk
  have HSA := Aside0.mk hsa
  have HSB := Aside0.mk hsb
  have HMG := Aside0.mk hmg
  clear ha hbk hsa hsb hmg
  cases hga : greatB a
  case true =>
    have HGA := Aside0.mk hga
    clear hga
    go_enter Tryd.func5, Tryd.ntmps5
    go_wp2_with (first | (go_at_call 11; refine (awake_any _ HMG.out).mono ?_; rintro e w1 ⟨rfl, hb1⟩; have HB1 := Aside0.mk hb1; clear hb1) | (go_at_call 12; refine (great_any A a c1 true HGA.out _ (Kd.C_below HA.out HB1.out) HSA.out).mono ?_; rintro e w2 ⟨rfl, rfl⟩))
    go_ret
    exact ⟨rfl, HB1.out⟩
  case false =>
    have hal : a.length ≤ 12 := great_len hga
    have HGA := Aside0.mk hga
    clear hga
    cases hgb : greatB b
    case true =>
      have HGB := Aside0.mk hgb
      clear hgb
      go_enter Tryd.func5, Tryd.ntmps5
      go_wp2_with (first | (go_at_call 11; refine (awake_any _ HMG.out).mono ?_; rintro e w1 ⟨rfl, hb1⟩; have HB1 := Aside0.mk hb1; clear hb1) | (go_at_call_of 12 (Value.slice A a.length c1); refine (great_any A a c1 false HGA.out _ (Kd.C_below HA.out HB1.out) HSA.out).mono ?_; rintro e w2 ⟨rfl, rfl⟩) | (go_at_call_of 12 (Value.slice B b.length c2); refine (great_any B b c2 true HGB.out _ (Kd.C_below HBb.out HB1.out) HSB.out).mono ?_; rintro e w2 ⟨rfl, rfl⟩))
      go_ret
      exact ⟨rfl, HB1.out⟩
    case false =>
      have hbl : b.length ≤ 12 := great_len hgb
      have HGB := Aside0.mk hgb
      clear hgb
      obtain ⟨s, hs⟩ : ∃ s, sameB a b = s := ⟨_, rfl⟩
      obtain ⟨n1, hn1⟩ : ∃ n, (makeV a).length = n := ⟨_, rfl⟩
      obtain ⟨n2, hn2⟩ : ∃ n, (makeV b).length = n := ⟨_, rfl⟩
      obtain ⟨E1, hE1⟩ : ∃ n, makeE a = n := ⟨_, rfl⟩
      obtain ⟨E2, hE2⟩ : ∃ n, makeE b = n := ⟨_, rfl⟩
      have HSS := Aside0.mk hs
      have HN1 := Aside0.mk hn1
      have HN2 := Aside0.mk hn2
      have HE1 := Aside0.mk hE1
      have HE2 := Aside0.mk hE2
      clear hs hn1 hn2 hE1 hE2
      by_cases h1 : E1 = 0
      · by_cases h2 : E2 = 0
        · subst h1 h2
          go_enter Tryd.func5, Tryd.ntmps5
          go_wp2_with (first | (go_at_call 11; refine (awake_any _ HMG.out).mono ?_; rintro e w1 ⟨rfl, hb1⟩; have HB1 := Aside0.mk hb1; clear hb1) | (go_at_call_of 12 (Value.slice A a.length c1); refine (great_any A a c1 false HGA.out _ (Kd.C_below HA.out HB1.out) HSA.out).mono ?_; rintro e w2 ⟨rfl, rfl⟩) | (go_at_call_of 12 (Value.slice B b.length c2); refine (great_any B b c2 false HGB.out _ (Kd.C_below HBb.out HB1.out) HSB.out).mono ?_; rintro e w2 ⟨rfl, rfl⟩) | (go_at_call_of 19 (Value.slice B b.length c2); refine (same_any A B a b c1 c2 s HSS.out _ (Kd.C_below HA.out HB1.out) (Kd.C_below HBb.out HB1.out)).mono ?_; rintro e w2 ⟨rfl, hb⟩; have HB2 := Aside0.mk (below_step HB1.out hb); clear hb) | (go_at_call_of 15 (Value.slice A a.length c1); refine (plain_any A a c1 _ (Kd.C_below HA.out HB2.out) (by omega)).mono ?_; rintro e w3 ⟨Pa, ca, rfl, hc, hb⟩; have HPA := Aside0.mk hc; have HB3 := Aside0.mk (below_step HB2.out hb); clear hc hb) | (go_at_call_of 15 (Value.slice B b.length c2); refine (plain_any B b c2 _ (Kd.C_below HBb.out HB3.out) (by omega)).mono ?_; rintro e w4 ⟨Pb, cb, rfl, hc, hb⟩; have HPB := Aside0.mk hc; have HPA4 := Aside0.mk (Kd.C_below HPA.out hb); have HB4 := Aside0.mk (below_step HB3.out hb); clear hc hb) | (go_at_call 20; refine (refSame_any Pa Pb a b ca cb s HSS.out _ HPA4.out HPB.out).mono ?_; rintro e w5 ⟨rfl, hw⟩; have HB5 : Aside0 (Below w.heap.size w w5) := (by obtain ⟨q, rfl⟩ := hw; exact ⟨pw_below_drewN HB4.out _⟩); clear hw) | (go_at_call 19; refine (same_any A A a a c1 c1 true (sameB_refl a) _ (Kd.C_below HA.out HB5.out) (Kd.C_below HA.out HB5.out)).mono ?_; rintro e w6 ⟨rfl, hb⟩; have HB6 := Aside0.mk (below_step HB5.out hb); clear hb) | (go_at_call_of 16 (Value.slice A a.length c1); refine (make_as A a c1 _ (Kd.C_below HA.out HB6.out) HSA.out (Kd.C_below HMG.out HB6.out) n1 HN1.out _ HE1.out).mono ?_; rintro e w7 ⟨Aa, cx, rfl, ho, hb⟩; have HOa := Aside0.mk ho; have HB7 := Aside0.mk (below_step HB6.out hb); clear ho hb) | (go_at_call_of 16 (Value.slice B b.length c2); refine (make_as B b c2 _ (Kd.C_below HBb.out HB7.out) HSB.out (Kd.C_below HMG.out HB7.out) n2 HN2.out _ HE2.out).mono ?_; rintro e w8 ⟨Ab, cy, rfl, ho, hb⟩; have HOb := Aside0.mk ho; have HOa8 := Aside0.mk (Kd.R_below HOa.out hb); have HB8 := Aside0.mk (below_step HB7.out hb); clear ho hb))
          have HC1 := Aside0.mk (readsS' HOa8.out)
          have HC2 := Aside0.mk (readsS' HOb.out)
          have hm1 : n1 ≤ 9223372036854775807 := by have := Kd.C_max HC1.out; rwa [HN1.out] at this
          have hm2 : n2 ≤ 9223372036854775807 := by have := Kd.C_max HC2.out; rwa [HN2.out] at this
          go_loopg [10, 9] n1 (fun gk i v9 wz => ∃ (k : Nat) (al : Bool), k ≤ n1 ∧ k ≤ n2 ∧ Aside0 (gk = n1 - k) ∧ i = .int .i64 k ∧ v9 = .bool al ∧ Aside0 (al = alikeTo (makeV a) (makeV b) k) ∧ ∃ q, wz = w8.drewN q)
          case atStart => exact ⟨0, _, Nat.zero_le _, Nat.zero_le _, ⟨rfl⟩, rfl, rfl, ⟨by rw [alikeTo_zero, HN1.out, HN2.out, Bool.eq_iff_iff]; simp; omega⟩, 0, rfl⟩
          case round =>
            obtain ⟨k, al, hk1, hk2, HGK, rfl, rfl, HAL, hwr⟩ := hrel
            have HW := Aside0.mk hwr
            have HBw : Aside0 (Below w8.heap.size w8 wr) := ⟨by obtain ⟨q, hq⟩ := hwr; rw [hq]; exact pw_below_drewN (Below.refl _ _) _⟩
            clear hwr
            by_cases hlt : k < n1 ∧ k < n2
            · obtain ⟨ht1, ht2⟩ := hlt
              have HS := Aside0.mk (alikeTo_succ (makeV a) (makeV b) k)
              cases al
              · go_wp2_with fail
                go_quiet (fail)
                go_wp2_with fail
                go_roundg (n1 - (k + 1))
                case measure => have := HGK.out; omega
                case rel => exact ⟨k + 1, _, by omega, by omega, ⟨rfl⟩, by go_num, rfl, ⟨by rw [HS.out, ← HAL.out]; rfl⟩, drewN_of HW.out _⟩
              · obtain ⟨ga, rfl, _, _⟩ := R_formV HOa8.out (by omega)
                obtain ⟨gb, rfl, _, _⟩ := R_formV HOb.out (by omega)
                have h1 := block_in (Kd.C_below HC1.out HBw.out) (k := k) (by rw [HN1.out]; exact ht1)
                have h2 := block_in (Kd.C_below HC2.out HBw.out) (k := k) (by rw [HN2.out]; exact ht2)
                obtain ⟨X, hX⟩ : ∃ X, X = gt (makeV a) k := ⟨_, rfl⟩
                obtain ⟨Y, hY⟩ : ∃ X, X = gt (makeV b) k := ⟨_, rfl⟩
                rw [← hX] at h1
                rw [← hY] at h2
                rw [← hX, ← hY] at HS
                have H1 := Aside0.mk h1
                have H2 := Aside0.mk h2
                obtain ⟨d, hd⟩ : ∃ d, decide (X = Y) = d := ⟨_, rfl⟩
                rw [hd] at HS
                have he : ∀ w, (Op.equalIn 10000 40 (.agg (bytesV X).toArray) (.agg (bytesV Y).toArray)).run Tryd.prog w = .ok d w := eql_block X Y h1.1 h2.1 d hd
                clear h1 h2 hX hY hd
                go_wp2_with fail
                (refine wp_region_quiet_lit (by kernel_rfl) (by kernel_rfl) ?_)
                repeat (first | (refine load_block_quiet rfl _ rfl ⟨ga, k * 32, none⟩ rfl X H1.out.1 H1.out.2 ?_; dsimp only [Act.put]; simp only [List.setIfInBounds_toArray, List.set_cons_succ, List.set_cons_zero]) | (refine load_block_quiet rfl _ rfl ⟨gb, k * 32, none⟩ rfl Y H2.out.1 H2.out.2 ?_; dsimp only [Act.put]; simp only [List.setIfInBounds_toArray, List.set_cons_succ, List.set_cons_zero]) | go_big_quiet_step (fail))
                refine wpQuiet_nil ?_
                intro _ hw'
                obtain ⟨nq, hw''⟩ := hw'
                subst hw''
                clear he
                go_wp2_with fail
                go_roundg (n1 - (k + 1))
                case measure => have := HGK.out; omega
                case rel => exact ⟨k + 1, _, by omega, by omega, ⟨rfl⟩, by go_num, rfl, ⟨by rw [HS.out, ← HAL.out]; rfl⟩, drewN_of HW.out _⟩
            · have hal : al = s := by
                rw [HAL.out, alikeTo_end _ _ _ (by rw [HN1.out]; exact hk1) (by rw [HN2.out]; exact hk2) (by rw [HN1.out, HN2.out]; exact hlt), makeV_same HE1.out HE2.out, HSS.out]
              clear HAL
              subst hal
              have hbb : (al == al) = true := by simp
              by_cases ht1 : k < n1
              · have ht2 : ¬ k < n2 := fun h => hlt ⟨ht1, h⟩
                clear hlt
                go_wp2_with (go_at_call 19; refine (same_any A B a b c1 c2 al HSS.out _ (Kd.C_below (Kd.C_below HA.out HB8.out) HBw.out) (Kd.C_below (Kd.C_below HBb.out HB8.out) HBw.out)).mono ?_; rintro e w9 ⟨rfl, hb⟩; have HB9 := Aside0.mk (below_step (below_step HB8.out HBw.out) hb); clear hb)
                go_ret
                exact ⟨rfl, HB9.out⟩
              · clear hlt
                go_wp2_with (go_at_call 19; refine (same_any A B a b c1 c2 al HSS.out _ (Kd.C_below (Kd.C_below HA.out HB8.out) HBw.out) (Kd.C_below (Kd.C_below HBb.out HB8.out) HBw.out)).mono ?_; rintro e w9 ⟨rfl, hb⟩; have HB9 := Aside0.mk (below_step (below_step HB8.out HBw.out) hb); clear hb)
                go_ret
                exact ⟨rfl, HB9.out⟩
        · have h2' : (E2 != 0) = true := bne_iff_ne.mpr h2
          subst h1
          go_enter Tryd.func5, Tryd.ntmps5
          go_wp2_with (first | (go_at_call 11; refine (awake_any _ HMG.out).mono ?_; rintro e w1 ⟨rfl, hb1⟩; have HB1 := Aside0.mk hb1; clear hb1) | (go_at_call_of 12 (Value.slice A a.length c1); refine (great_any A a c1 false HGA.out _ (Kd.C_below HA.out HB1.out) HSA.out).mono ?_; rintro e w2 ⟨rfl, rfl⟩) | (go_at_call_of 12 (Value.slice B b.length c2); refine (great_any B b c2 false HGB.out _ (Kd.C_below HBb.out HB1.out) HSB.out).mono ?_; rintro e w2 ⟨rfl, rfl⟩) | (go_at_call_of 19 (Value.slice B b.length c2); refine (same_any A B a b c1 c2 s HSS.out _ (Kd.C_below HA.out HB1.out) (Kd.C_below HBb.out HB1.out)).mono ?_; rintro e w2 ⟨rfl, hb⟩; have HB2 := Aside0.mk (below_step HB1.out hb); clear hb) | (go_at_call_of 15 (Value.slice A a.length c1); refine (plain_any A a c1 _ (Kd.C_below HA.out HB2.out) (by omega)).mono ?_; rintro e w3 ⟨Pa, ca, rfl, hc, hb⟩; have HPA := Aside0.mk hc; have HB3 := Aside0.mk (below_step HB2.out hb); clear hc hb) | (go_at_call_of 15 (Value.slice B b.length c2); refine (plain_any B b c2 _ (Kd.C_below HBb.out HB3.out) (by omega)).mono ?_; rintro e w4 ⟨Pb, cb, rfl, hc, hb⟩; have HPB := Aside0.mk hc; have HPA4 := Aside0.mk (Kd.C_below HPA.out hb); have HB4 := Aside0.mk (below_step HB3.out hb); clear hc hb) | (go_at_call 20; refine (refSame_any Pa Pb a b ca cb s HSS.out _ HPA4.out HPB.out).mono ?_; rintro e w5 ⟨rfl, hw⟩; have HB5 : Aside0 (Below w.heap.size w w5) := (by obtain ⟨q, rfl⟩ := hw; exact ⟨pw_below_drewN HB4.out _⟩); clear hw) | (go_at_call 19; refine (same_any A A a a c1 c1 true (sameB_refl a) _ (Kd.C_below HA.out HB5.out) (Kd.C_below HA.out HB5.out)).mono ?_; rintro e w6 ⟨rfl, hb⟩; have HB6 := Aside0.mk (below_step HB5.out hb); clear hb) | (go_at_call_of 16 (Value.slice A a.length c1); refine (make_as A a c1 _ (Kd.C_below HA.out HB6.out) HSA.out (Kd.C_below HMG.out HB6.out) n1 HN1.out _ HE1.out).mono ?_; rintro e w7 ⟨Aa, cx, rfl, ho, hb⟩; have HOa := Aside0.mk ho; have HB7 := Aside0.mk (below_step HB6.out hb); clear ho hb) | (go_at_call_of 16 (Value.slice B b.length c2); refine (make_as B b c2 _ (Kd.C_below HBb.out HB7.out) HSB.out (Kd.C_below HMG.out HB7.out) n2 HN2.out _ HE2.out).mono ?_; rintro e w8 ⟨Ab, cy, rfl, ho, hb⟩; have HOb := Aside0.mk ho; have HOa8 := Aside0.mk (Kd.R_below HOa.out hb); have HB8 := Aside0.mk (below_step HB7.out hb); clear ho hb))
          go_ret
          exact ⟨rfl, HB8.out⟩
      · have h1' : (E1 != 0) = true := bne_iff_ne.mpr h1
        go_enter Tryd.func5, Tryd.ntmps5
        go_wp2_with (first | (go_at_call 11; refine (awake_any _ HMG.out).mono ?_; rintro e w1 ⟨rfl, hb1⟩; have HB1 := Aside0.mk hb1; clear hb1) | (go_at_call_of 12 (Value.slice A a.length c1); refine (great_any A a c1 false HGA.out _ (Kd.C_below HA.out HB1.out) HSA.out).mono ?_; rintro e w2 ⟨rfl, rfl⟩) | (go_at_call_of 12 (Value.slice B b.length c2); refine (great_any B b c2 false HGB.out _ (Kd.C_below HBb.out HB1.out) HSB.out).mono ?_; rintro e w2 ⟨rfl, rfl⟩) | (go_at_call_of 19 (Value.slice B b.length c2); refine (same_any A B a b c1 c2 s HSS.out _ (Kd.C_below HA.out HB1.out) (Kd.C_below HBb.out HB1.out)).mono ?_; rintro e w2 ⟨rfl, hb⟩; have HB2 := Aside0.mk (below_step HB1.out hb); clear hb) | (go_at_call_of 15 (Value.slice A a.length c1); refine (plain_any A a c1 _ (Kd.C_below HA.out HB2.out) (by omega)).mono ?_; rintro e w3 ⟨Pa, ca, rfl, hc, hb⟩; have HPA := Aside0.mk hc; have HB3 := Aside0.mk (below_step HB2.out hb); clear hc hb) | (go_at_call_of 15 (Value.slice B b.length c2); refine (plain_any B b c2 _ (Kd.C_below HBb.out HB3.out) (by omega)).mono ?_; rintro e w4 ⟨Pb, cb, rfl, hc, hb⟩; have HPB := Aside0.mk hc; have HPA4 := Aside0.mk (Kd.C_below HPA.out hb); have HB4 := Aside0.mk (below_step HB3.out hb); clear hc hb) | (go_at_call 20; refine (refSame_any Pa Pb a b ca cb s HSS.out _ HPA4.out HPB.out).mono ?_; rintro e w5 ⟨rfl, hw⟩; have HB5 : Aside0 (Below w.heap.size w w5) := (by obtain ⟨q, rfl⟩ := hw; exact ⟨pw_below_drewN HB4.out _⟩); clear hw) | (go_at_call 19; refine (same_any A A a a c1 c1 true (sameB_refl a) _ (Kd.C_below HA.out HB5.out) (Kd.C_below HA.out HB5.out)).mono ?_; rintro e w6 ⟨rfl, hb⟩; have HB6 := Aside0.mk (below_step HB5.out hb); clear hb) | (go_at_call_of 16 (Value.slice A a.length c1); refine (make_as A a c1 _ (Kd.C_below HA.out HB6.out) HSA.out (Kd.C_below HMG.out HB6.out) n1 HN1.out _ HE1.out).mono ?_; rintro e w7 ⟨Aa, cx, rfl, ho, hb⟩; have HOa := Aside0.mk ho; have HB7 := Aside0.mk (below_step HB6.out hb); clear ho hb) | (go_at_call_of 16 (Value.slice B b.length c2); refine (make_as B b c2 _ (Kd.C_below HBb.out HB7.out) HSB.out (Kd.C_below HMG.out HB7.out) n2 HN2.out _ HE2.out).mono ?_; rintro e w8 ⟨Ab, cy, rfl, ho, hb⟩; have HOb := Aside0.mk ho; have HOa8 := Aside0.mk (Kd.R_below HOa.out hb); have HB8 := Aside0.mk (below_step HB7.out hb); clear ho hb))
        go_ret
        exact ⟨rfl, HB8.out⟩
end Go.Proofs.YtahjadbjokkjnaaDoor
