/-
  FsMakes, walked: it returns true.
-/
import Derived.Test.YtahjadbjokkjnaaDoorRm1
namespace Go.Proofs.YtahjadbjokkjnaaDoor
open Go.RowKit Go.Proofs.YtahjadbjokkjnaaDoorW.PrintWords Go.Proofs.YtahjadbjokkjnaaDoorW.PrintLast Go.Proofs.YtahjadbjokkjnaaDoorW.PrintMore
set_option linter.unusedVariables false
set_option linter.unusedSimpArgs false

theorem makeE_cases (l : List File) : (makeE l = 0 ∧ l.length ≤ 8 ∧ togB l = true ∧ makeV l = makeB l) ∨ ((makeE l = 6 ∨ makeE l = 3) ∧ (makeV l).length = 0) := by
  unfold makeE makeV
  by_cases h8 : 8 < l.length
  · right
    simp only [if_pos h8]
    simp
  · simp only [if_neg h8]
    cases ht : togB l
    · right; simp
    · left; simp; omega
set_option maxRecDepth 8000 in
set_option maxHeartbeats 6400000 in
theorem law_makes (A : Option Addr) (l : List File) (c : Nat) (w : World) (h : kFile.C w A l.length l) (hs : ∀ k, k < l.length → (gt l k).name.size ≤ 9223372036854775807) (hmg : MagicAt w) :
    Calls Tryd.prog 3 #[.slice A l.length c] w fun e w' => e = .returned (.bool true) ∧ Below w.heap.size w w' := by
  have hmx := Kd.C_max h
  have H := Aside0.mk h
  have HS := Aside0.mk hs
  have HMG := Aside0.mk hmg
  clear h hs hmg
  cases hg : greatB l
  case true =>
    have HG := Aside0.mk hg
    clear hg
    go_enter Tryd.func3, Tryd.ntmps3
    go_wp2_with (first | (go_at_call 11; refine (awake_any _ HMG.out).mono ?_; rintro e w1 ⟨rfl, hb1⟩; have HB1 := Aside0.mk hb1; clear hb1) | (go_at_call 12; refine (great_any A l c true HG.out _ (Kd.C_below H.out HB1.out) HS.out).mono ?_; rintro e w2 ⟨rfl, rfl⟩))
    go_ret
    exact ⟨rfl, HB1.out⟩
  case false =>
    have HG := Aside0.mk hg
    have hl12 : l.length ≤ 12 := great_len hg
    clear hg
    go_enter Tryd.func3, Tryd.ntmps3
    go_wp2_with (first | (go_at_call 11; refine (awake_any _ HMG.out).mono ?_; rintro e w1 ⟨rfl, hb1⟩; have HB1 := Aside0.mk hb1; clear hb1) | (go_at_call 12; refine (great_any A l c false HG.out _ (Kd.C_below H.out HB1.out) HS.out).mono ?_; rintro e w2 ⟨rfl, rfl⟩))
    go_loopg [3] l.length (fun gk i wr => ∃ k : Nat, k ≤ l.length ∧ Aside0 (gk = l.length - k) ∧ i = .int .i64 k ∧ Aside0 (Below w.heap.size w wr))
    case atStart => exact ⟨0, Nat.zero_le _, ⟨rfl⟩, rfl, HB1⟩
    case round =>
      obtain ⟨k, hk, HGK, rfl, HBr⟩ := hrel
      by_cases hlt : k < l.length
      · have hkl : (k : Int) < (l.length : Int) := by omega
        obtain ⟨ad, A1, c1, rfl, g0, g1, hc1, hd⟩ := file_at (Kd.C_below H.out HBr.out) hlt
        obtain ⟨x, hx⟩ : ∃ x, x = gt l k := ⟨_, rfl⟩
        have hsz := HS.out k hlt
        have hdm := Kd.C_max hd
        rw [← hx] at g0 g1 hsz hdm
        have HX := Aside0.mk hx
        have HLT := Aside0.mk hlt
        obtain ⟨r, hr⟩ : ∃ r, rightB x = r := ⟨_, rfl⟩
        have HR := Aside0.mk hr
        clear hd hx hr
        cases r
        all_goals
          go_wp2_with (first | (go_at_call 13; refine (right_any x.name A1 x.data c1 _ HR.out _ hsz).mono ?_; rintro e w3 ⟨rfl, hb⟩; have HB3 := Aside0.mk (below_step HBr.out hb); clear hb) | (go_at_call 15; refine (plain_any (some ad) l c _ (Kd.C_below H.out HB3.out) (by omega)).mono ?_; rintro e w4 ⟨Ap, cp, rfl, ho, hb⟩; have HB4 := Aside0.mk (below_step HB3.out hb); obtain ⟨ad5, A5, c5, rfl, q0, q1, _, _⟩ := file_at ho HLT.out; rw [← HX.out] at q0 q1; clear ho hb) | (go_at_call 14; refine (refRight_any x.name A5 x.data c5 _ HR.out _ hsz hdm).mono ?_; rintro e w5 ⟨rfl, hb⟩; have HB5 := Aside0.mk (below_step HB4.out hb); clear hb))
          go_roundg (l.length - (k + 1))
          case measure => have := HGK.out; omega
          case rel => exact ⟨k + 1, by omega, ⟨rfl⟩, by go_num, HB5⟩
      · have hkl : ¬ (k : Int) < (l.length : Int) := by omega
        obtain ⟨n, hn⟩ : ∃ n, n = (makeV l).length := ⟨_, rfl⟩
        rcases makeE_cases l with ⟨hE, hl8, ht, hv⟩ | ⟨hE, hv⟩
        · have HE := Aside0.mk hE
          have HT := Aside0.mk ht
          have HV := Aside0.mk hv
          have HNN := Aside0.mk hn
          have HNB : Aside0 ((makeB l).length = n) := ⟨by rw [hn, hv]⟩
          clear hE ht hv hn
          go_wp2_with (first | (go_at_call 16; refine (make_as A l c _ (Kd.C_below H.out HBr.out) HS.out (Kd.C_below HMG.out HBr.out) n HNN.out.symm 0 HE.out).mono ?_; rintro e w5 ⟨Aa, ca, rfl, ho, hb⟩; have HOa := Aside0.mk ho; have HB5 := Aside0.mk (below_step HBr.out hb); clear ho hb) | (go_at_call 18; refine (refMake_any Aq l cq _ HQ8.out hl8 HT.out).mono ?_; rintro e w9 ⟨v9, rfl, ho, hb⟩; obtain ⟨Ab, cb, rfl⟩ : ∃ A c, v9 = .slice A n c := (by obtain ⟨A, c, e⟩ := Kd.R_slice ho; exact ⟨A, c, by rw [e, HNB.out]⟩); have HOb := Aside0.mk ho; have HB9 := Aside0.mk (below_step HB8.out hb); have HOa9 := Aside0.mk (Kd.R_below (Kd.R_below (Kd.R_below (Kd.R_below HOa.out HB56.out) HB67.out) HB78.out) hb); clear ho hb) | (go_at_call 17; refine (refCheck_any Ap l cp 0 HE.out _ HP6.out HS.out).mono ?_; rintro e w7 ⟨rfl, hb⟩; have HB67 := Aside0.mk hb; have HB7 := Aside0.mk (below_step HB6.out hb); clear hb) | (go_at_call 15; refine (plain_any A l c w7 (Kd.C_below H.out HB7.out) (by omega)).mono ?_; rintro e w8 ⟨Aq, cq, rfl, ho, hb⟩; have HQ8 := Aside0.mk ho; have HB78 := Aside0.mk hb; have HB8 := Aside0.mk (below_step HB7.out hb); clear ho hb) | (go_at_call 15; refine (plain_any A l c w5 (Kd.C_below H.out HB5.out) (by omega)).mono ?_; rintro e w6 ⟨Ap, cp, rfl, ho, hb⟩; have HP6 := Aside0.mk ho; have HB56 := Aside0.mk hb; have HB6 := Aside0.mk (below_step HB5.out hb); clear ho hb))
          have HCa := Aside0.mk (Kd.R_reads' HOa9.out).2.2
          have HCb := Aside0.mk (Kd.R_reads' HOb.out).2.2
          have hn9 : n ≤ 9223372036854775807 := by have := Kd.C_max HCb.out; rwa [HNB.out] at this
          go_loopg [8] n (fun gk i wz => ∃ j : Nat, j ≤ n ∧ Aside0 (gk = n - j) ∧ i = .int .i64 j ∧ ∃ q, wz = w9.drewN q)
          case atStart => exact ⟨0, Nat.zero_le _, ⟨rfl⟩, rfl, 0, rfl⟩
          case round =>
            obtain ⟨j, hj, HGJ, rfl, q, rfl⟩ := hrel
            by_cases hj2 : j < n
            · have hj2' : (j : Int) < (n : Int) := by omega
              obtain ⟨ga, rfl, _, _⟩ := R_formV HOa9.out (by omega)
              obtain ⟨gb, rfl, _, _⟩ := R_formV HOb.out (by omega)
              have h1 := block_in HCa.out (k := j) (by rw [← HNN.out]; exact hj2)
              have h2 := block_in HCb.out (k := j) (by rw [HNB.out]; exact hj2)
              rw [HV.out] at h1
              obtain ⟨X, hX⟩ : ∃ X, X = gt (makeB l) j := ⟨_, rfl⟩
              rw [← hX] at h1 h2
              have H1 := Aside0.mk h1
              have H2 := Aside0.mk h2
              have he : ∀ w, (Op.equalIn 10000 40 (.agg (bytesV X).toArray) (.agg (bytesV X).toArray)).run Tryd.prog w = .ok true w := eql_block X X h1.1 h1.1 true (by simp)
              clear h1 h2 hX
              go_wp2_with fail
              (refine wp_region_quiet_lit (by kernel_rfl) (by kernel_rfl) ?_)
              repeat (first | (refine load_block_quiet rfl _ rfl ⟨ga, j * 32, none⟩ rfl X H1.out.1 H1.out.2 ?_; dsimp only [Act.put]; simp only [List.setIfInBounds_toArray, List.set_cons_succ, List.set_cons_zero]) | (refine load_block_quiet rfl _ rfl ⟨gb, j * 32, none⟩ rfl X H1.out.1 H2.out.2 ?_; dsimp only [Act.put]; simp only [List.setIfInBounds_toArray, List.set_cons_succ, List.set_cons_zero]) | go_big_quiet_step (fail))
              refine wpQuiet_nil ?_
              intro _ hw'
              obtain ⟨nq, hw''⟩ := hw'
              subst hw''
              go_wp2_with fail
              go_roundg (n - (j + 1))
              case measure => have := HGJ.out; omega
              case rel => exact ⟨j + 1, by omega, ⟨rfl⟩, by go_num, _, by first | rfl | exact World.drewN_drewN ..⟩
            · have hj2' : ¬ (j : Int) < (n : Int) := by omega
              go_wp2_with fail
              go_ret
              exact ⟨rfl, pw_below_drewN HB9.out _⟩
        · obtain ⟨E, hEE⟩ : ∃ E, makeE l = E := ⟨_, rfl⟩
          have hE0 : (E != 0) = true := by rw [hEE] at hE; rcases hE with e | e <;> rw [e] <;> rfl
          have hE1 : (E == 0) = false := by rw [hEE] at hE; rcases hE with e | e <;> rw [e] <;> rfl
          have HEE := Aside0.mk hEE
          have HVL : Aside0 ((makeV l).length = 0) := ⟨hv⟩
          clear hE hv hEE hn
          go_wp2_with (first | (go_at_call 16; refine (make_as A l c _ (Kd.C_below H.out HBr.out) HS.out (Kd.C_below HMG.out HBr.out) 0 HVL.out E HEE.out).mono ?_; rintro e w5 ⟨Aa, ca, rfl, ho, hb⟩; have HOa := Aside0.mk ho; have HB5 := Aside0.mk (below_step HBr.out hb); clear ho hb) | (go_at_call 17; refine (refCheck_any Ap l cp E HEE.out _ HP6.out HS.out).mono ?_; rintro e w7 ⟨rfl, hb⟩; have HB7 := Aside0.mk (below_step HB6.out hb); clear hb) | (go_at_call 15; refine (plain_any A l c w5 (Kd.C_below H.out HB5.out) (by omega)).mono ?_; rintro e w6 ⟨Ap, cp, rfl, ho, hb⟩; have HP6 := Aside0.mk ho; have HB6 := Aside0.mk (below_step HB5.out hb); clear ho hb))
          go_ret
          exact ⟨ret_bool (by simp), HB7.out⟩
end Go.Proofs.YtahjadbjokkjnaaDoor
