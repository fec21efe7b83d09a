/-
  FsFronts, walked: it returns true.
-/
import Derived.Test.YtahjadbjokkjnaaDoorLb
namespace Go.Proofs.YtahjadbjokkjnaaDoor
open Go.RowKit Go.Proofs.YtahjadbjokkjnaaDoorW.PrintWords Go.Proofs.YtahjadbjokkjnaaDoorW.PrintLast Go.Proofs.YtahjadbjokkjnaaDoorW.PrintMore
set_option linter.unusedVariables false
set_option linter.unusedSimpArgs false

theorem front_C {W : World} {A : Option Addr} {l P : List File} {N M : Nat} (h : kFile.C W A N l) (hN : l.length = N) (hP : P = l.take M) (hM : P.length = M) : kFile.C W A M P := by
  subst hN
  have hm : M ≤ l.length := by rw [hP, List.length_take] at hM; omega
  have := Kd.C_take h hm
  rwa [← hP, hM] at this
set_option maxRecDepth 8000 in
set_option maxHeartbeats 6400000 in
theorem law_fronts (A : Option Addr) (l : List File) (c : Nat) (w : World) (h0 : kFile.C w A l.length l) (hlc0 : l.length ≤ c) (hs : ∀ k, k < l.length → (gt l k).name.size ≤ 9223372036854775807) (hmg : MagicAt w) :
    Calls Tryd.prog 9 #[.slice A l.length c] w fun e w' => e = .returned (.bool true) ∧ Below w.heap.size w w' := by
  obtain ⟨N, hN⟩ : ∃ N, l.length = N := ⟨_, rfl⟩
  rw [hN] at h0 hlc0 ⊢
  have hmx := Kd.C_max h0
  have H := Aside0.mk h0
  have HN := Aside0.mk hN
  have HS := Aside0.mk hs
  have HMG := Aside0.mk hmg
  obtain ⟨g, hg⟩ : ∃ g, greatB l = g := ⟨_, rfl⟩
  have HG := Aside0.mk hg
  clear h0 hs hmg hN
  have main : ∀ Z : Unit, Z = () → True := fun _ _ => trivial
  by_cases hshort : g = true ∨ N = 0
  · clear hg
    cases g
    · have hN0 : ((N : Int) == 0) = true := by rcases hshort with h | h; cases h; simp [h]
      clear hshort
      go_enter Tryd.func9, Tryd.ntmps9
      go_wp2_with (first | (go_at_call 11; refine (awake_any _ HMG.out).mono ?_; rintro e w1 ⟨rfl, hb1⟩; have HB1 := Aside0.mk hb1; clear hb1) | (go_at_call 12; refine (great_at A l N c HN.out _ HG.out _ (Kd.C_below H.out HB1.out) HS.out).mono ?_; rintro e w2 ⟨rfl, rfl⟩))
      go_ret
      exact ⟨rfl, HB1.out⟩
    · clear hshort
      go_enter Tryd.func9, Tryd.ntmps9
      go_wp2_with (first | (go_at_call 11; refine (awake_any _ HMG.out).mono ?_; rintro e w1 ⟨rfl, hb1⟩; have HB1 := Aside0.mk hb1; clear hb1) | (go_at_call 12; refine (great_at A l N c HN.out _ HG.out _ (Kd.C_below H.out HB1.out) HS.out).mono ?_; rintro e w2 ⟨rfl, rfl⟩))
      go_ret
      exact ⟨rfl, HB1.out⟩
  · have hgf : g = false := by cases g; rfl; exact absurd (.inl rfl) hshort
    subst hgf
    have hNp : 0 < N := by omega
    have hN0 : ((N : Int) == 0) = false := beq_eq_false_iff_ne.mpr (by omega)
    clear hshort hg main
    obtain ⟨E, hE⟩ : ∃ E, makeE l = E := ⟨_, rfl⟩
    obtain ⟨nb, hnb⟩ : ∃ n, (makeV l).length = n := ⟨_, rfl⟩
    have HE := Aside0.mk hE
    have HNB := Aside0.mk hnb
    clear hE hnb
    by_cases hE0 : E = 0
    · subst hE0
      obtain ⟨h8, ht, hv⟩ := makeE_zero HE.out
      obtain ⟨M, hM⟩ : ∃ M, N = M + 1 := ⟨N - 1, by omega⟩
      obtain ⟨P, hP⟩ : ∃ P, P = l.take M := ⟨_, rfl⟩
      have hlN := HN.out
      have hPl : P.length = M := by rw [hP, List.length_take]; omega
      have htP : togB P = true := by rw [hP]; exact tog_take ht M (by omega)
      obtain ⟨hPE, hPV⟩ := makeE_of (l := P) (by omega) htP
      obtain ⟨nc, hnc⟩ : ∃ n, (makeV P).length = n := ⟨_, rfl⟩
      have hPg : ∀ k, k < M → gt P k = gt l k := fun k hk => by rw [hP, gt_eq _ _ (by rw [← hP]; omega), gt_eq _ _ (by omega)]; simp
      have hbt : ∀ k, k ≤ M → blocksTo P k = blocksTo l k := fun k hk => by unfold blocksTo; rw [hP, List.take_take, Nat.min_eq_left hk]
      obtain ⟨d, hd⟩ : ∃ d, (gt l M).data.length = d := ⟨_, rfl⟩
      have hlen : nb = nc + 1 + (d + 31) / 32 := by
        rw [← HNB.out, hv, makeB_size, ← hnc, hPV, makeB_size, hPl, hlN, hM, blocksTo_succ l M (by omega), hbt M (Nat.le_refl _), hd]
        unfold manyN
        omega
      have HLEN := Aside0.mk hlen
      have HP := Aside0.mk hP
      have HPL := Aside0.mk hPl
      have HPE := Aside0.mk hPE
      have HPV := Aside0.mk hPV
      have HNC := Aside0.mk hnc
      have HD := Aside0.mk hd
      have HT := Aside0.mk ht
      have HTP := Aside0.mk htP
      have HV := Aside0.mk hv
      have HH8 := Aside0.mk h8
      have HP8 : Aside0 (P.length ≤ 8) := ⟨by omega⟩
      have hdm : d ≤ 256 := by rw [← hd]; exact (tog_right ht M (by omega)).2
      have hnc9 : nc ≤ 1000 := by rw [← hnc, hPV, makeB_size, hPl]; have := blocksTo_le htP M (by omega); omega
      have HPS : Aside0 (∀ k, k < P.length → (gt P k).name.size ≤ 9223372036854775807) := ⟨fun k hk => by rw [hPg k (by omega)]; exact HS.out k (by omega)⟩
      have HCP : Aside0 (kFile.C w A M P) := ⟨by have := Kd.C_take (by rw [hlN]; exact H.out) (m := M) (by omega : M ≤ l.length); rw [← hP, hPl] at this; exact this⟩
      have HSAME : Aside0 (sameB P P = true) := ⟨sameB_refl P⟩
      clear hlen hP hPl hPE hPV hnc hPg hbt hd ht htP hv hlN h8
      have i0 : IntKind.i64.wrap ((N : Int) - 1) = (M : Int) := by rw [hM]; have : ((M + 1 : Nat) : Int) - 1 = (M : Int) := by omega
                                                                   rw [this]; exact IntWalk.i64_in _ (by omega)
      have hMc : M ≤ c := by omega
      have hMN : M ≤ N := by omega
      have hMN' : M < N := by omega
      clear hM
      obtain ⟨ad, A3, c3, hA, _, g1, hc3, hdC⟩ := file_at H.out hMN'
      rw [HD.out] at g1
      have G1 := Aside0.mk g1
      clear g1 hdC hc3
      have j1 : IntKind.i64.wrap ((d : Int) + 31) = (d : Int) + 31 := IntWalk.i64_in _ (by omega)
      have j2 : IntKind.i64.wrap ((nc : Int) + 1) = (nc : Int) + 1 := IntWalk.i64_in _ (by omega)
      have j3 : IntKind.i64.wrap ((nc : Int) + 1 + ((d + 31) / 32 : Nat)) = (nc : Int) + 1 + ((d + 31) / 32 : Nat) := IntWalk.i64_in _ (by omega)
      subst hA
      go_enter Tryd.func9, Tryd.ntmps9
      go_wp2_with (first | (go_at_call 11; refine (awake_any _ HMG.out).mono ?_; rintro e w1 ⟨rfl, hb1⟩; have HB1 := Aside0.mk hb1; clear hb1) | (go_at_call 12; refine (great_at (some ad) l N c HN.out _ HG.out _ (Kd.C_below H.out HB1.out) HS.out).mono ?_; rintro e w2 ⟨rfl, rfl⟩) | (go_at_call_of 16 (Value.slice (some ad) N c); refine (make_at (some ad) l N c HN.out _ (Kd.C_below H.out HB1.out) HS.out (Kd.C_below HMG.out HB1.out) nb HNB.out 0 HE.out).mono ?_; rintro e w3 ⟨Aa, ca, rfl, ho, hb⟩; have HOb := Aside0.mk ho; have HB3 := Aside0.mk (below_step HB1.out hb); clear ho hb) | (go_at_call_of 16 (Value.slice (some ad) M c); refine (make_at (some ad) P M c HPL.out _ (Kd.C_below HCP.out HB3.out) HPS.out (Kd.C_below HMG.out HB3.out) nc HNC.out 0 HPE.out).mono ?_; rintro e w4 ⟨Ac, cc, rfl, ho, hb⟩; have HOc := Aside0.mk ho; have HOb4 := Aside0.mk (Kd.R_below HOb.out hb); have HB4 := Aside0.mk (below_step HB3.out hb); clear ho hb) | (go_at_call_of 24 (Value.slice Aa nb ca); refine (disk_nil Aa _ ca _).mono ?_; rintro e w5 ⟨B1, B2, rfl, k1, k2, hb⟩; have HK5 := Aside0.mk (disk_at (Kd.R_below HOb4.out hb) k1 k2); have HOc5 := Aside0.mk (Kd.R_below HOc.out hb); have HB5 := Aside0.mk (below_step HB4.out hb); clear k1 k2 hb) | (go_at_call_of 24 (Value.slice Ac nc cc); refine (disk_nil Ac _ cc _).mono ?_; rintro e w7 ⟨B3, B4, rfl, k1, k2, hb⟩; have HK7 := Aside0.mk (disk_at (Kd.R_below HOc6.out hb) k1 k2); have HX7 := Aside0.mk (Kd.C_below HX6.out hb); have HB7 := Aside0.mk (below_step HB6.out hb); clear k1 k2 hb) | (go_at_call_of 22 (Value.func (Fn.func 44) #[] #[.pointer (some ⟨B1, 0, none⟩), .pointer (some ⟨B2, 0, none⟩)]); refine (read_disk HK5.out (Kd.C_below HMG.out HB5.out) l (back_read (row_32 HOb4.out).2 HH8.out HT.out (fun i hi => by rw [HV.out]; exact ⟨hi, rfl⟩)).1 0 (back_read (row_32 HOb4.out).2 HH8.out HT.out (fun i hi => by rw [HV.out]; exact ⟨hi, rfl⟩)).2 N HN.out).mono ?_; rintro e w6 ⟨Ax, cx, rfl, hcx, hC, hb⟩; have HX6 := Aside0.mk hC; have HOc6 := Aside0.mk (Kd.R_below HOc5.out hb); have HB6 := Aside0.mk (below_step HB5.out hb); have hMx : M ≤ cx := (by omega); clear hC hb) | (go_at_call_of 22 (Value.func (Fn.func 44) #[] #[.pointer (some ⟨B3, 0, none⟩), .pointer (some ⟨B4, 0, none⟩)]); refine (read_disk HK7.out (Kd.C_below HMG.out HB7.out) P (back_read (row_32 HOc.out).2 HP8.out HTP.out (fun i hi => by rw [HPV.out]; exact ⟨hi, rfl⟩)).1 0 (back_read (row_32 HOc.out).2 HP8.out HTP.out (fun i hi => by rw [HPV.out]; exact ⟨hi, rfl⟩)).2 M HPL.out).mono ?_; rintro e w8 ⟨Ay, cy, rfl, hcy, hC, hb⟩; have HX8 := Aside0.mk (Kd.C_below HX7.out hb); have HY8 := Aside0.mk hC; have HB8 := Aside0.mk (below_step HB7.out hb); clear hC hb) | (go_at_call 19; refine (same_at Ax Ay P P M M cx cy HPL.out HPL.out true HSAME.out _ (front_C HX8.out HN.out HP.out HPL.out) HY8.out).mono ?_; rintro e w9 ⟨rfl, hb⟩; have HB9 := Aside0.mk (below_step HB8.out hb); have g1 := cell_old HB9.out G1.out; clear hb))
      go_ret
      refine ⟨ret_bool ?_, HB9.out⟩
      rw [HLEN.out]
      simp
    · have hE1 : (E != 0) = true := bne_iff_ne.mpr hE0
      go_enter Tryd.func9, Tryd.ntmps9
      go_wp2_with (first | (go_at_call 11; refine (awake_any _ HMG.out).mono ?_; rintro e w1 ⟨rfl, hb1⟩; have HB1 := Aside0.mk hb1; clear hb1) | (go_at_call 12; refine (great_at A l N c HN.out _ HG.out _ (Kd.C_below H.out HB1.out) HS.out).mono ?_; rintro e w2 ⟨rfl, rfl⟩) | (go_at_call 16; refine (make_at A l N c HN.out _ (Kd.C_below H.out HB1.out) HS.out (Kd.C_below HMG.out HB1.out) nb HNB.out E HE.out).mono ?_; rintro e w3 ⟨Aa, ca, rfl, ho, hb⟩; have HB3 := Aside0.mk (below_step HB1.out hb); clear ho hb))
      go_ret
      exact ⟨rfl, HB3.out⟩
end Go.Proofs.YtahjadbjokkjnaaDoor
