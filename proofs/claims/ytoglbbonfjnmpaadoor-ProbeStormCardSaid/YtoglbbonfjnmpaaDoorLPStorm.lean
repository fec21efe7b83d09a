/-
  ProbeStorm, walked: it returns true.
-/
import Derived.Test.YtoglbbonfjnmpaaDoorPn
import Derived.Test.YtoglbbonfjnmpaaDoorFo
namespace Go.Proofs.YtoglbbonfjnmpaaDoor
open Go.RowKit Go.Proofs.YtoglbbonfjnmpaaDoorW.PrintWords Go.Proofs.YtoglbbonfjnmpaaDoorW.PrintLast Go.Proofs.YtoglbbonfjnmpaaDoorW.PrintMore
set_option linter.unusedVariables false
set_option linter.unusedSimpArgs false

/-- Files of which the first k have a longer name. -/
def stormTo (sx : ByteArray) (l : List File) (k : Nat) : List File := (l.take k).map (sfxF sx) ++ l.drop k
theorem storm_zero (sx : ByteArray) (l : List File) : stormTo sx l 0 = l := by simp [stormTo]
theorem storm_full (sx : ByteArray) (l : List File) : stormTo sx l l.length = l.map (sfxF sx) := by simp [stormTo]
theorem storm_len (sx : ByteArray) (l : List File) (k : Nat) (hk : k ≤ l.length) : (stormTo sx l k).length = l.length := by simp [stormTo]; omega
theorem storm_gt (sx : ByteArray) (l : List File) (k : Nat) (hk : k < l.length) : gt (stormTo sx l k) k = gt l k := by
  unfold stormTo gt
  rw [List.getD_eq_getElem?_getD, List.getD_eq_getElem?_getD, List.getElem?_append_right (by simp; omega)]
  simp
  rw [Nat.min_eq_left (by omega), Nat.sub_self, Nat.add_zero]
theorem storm_set (sx : ByteArray) (l : List File) (k : Nat) (hk : k < l.length) : (stormTo sx l k).set k (sfxF sx (gt l k)) = stormTo sx l (k + 1) := by
  unfold stormTo
  have h1 : ((l.take k).map (sfxF sx)).length = k := by simp; omega
  rw [List.set_append_right _ _ (by omega), h1, Nat.sub_self, List.take_add_one, gt_some l k hk, List.map_append]
  rw [List.drop_eq_getElem_cons hk, List.set_cons_zero]
  simp
theorem storm_at (sx : ByteArray) (l : List File) (k j : Nat) (hk : k ≤ l.length) (hj : j < k) : gt (stormTo sx l k) j = sfxF sx (gt l j) := by
  unfold stormTo
  rw [← gt_map (sfxF sx) l j (by omega)]
  unfold gt
  rw [List.getD_eq_getElem?_getD, List.getD_eq_getElem?_getD, List.getElem?_append_left (by simp; omega)]
  simp [List.getElem?_take_of_lt hj]
set_option maxRecDepth 4000 in
set_option maxHeartbeats 3200000 in
theorem law_pstorm (A : Option Addr) (l : List File) (c1 : Nat) (sx : ByteArray) (hsx : sx.size ≤ 9223372036854775807) (w : World) (h1 : kFile.C w A l.length l) (hs1 : ∀ k, k < l.length → (gt l k).name.size ≤ 9223372036854775807) (he : EndAt w) (hn : NumAt w) :
    Calls Tryd.prog 8 #[.slice A l.length c1, .string sx] w fun e w' => e = .returned (.bool true) ∧ Below w.heap.size w w' := by
  have H1 := Aside0.mk h1
  have HS1 := Aside0.mk hs1
  have HE := Aside0.mk he
  have HNM := Aside0.mk hn
  have hmx1 := Kd.C_max h1
  clear h1 hs1 he hn
  cases hb1 : smallB l
  · have HS := Aside0.mk hb1
    clear hb1
    go_enter Tryd.func8, Tryd.ntmps8
    go_wp2_with (first | (go_at_call 12; refine (awake_any _ HE.out HNM.out).mono ?_; rintro e w1 ⟨rfl, hb⟩; have HB1 := Aside0.mk hb; clear hb) | (go_at_call_of 20 (Value.slice A l.length c1); refine (small_any A l c1 false HS.out 0 rfl _ (Kd.C_below H1.out HB1.out) HS1.out).mono ?_; rintro e w2 ⟨rfl, hb⟩; have HB2 := Aside0.mk (below_step HB1.out hb); clear hb))
    go_ret
    exact ⟨rfl, HB2.out⟩
  · have HSA := Aside0.mk hb1
    have HMA := Aside0.mk (mild_of_small hb1)
    have hl12 := (small_mild hb1).1
    have HN40 := Aside0.mk (small_mild hb1).2
    clear hb1
    by_cases hl2 : l.length < 2
    · have hl2' : (l.length : Int) < 2 := by omega
      go_enter Tryd.func8, Tryd.ntmps8
      go_wp2_with (first | (go_at_call 12; refine (awake_any _ HE.out HNM.out).mono ?_; rintro e w1 ⟨rfl, hb⟩; have HB1 := Aside0.mk hb; clear hb) | (go_at_call_of 20 (Value.slice A l.length c1); refine (small_any A l c1 true HSA.out 1 rfl _ (Kd.C_below H1.out HB1.out) HS1.out).mono ?_; rintro e w2 ⟨rfl, hb⟩; have HB2 := Aside0.mk (below_step HB1.out hb); clear hb))
      go_ret
      exact ⟨rfl, HB2.out⟩
    · have hl2' : ¬ (l.length : Int) < 2 := by omega
      cases he0 : (sx.toList == ([] : List UInt8))
      case true =>
        go_enter Tryd.func8, Tryd.ntmps8
        go_wp2_with (first | (go_at_call 12; refine (awake_any _ HE.out HNM.out).mono ?_; rintro e w1 ⟨rfl, hb⟩; have HB1 := Aside0.mk hb; clear hb) | (go_at_call_of 20 (Value.slice A l.length c1); refine (small_any A l c1 true HSA.out 1 rfl _ (Kd.C_below H1.out HB1.out) HS1.out).mono ?_; rintro e w2 ⟨rfl, hb⟩; have HB2 := Aside0.mk (below_step HB1.out hb); clear hb))
        go_ret
        exact ⟨rfl, HB2.out⟩
      case false =>
        by_cases h20 : 20 < sx.size
        · have h20' : (20 : Int) < (sx.size : Int) := by omega
          go_enter Tryd.func8, Tryd.ntmps8
          go_wp2_with (first | (go_at_call 12; refine (awake_any _ HE.out HNM.out).mono ?_; rintro e w1 ⟨rfl, hb⟩; have HB1 := Aside0.mk hb; clear hb) | (go_at_call_of 20 (Value.slice A l.length c1); refine (small_any A l c1 true HSA.out 1 rfl _ (Kd.C_below H1.out HB1.out) HS1.out).mono ?_; rintro e w2 ⟨rfl, hb⟩; have HB2 := Aside0.mk (below_step HB1.out hb); clear hb))
          go_ret
          exact ⟨rfl, HB2.out⟩
        · have h20' : ¬ (20 : Int) < (sx.size : Int) := by omega
          obtain ⟨n, hn⟩ : ∃ n, n = l.length := ⟨_, rfl⟩
          have HNL := Aside0.mk hn
          go_enter Tryd.func8, Tryd.ntmps8
          go_wp2_with (first | (go_at_call 12; refine (awake_any _ HE.out HNM.out).mono ?_; rintro e w1 ⟨rfl, hb⟩; have HB1 := Aside0.mk hb; clear hb) | (go_at_call_of 20 (Value.slice A l.length c1); refine (small_any A l c1 true HSA.out 1 rfl _ (Kd.C_below H1.out HB1.out) HS1.out).mono ?_; rintro e w2 ⟨rfl, hb⟩; have HB2 := Aside0.mk (below_step HB1.out hb); clear hb) | (go_at_call_of 22 (Value.slice A l.length c1); refine (files_any A l c1 _ (Kd.C_below H1.out HB2.out) HMA.out.1 (fun k hk => (HMA.out.2 k hk).2)).mono ?_; rintro e w3 ⟨Aw, cw, rfl, ho, hb⟩; have HO3 := Aside0.mk (Kd.R_lower ho HB2.out.size); have HB3 := Aside0.mk (below_step HB2.out hb); clear ho hb))
          obtain ⟨g, rfl, hg1, hg2⟩ := R_formF HO3.out (by omega)
          go_loopg [33, 6, 47, 8] l.length (fun gk i _ _ _ wr => ∃ k : Nat, k ≤ l.length ∧ Aside0 (gk = l.length - k) ∧ i = .int .i64 k ∧ Aside0 (∀ i j, i < k → j < l.length → (gt l j).name ≠ (gt l i).name ++ sx) ∧ Aside0 (kFile.R 52 wr w.heap.size (fun _ => True) (.slice (some ⟨g, 0, none⟩) l.length cw) (stormTo sx l k)) ∧ Aside0 (Below w.heap.size w wr))
          case atStart => exact ⟨0, Nat.zero_le _, ⟨rfl⟩, rfl, ⟨fun _ _ h => absurd h (by omega)⟩, ⟨by rw [storm_zero]; exact HO3.out⟩, HB3⟩
          case round =>
            obtain ⟨k, hk, HGK, rfl, HP, HR, HBr⟩ := hrel
            by_cases hlt : k < l.length
            · obtain ⟨A1, d1, q0, q1, _⟩ := file_own HR.out hlt
              rw [storm_gt sx l k hlt] at q0 q1
              have f0 := frozen_R HR.out (k * 2)
              have hp := name_put HR.out hlt ((gt l k).name ++ sx)
              rw [storm_gt sx l k hlt] at hp
              have hp2 := storm_set sx l k hlt
              unfold sfxF at hp2
              rw [hp2] at hp
              have HRn := Aside0.mk hp
              have hn40 := (HN40.out k hlt).1
              obtain ⟨nm, hnm⟩ : ∃ nm, nm = (gt l k).name := ⟨_, rfl⟩
              rw [← hnm] at q0 HRn hn40
              have HNMM := Aside0.mk hnm
              have HBn := Aside0.mk (HBr.out.setCell (p := ⟨g, k * 2, none⟩) hg1 (.string (nm ++ sx)))
              have hkn : (k : Int) < (l.length : Int) := by omega
              clear hp hp2 hnm
              go_wp2_with fail
              go_loopg [47, 8] l.length (fun gj j _ wz => ∃ q : Nat, q ≤ l.length ∧ Aside0 (gj = l.length - q) ∧ j = .int .i64 q ∧ Aside0 (∀ j, j < q → (gt l j).name ≠ nm ++ sx) ∧ Aside0 (kFile.R 52 wz w.heap.size (fun _ => True) (.slice (some ⟨g, 0, none⟩) l.length cw) (stormTo sx l (k + 1))) ∧ Aside0 (Below w.heap.size w wz))
              case atStart => exact ⟨0, Nat.zero_le _, ⟨rfl⟩, rfl, ⟨fun _ h => absurd h (by omega)⟩, HRn, HBn⟩
              case round =>
                clear q0 q1 f0
                obtain ⟨q, hq, HGJ, rfl, HJ, HRz, HBz⟩ := hrel
                by_cases hqt : q < l.length
                · obtain ⟨ad, A3, d3, rfl, g0, g1, hc3, hd3⟩ := file_at (Kd.C_below H1.out HBz.out) hqt
                  obtain ⟨y, hy⟩ : ∃ y, y = gt l q := ⟨_, rfl⟩
                  rw [← hy] at g0 g1
                  have HY := Aside0.mk hy
                  have HRb := Aside0.mk (Kd.R_alloc HRz.out (.cells #[.string y.name, .slice A3 y.data.length d3] 48))
                  have HBb := Aside0.mk (below_alloc HBz.out (.cells #[.string y.name, .slice A3 y.data.length d3] 48))
                  have z0 := blk_cell (blk_new wr (.cells #[.string y.name, .slice A3 y.data.length d3] 48)) 0
                  simp only [List.getElem?_toArray, List.getElem?_cons_zero] at z0
                  obtain ⟨A4, d4, o0, _, _⟩ := file_own HRb.out hlt
                  rw [storm_at sx l (k + 1) k (by omega) (by omega)] at o0
                  have hsn : (sfxF sx (gt l k)).name = nm ++ sx := by rw [HNMM.out]; rfl
                  rw [hsn] at o0
                  clear hy hd3 hc3 hsn
                  cases he : (y.name.toList == (nm ++ sx).toList)
                  · have HE2 := Aside0.mk he
                    go_wp2_with fail
                    go_quiet (fail)
                    go_wp2_with fail
                    go_roundg (l.length - (q + 1))
                    case measure => have := HGJ.out; omega
                    case rel => exact ⟨q + 1, by omega, ⟨rfl⟩, by go_num, ⟨fun j hj => if hjq : j = q then by rw [hjq, ← HY.out]; intro e; have := HE2.out; rw [e] at this; simp at this else HJ.out j (by omega)⟩, ⟨Kd.R_drewN HRb.out _⟩, ⟨pw_below_drewN HBb.out _⟩⟩
                  · go_wp2_with fail
                    go_quiet (fail)
                    go_wp2_with fail
                    go_ret
                    exact ⟨rfl, pw_below_drewN HBb.out _⟩
                · have hqq : q = l.length := by omega
                  have HP2 : Aside0 (∀ i j, i < k + 1 → j < l.length → (gt l j).name ≠ (gt l i).name ++ sx) := ⟨fun i j hi hj => if hik : i = k then by rw [hik, ← HNMM.out]; exact HJ.out j (by omega) else HP.out i j (by omega) hj⟩
                  clear hqq
                  go_wp2_with fail
                  go_roundg (l.length - (k + 1))
                  case measure => have := HGK.out; omega
                  case rel => exact ⟨k + 1, by omega, ⟨rfl⟩, by go_num, HP2, HRz, HBz⟩
            · have hkk : k = l.length := by omega
              have HPA : Aside0 (∀ i j, i < l.length → j < l.length → (gt l j).name ≠ (gt l i).name ++ sx) := ⟨fun i j hi hj => HP.out i j (by omega) hj⟩
              have hR := HR.out
              rw [hkk, storm_full] at hR
              obtain ⟨X, hX⟩ : ∃ X, X = l.map (sfxF sx) := ⟨_, rfl⟩
              rw [← hX] at hR
              have HXL : Aside0 (X.length = l.length) := ⟨by rw [hX]; simp⟩
              have HXR := Aside0.mk hR
              have HMX : Aside0 (Mild X) := ⟨⟨by rw [HXL.out]; omega, fun q hq => by
                rw [HXL.out] at hq
                rw [hX, gt_map _ l q hq]
                have := HN40.out q hq
                show ((gt l q).name ++ sx).size ≤ 1000000 ∧ (gt l q).data.length ≤ 1000000
                rw [ByteArray.size_append]
                omega⟩⟩
              have HRN : Aside0 (renN l X = l.length) := ⟨by rw [hX]; exact storm_ren l sx (fun i k hi hk => HPA.out i k hi hk)⟩
              have HLC : Aside0 ((lookB l X true).c = true) := ⟨by rw [hX]; exact storm_look l sx (by omega) (fun i k hi hk => HPA.out i k hi hk)⟩
              obtain ⟨⟨a, b, cc⟩, hr⟩ : ∃ r, lookB l X true = r := ⟨_, rfl⟩
              obtain rfl : cc = true := by have := HLC.out; rw [hr] at this; exact this
              have HLR := Aside0.mk hr
              clear hkk hR hX hr
              go_wp2_with (first | (go_at_call 26; refine (bad_any a b true true (by simp) _).mono ?_; rintro e w8 ⟨rfl, hb⟩; have HB8 := Aside0.mk (below_step HB7.out hb); clear hb) | (go_at_call 21; refine (renames_as Ap5 (some ⟨g, 0, none⟩) l X l.length l.length cp5 cw rfl HXL.out l.length HRN.out _ HO5.out HX6.out HMA.out HMX.out).mono ?_; rintro e w7 ⟨rfl, hb⟩; have HB7 := Aside0.mk (below_step HB6.out hb); have HS7 := Aside0.mk (blk_below HS6.out hb); have s0 := blk_cell HS7.out 0; have s1 := blk_cell HS7.out 1; have s2 := blk_cell HS7.out 2; simp only [List.getElem?_toArray, List.getElem?_cons_zero, List.getElem?_cons_succ] at s0 s1 s2; clear hb) | (go_at_call_of 22 (Value.slice A l.length c1); refine (files_any A l c1 _ (Kd.C_below H1.out (below_alloc HB5.out _)) HMA.out.1 (fun k hk => (HMA.out.2 k hk).2)).mono ?_; rintro e w6 ⟨Ap5, cp5, rfl, ho, hb⟩; have HO5 := Aside0.mk (Kd.R_reads' ho).2.2; have HB6 := Aside0.mk (below_step (below_alloc HB5.out _) hb); have HS6 := Aside0.mk (blk_below (blk_new w5 _) hb); have HX6 := Aside0.mk (Kd.C_below (Kd.C_alloc HX5.out _) hb); clear ho hb) | (go_at_call 24; refine (look_as Ap4 (some ⟨g, 0, none⟩) l X l.length l.length cp4 cw rfl HXL.out true a b true HLR.out _ HO4.out HX4.out HMA.out HMX.out (Kd.C_below HE.out HB4.out) (Kd.C_below HNM.out HB4.out)).mono ?_; rintro e w5 ⟨rfl, hb⟩; have HB5 := Aside0.mk (below_step HB4.out hb); have HX5 := Aside0.mk (Kd.C_below HX4.out hb); clear hb) | (go_at_call_of 22 (Value.slice A l.length c1); refine (files_any A l c1 _ (Kd.C_below H1.out HBr.out) HMA.out.1 (fun k hk => (HMA.out.2 k hk).2)).mono ?_; rintro e w4 ⟨Ap4, cp4, rfl, ho, hb⟩; have HO4 := Aside0.mk (Kd.R_reads' ho).2.2; have HB4 := Aside0.mk (below_step HBr.out hb); have hx4 := (Kd.R_reads' (Kd.R_below HXR.out hb)).2.2; rw [HXL.out] at hx4; have HX4 := Aside0.mk hx4; clear ho hb hx4))
              go_ret
              exact ⟨rfl, HB8.out⟩
end Go.Proofs.YtoglbbonfjnmpaaDoor
