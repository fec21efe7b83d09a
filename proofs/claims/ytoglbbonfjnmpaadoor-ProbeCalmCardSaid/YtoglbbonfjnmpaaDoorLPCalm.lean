/-
  ProbeCalm, walked: it returns true.
-/
import Derived.Test.YtoglbbonfjnmpaaDoorPj
namespace Go.Proofs.YtoglbbonfjnmpaaDoor
open Go.RowKit Go.Proofs.YtoglbbonfjnmpaaDoorW.PrintWords Go.Proofs.YtoglbbonfjnmpaaDoorW.PrintLast Go.Proofs.YtoglbbonfjnmpaaDoorW.PrintMore
set_option linter.unusedVariables false
set_option linter.unusedSimpArgs false

/-- Of the first k files no two have one name. -/
def Apart (l : List File) (k : Nat) : Prop := ∀ i j, j < i → i < k → ((gt l i).name.toList == (gt l j).name.toList) = false
theorem apart_ne {l : List File} (h : Apart l l.length) {i j : Nat} (hi : i < l.length) (hj : j < l.length) (he : (gt l i).name = (gt l j).name) : i = j := by
  rcases Nat.lt_trichotomy i j with hlt | heq | hlt
  · have := h j i hlt hj
    rw [he] at this
    simp at this
  · exact heq
  · have := h i j hlt hi
    rw [he] at this
    simp at this
theorem look_self {l : List File} (h : Apart l l.length) {k : Nat} (hk : k < l.length) : look49 l (gt l k).name = some (gt l k) := by
  rw [look_dec]
  rw [gt_eq l k hk, List.find?_eq_some_iff_getElem]
  refine ⟨by simp, k, hk, rfl, fun j hj => ?_⟩
  have : ¬ l[j].name = l[k].name := fun e => by
    have := apart_ne h (i := j) (j := k) (by omega) hk (by rw [gt_eq l j (by omega), gt_eq l k hk]; exact e)
    omega
  simpa using this
theorem calm_ren {l : List File} (h : Apart l l.length) : renN l l = 0 := by
  have : ∀ k, k ≤ l.length → renTo l l k = 0 := by
    intro k
    induction k with
    | zero => intro _; rfl
    | succ k ih =>
      intro hk
      unfold renTo
      rw [ih (by omega)]
      have hh : hasB l (gt l k).name = true := by rw [has_look, look_self h (by omega)]; rfl
      unfold renOne
      rw [hh]
      rfl
  exact this l.length (Nat.le_refl _)
theorem calm_look {l : List File} (h : Apart l l.length) (right : Bool) : lookB l l right = ⟨!right, false, false⟩ := by
  have key : ∀ k, k ≤ l.length → (lkTo l l right k).brk = !right ∧ (lkTo l l right k).wild = 0 := by
    intro k
    induction k with
    | zero => intro _; exact ⟨rfl, rfl⟩
    | succ k ih =>
      intro hk
      obtain ⟨h1, h2⟩ := ih (by omega)
      rw [lk_succ l l right k (by omega)]
      unfold lkStep
      rw [look_self h (by omega)]
      unfold lkWith
      refine ⟨?_, ?_⟩
      · show (_ || (decide (stateB (gt l k) = 2) && decide (stateB (gt l k) = 1))) = _
        rw [h1]
        by_cases h3 : stateB (gt l k) = 2
        · rw [h3]; simp
        · simp [h3]
      · show _ + _ = 0
        rw [h2]
        cases wildB (gt l k).data <;> rfl
  obtain ⟨h1, h2⟩ := key l.length (Nat.le_refl _)
  unfold lookB
  simp only []
  rw [h1, h2, calm_ren h]
  rfl
theorem name_at {w : World} {A : Option Addr} {n : Nat} {xs : List File} (h : kFile.C w A n xs) {k : Nat} (hk : k < n) : ∃ ad, A = some ad ∧ w.cell? (ad.add (k * 2)) = some (.string (gt xs k).name) := by
  obtain ⟨ad, A1, c1, e, g0, _⟩ := file_at h hk
  exact ⟨ad, e, g0⟩
set_option maxRecDepth 4000 in
set_option maxHeartbeats 3200000 in
theorem law_pcalm (A : Option Addr) (l : List File) (c1 : Nat) (right : Bool) (w : World) (h1 : kFile.C w A l.length l) (hs1 : ∀ k, k < l.length → (gt l k).name.size ≤ 9223372036854775807) (he : EndAt w) (hn : NumAt w) :
    Calls Tryd.prog 6 #[.slice A l.length c1, .bool right] w fun e w' => e = .returned (.bool true) ∧ Below w.heap.size w w' := by
  have H1 := Aside0.mk h1
  have HS1 := Aside0.mk hs1
  have HE := Aside0.mk he
  have HNM := Aside0.mk hn
  have hmx1 := Kd.C_max h1
  clear h1 hs1 he hn
  cases hb1 : smallB l
  · have HS := Aside0.mk hb1
    clear hb1
    go_enter Tryd.func6, Tryd.ntmps6
    go_wp2_with (first | (go_at_call 12; refine (awake_any _ HE.out HNM.out).mono ?_; rintro e w1 ⟨rfl, hb⟩; have HB1 := Aside0.mk hb; clear hb) | (go_at_call_of 20 (Value.slice A l.length c1); refine (small_any A l c1 false HS.out 0 rfl _ (Kd.C_below H1.out HB1.out) HS1.out).mono ?_; rintro e w2 ⟨rfl, hb⟩; have HB2 := Aside0.mk (below_step HB1.out hb); clear hb))
    go_ret
    exact ⟨rfl, HB2.out⟩
  · have HSA := Aside0.mk hb1
    have HMA := Aside0.mk (mild_of_small hb1)
    clear hb1
    go_enter Tryd.func6, Tryd.ntmps6
    go_wp2_with (first | (go_at_call 12; refine (awake_any _ HE.out HNM.out).mono ?_; rintro e w1 ⟨rfl, hb⟩; have HB1 := Aside0.mk hb; clear hb) | (go_at_call_of 20 (Value.slice A l.length c1); refine (small_any A l c1 true HSA.out 1 rfl _ (Kd.C_below H1.out HB1.out) HS1.out).mono ?_; rintro e w2 ⟨rfl, hb⟩; have HB2 := Aside0.mk (below_step HB1.out hb); clear hb))
    go_loopg [15, 5, 19, 6] l.length (fun gk i _ _ _ wr => ∃ k : Nat, k ≤ l.length ∧ Aside0 (gk = l.length - k) ∧ i = .int .i64 k ∧ Aside0 (Apart l k) ∧ Aside0 (Below w.heap.size w wr))
    case atStart => exact ⟨0, Nat.zero_le _, ⟨rfl⟩, rfl, ⟨fun i j _ h => absurd h (by omega)⟩, HB2⟩
    case round =>
      obtain ⟨k, hk, HGK, rfl, HAP, HBr⟩ := hrel
      by_cases hlt : k < l.length
      · have hkl : (k : Int) < (l.length : Int) := by omega
        go_wp2_with fail
        go_loopg [19, 6] k (fun gj i _ wz => ∃ j : Nat, j ≤ k ∧ Aside0 (gj = k - j) ∧ i = .int .i64 j ∧ Aside0 (∀ q, q < j → ((gt l k).name.toList == (gt l q).name.toList) = false) ∧ Aside0 (Below w.heap.size w wz))
        case atStart => exact ⟨0, Nat.zero_le _, ⟨rfl⟩, rfl, ⟨fun _ h => absurd h (by omega)⟩, HBr⟩
        case round =>
          obtain ⟨j, hj, HGJ, rfl, HJ, HBz⟩ := hrel
          by_cases hjt : j < k
          · obtain ⟨ad, rfl, g0⟩ := name_at (Kd.C_below H1.out HBz.out) hlt
            obtain ⟨_, e, g2⟩ := name_at (Kd.C_below H1.out HBz.out) (show j < l.length by omega)
            cases e
            have hjl : (j : Int) < (l.length : Int) := by omega
            obtain ⟨x, hx⟩ : ∃ x, x = (gt l k).name := ⟨_, rfl⟩
            obtain ⟨y, hy⟩ : ∃ y, y = (gt l j).name := ⟨_, rfl⟩
            rw [← hx] at g0
            rw [← hy] at g2
            have HX := Aside0.mk hx
            have HY := Aside0.mk hy
            clear hx hy
            cases he : (x.toList == y.toList)
            · have HE2 := Aside0.mk he
              go_wp2_with fail
              go_quiet (fail)
              go_wp2_with fail
              go_roundg (k - (j + 1))
              case measure => have := HGJ.out; omega
              case rel => exact ⟨j + 1, by omega, ⟨rfl⟩, by go_num, ⟨fun q hq => if hqj : q = j then by rw [hqj, ← HX.out, ← HY.out]; exact HE2.out else HJ.out q (by omega)⟩, ⟨pw_below_drewN HBz.out _⟩⟩
            · go_wp2_with fail
              go_quiet (fail)
              go_wp2_with fail
              go_ret
              exact ⟨rfl, pw_below_drewN HBz.out _⟩
          · have hjk : j = k := by omega
            have HA2 : Aside0 (Apart l (k + 1)) := ⟨fun i q hq hi => by
              by_cases hik : i = k
              · subst hik; exact HJ.out q (by omega)
              · exact HAP.out i q hq (by omega)⟩
            clear hjk
            go_wp2_with fail
            go_roundg (l.length - (k + 1))
            case measure => have := HGK.out; omega
            case rel => exact ⟨k + 1, by omega, ⟨rfl⟩, by go_num, HA2, HBz⟩
      · have hkk : k = l.length := by omega
        have HAL : Aside0 (Apart l l.length) := ⟨by rw [← hkk]; exact HAP.out⟩
        have HLK := Aside0.mk (calm_look HAL.out right)
        have HRN := Aside0.mk (calm_ren HAL.out)
        clear hkk
        cases right
        all_goals
          go_wp2_with (first | (go_at_call 21; refine (renames_as Ap3 Ap4 l l l.length l.length cp3 cp4 rfl rfl 0 HRN.out _ HC3.out HO4.out HMA.out HMA.out).mono ?_; rintro e w9 ⟨rfl, hb⟩; have HB9 := Aside0.mk (below_step HB8.out hb); clear hb) | (go_at_call_of 22 (Value.slice A l.length c1); refine (files_any A l c1 _ (Kd.C_below H1.out HB7.out) HMA.out.1 (fun k hk => (HMA.out.2 k hk).2)).mono ?_; rintro e w8 ⟨Ap4, cp4, rfl, ho, hb⟩; have HO4 := Aside0.mk (Kd.R_reads' ho).2.2; have HC3 := Aside0.mk (Kd.C_below HO3.out hb); have HB8 := Aside0.mk (below_step HB7.out hb); clear ho hb) | (go_at_call_of 22 (Value.slice A l.length c1); refine (files_any A l c1 _ (Kd.C_below H1.out (below_alloc HB6.out _)) HMA.out.1 (fun k hk => (HMA.out.2 k hk).2)).mono ?_; rintro e w7 ⟨Ap3, cp3, rfl, ho, hb⟩; have HO3 := Aside0.mk (Kd.R_reads' ho).2.2; have HB7 := Aside0.mk (below_step (below_alloc HB6.out _) hb); clear ho hb) | (go_at_call 24; refine (look_as Ap1 Ap2 l l l.length l.length cp1 cp2 rfl rfl _ _ _ _ HLK.out _ HC1.out HO2.out HMA.out HMA.out (Kd.C_below HE.out HB5.out) (Kd.C_below HNM.out HB5.out)).mono ?_; rintro e w6 ⟨rfl, hb⟩; have HB6 := Aside0.mk (below_step HB5.out hb); clear hb) | (go_at_call_of 22 (Value.slice A l.length c1); refine (files_any A l c1 _ (Kd.C_below H1.out HB4.out) HMA.out.1 (fun k hk => (HMA.out.2 k hk).2)).mono ?_; rintro e w5 ⟨Ap2, cp2, rfl, ho, hb⟩; have HO2 := Aside0.mk (Kd.R_reads' ho).2.2; have HC1 := Aside0.mk (Kd.C_below HO1.out hb); have HB5 := Aside0.mk (below_step HB4.out hb); clear ho hb) | (go_at_call_of 22 (Value.slice A l.length c1); refine (files_any A l c1 _ (Kd.C_below H1.out HBr.out) HMA.out.1 (fun k hk => (HMA.out.2 k hk).2)).mono ?_; rintro e w4 ⟨Ap1, cp1, rfl, ho, hb⟩; have HO1 := Aside0.mk (Kd.R_reads' ho).2.2; have HB4 := Aside0.mk (below_step HBr.out hb); clear ho hb))
          go_ret
          exact ⟨rfl, HB9.out⟩
end Go.Proofs.YtoglbbonfjnmpaaDoor
