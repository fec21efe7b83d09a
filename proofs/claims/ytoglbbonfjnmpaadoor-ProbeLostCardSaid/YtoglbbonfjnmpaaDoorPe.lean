/-
  Chapter 51, the document's side: find, Renames.
-/
import Derived.Test.YtoglbbonfjnmpaaDoorPd
namespace Go.Proofs.YtoglbbonfjnmpaaDoor
open Go.RowKit Go.Proofs.YtoglbbonfjnmpaaDoorW.PrintWords Go.Proofs.YtoglbbonfjnmpaaDoorW.PrintLast Go.Proofs.YtoglbbonfjnmpaaDoorW.PrintMore
set_option linter.unusedVariables false
set_option linter.unusedSimpArgs false

set_option maxHeartbeats 800000 in
theorem rfind_any (A : Option Addr) (l : List File) (c : Nat) (nm : ByteArray) (r : Int) (hr : idxOf l nm = r) (w : World) (h : kFile.C w A l.length l) :
    Calls Tryd.prog 36 #[.slice A l.length c, .string nm] w fun e w' => e = .returned (.int .i64 r) ∧ w = w' := by
  have hmx := Kd.C_max h
  have HR := Aside0.mk hr
  clear hr
  go_enter Tryd.func36, Tryd.ntmps36
  go_wp2
  go_loopg [5] l.length (fun gk i wr => ∃ k : Nat, k ≤ l.length ∧ Aside0 (gk = l.length - k) ∧ i = .int .i64 k ∧ Aside0 (∀ j, j < k → ((gt l j).name.toList == nm.toList) = false) ∧ wr = w)
  case atStart => exact ⟨0, Nat.zero_le _, ⟨rfl⟩, rfl, ⟨fun _ h => absurd h (by omega)⟩, rfl⟩
  case round =>
    obtain ⟨k, hk, HGK, rfl, HN, rfl⟩ := hrel
    by_cases hlt : k < l.length
    · obtain ⟨ad, A1, c1, rfl, g0, g1, hc1, hd⟩ := file_at h hlt
      obtain ⟨x, hx⟩ : ∃ x, x = gt l k := ⟨_, rfl⟩
      rw [← hx] at g0
      have HX := Aside0.mk hx
      have HLT := Aside0.mk hlt
      clear hd g1 hc1 hx
      cases he : (x.name.toList == nm.toList)
      · have HE := Aside0.mk he
        go_wp2
        go_roundg (l.length - (k + 1))
        case measure => have := HGK.out; omega
        case rel => exact ⟨k + 1, by omega, ⟨rfl⟩, by go_num, ⟨fun j hj => if hq : j = k then by rw [hq, ← HX.out]; exact HE.out else HN.out j (by omega)⟩, rfl⟩
      · have HE := Aside0.mk he
        go_wp2
        go_ret
        exact ⟨by rw [← HR.out, idx_first l nm k HLT.out (by rw [← HX.out]; exact HE.out) HN.out]; rfl, rfl⟩
    · have HE : Aside0 (r = -1) := ⟨by rw [← HR.out]; exact idx_none l nm (fun j hj => HN.out j (by omega))⟩
      go_wp2
      go_ret
      exact ⟨by rw [HE.out]; rfl, rfl⟩
theorem has_cases (l : List File) (nm : ByteArray) (b : Bool) (h : hasB l nm = b) (i : Int) (hi : idxOf l nm = i) : (b = true → 0 ≤ i) ∧ (b = false → i < 0) := by
  unfold hasB at h
  rw [hi] at h
  subst h
  constructor
  · intro h; exact of_decide_eq_true h
  · intro h; have := of_decide_eq_false h; omega
theorem any_take_step {p : File → Bool} {l : List File} {k : Nat} (hk : k < l.length) : (l.take (k + 1)).any p = ((l.take k).any p || p (gt l k)) := by
  rw [List.take_add_one, gt_some l k hk, List.any_append]
  simp
set_option maxRecDepth 4000 in
set_option maxHeartbeats 6400000 in
theorem rrenames_any (A B : Option Addr) (before now : List File) (c1 c2 : Nat) (r : Nat) (hr : renN before now = r) (w : World) (h1 : kFile.C w A before.length before) (h2 : kFile.C w B now.length now) (hl : Mild before) (hm : Mild now) :
    Calls Tryd.prog 23 #[.slice A before.length c1, .slice B now.length c2] w fun e w' => e = .returned (.int .i64 (r : Int)) ∧ w = w' := by
  have hmx := Kd.C_max h1
  have hmx2 := Kd.C_max h2
  have HR := Aside0.mk hr
  have H1 := Aside0.mk h1
  have H2 := Aside0.mk h2
  clear hr h1 h2
  go_enter Tryd.func23, Tryd.ntmps23
  go_wp2
  go_loopg [6, 5, 7, 8, 9] before.length (fun gk i v5 _ _ _ wr => ∃ k : Nat, k ≤ before.length ∧ Aside0 (gk = before.length - k) ∧ i = .int .i64 k ∧ (∃ n : Nat, v5 = .int .i64 n ∧ n ≤ k ∧ Aside0 (n = renTo before now k)) ∧ wr = w)
  case atStart => exact ⟨0, Nat.zero_le _, ⟨rfl⟩, rfl, ⟨0, rfl, Nat.le_refl _, ⟨rfl⟩⟩, rfl⟩
  case round =>
    obtain ⟨k, hk, HGK, rfl, ⟨n, rfl, hnk, HN⟩, rfl⟩ := hrel
    by_cases hlt : k < before.length
    · obtain ⟨ad, A1, d1, rfl, g0, g1, hc1, hd⟩ := file_at H1.out hlt
      obtain ⟨x, hx⟩ : ∃ x, x = gt before k := ⟨_, rfl⟩
      have hxs := (hl.2 k hlt).1
      rw [← hx] at g0 hxs
      have HXX := Aside0.mk hx
      obtain ⟨nm, hnm⟩ : ∃ nm, nm = x.name := ⟨_, rfl⟩
      rw [← hnm] at g0 hxs
      have HSTEP : Aside0 (renTo before now (k + 1) = renTo before now k + if (!hasB now nm && now.any (newB before nm)) then 1 else 0) := ⟨by rw [hnm, hx]; rfl⟩
      obtain ⟨p, hp⟩ : ∃ p, hasB now nm = p := ⟨_, rfl⟩
      obtain ⟨i0, hi0⟩ : ∃ i0, idxOf now nm = i0 := ⟨_, rfl⟩
      have hcs := has_cases now nm p hp i0 hi0
      rw [hp] at HSTEP
      have HI0 := Aside0.mk hi0
      clear hd hx hp hi0 hnm g1 hc1
      cases p
      · have hi0n : ¬ 0 ≤ i0 := by have := hcs.2 rfl; omega
        clear hcs
        go_wp2_with (go_at_call 36; refine (rfind_any B now c2 nm i0 HI0.out _ H2.out).mono ?_; rintro e w1 ⟨rfl, rfl⟩)
        go_loopg [8, 9, 5] now.length (fun gj j _ v5 wz => v5 = .int .i64 n ∧ ∃ q : Nat, q ≤ now.length ∧ Aside0 (gj = now.length - q) ∧ j = .int .i64 q ∧ Aside0 ((now.take q).any (newB before nm) = false) ∧ wz = wr)
        case atStart => exact ⟨rfl, 0, Nat.zero_le _, ⟨rfl⟩, rfl, ⟨rfl⟩, rfl⟩
        case round =>
          obtain ⟨rfl, q, hq, HGJ, rfl, HT, rfl⟩ := hrel
          by_cases hqt : q < now.length
          · obtain ⟨ad2, A2, d2, rfl, g2, g3, hc2, hd2⟩ := file_at H2.out hqt
            obtain ⟨y, hy⟩ : ∃ y, y = gt now q := ⟨_, rfl⟩
            have hys := (hm.2 q hqt).1
            rw [← hy] at g2 hys
            have HTS : Aside0 ((now.take (q + 1)).any (newB before nm) = newB before nm y) := ⟨by rw [any_take_step hqt, HT.out, hy]; rfl⟩
            have HYY := Aside0.mk hy
            have HQT := Aside0.mk hqt
            obtain ⟨z, hz⟩ : ∃ z, z = y.name := ⟨_, rfl⟩
            rw [← hz] at g2 hys
            obtain ⟨a, ha⟩ : ∃ a, hasB before z = a := ⟨_, rfl⟩
            obtain ⟨i1, hi1⟩ : ∃ i1, idxOf before z = i1 := ⟨_, rfl⟩
            have hcs := has_cases before z a ha i1 hi1
            have HNEW : Aside0 (newB before nm y = (pfxB z nm && !a)) := ⟨by rw [← ha, hz]; rfl⟩
            have HI1 := Aside0.mk hi1
            clear hd2 hy hz ha hi1 g3 hc2
            cases a
            · have hi1n : i1 < 0 := hcs.2 rfl
              clear hcs
              by_cases hsz : nm.size ≤ z.size
              · have hsz' : (nm.size : Int) ≤ (z.size : Int) := by omega
                cases he : ((z.extract 0 nm.size).toList == nm.toList)
                · have HF : Aside0 ((now.take (q + 1)).any (newB before nm) = false) := ⟨by
                    rw [HTS.out, HNEW.out]
                    rw [str_eql] at he
                    unfold pfxB
                    rw [decide_eq_false (fun h => of_decide_eq_false he h.2)]; rfl⟩
                  go_wp2_with (go_at_call 36; refine (rfind_any (some ad) before c1 z i1 HI1.out _ H1.out).mono ?_; rintro e w1 ⟨rfl, rfl⟩)
                  go_roundg (now.length - (q + 1))
                  case measure => have := HGJ.out; omega
                  case rel => exact ⟨rfl, q + 1, by omega, ⟨rfl⟩, by go_num, HF, rfl⟩
                · have HF : Aside0 (now.any (newB before nm) = true) := ⟨by
                    refine any_take_last HQT.out ?_
                    rw [← HYY.out, HNEW.out]
                    rw [str_eql] at he
                    unfold pfxB
                    rw [decide_eq_true ⟨hsz, of_decide_eq_true he⟩]; rfl⟩
                  go_wp2_with (go_at_call 36; refine (rfind_any (some ad) before c1 z i1 HI1.out _ H1.out).mono ?_; rintro e w1 ⟨rfl, rfl⟩)
                  go_roundg (before.length - (k + 1))
                  case measure => have := HGK.out; omega
                  case rel => exact ⟨k + 1, by omega, ⟨rfl⟩, by go_num, ⟨n + 1, by go_num, by omega, ⟨by rw [HSTEP.out, ← HN.out, HF.out]; rfl⟩⟩, rfl⟩
              · have hsz' : ¬ (nm.size : Int) ≤ (z.size : Int) := by omega
                have HF : Aside0 ((now.take (q + 1)).any (newB before nm) = false) := ⟨by
                  rw [HTS.out, HNEW.out]
                  unfold pfxB
                  rw [decide_eq_false (fun h => hsz h.1)]; rfl⟩
                go_wp2_with (go_at_call 36; refine (rfind_any (some ad) before c1 z i1 HI1.out _ H1.out).mono ?_; rintro e w1 ⟨rfl, rfl⟩)
                go_roundg (now.length - (q + 1))
                case measure => have := HGJ.out; omega
                case rel => exact ⟨rfl, q + 1, by omega, ⟨rfl⟩, by go_num, HF, rfl⟩
            · have hi1n : ¬ i1 < 0 := by have := hcs.1 rfl; omega
              clear hcs
              have HF : Aside0 ((now.take (q + 1)).any (newB before nm) = false) := ⟨by
                rw [HTS.out, HNEW.out]; simp⟩
              go_wp2_with (go_at_call 36; refine (rfind_any (some ad) before c1 z i1 HI1.out _ H1.out).mono ?_; rintro e w1 ⟨rfl, rfl⟩)
              go_roundg (now.length - (q + 1))
              case measure => have := HGJ.out; omega
              case rel => exact ⟨rfl, q + 1, by omega, ⟨rfl⟩, by go_num, HF, rfl⟩
          · have HF : Aside0 (now.any (newB before nm) = false) := ⟨by have := HT.out; rwa [List.take_of_length_le (by omega)] at this⟩
            go_wp2_with fail
            go_roundg (before.length - (k + 1))
            case measure => have := HGK.out; omega
            case rel => exact ⟨k + 1, by omega, ⟨rfl⟩, by go_num, ⟨n, rfl, by omega, ⟨by rw [HSTEP.out, ← HN.out, HF.out]; rfl⟩⟩, rfl⟩
      · have hi0n : 0 ≤ i0 := hcs.1 rfl
        clear hcs
        go_wp2_with (go_at_call 36; refine (rfind_any B now c2 nm i0 HI0.out _ H2.out).mono ?_; rintro e w1 ⟨rfl, rfl⟩)
        go_roundg (before.length - (k + 1))
        case measure => have := HGK.out; omega
        case rel => exact ⟨k + 1, by omega, ⟨rfl⟩, by go_num, ⟨n, rfl, by omega, ⟨by rw [HSTEP.out, ← HN.out]; rfl⟩⟩, rfl⟩
    · have HE : Aside0 (n = r) := ⟨by rw [HN.out, ← HR.out, show k = before.length by omega]; rfl⟩
      go_wp2
      go_ret
      exact ⟨by rw [HE.out]; rfl, rfl⟩
end Go.Proofs.YtoglbbonfjnmpaaDoor
