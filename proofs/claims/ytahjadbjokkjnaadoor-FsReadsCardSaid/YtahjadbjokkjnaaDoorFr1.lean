/-
  Chapter 49, the document's answer: whether a file is right, whether files may stand together; files as the document's.
-/
import Derived.Test.YtahjadbjokkjnaaDoorFt
namespace Go.Proofs.YtahjadbjokkjnaaDoor
open Go.RowKit Go.Proofs.YtahjadbjokkjnaaDoorW.PrintWords Go.Proofs.YtahjadbjokkjnaaDoorW.PrintLast Go.Proofs.YtahjadbjokkjnaaDoorW.PrintMore
set_option linter.unusedVariables false
set_option linter.unusedSimpArgs false

/-- The box of the file that came in. -/
structure RefBox (w wr : World) (s : ByteArray) (A : Option Addr) (n c : Nat) : Prop where
  out : Below w.heap.size w wr
  box : wr.heap[w.heap.size]? = some (.cells #[.string s, .slice A n c] 30 (0, 0))
set_option maxHeartbeats 3200000 in
theorem refRight_any (s : ByteArray) (A : Option Addr) (xs : List UInt8) (c : Nat) (r : Bool) (hr : rightB ⟨s, xs⟩ = r) (w : World) (hs : s.size ≤ 9223372036854775807) (hx : xs.length ≤ 9223372036854775807) :
    Calls Tryd.prog 14 #[.agg #[.string s, .slice A xs.length c]] w fun e w' => e = .returned (.bool r) ∧ Below w.heap.size w w' := by
  have HRR := Aside0.mk hr
  clear hr
  obtain ⟨n, hn⟩ : ∃ n, n = xs.length := ⟨_, rfl⟩
  rw [← hn] at hx ⊢
  have HNX := Aside0.mk hn
  clear hn
  have HB : Aside0 (RefBox w (w.alloc (.cells #[.string s, .slice A n c] 30)) s A n c) := ⟨below_alloc (Below.refl _ _) _, blk_new w _⟩
  by_cases h1 : s.size < 1
  · have h1' : (s.size : Int) < 1 := by omega
    have HF : Aside0 (r = false) := ⟨by rw [← HRR.out]; unfold rightB namedB; simp; omega⟩
    go_enter Tryd.func14, Tryd.ntmps14
    go_wp2
    go_ret
    exact ⟨by rw [HF.out]; rfl, HB.out.out⟩
  · have h1' : decide ((s.size : Int) < 1) = false := decide_eq_false (by omega)
    by_cases h2 : 12 < s.size
    · have h2' : (12 : Int) < (s.size : Int) := by omega
      have HF : Aside0 (r = false) := ⟨by rw [← HRR.out]; unfold rightB namedB; simp; omega⟩
      go_enter Tryd.func14, Tryd.ntmps14
      go_wp2
      go_ret
      exact ⟨by rw [HF.out]; rfl, HB.out.out⟩
    · have h2' : decide ((12 : Int) < (s.size : Int)) = false := decide_eq_false (by omega)
      by_cases h3 : 256 < n
      · have h3' : (256 : Int) < (n : Int) := by omega
        have HF : Aside0 (r = false) := ⟨by rw [← HRR.out]; unfold rightB; have := HNX.out; simp; omega⟩
        go_enter Tryd.func14, Tryd.ntmps14
        go_wp2
        go_ret
        exact ⟨by rw [HF.out]; rfl, HB.out.out⟩
      · have h3' : decide ((256 : Int) < (n : Int)) = false := decide_eq_false (by omega)
        have HN : Aside0 (rightB ⟨s, xs⟩ = okTo s s.size) := ⟨by
          unfold rightB namedB
          have h4 : decide (1 ≤ s.size) = true := decide_eq_true (by omega)
          have h5 : decide (s.size ≤ 12) = true := decide_eq_true (by omega)
          have h6 : decide (xs.length ≤ 256) = true := decide_eq_true (by have := HNX.out; omega)
          simp only [h4, h5, h6, Bool.and_true]⟩
        go_enter Tryd.func14, Tryd.ntmps14
        go_wp2
        go_loopg [3, 4] s.size (fun gk i _ wr => ∃ k : Nat, k ≤ s.size ∧ Aside0 (gk = s.size - k) ∧ i = .int .i64 k ∧ Aside0 (okTo s k = true) ∧ Aside0 (RefBox w wr s A n c))
        case atStart => exact ⟨0, Nat.zero_le _, ⟨rfl⟩, rfl, ⟨rfl⟩, HB⟩
        case round =>
          clear HB
          obtain ⟨k, hk, HGK, rfl, HK, HB⟩ := hrel
          have z0 := blk_cell HB.out.box 0
          simp only [List.getElem?_toArray, List.getElem?_cons_zero] at z0
          by_cases hlt : k < s.size
          · obtain ⟨ch, hc⟩ : ∃ ch, bt s (k : Int) = ch := ⟨_, rfl⟩
            have hx : ∀ h : k < s.size, ((s[k]'h).toNat : Int) = ch := fun h => by have := bt_at s (k : Int) (by simpa using h); rw [← hc, ← this]; rfl
            cases hok : okC ch
            · have HBAD : Aside0 (rightB ⟨s, xs⟩ = false) := ⟨by rw [HN.out]; exact okTo_false (by rw [hc]; exact hok) hlt⟩
              have c46 : (ch == 46) = false := by unfold okC at hok; cases h : (ch == 46) <;> simp_all
              have hor : (ch < 97 ∧ ch < 48) ∨ (ch < 97 ∧ ¬ ch < 48 ∧ 57 < ch) ∨ (¬ ch < 97 ∧ 122 < ch ∧ ¬ ch < 48 ∧ 57 < ch) := by
                unfold okC at hok
                simp only [Bool.or_eq_false_iff, Bool.and_eq_false_iff, decide_eq_false_iff_not] at hok
                omega
              clear hok hc
              rcases hor with ⟨h1, h2⟩ | ⟨h1, h2, h3⟩ | ⟨h1, h2, h3, h4⟩
              · (go_wp2; go_ret; exact ⟨by rw [← HRR.out, HBAD.out]; rfl, HB.out.out⟩)
              · have q3 : decide (ch ≤ 57) = false := decide_eq_false (by omega)
                (go_wp2; go_ret; exact ⟨by rw [← HRR.out, HBAD.out]; rfl, HB.out.out⟩)
              · have q2 : decide (ch ≤ 122) = false := decide_eq_false (by omega)
                have q3 : decide (ch ≤ 57) = false := decide_eq_false (by omega)
                (go_wp2; go_ret; exact ⟨by rw [← HRR.out, HBAD.out]; rfl, HB.out.out⟩)
            · have HOK : Aside0 ((true && okC (bt s (k : Int))) = true) := ⟨by rw [hc, hok]; rfl⟩
              have hor : ch = 46 ∨ (ch ≠ 46 ∧ ¬ ch < 97 ∧ ¬ 122 < ch) ∨ (ch ≠ 46 ∧ ch < 97 ∧ ¬ ch < 48 ∧ ¬ 57 < ch) := by
                unfold okC at hok
                simp only [Bool.or_eq_true, Bool.and_eq_true, decide_eq_true_eq, beq_iff_eq] at hok
                omega
              clear hok hc
              rcases hor with h1 | ⟨h1, h2, h3⟩ | ⟨h1, h2, h3, h4⟩
              · subst h1
                (go_wp2; go_roundg (s.size - (k + 1)); (case measure => (have := HGK.out; omega)); (case rel => exact ⟨k + 1, by omega, ⟨rfl⟩, by go_num, ⟨by rw [okTo_succ, HK.out]; exact HOK.out⟩, HB⟩))
              · have c46 : (ch == 46) = false := beq_eq_false_iff_ne.mpr h1
                have q1 : decide (97 ≤ ch) = true := decide_eq_true (by omega)
                have q2 : decide (ch ≤ 122) = true := decide_eq_true (by omega)
                (go_wp2; go_roundg (s.size - (k + 1)); (case measure => (have := HGK.out; omega)); (case rel => exact ⟨k + 1, by omega, ⟨rfl⟩, by go_num, ⟨by rw [okTo_succ, HK.out]; exact HOK.out⟩, HB⟩))
              · have c46 : (ch == 46) = false := beq_eq_false_iff_ne.mpr h1
                have q1 : decide (97 ≤ ch) = false := decide_eq_false (by omega)
                have q2 : decide (48 ≤ ch) = true := decide_eq_true (by omega)
                have q3 : decide (ch ≤ 57) = true := decide_eq_true (by omega)
                (go_wp2; go_roundg (s.size - (k + 1)); (case measure => (have := HGK.out; omega)); (case rel => exact ⟨k + 1, by omega, ⟨rfl⟩, by go_num, ⟨by rw [okTo_succ, HK.out]; exact HOK.out⟩, HB⟩))
          · have hks : k = s.size := by omega
            have HE : Aside0 (r = true) := ⟨by rw [← HRR.out, HN.out, ← hks, HK.out]⟩
            clear hks
            go_wp2
            go_ret
            exact ⟨by rw [HE.out]; rfl, HB.out.out⟩
theorem rfile_at {w : World} {A : Option Addr} {n : Nat} {xs : List File} (h : kFile.C w A n xs) {k : Nat} (hk : k < n) : ∃ ad A1 c1, A = some ad ∧ w.cell? (ad.add (k * 2)) = some (.string (gt xs k).name) ∧ w.cell? ⟨(ad.add (k * 2)).block, (ad.add (k * 2)).off + 1, none⟩ = some (.slice A1 (gt xs k).data.length c1) ∧ (gt xs k).data.length ≤ 9223372036854775807 := by
  obtain ⟨ad, A1, c1, e, g0, g1, _, hd⟩ := file_at h hk
  exact ⟨ad, A1, c1, e, g0, g1, Kd.C_max hd⟩
theorem names_beq (s t : ByteArray) : (s.toList == t.toList) = decide (s.data.toList = t.data.toList) := by
  rw [ByteArray.toList_eq, ByteArray.toList_eq, Bool.eq_iff_iff]
  simp
/-- No name among the first k is the i-th one. -/
def newTo (l : List File) (i k : Nat) : Prop := ∀ j, j < k → (nmL (gt l i)) ≠ nmL (gt l j)
theorem newTo_mem {l : List File} {i : Nat} (hi : i ≤ l.length) : newTo l i i ↔ nmL (gt l i) ∉ ((l.take i).map nmL).reverse := by
  unfold newTo
  rw [List.mem_reverse, List.mem_map]
  constructor
  · rintro h ⟨x, hx, he⟩
    obtain ⟨j, hj, rfl⟩ := List.getElem_of_mem hx
    have hj' : j < i := by simp at hj; omega
    refine h j hj' ?_
    rw [gt_eq l j (by omega), ← he]
    simp
  · intro h j hj he
    exact h ⟨gt l j, by rw [gt_eq l j (by omega)]; exact List.mem_take_iff_getElem.2 ⟨j, by omega, rfl⟩, he.symm⟩
set_option maxHeartbeats 3200000 in
theorem refCheck_any (A : Option Addr) (l : List File) (c : Nat) (r : Int) (hr : makeE l = r) (w : World) (h : kFile.C w A l.length l) (hs : ∀ k, k < l.length → (gt l k).name.size ≤ 9223372036854775807) :
    Calls Tryd.prog 17 #[.slice A l.length c] w fun e w' => e = .returned (.int .i64 r) ∧ Below w.heap.size w w' := by
  have hmx := Kd.C_max h
  have HR := Aside0.mk hr
  have HS := Aside0.mk hs
  have HH := Aside0.mk h
  clear hr hs h
  by_cases h8 : 8 < l.length
  · have h8' : (8 : Int) < (l.length : Int) := by omega
    have HF : Aside0 (r = 6) := ⟨by rw [← HR.out]; unfold makeE; rw [if_pos h8]⟩
    go_enter Tryd.func17, Tryd.ntmps17
    go_wp2
    go_ret
    exact ⟨by rw [HF.out]; rfl, Below.refl _ _⟩
  · have HM : Aside0 (makeE l = if togB l then 0 else 3) := ⟨by unfold makeE; rw [if_neg h8]⟩
    have h8' : ¬ (8 : Int) < (l.length : Int) := by omega
    go_enter Tryd.func17, Tryd.ntmps17
    go_wp2
    go_loopg [3, 4] l.length (fun gk i _ wr => ∃ k : Nat, k ≤ l.length ∧ Aside0 (gk = l.length - k) ∧ i = .int .i64 k ∧ Aside0 (togTo l k = true) ∧ Aside0 (Below w.heap.size w wr))
    case atStart => exact ⟨0, Nat.zero_le _, ⟨rfl⟩, rfl, ⟨rfl⟩, ⟨Below.refl _ _⟩⟩
    case round =>
      obtain ⟨k, hk, HGK, rfl, HT, HB⟩ := hrel
      by_cases hlt : k < l.length
      · obtain ⟨ad, A1, c1, rfl, g0, g1, hdm⟩ := rfile_at (Kd.C_below HH.out HB.out) hlt
        obtain ⟨x, hx⟩ : ∃ x, x = gt l k := ⟨_, rfl⟩
        have HSX := HS.out k hlt
        have HTS : Aside0 (togTo l (k + 1) = (rightB x && !(decide (nmL x ∈ ((l.take k).map nmL).reverse)))) := ⟨by rw [hx]; show (togTo l k && _) = _; rw [HT.out]; rfl⟩
        rw [← hx] at g0 g1 HSX hdm
        have HX := Aside0.mk hx
        have hbad : togTo l (k + 1) = false → r = 3 := fun h => by rw [← HR.out, HM.out]; unfold togB; rw [togTo_false h _ (by omega)]; rfl
        have HBAD := Aside0.mk hbad
        clear hx hbad
        cases hb : rightB x
        · have HBX := Aside0.mk hb
          clear hb
          go_wp2_with (go_at_call 14; refine (refRight_any x.name A1 x.data c1 false HBX.out _ HSX hdm).mono ?_; rintro e w1 ⟨rfl, hb1⟩; have HB1 := Aside0.mk (below_step HB.out hb1); clear hb1)
          go_ret
          exact ⟨by rw [HBAD.out (by rw [HTS.out, HBX.out]; rfl)]; rfl, HB1.out⟩
        · have HBX := Aside0.mk hb
          clear hb
          go_wp2_with (go_at_call 14; refine (refRight_any x.name A1 x.data c1 true HBX.out _ HSX hdm).mono ?_; rintro e w1 ⟨rfl, hb1⟩; have HB1 := Aside0.mk (below_step HB.out hb1); clear hb1)
          go_loopg [4] k (fun gj i wz => ∃ j : Nat, j ≤ k ∧ Aside0 (gj = k - j) ∧ i = .int .i64 j ∧ Aside0 (newTo l k j) ∧ Aside0 (Below w.heap.size w wz))
          case atStart => exact ⟨0, Nat.zero_le _, ⟨rfl⟩, rfl, ⟨fun _ h => absurd h (by omega)⟩, HB1⟩
          case round =>
            clear g0 g1
            obtain ⟨j, hj, HGJ, rfl, HJ, HBz⟩ := hrel
            by_cases hjt : j < k
            · obtain ⟨_, A1, c1, e, g0, _, _⟩ := rfile_at (Kd.C_below HH.out HBz.out) hlt
              cases e
              obtain ⟨_, A2, c2, e, g2, _, _⟩ := rfile_at (Kd.C_below HH.out HBz.out) (show j < l.length by omega)
              cases e
              rw [← HX.out] at g0
              obtain ⟨y, hy⟩ : ∃ y, y = gt l j := ⟨_, rfl⟩
              rw [← hy] at g2
              have HY := Aside0.mk hy
              clear hy
              have hjl : (j : Int) < (l.length : Int) := by omega
              have hkl : (k : Int) < (l.length : Int) := by omega
              cases he : (x.name.toList == y.name.toList)
              · have HE := Aside0.mk he
                go_wp2_with fail
                go_quiet (fail)
                go_wp2_with fail
                go_roundg (k - (j + 1))
                case measure => have := HGJ.out; omega
                case rel => exact ⟨j + 1, by omega, ⟨rfl⟩, by go_num, ⟨fun q hq => by
                  by_cases hqj : q = j
                  · rw [hqj, ← HX.out, ← HY.out]
                    intro e
                    have := HE.out
                    rw [names_beq] at this
                    simp [nmL] at e this
                    exact this e
                  · exact HJ.out q (by omega)⟩, ⟨pw_below_drewN HBz.out _⟩⟩
              · have HE := Aside0.mk he
                go_wp2_with fail
                go_quiet (fail)
                go_wp2_with fail
                go_ret
                refine ⟨?_, pw_below_drewN HBz.out _⟩
                have hin : nmL x ∈ ((l.take k).map nmL).reverse := by
                  rw [HX.out]
                  refine Classical.byContradiction fun hn => (newTo_mem (by omega)).2 hn j hjt ?_
                  have := HE.out
                  rw [names_beq] at this
                  rw [← HX.out, ← HY.out]
                  simpa [nmL] using this
                rw [HBAD.out (by rw [HTS.out, HBX.out, decide_eq_true hin]; rfl)]
                rfl
            · have hjk : j = k := by omega
              have HN : Aside0 (togTo l (k + 1) = true) := ⟨by
                have := HJ.out
                rw [hjk] at this
                have hn := (newTo_mem (by omega)).1 this
                rw [← HX.out] at hn
                rw [HTS.out, HBX.out, decide_eq_false hn]
                rfl⟩
              clear hjk
              go_wp2_with fail
              go_roundg (l.length - (k + 1))
              case measure => have := HGK.out; omega
              case rel => exact ⟨k + 1, by omega, ⟨rfl⟩, by go_num, HN, HBz⟩
      · have HE : Aside0 (r = 0) := ⟨by rw [← HR.out, HM.out]; unfold togB; rw [show l.length = k by omega, HT.out]; rfl⟩
        go_wp2
        go_ret
        exact ⟨by rw [HE.out]; rfl, HB.out⟩
end Go.Proofs.YtahjadbjokkjnaaDoor
