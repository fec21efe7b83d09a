/-
  Chapter 49, plain: files are the same just if their disks are.
-/
import Derived.Test.YtdobjbdkfammbaaDoorGb
import Derived.Deep.RegionLaw
/-
  Chapter 49, the document's answer: whether a file is right, whether files may stand together; files as the document's.
-/
namespace Go.Proofs.YtdobjbdkfammbaaDoor
open Go.RowKit Go.Proofs.YtdobjbdkfammbaaDoorW.PrintWords Go.Proofs.YtdobjbdkfammbaaDoorW.PrintLast Go.Proofs.YtdobjbdkfammbaaDoorW.PrintMore
set_option linter.unusedVariables false
set_option linter.unusedSimpArgs false

theorem names_beq (s t : ByteArray) : (s.toList == t.toList) = decide (s.data.toList = t.data.toList) := by
  rw [ByteArray.toList_eq, ByteArray.toList_eq, Bool.eq_iff_iff]
  simp
/-- The box of the file that came in. -/
structure RefBox (w wr : World) (s : ByteArray) (A : Option Addr) (n c : Nat) : Prop where
  out : Below w.heap.size w wr
  box : wr.heap[w.heap.size]? = some (.cells #[.string s, .slice A n c] 64 (0, 0))
set_option maxHeartbeats 3200000 in
theorem refRight_any (s : ByteArray) (A : Option Addr) (xs : List UInt8) (c : Nat) (r : Bool) (hr : rightB ⟨s, xs⟩ = r) (w : World) (hs : s.size ≤ 9223372036854775807) (hx : xs.length ≤ 9223372036854775807) :
    Calls Tryd.prog 45 #[.agg #[.string s, .slice A xs.length c]] w fun e w' => e = .returned (.bool r) ∧ Below w.heap.size w w' := by
  have HRR := Aside0.mk hr
  clear hr
  obtain ⟨n, hn⟩ : ∃ n, n = xs.length := ⟨_, rfl⟩
  rw [← hn] at hx ⊢
  have HNX := Aside0.mk hn
  clear hn
  have HB : Aside0 (RefBox w (w.alloc (.cells #[.string s, .slice A n c] 64)) s A n c) := ⟨below_alloc (Below.refl _ _) _, blk_new w _⟩
  by_cases h1 : s.size < 1
  · have h1' : (s.size : Int) < 1 := by omega
    have HF : Aside0 (r = false) := ⟨by rw [← HRR.out]; unfold rightB namedB; simp; omega⟩
    go_enter Tryd.func45, Tryd.ntmps45
    go_wp2
    go_ret
    exact ⟨by rw [HF.out]; rfl, HB.out.out⟩
  · have h1' : decide ((s.size : Int) < 1) = false := decide_eq_false (by omega)
    by_cases h2 : 12 < s.size
    · have h2' : (12 : Int) < (s.size : Int) := by omega
      have HF : Aside0 (r = false) := ⟨by rw [← HRR.out]; unfold rightB namedB; simp; omega⟩
      go_enter Tryd.func45, Tryd.ntmps45
      go_wp2
      go_ret
      exact ⟨by rw [HF.out]; rfl, HB.out.out⟩
    · have h2' : decide ((12 : Int) < (s.size : Int)) = false := decide_eq_false (by omega)
      by_cases h3 : 256 < n
      · have h3' : (256 : Int) < (n : Int) := by omega
        have HF : Aside0 (r = false) := ⟨by rw [← HRR.out]; unfold rightB; have := HNX.out; simp; omega⟩
        go_enter Tryd.func45, Tryd.ntmps45
        go_wp2
        go_ret
        exact ⟨by rw [HF.out]; rfl, HB.out.out⟩
      · have h3' : decide ((256 : Int) < (n : Int)) = false := decide_eq_false (by omega)
        have HN : Aside0 (rightB ⟨s, xs⟩ = okTo s s.size) := ⟨by
          unfold rightB namedB
          have h4 : decide (1 ≤ s.size) = true := decide_eq_true (by omega)
          have h5 : decide (s.size ≤ 12) = true := decide_eq_true (by omega)
          have h6 : decide (xs.length ≤ 256) = true := decide_eq_true (by have := HNX.out; omega)
          simp only [h4, h5, h6, Bool.and_true]⟩
        go_enter Tryd.func45, Tryd.ntmps45
        go_wp2
        go_loopg [3, 4] s.size (fun gk i _ wr => ∃ k : Nat, k ≤ s.size ∧ Aside0 (gk = s.size - k) ∧ i = .int .i64 k ∧ Aside0 (okTo s k = true) ∧ Aside0 (RefBox w wr s A n c))
        case atStart => exact ⟨0, Nat.zero_le _, ⟨rfl⟩, rfl, ⟨rfl⟩, HB⟩
        case round =>
          clear HB
          obtain ⟨k, hk, HGK, rfl, HK, HB⟩ := hrel
          have z0 := blk_cell HB.out.box 0
          simp only [List.getElem?_toArray, List.getElem?_cons_zero] at z0
          by_cases hlt : k < s.size
          · obtain ⟨ch, hc⟩ : ∃ ch, bt s (k : Int) = ch := ⟨_, rfl⟩
            have hx : ∀ h : k < s.size, ((s[k]'h).toNat : Int) = ch := fun h => by have := bt_at s (k : Int) (by simpa using h); rw [← hc, ← this]; rfl
            cases hok : okC ch
            · have HBAD : Aside0 (rightB ⟨s, xs⟩ = false) := ⟨by rw [HN.out]; exact okTo_false (by rw [hc]; exact hok) hlt⟩
              have c46 : (ch == 46) = false := by unfold okC at hok; cases h : (ch == 46) <;> simp_all
              have hor : (ch < 97 ∧ ch < 48) ∨ (ch < 97 ∧ ¬ ch < 48 ∧ 57 < ch) ∨ (¬ ch < 97 ∧ 122 < ch ∧ ¬ ch < 48 ∧ 57 < ch) := by
                unfold okC at hok
                simp only [Bool.or_eq_false_iff, Bool.and_eq_false_iff, decide_eq_false_iff_not] at hok
                omega
              clear hok hc
              rcases hor with ⟨h1, h2⟩ | ⟨h1, h2, h3⟩ | ⟨h1, h2, h3, h4⟩
              · (go_wp2; go_ret; exact ⟨by rw [← HRR.out, HBAD.out]; rfl, HB.out.out⟩)
              · have q3 : decide (ch ≤ 57) = false := decide_eq_false (by omega)
                (go_wp2; go_ret; exact ⟨by rw [← HRR.out, HBAD.out]; rfl, HB.out.out⟩)
              · have q2 : decide (ch ≤ 122) = false := decide_eq_false (by omega)
                have q3 : decide (ch ≤ 57) = false := decide_eq_false (by omega)
                (go_wp2; go_ret; exact ⟨by rw [← HRR.out, HBAD.out]; rfl, HB.out.out⟩)
            · have HOK : Aside0 ((true && okC (bt s (k : Int))) = true) := ⟨by rw [hc, hok]; rfl⟩
              have hor : ch = 46 ∨ (ch ≠ 46 ∧ ¬ ch < 97 ∧ ¬ 122 < ch) ∨ (ch ≠ 46 ∧ ch < 97 ∧ ¬ ch < 48 ∧ ¬ 57 < ch) := by
                unfold okC at hok
                simp only [Bool.or_eq_true, Bool.and_eq_true, decide_eq_true_eq, beq_iff_eq] at hok
                omega
              clear hok hc
              rcases hor with h1 | ⟨h1, h2, h3⟩ | ⟨h1, h2, h3, h4⟩
              · subst h1
                (go_wp2; go_roundg (s.size - (k + 1)); (case measure => (have := HGK.out; omega)); (case rel => exact ⟨k + 1, by omega, ⟨rfl⟩, by go_num, ⟨by rw [okTo_succ, HK.out]; exact HOK.out⟩, HB⟩))
              · have c46 : (ch == 46) = false := beq_eq_false_iff_ne.mpr h1
                have q1 : decide (97 ≤ ch) = true := decide_eq_true (by omega)
                have q2 : decide (ch ≤ 122) = true := decide_eq_true (by omega)
                (go_wp2; go_roundg (s.size - (k + 1)); (case measure => (have := HGK.out; omega)); (case rel => exact ⟨k + 1, by omega, ⟨rfl⟩, by go_num, ⟨by rw [okTo_succ, HK.out]; exact HOK.out⟩, HB⟩))
              · have c46 : (ch == 46) = false := beq_eq_false_iff_ne.mpr h1
                have q1 : decide (97 ≤ ch) = false := decide_eq_false (by omega)
                have q2 : decide (48 ≤ ch) = true := decide_eq_true (by omega)
                have q3 : decide (ch ≤ 57) = true := decide_eq_true (by omega)
                (go_wp2; go_roundg (s.size - (k + 1)); (case measure => (have := HGK.out; omega)); (case rel => exact ⟨k + 1, by omega, ⟨rfl⟩, by go_num, ⟨by rw [okTo_succ, HK.out]; exact HOK.out⟩, HB⟩))
          · have hks : k = s.size := by omega
            have HE : Aside0 (r = true) := ⟨by rw [← HRR.out, HN.out, ← hks, HK.out]⟩
            clear hks
            go_wp2
            go_ret
            exact ⟨by rw [HE.out]; rfl, HB.out.out⟩
theorem rfile_at {w : World} {A : Option Addr} {n : Nat} {xs : List File} (h : kFile.C w A n xs) {k : Nat} (hk : k < n) : ∃ ad A1 c1, A = some ad ∧ w.cell? (ad.add (k * 2)) = some (.string (gt xs k).name) ∧ w.cell? ⟨(ad.add (k * 2)).block, (ad.add (k * 2)).off + 1, none⟩ = some (.slice A1 (gt xs k).data.length c1) ∧ (gt xs k).data.length ≤ 9223372036854775807 := by
  obtain ⟨ad, A1, c1, e, g0, g1, _, hd⟩ := file_at h hk
  exact ⟨ad, A1, c1, e, g0, g1, Kd.C_max hd⟩
/-- No name among the first k is the i-th one. -/
def newTo (l : List File) (i k : Nat) : Prop := ∀ j, j < k → (nmL (gt l i)) ≠ nmL (gt l j)
theorem newTo_mem {l : List File} {i : Nat} (hi : i ≤ l.length) : newTo l i i ↔ nmL (gt l i) ∉ ((l.take i).map nmL).reverse := by
  unfold newTo
  rw [List.mem_reverse, List.mem_map]
  constructor
  · rintro h ⟨x, hx, he⟩
    obtain ⟨j, hj, rfl⟩ := List.getElem_of_mem hx
    have hj' : j < i := by simp at hj; omega
    refine h j hj' ?_
    rw [gt_eq l j (by omega), ← he]
    simp
  · intro h j hj he
    exact h ⟨gt l j, by rw [gt_eq l j (by omega)]; exact List.mem_take_iff_getElem.2 ⟨j, by omega, rfl⟩, he.symm⟩
set_option maxHeartbeats 3200000 in
theorem refCheck_any (A : Option Addr) (l : List File) (c : Nat) (r : Int) (hr : makeE l = r) (w : World) (h : kFile.C w A l.length l) (hs : ∀ k, k < l.length → (gt l k).name.size ≤ 9223372036854775807) :
    Calls Tryd.prog 25 #[.slice A l.length c] w fun e w' => e = .returned (.int .i64 r) ∧ Below w.heap.size w w' := by
  have hmx := Kd.C_max h
  have HR := Aside0.mk hr
  have HS := Aside0.mk hs
  have HH := Aside0.mk h
  clear hr hs h
  by_cases h8 : 8 < l.length
  · have h8' : (8 : Int) < (l.length : Int) := by omega
    have HF : Aside0 (r = 6) := ⟨by rw [← HR.out]; unfold makeE; rw [if_pos h8]⟩
    go_enter Tryd.func25, Tryd.ntmps25
    go_wp2
    go_ret
    exact ⟨by rw [HF.out]; rfl, Below.refl _ _⟩
  · have HM : Aside0 (makeE l = if togB l then 0 else 3) := ⟨by unfold makeE; rw [if_neg h8]⟩
    have h8' : ¬ (8 : Int) < (l.length : Int) := by omega
    go_enter Tryd.func25, Tryd.ntmps25
    go_wp2
    go_loopg [3, 4] l.length (fun gk i _ wr => ∃ k : Nat, k ≤ l.length ∧ Aside0 (gk = l.length - k) ∧ i = .int .i64 k ∧ Aside0 (togTo l k = true) ∧ Aside0 (Below w.heap.size w wr))
    case atStart => exact ⟨0, Nat.zero_le _, ⟨rfl⟩, rfl, ⟨rfl⟩, ⟨Below.refl _ _⟩⟩
    case round =>
      obtain ⟨k, hk, HGK, rfl, HT, HB⟩ := hrel
      by_cases hlt : k < l.length
      · obtain ⟨ad, A1, c1, rfl, g0, g1, hdm⟩ := rfile_at (Kd.C_below HH.out HB.out) hlt
        obtain ⟨x, hx⟩ : ∃ x, x = gt l k := ⟨_, rfl⟩
        have HSX := HS.out k hlt
        have HTS : Aside0 (togTo l (k + 1) = (rightB x && !(decide (nmL x ∈ ((l.take k).map nmL).reverse)))) := ⟨by rw [hx]; show (togTo l k && _) = _; rw [HT.out]; rfl⟩
        rw [← hx] at g0 g1 HSX hdm
        have HX := Aside0.mk hx
        have hbad : togTo l (k + 1) = false → r = 3 := fun h => by rw [← HR.out, HM.out]; unfold togB; rw [togTo_false h _ (by omega)]; rfl
        have HBAD := Aside0.mk hbad
        clear hx hbad
        cases hb : rightB x
        · have HBX := Aside0.mk hb
          clear hb
          go_wp2_with (go_at_call 45; refine (refRight_any x.name A1 x.data c1 false HBX.out _ HSX hdm).mono ?_; rintro e w1 ⟨rfl, hb1⟩; have HB1 := Aside0.mk (below_step HB.out hb1); clear hb1)
          go_ret
          exact ⟨by rw [HBAD.out (by rw [HTS.out, HBX.out]; rfl)]; rfl, HB1.out⟩
        · have HBX := Aside0.mk hb
          clear hb
          go_wp2_with (go_at_call 45; refine (refRight_any x.name A1 x.data c1 true HBX.out _ HSX hdm).mono ?_; rintro e w1 ⟨rfl, hb1⟩; have HB1 := Aside0.mk (below_step HB.out hb1); clear hb1)
          go_loopg [4] k (fun gj i wz => ∃ j : Nat, j ≤ k ∧ Aside0 (gj = k - j) ∧ i = .int .i64 j ∧ Aside0 (newTo l k j) ∧ Aside0 (Below w.heap.size w wz))
          case atStart => exact ⟨0, Nat.zero_le _, ⟨rfl⟩, rfl, ⟨fun _ h => absurd h (by omega)⟩, HB1⟩
          case round =>
            clear g0 g1
            obtain ⟨j, hj, HGJ, rfl, HJ, HBz⟩ := hrel
            by_cases hjt : j < k
            · obtain ⟨_, A1, c1, e, g0, _, _⟩ := rfile_at (Kd.C_below HH.out HBz.out) hlt
              cases e
              obtain ⟨_, A2, c2, e, g2, _, _⟩ := rfile_at (Kd.C_below HH.out HBz.out) (show j < l.length by omega)
              cases e
              rw [← HX.out] at g0
              obtain ⟨y, hy⟩ : ∃ y, y = gt l j := ⟨_, rfl⟩
              rw [← hy] at g2
              have HY := Aside0.mk hy
              clear hy
              have hjl : (j : Int) < (l.length : Int) := by omega
              have hkl : (k : Int) < (l.length : Int) := by omega
              cases he : (x.name.toList == y.name.toList)
              · have HE := Aside0.mk he
                go_wp2_with fail
                go_quiet (fail)
                go_wp2_with fail
                go_roundg (k - (j + 1))
                case measure => have := HGJ.out; omega
                case rel => exact ⟨j + 1, by omega, ⟨rfl⟩, by go_num, ⟨fun q hq => by
                  by_cases hqj : q = j
                  · rw [hqj, ← HX.out, ← HY.out]
                    intro e
                    have := HE.out
                    rw [names_beq] at this
                    simp [nmL] at e this
                    exact this e
                  · exact HJ.out q (by omega)⟩, ⟨pw_below_drewN HBz.out _⟩⟩
              · have HE := Aside0.mk he
                go_wp2_with fail
                go_quiet (fail)
                go_wp2_with fail
                go_ret
                refine ⟨?_, pw_below_drewN HBz.out _⟩
                have hin : nmL x ∈ ((l.take k).map nmL).reverse := by
                  rw [HX.out]
                  refine Classical.byContradiction fun hn => (newTo_mem (by omega)).2 hn j hjt ?_
                  have := HE.out
                  rw [names_beq] at this
                  rw [← HX.out, ← HY.out]
                  simpa [nmL] using this
                rw [HBAD.out (by rw [HTS.out, HBX.out, decide_eq_true hin]; rfl)]
                rfl
            · have hjk : j = k := by omega
              have HN : Aside0 (togTo l (k + 1) = true) := ⟨by
                have := HJ.out
                rw [hjk] at this
                have hn := (newTo_mem (by omega)).1 this
                rw [← HX.out] at hn
                rw [HTS.out, HBX.out, decide_eq_false hn]
                rfl⟩
              clear hjk
              go_wp2_with fail
              go_roundg (l.length - (k + 1))
              case measure => have := HGK.out; omega
              case rel => exact ⟨k + 1, by omega, ⟨rfl⟩, by go_num, HN, HBz⟩
      · have HE : Aside0 (r = 0) := ⟨by rw [← HR.out, HM.out]; unfold togB; rw [show l.length = k by omega, HT.out]; rfl⟩
        go_wp2
        go_ret
        exact ⟨by rw [HE.out]; rfl, HB.out⟩
end Go.Proofs.YtdobjbdkfammbaaDoor
/-
  Chapter 49: files as the document's (Plain).
-/
namespace Go.Proofs.YtdobjbdkfammbaaDoor
open Go.RowKit Go.Proofs.YtdobjbdkfammbaaDoorW.PrintWords Go.Proofs.YtdobjbdkfammbaaDoorW.PrintLast Go.Proofs.YtdobjbdkfammbaaDoorW.PrintMore
set_option linter.unusedVariables false
set_option linter.unusedSimpArgs false

end Go.Proofs.YtdobjbdkfammbaaDoor
/-
  Chapter 49: whether files are the same: fs.Same over slices.EqualFunc, the document's Same.
-/
namespace Go.Proofs.YtdobjbdkfammbaaDoor
open Go.RowKit Go.Proofs.YtdobjbdkfammbaaDoorW.PrintWords Go.Proofs.YtdobjbdkfammbaaDoorW.PrintLast Go.Proofs.YtdobjbdkfammbaaDoorW.PrintMore
set_option linter.unusedVariables false
set_option linter.unusedSimpArgs false

def sameFile (x y : File) : Bool := (x.name.toList == y.name.toList) && decide (x.data = y.data)
def allTo (a b : List File) (k : Nat) : Bool := (List.range k).all fun j => sameFile (gt a j) (gt b j)
theorem allTo_succ (a b : List File) (k : Nat) : allTo a b (k + 1) = (allTo a b k && sameFile (gt a k) (gt b k)) := by
  unfold allTo
  rw [List.range_succ, List.all_append]
  simp
theorem allTo_false {a b : List File} {j k : Nat} (h : sameFile (gt a j) (gt b j) = false) (hj : j < k) : allTo a b k = false := by
  unfold allTo
  rw [Bool.eq_false_iff]
  intro ha
  have := List.all_eq_true.1 ha j (List.mem_range.2 hj)
  rw [h] at this
  cases this
def sameB (a b : List File) : Bool := decide (a.length = b.length) && allTo a b a.length
set_option maxHeartbeats 1600000 in
theorem same1_any (s t : ByteArray) (A B : Option Addr) (xs ys : List UInt8) (c1 c2 : Nat) (r : Bool) (hr : sameFile ⟨s, xs⟩ ⟨t, ys⟩ = r) (w : World) (h1 : byte.C w A xs.length xs) (h2 : byte.C w B ys.length ys) :
    Calls Tryd.prog 41 #[.agg #[.string s, .slice A xs.length c1], .agg #[.string t, .slice B ys.length c2]] w fun e w' => e = .returned (.bool r) ∧ Below w.heap.size w w' := by
  have HR := Aside0.mk hr
  have HB := Aside0.mk (below_alloc (below_alloc (Below.refl w.heap.size w) (.cells #[.string s, .slice A xs.length c1] 56)) (.cells #[.string t, .slice B ys.length c2] 56))
  have H1 := Aside0.mk h1
  have H2 := Aside0.mk h2
  clear hr h1 h2
  cases he : (s.toList == t.toList)
  · have HF : Aside0 (r = false) := ⟨by rw [← HR.out]; unfold sameFile; rw [he]; rfl⟩
    go_enter Tryd.func41, Tryd.ntmps41
    go_wp2
    go_ret
    exact ⟨by rw [HF.out]; rfl, HB.out⟩
  · have HF : Aside0 (r = decide (xs = ys)) := ⟨by rw [← HR.out]; unfold sameFile; rw [he]; rfl⟩
    go_enter Tryd.func41, Tryd.ntmps41
    go_wp2_with (go_at_call 42; refine (bequal A B xs ys c1 c2 _ (Kd.C_below H1.out HB.out) (Kd.C_below H2.out HB.out)).mono ?_; rintro e w1 ⟨rfl, rfl⟩)
    go_ret
    exact ⟨by rw [HF.out]; rfl, HB.out⟩
set_option maxHeartbeats 3200000 in
theorem fsame_any (A B : Option Addr) (a b : List File) (c1 c2 : Nat) (r : Bool) (hr : sameB a b = r) (w : World) (h1 : kFile.C w A a.length a) (h2 : kFile.C w B b.length b) :
    Calls Tryd.prog 40 #[.slice A a.length c1, .slice B b.length c2, .func (.func 41) #[] #[]] w fun e w' => e = .returned (.bool r) ∧ Below w.heap.size w w' := by
  have hm1 := Kd.C_max h1
  have HR := Aside0.mk hr
  have H1 := Aside0.mk h1
  have H2 := Aside0.mk h2
  clear hr h1 h2
  by_cases hl : a.length = b.length
  · have hl' : ((a.length : Int) != (b.length : Int)) = false := bne_eq_false_iff_eq.mpr (by omega)
    have HL := Aside0.mk hl
    have hlb : b.length ≤ a.length ∧ a.length ≤ b.length := by omega
    clear hl
    go_enter Tryd.func40, Tryd.ntmps40
    go_wp2
    go_loopg [17, 7, 8, 9] a.length (fun gk i _ _ _ wr => ∃ k : Nat, k ≤ a.length ∧ Aside0 (gk = a.length - k) ∧ i = .int .i64 k ∧ Aside0 (allTo a b k = true) ∧ Aside0 (Below w.heap.size w wr))
    case atStart => exact ⟨0, Nat.zero_le _, ⟨rfl⟩, rfl, ⟨rfl⟩, ⟨Below.refl _ _⟩⟩
    case round =>
      obtain ⟨k, hk, HGK, rfl, HT, HB⟩ := hrel
      by_cases hlt : k < a.length
      · have hlt2 : k < b.length := by omega
        obtain ⟨ad, A1, d1, rfl, g0, g1, _, hd1⟩ := file_at (Kd.C_below H1.out HB.out) hlt
        obtain ⟨ad2, A2, d2, rfl, g2, g3, _, hd2⟩ := file_at (Kd.C_below H2.out HB.out) hlt2
        obtain ⟨x, hx⟩ : ∃ x, x = gt a k := ⟨_, rfl⟩
        obtain ⟨y, hy⟩ : ∃ y, y = gt b k := ⟨_, rfl⟩
        rw [← hx] at g0 g1 hd1
        rw [← hy] at g2 g3 hd2
        replace g2 := cell_old (below_alloc (Below.refl _ _) (.cells #[.string x.name, .slice A1 x.data.length d1] 56)) g2
        replace g3 := cell_old (below_alloc (Below.refl _ _) (.cells #[.string x.name, .slice A1 x.data.length d1] 56)) g3
        have HB2 := Aside0.mk (below_alloc (below_alloc HB.out (.cells #[.string x.name, .slice A1 x.data.length d1] 56)) (.cells #[.string y.name, .slice A2 y.data.length d2] 56))
        have hbw := below_alloc (below_alloc (Below.refl wr.heap.size wr) (.cells #[.string x.name, .slice A1 x.data.length d1] 56)) (.cells #[.string y.name, .slice A2 y.data.length d2] 56)
        have HD1 := Aside0.mk (Kd.C_below hd1 hbw)
        have HD2 := Aside0.mk (Kd.C_below hd2 hbw)
        have HTS : Aside0 (allTo a b (k + 1) = sameFile x y) := ⟨by rw [allTo_succ, HT.out, hx, hy]; rfl⟩
        have hbad : sameFile x y = false → r = false := fun h => by rw [← HR.out]; unfold sameB; rw [allTo_false (j := k) (by rw [← hx, ← hy]; exact h) hlt]; simp
        have HBAD := Aside0.mk hbad
        clear hx hy hbad hd1 hd2 hbw
        cases hb : sameFile x y
        · have HX := Aside0.mk hb
          clear hb
          go_wp2_with (go_at_call 41; refine (same1_any x.name y.name A1 A2 x.data y.data d1 d2 false HX.out _ HD1.out HD2.out).mono ?_; rintro e w1 ⟨rfl, hb1⟩; have HB3 := Aside0.mk (below_step HB2.out hb1); clear hb1)
          go_ret
          exact ⟨by rw [HBAD.out HX.out]; rfl, HB3.out⟩
        · have HX := Aside0.mk hb
          clear hb
          go_wp2_with (go_at_call 41; refine (same1_any x.name y.name A1 A2 x.data y.data d1 d2 true HX.out _ HD1.out HD2.out).mono ?_; rintro e w1 ⟨rfl, hb1⟩; have HB3 := Aside0.mk (below_step HB2.out hb1); clear hb1)
          go_roundg (a.length - (k + 1))
          case measure => have := HGK.out; omega
          case rel => exact ⟨k + 1, by omega, ⟨rfl⟩, by go_num, ⟨by rw [HTS.out, HX.out]⟩, HB3⟩
      · have HE : Aside0 (r = true) := ⟨by rw [← HR.out]; unfold sameB; rw [show a.length = k by omega, HT.out, decide_eq_true (by have := HL.out; omega)]; rfl⟩
        go_wp2
        go_ret
        exact ⟨by rw [HE.out]; rfl, HB.out⟩
  · have hl' : ((a.length : Int) != (b.length : Int)) = true := bne_iff_ne.mpr (by omega)
    have HF : Aside0 (r = false) := ⟨by rw [← HR.out]; unfold sameB; rw [decide_eq_false hl]; rfl⟩
    go_enter Tryd.func40, Tryd.ntmps40
    go_wp2
    go_ret
    exact ⟨by rw [HF.out]; rfl, Below.refl _ _⟩
theorem same_any (A B : Option Addr) (a b : List File) (c1 c2 : Nat) (r : Bool) (hr : sameB a b = r) (w : World) (h1 : kFile.C w A a.length a) (h2 : kFile.C w B b.length b) :
    Calls Tryd.prog 20 #[.slice A a.length c1, .slice B b.length c2] w fun e w' => e = .returned (.bool r) ∧ Below w.heap.size w w' := by
  have HC := Aside0.mk (fsame_any A B a b c1 c2 r hr w h1 h2)
  clear hr h1 h2
  go_enter Tryd.func20, Tryd.ntmps20
  go_wp2_with (go_at_call 40; refine HC.out.mono ?_; rintro e w1 ⟨rfl, hb1⟩; have HB3 := Aside0.mk hb1; clear hb1)
  go_ret
  exact ⟨rfl, HB3.out⟩
end Go.Proofs.YtdobjbdkfammbaaDoor
namespace Go.Proofs.YtdobjbdkfammbaaDoor
open Go.RowKit Go.Proofs.YtdobjbdkfammbaaDoorW.PrintWords Go.Proofs.YtdobjbdkfammbaaDoorW.PrintLast Go.Proofs.YtdobjbdkfammbaaDoorW.PrintMore
set_option linter.unusedVariables false
set_option linter.unusedSimpArgs false

theorem sameFile_iff (x y : File) : sameFile x y = true ↔ nmL x = nmL y ∧ x.data = y.data := by
  unfold sameFile nmL
  rw [names_beq]
  simp
theorem sameB_iff (a b : List File) : sameB a b = true ↔ a.length = b.length ∧ ∀ k, k < a.length → nmL (gt a k) = nmL (gt b k) ∧ (gt a k).data = (gt b k).data := by
  unfold sameB allTo
  simp only [Bool.and_eq_true, decide_eq_true_eq, List.all_eq_true, List.mem_range, sameFile_iff]
theorem sameB_refl (a : List File) : sameB a a = true := (sameB_iff a a).2 ⟨rfl, fun _ _ => ⟨rfl, rfl⟩⟩
theorem name_ext {s t : ByteArray} (h : s.data.toList = t.data.toList) : s = t := by
  obtain ⟨⟨x⟩⟩ := s
  obtain ⟨⟨y⟩⟩ := t
  simp at h
  rw [h]
theorem sameB_eq {a b : List File} (h : sameB a b = true) : a = b := by
  obtain ⟨hl, he⟩ := (sameB_iff a b).1 h
  apply List.ext_getElem hl
  intro k h1 h2
  obtain ⟨e1, e2⟩ := he k h1
  rw [gt_eq a k h1, gt_eq b k h2] at e1 e2
  cases hx : a[k]
  cases hy : b[k]
  rw [hx, hy] at e1 e2
  simp only [nmL] at e1
  rw [name_ext e1]
  simpa using e2
/-! ### names -/
theorem okTo_all {s : ByteArray} {n : Nat} (h : okTo s n = true) (j : Nat) (hj : j < n) : okC (bt s (j : Int)) = true := by
  unfold okTo at h
  exact List.all_eq_true.1 h j (List.mem_range.2 hj)
theorem named_nz {s : ByteArray} (h : namedB s = true) : ∀ x ∈ s.data.toList, x ≠ 0 := by
  unfold namedB at h
  simp only [Bool.and_eq_true] at h
  intro x hx h0
  obtain ⟨j, hj, rfl⟩ := List.getElem_of_mem hx
  have hj' : j < s.size := by rw [Lib.size_eq]; exact hj
  have := okTo_all h.1.1 j hj'
  have e := bt_at s (j : Int) (by simpa using hj')
  rw [← e] at this
  have e2 : s[(j : Int).toNat]'(by simpa using hj') = s.data.toList[j] := by simp; rfl
  rw [e2, h0] at this
  exact absurd this (by decide)
def pad12 (s : List UInt8) : List UInt8 := (s ++ List.replicate 12 0).take 12
theorem pad12_eq (s : List UInt8) (h : s.length ≤ 12) : pad12 s = s ++ List.replicate (12 - s.length) 0 := by
  unfold pad12
  rw [List.take_append, List.take_of_length_le h, List.take_replicate, Nat.min_eq_left (by omega)]
theorem pad12_tw (s : List UInt8) (h : s.length ≤ 12) (hz : ∀ x ∈ s, x ≠ 0) : (pad12 s).takeWhile (fun x => x != 0) = s := by
  rw [pad12_eq s h, List.takeWhile_append_of_pos (by simpa using hz)]
  cases 12 - s.length with
  | zero => simp
  | succ n => simp [List.replicate_succ]
theorem pad12_inj {s t : List UInt8} (h1 : s.length ≤ 12) (h2 : t.length ≤ 12) (hs : ∀ x ∈ s, x ≠ 0) (ht : ∀ x ∈ t, x ≠ 0) (h : pad12 s = pad12 t) : s = t := by
  rw [← pad12_tw s h1 hs, ← pad12_tw t h2 ht, h]
theorem hilo_inj {n m : Nat} (hn : n ≤ 65535) (hm : m ≤ 65535) (h1 : hi2 n = hi2 m) (h2 : lo2 n = lo2 m) : n = m := by
  have e1 := congrArg UInt8.toNat h1
  have e2 := congrArg UInt8.toNat h2
  simp only [hi2, lo2, UInt8.toNat_ofNat'] at e1 e2
  omega
theorem entry_parts (x : File) (a : Nat) : (entryB x a).take 12 = pad12 (nmL x) ∧ (entryB x a)[12]? = some (hi2 x.data.length) ∧ (entryB x a)[13]? = some (lo2 x.data.length) := by
  have hl : (pad12 (nmL x)).length = 12 := by simp [pad12]
  have e : entryB x a = pad12 (nmL x) ++ ([hi2 x.data.length, lo2 x.data.length] ++ ((if 0 < x.data.length then [hi2 a, lo2 a] else [0, 0]) ++ List.replicate 16 0)) := by
    unfold entryB pad12 nmL
    simp only [List.append_assoc]
  rw [e]
  refine ⟨by rw [← hl, List.take_left], ?_, ?_⟩
  · rw [List.getElem?_append_right (by omega), hl]; rfl
  · rw [List.getElem?_append_right (by omega), hl]; rfl
/-! ### data -/
theorem dataB_gt (x : File) (j : Nat) (hj : j < x.data.length) : gt (gt (dataB x) (j / 32)) (j % 32) = gt x.data j := by
  have hq : j / 32 < manyN x.data.length := by unfold manyN; omega
  have e : gt (dataB x) (j / 32) = pad (chunk x.data (j / 32)) := by
    rw [gt_eq _ _ (by simpa [dataB] using hq)]
    simp [dataB]
  have hc : j % 32 < (chunk x.data (j / 32)).length := by rw [chunk_len]; omega
  rw [e, pad_eq _ (by rw [chunk_len]; omega)]
  have : gt (chunk x.data (j / 32) ++ List.replicate (32 - (chunk x.data (j / 32)).length) 0) (j % 32) = gt (chunk x.data (j / 32)) (j % 32) := by
    unfold gt
    simp only [List.getD_eq_getElem?_getD]
    rw [List.getElem?_append_left hc]
  rw [this, chunk_gt _ _ _ hc]
  congr 1
  omega
theorem dataB_inj {x y : File} (hl : x.data.length = y.data.length) (h : dataB x = dataB y) : x.data = y.data := by
  apply List.ext_getElem hl
  intro j h1 h2
  rw [← gt_eq x.data j h1, ← gt_eq y.data j h2, ← dataB_gt x j h1, ← dataB_gt y j h2, h]
theorem flatten_inj {α : Type} : ∀ {L M : List (List α)}, L.length = M.length → (∀ k : Nat, (L[k]?.map List.length) = (M[k]?.map List.length)) → L.flatten = M.flatten → L = M
  | [], [], _, _, _ => rfl
  | [], _ :: _, h, _, _ => by simp at h
  | _ :: _, [], h, _, _ => by simp at h
  | x :: L, y :: M, h, hk, hf => by
    have h0 := hk 0
    simp at h0
    simp only [List.flatten_cons] at hf
    obtain ⟨e1, e2⟩ := List.append_inj hf h0
    rw [e1, flatten_inj (by simpa using h) (fun k => by simpa using hk (k + 1)) e2]
theorem makeE_zero {l : List File} (h : makeE l = 0) : l.length ≤ 8 ∧ togB l = true ∧ makeV l = makeB l := by
  unfold makeE at h
  by_cases h8 : 8 < l.length
  · rw [if_pos h8] at h; cases h
  · rw [if_neg h8] at h
    cases ht : togB l
    · rw [ht] at h; cases h
    · exact ⟨by omega, rfl, by unfold makeV; rw [if_neg h8, ht]; rfl⟩
theorem tog_named {l : List File} (h : togB l = true) (k : Nat) (hk : k < l.length) : namedB (gt l k).name = true := by
  have := togTo_right h k hk
  unfold rightB at this
  simp only [Bool.and_eq_true] at this
  exact this.1
theorem makeB_inj {a b : List File} (ha : togB a = true) (hb : togB b = true) (ha8 : a.length ≤ 8) (hb8 : b.length ≤ 8) (h : makeB a = makeB b) : sameB a b = true := by
  unfold makeB at h
  rw [List.cons_append, List.cons_append, List.cons.injEq] at h
  obtain ⟨hh, ht⟩ := h
  have hlen : a.length = b.length := by
    have := congrArg (fun l => l[5]?) hh
    simp only [headB, magicB] at this
    simp at this
    have e := congrArg UInt8.toNat this
    simp only [UInt8.toNat_ofNat'] at e
    omega
  obtain ⟨hT, hD⟩ := List.append_inj ht (by simp [tableB, hlen])
  have hent : ∀ k, k < a.length → entryB (gt a k) (1 + a.length + blocksTo a k) = entryB (gt b k) (1 + b.length + blocksTo b k) := fun k hk => by
    have := congrArg (fun l => l[k]?) hT
    simpa [tableB, hk, show k < b.length by omega] using this
  have hname : ∀ k, k < a.length → nmL (gt a k) = nmL (gt b k) ∧ (gt a k).data.length = (gt b k).data.length := fun k hk => by
    obtain ⟨p1, p2, p3⟩ := entry_parts (gt a k) (1 + a.length + blocksTo a k)
    obtain ⟨q1, q2, q3⟩ := entry_parts (gt b k) (1 + b.length + blocksTo b k)
    rw [hent k hk] at p1 p2 p3
    have ra := tog_right ha k hk
    have rb := tog_right hb k (by omega)
    have la : (nmL (gt a k)).length ≤ 12 := by unfold nmL; rw [← Lib.size_eq]; exact ra.1
    have lb : (nmL (gt b k)).length ≤ 12 := by unfold nmL; rw [← Lib.size_eq]; exact rb.1
    refine ⟨pad12_inj la lb (named_nz (tog_named ha k hk)) (named_nz (tog_named hb k (by omega))) (p1.symm.trans q1), ?_⟩
    exact hilo_inj (by omega) (by omega) (Option.some.inj (p2.symm.trans q2)) (Option.some.inj (p3.symm.trans q3))
  have hdat : a.map dataB = b.map dataB := by
    refine flatten_inj (by simpa using hlen) (fun k => ?_) hD
    by_cases hk : k < a.length
    · have hkb : k < b.length := by omega
      have e := (hname k hk).2
      rw [gt_eq a k hk, gt_eq b k hkb] at e
      simp [hk, hkb, dataB, e]
    · rw [List.getElem?_eq_none (by simp; omega), List.getElem?_eq_none (by simp; omega)]
  rw [sameB_iff]
  refine ⟨hlen, fun k hk => ⟨(hname k hk).1, dataB_inj (hname k hk).2 ?_⟩⟩
  have := congrArg (fun l => l[k]?) hdat
  have hkb : k < b.length := by omega
  simp [hk, hkb] at this
  rw [gt_eq a k hk, gt_eq b k hkb]
  exact this
end Go.Proofs.YtdobjbdkfammbaaDoor
