/-
  Chapter 49: whether files are the same: fs.Same over slices.EqualFunc, the document's Same.
-/
import Derived.Test.YtahjadbjokkjnaaDoorFr2
namespace Go.Proofs.YtahjadbjokkjnaaDoor
open Go.RowKit Go.Proofs.YtahjadbjokkjnaaDoorW.PrintWords Go.Proofs.YtahjadbjokkjnaaDoorW.PrintLast Go.Proofs.YtahjadbjokkjnaaDoorW.PrintMore
set_option linter.unusedVariables false
set_option linter.unusedSimpArgs false

def sameFile (x y : File) : Bool := (x.name.toList == y.name.toList) && decide (x.data = y.data)
def allTo (a b : List File) (k : Nat) : Bool := (List.range k).all fun j => sameFile (gt a j) (gt b j)
theorem allTo_succ (a b : List File) (k : Nat) : allTo a b (k + 1) = (allTo a b k && sameFile (gt a k) (gt b k)) := by
  unfold allTo
  rw [List.range_succ, List.all_append]
  simp
theorem allTo_false {a b : List File} {j k : Nat} (h : sameFile (gt a j) (gt b j) = false) (hj : j < k) : allTo a b k = false := by
  unfold allTo
  rw [Bool.eq_false_iff]
  intro ha
  have := List.all_eq_true.1 ha j (List.mem_range.2 hj)
  rw [h] at this
  cases this
def sameB (a b : List File) : Bool := decide (a.length = b.length) && allTo a b a.length
set_option maxHeartbeats 1600000 in
theorem same1_any (s t : ByteArray) (A B : Option Addr) (xs ys : List UInt8) (c1 c2 : Nat) (r : Bool) (hr : sameFile ⟨s, xs⟩ ⟨t, ys⟩ = r) (w : World) (h1 : byte.C w A xs.length xs) (h2 : byte.C w B ys.length ys) :
    Calls Tryd.prog 36 #[.agg #[.string s, .slice A xs.length c1], .agg #[.string t, .slice B ys.length c2]] w fun e w' => e = .returned (.bool r) ∧ Below w.heap.size w w' := by
  have HR := Aside0.mk hr
  have HB := Aside0.mk (below_alloc (below_alloc (Below.refl w.heap.size w) (.cells #[.string s, .slice A xs.length c1] 28)) (.cells #[.string t, .slice B ys.length c2] 28))
  have H1 := Aside0.mk h1
  have H2 := Aside0.mk h2
  clear hr h1 h2
  cases he : (s.toList == t.toList)
  · have HF : Aside0 (r = false) := ⟨by rw [← HR.out]; unfold sameFile; rw [he]; rfl⟩
    go_enter Tryd.func36, Tryd.ntmps36
    go_wp2
    go_ret
    exact ⟨by rw [HF.out]; rfl, HB.out⟩
  · have HF : Aside0 (r = decide (xs = ys)) := ⟨by rw [← HR.out]; unfold sameFile; rw [he]; rfl⟩
    go_enter Tryd.func36, Tryd.ntmps36
    go_wp2_with (go_at_call 37; refine (bequal A B xs ys c1 c2 _ (Kd.C_below H1.out HB.out) (Kd.C_below H2.out HB.out)).mono ?_; rintro e w1 ⟨rfl, rfl⟩)
    go_ret
    exact ⟨by rw [HF.out]; rfl, HB.out⟩
set_option maxHeartbeats 3200000 in
theorem fsame_any (A B : Option Addr) (a b : List File) (c1 c2 : Nat) (r : Bool) (hr : sameB a b = r) (w : World) (h1 : kFile.C w A a.length a) (h2 : kFile.C w B b.length b) :
    Calls Tryd.prog 35 #[.slice A a.length c1, .slice B b.length c2, .func (.func 36) #[] #[]] w fun e w' => e = .returned (.bool r) ∧ Below w.heap.size w w' := by
  have hm1 := Kd.C_max h1
  have HR := Aside0.mk hr
  have H1 := Aside0.mk h1
  have H2 := Aside0.mk h2
  clear hr h1 h2
  by_cases hl : a.length = b.length
  · have hl' : ((a.length : Int) != (b.length : Int)) = false := bne_eq_false_iff_eq.mpr (by omega)
    have HL := Aside0.mk hl
    have hlb : b.length ≤ a.length ∧ a.length ≤ b.length := by omega
    clear hl
    go_enter Tryd.func35, Tryd.ntmps35
    go_wp2
    go_loopg [17, 7, 8, 9] a.length (fun gk i _ _ _ wr => ∃ k : Nat, k ≤ a.length ∧ Aside0 (gk = a.length - k) ∧ i = .int .i64 k ∧ Aside0 (allTo a b k = true) ∧ Aside0 (Below w.heap.size w wr))
    case atStart => exact ⟨0, Nat.zero_le _, ⟨rfl⟩, rfl, ⟨rfl⟩, ⟨Below.refl _ _⟩⟩
    case round =>
      obtain ⟨k, hk, HGK, rfl, HT, HB⟩ := hrel
      by_cases hlt : k < a.length
      · have hlt2 : k < b.length := by omega
        obtain ⟨ad, A1, d1, rfl, g0, g1, _, hd1⟩ := file_at (Kd.C_below H1.out HB.out) hlt
        obtain ⟨ad2, A2, d2, rfl, g2, g3, _, hd2⟩ := file_at (Kd.C_below H2.out HB.out) hlt2
        obtain ⟨x, hx⟩ : ∃ x, x = gt a k := ⟨_, rfl⟩
        obtain ⟨y, hy⟩ : ∃ y, y = gt b k := ⟨_, rfl⟩
        rw [← hx] at g0 g1 hd1
        rw [← hy] at g2 g3 hd2
        replace g2 := cell_old (below_alloc (Below.refl _ _) (.cells #[.string x.name, .slice A1 x.data.length d1] 28)) g2
        replace g3 := cell_old (below_alloc (Below.refl _ _) (.cells #[.string x.name, .slice A1 x.data.length d1] 28)) g3
        have HB2 := Aside0.mk (below_alloc (below_alloc HB.out (.cells #[.string x.name, .slice A1 x.data.length d1] 28)) (.cells #[.string y.name, .slice A2 y.data.length d2] 28))
        have hbw := below_alloc (below_alloc (Below.refl wr.heap.size wr) (.cells #[.string x.name, .slice A1 x.data.length d1] 28)) (.cells #[.string y.name, .slice A2 y.data.length d2] 28)
        have HD1 := Aside0.mk (Kd.C_below hd1 hbw)
        have HD2 := Aside0.mk (Kd.C_below hd2 hbw)
        have HTS : Aside0 (allTo a b (k + 1) = sameFile x y) := ⟨by rw [allTo_succ, HT.out, hx, hy]; rfl⟩
        have hbad : sameFile x y = false → r = false := fun h => by rw [← HR.out]; unfold sameB; rw [allTo_false (j := k) (by rw [← hx, ← hy]; exact h) hlt]; simp
        have HBAD := Aside0.mk hbad
        clear hx hy hbad hd1 hd2 hbw
        cases hb : sameFile x y
        · have HX := Aside0.mk hb
          clear hb
          go_wp2_with (go_at_call 36; refine (same1_any x.name y.name A1 A2 x.data y.data d1 d2 false HX.out _ HD1.out HD2.out).mono ?_; rintro e w1 ⟨rfl, hb1⟩; have HB3 := Aside0.mk (below_step HB2.out hb1); clear hb1)
          go_ret
          exact ⟨by rw [HBAD.out HX.out]; rfl, HB3.out⟩
        · have HX := Aside0.mk hb
          clear hb
          go_wp2_with (go_at_call 36; refine (same1_any x.name y.name A1 A2 x.data y.data d1 d2 true HX.out _ HD1.out HD2.out).mono ?_; rintro e w1 ⟨rfl, hb1⟩; have HB3 := Aside0.mk (below_step HB2.out hb1); clear hb1)
          go_roundg (a.length - (k + 1))
          case measure => have := HGK.out; omega
          case rel => exact ⟨k + 1, by omega, ⟨rfl⟩, by go_num, ⟨by rw [HTS.out, HX.out]⟩, HB3⟩
      · have HE : Aside0 (r = true) := ⟨by rw [← HR.out]; unfold sameB; rw [show a.length = k by omega, HT.out, decide_eq_true (by have := HL.out; omega)]; rfl⟩
        go_wp2
        go_ret
        exact ⟨by rw [HE.out]; rfl, HB.out⟩
  · have hl' : ((a.length : Int) != (b.length : Int)) = true := bne_iff_ne.mpr (by omega)
    have HF : Aside0 (r = false) := ⟨by rw [← HR.out]; unfold sameB; rw [decide_eq_false hl]; rfl⟩
    go_enter Tryd.func35, Tryd.ntmps35
    go_wp2
    go_ret
    exact ⟨by rw [HF.out]; rfl, Below.refl _ _⟩
theorem same_any (A B : Option Addr) (a b : List File) (c1 c2 : Nat) (r : Bool) (hr : sameB a b = r) (w : World) (h1 : kFile.C w A a.length a) (h2 : kFile.C w B b.length b) :
    Calls Tryd.prog 19 #[.slice A a.length c1, .slice B b.length c2] w fun e w' => e = .returned (.bool r) ∧ Below w.heap.size w w' := by
  have HC := Aside0.mk (fsame_any A B a b c1 c2 r hr w h1 h2)
  clear hr h1 h2
  go_enter Tryd.func19, Tryd.ntmps19
  go_wp2_with (go_at_call 35; refine HC.out.mono ?_; rintro e w1 ⟨rfl, hb1⟩; have HB3 := Aside0.mk hb1; clear hb1)
  go_ret
  exact ⟨rfl, HB3.out⟩
theorem drewN_of {w wr : World} (h : ∃ q, wr = w.drewN q) (n : Nat) : ∃ q, wr.drewN n = w.drewN q := by
  obtain ⟨q, rfl⟩ := h
  exact ⟨_, World.drewN_drewN ..⟩
theorem same01_as (A B : Option Addr) (xs ys : List UInt8) (c1 c2 : Nat) (r : Bool) (hr : decide (xs = ys) = r) (w : World) (h1 : byte.C w A xs.length xs) (h2 : byte.C w B ys.length ys) :
    Calls Tryd.prog 26 #[.slice A xs.length c1, .slice B ys.length c2] w fun e w' => e = .returned (.bool r) ∧ ∃ n, w' = w.drewN n := by
  subst hr
  exact same01 A B xs ys c1 c2 w h1 h2
set_option maxHeartbeats 3200000 in
theorem refSame_any (A B : Option Addr) (a b : List File) (c1 c2 : Nat) (r : Bool) (hr : sameB a b = r) (w : World) (h1 : kFile.C w A a.length a) (h2 : kFile.C w B b.length b) :
    Calls Tryd.prog 20 #[.slice A a.length c1, .slice B b.length c2] w fun e w' => e = .returned (.bool r) ∧ ∃ n, w' = w.drewN n := by
  have hm1 := Kd.C_max h1
  have HR := Aside0.mk hr
  have H1 := Aside0.mk h1
  have H2 := Aside0.mk h2
  clear hr h1 h2
  by_cases hl : a.length = b.length
  · have hl' : ((a.length : Int) != (b.length : Int)) = false := bne_eq_false_iff_eq.mpr (by omega)
    have HL := Aside0.mk hl
    have hlb : b.length ≤ a.length ∧ a.length ≤ b.length := by omega
    clear hl
    go_enter Tryd.func20, Tryd.ntmps20
    go_wp2
    go_loopg [5] a.length (fun gk i wr => ∃ k : Nat, k ≤ a.length ∧ Aside0 (gk = a.length - k) ∧ i = .int .i64 k ∧ Aside0 (allTo a b k = true) ∧ ∃ q, wr = w.drewN q)
    case atStart => exact ⟨0, Nat.zero_le _, ⟨rfl⟩, rfl, ⟨rfl⟩, 0, rfl⟩
    case round =>
      obtain ⟨k, hk, HGK, rfl, HT, hwr⟩ := hrel
      have HW := Aside0.mk hwr
      have HBw : Aside0 (Below w.heap.size w wr) := ⟨by obtain ⟨q, hq⟩ := hwr; rw [hq]; exact pw_below_drewN (Below.refl _ _) _⟩
      clear hwr
      by_cases hlt : k < a.length
      · have hlt2 : k < b.length := by omega
        obtain ⟨ad, A1, d1, rfl, g0, g1, _, hd1⟩ := file_at (Kd.C_below H1.out HBw.out) hlt
        obtain ⟨ad2, A2, d2, rfl, g2, g3, _, hd2⟩ := file_at (Kd.C_below H2.out HBw.out) hlt2
        obtain ⟨x, hx⟩ : ∃ x, x = gt a k := ⟨_, rfl⟩
        obtain ⟨y, hy⟩ : ∃ y, y = gt b k := ⟨_, rfl⟩
        rw [← hx] at g0 g1 hd1
        rw [← hy] at g2 g3 hd2
        have hk1 : (k : Int) < (a.length : Int) := by omega
        have hk2 : (k : Int) < (b.length : Int) := by omega
        have HD1 := Aside0.mk hd1
        have HD2 := Aside0.mk hd2
        have HTS : Aside0 (allTo a b (k + 1) = sameFile x y) := ⟨by rw [allTo_succ, HT.out, hx, hy]; rfl⟩
        have hbad : sameFile x y = false → r = false := fun h => by rw [← HR.out]; unfold sameB; rw [allTo_false (j := k) (by rw [← hx, ← hy]; exact h) hlt]; simp
        have HBAD := Aside0.mk hbad
        clear hx hy hbad hd1 hd2
        cases he : (x.name.toList == y.name.toList)
        · have HX : Aside0 (sameFile x y = false) := ⟨by unfold sameFile; rw [he]; rfl⟩
          go_wp2_with fail
          go_quiet (fail)
          go_wp2_with fail
          go_ret
          exact ⟨by rw [HBAD.out HX.out]; rfl, drewN_of HW.out _⟩
        · have HX : Aside0 (sameFile x y = decide (x.data = y.data)) := ⟨by unfold sameFile; rw [he]; rfl⟩
          cases hb : decide (x.data = y.data)
          · have HDD := Aside0.mk hb
            clear hb
            go_wp2_with fail
            go_quiet ((go_at_call 26; exact Calls.quiet_of (same01_as A1 A2 x.data y.data d1 d2 false HDD.out _ (Kd.C_drewN HD1.out _) (Kd.C_drewN HD2.out _))))
            go_wp2_with fail
            go_ret
            exact ⟨by rw [HBAD.out (by rw [HX.out, HDD.out])]; rfl, drewN_of HW.out _⟩
          · have HDD := Aside0.mk hb
            clear hb
            go_wp2_with fail
            go_quiet ((go_at_call 26; exact Calls.quiet_of (same01_as A1 A2 x.data y.data d1 d2 true HDD.out _ (Kd.C_drewN HD1.out _) (Kd.C_drewN HD2.out _))))
            go_wp2_with fail
            go_roundg (a.length - (k + 1))
            case measure => have := HGK.out; omega
            case rel => exact ⟨k + 1, by omega, ⟨rfl⟩, by go_num, ⟨by rw [HTS.out, HX.out, HDD.out]⟩, drewN_of HW.out _⟩
      · have HE : Aside0 (r = true) := ⟨by rw [← HR.out]; unfold sameB; rw [show a.length = k by omega, HT.out, decide_eq_true (by have := HL.out; omega)]; rfl⟩
        go_wp2
        go_ret
        exact ⟨by rw [HE.out]; rfl, HW.out⟩
  · have hl' : ((a.length : Int) != (b.length : Int)) = true := bne_iff_ne.mpr (by omega)
    have HF : Aside0 (r = false) := ⟨by rw [← HR.out]; unfold sameB; rw [decide_eq_false hl]; rfl⟩
    go_enter Tryd.func20, Tryd.ntmps20
    go_wp2
    go_ret
    exact ⟨by rw [HF.out]; rfl, 0, rfl⟩
end Go.Proofs.YtahjadbjokkjnaaDoor
