/-
  Chapter 51: how many files were renamed: both sides.
-/
import Derived.Test.YtoglbbonfjnmpaaDoorPc
namespace Go.Proofs.YtoglbbonfjnmpaaDoor
open Go.RowKit Go.Proofs.YtoglbbonfjnmpaaDoorW.PrintWords Go.Proofs.YtoglbbonfjnmpaaDoorW.PrintLast Go.Proofs.YtoglbbonfjnmpaaDoorW.PrintMore
set_option linter.unusedVariables false
set_option linter.unusedSimpArgs false

/-- Does a string begin with another? -/
def pfxB (s p : ByteArray) : Bool := decide (p.size ≤ s.size ∧ s.extract 0 p.size = p)
def hasB (l : List File) (nm : ByteArray) : Bool := decide (0 ≤ idxOf l nm)
theorem has_look (l : List File) (nm : ByteArray) : hasB l nm = (look49 l nm).isSome := by
  unfold hasB
  rcases idx_cases l nm with ⟨h1, h2⟩ | ⟨k, _, h1, h2⟩
  · rw [h1, h2]; rfl
  · rw [h1, h2]; simp
set_option maxHeartbeats 800000 in
theorem spre_any (s p : ByteArray) (r : Bool) (hr : pfxB s p = r) (w : World) (hs : s.size ≤ 1000000) (hp : p.size ≤ 1000000) :
    Calls Tryd.prog 55 #[.string s, .string p] w fun e w' => e = .returned (.bool r) ∧ w = w' := by
  by_cases hle : p.size ≤ s.size
  · have HR : Aside0 (decide (s.extract 0 p.size = p) = r) := ⟨by rw [← hr]; unfold pfxB; exact decide_eq_decide.mpr ⟨fun h => ⟨hle, h⟩, fun h => h.2⟩⟩
    have hle' : (p.size : Int) ≤ (s.size : Int) := by omega
    clear hr
    go_enter Tryd.func55, Tryd.ntmps55
    go_wp2
    go_ret
    exact ⟨ret_bool (by rw [str_eql]; exact HR.out), rfl⟩
  · have HR : Aside0 (r = false) := ⟨by rw [← hr]; unfold pfxB; exact decide_eq_false (fun h => hle h.1)⟩
    have hle' : ¬ (p.size : Int) ≤ (s.size : Int) := by omega
    clear hr
    go_enter Tryd.func55, Tryd.ntmps55
    go_wp2
    go_ret
    exact ⟨by rw [HR.out]; rfl, rfl⟩
theorem sprefix_any (s p : ByteArray) (r : Bool) (hr : pfxB s p = r) (w : World) (hs : s.size ≤ 1000000) (hp : p.size ≤ 1000000) :
    Calls Tryd.prog 35 #[.string s, .string p] w fun e w' => e = .returned (.bool r) ∧ w = w' := by
  go_enter Tryd.func35, Tryd.ntmps35
  go_wp2_with (go_at_call 55; refine (spre_any s p r hr w hs hp).mono ?_; rintro e w1 ⟨rfl, rfl⟩)
  go_ret
  exact ⟨rfl, rfl⟩
/-- Files of which names and data are no longer than are looked at. -/
def Mild (l : List File) : Prop := l.length ≤ 1000000 ∧ ∀ k, k < l.length → (gt l k).name.size ≤ 1000000 ∧ (gt l k).data.length ≤ 1000000
theorem Mild.data {l : List File} (h : Mild l) : ∀ k, k < l.length → (gt l k).data.length ≤ 140737488355328 := fun k hk => by have := (h.2 k hk).2; omega
set_option maxHeartbeats 800000 in
theorem has_any (A : Option Addr) (l : List File) (c : Nat) (nm : ByteArray) (r : Bool) (hr : hasB l nm = r) (w : World) (h : kFile.C w A l.length l) (hl : Mild l) :
    Calls Tryd.prog 32 #[.slice A l.length c, .string nm] w fun e w' => e = .returned (.bool r) ∧ Below w.heap.size w w' := by
  have HR : Aside0 ((look49 l nm).isSome = r) := ⟨by rw [← hr, has_look]⟩
  have HC := Aside0.mk (find_any A l c nm w h hl.data)
  clear hr h
  go_enter Tryd.func32, Tryd.ntmps32
  cases r
  · have HN : Aside0 (look49 l nm = none) := ⟨by have := HR.out; simpa using this⟩
    go_wp2_with (go_at_call 37; refine HC.out.mono ?_; unfold FindPost; rintro e w1 hpost; rcases hpost with ⟨_, rfl, hb⟩ | ⟨x, v, hx, _⟩; rotate_left; (exact absurd (hx.symm.trans HN.out) (by simp)); have HB := Aside0.mk hb; clear hb)
    go_ret
    exact ⟨rfl, below_alloc HB.out _⟩
  · have HN : Aside0 (look49 l nm ≠ none) := ⟨fun hc => by have := HR.out; rw [hc] at this; cases this⟩
    go_wp2_with (go_at_call 37; refine HC.out.mono ?_; unfold FindPost; rintro e w1 hpost; rcases hpost with ⟨hx, _⟩ | ⟨x, v, hx, rfl, ho, hb⟩; (exact absurd hx HN.out); obtain ⟨Av, cv, rfl⟩ := Kd.R_slice ho; have HB := Aside0.mk hb; clear hb ho)
    go_ret
    exact ⟨rfl, below_alloc HB.out _⟩
/-- Is this one the new name of an old one? -/
def newB (before : List File) (nm : ByteArray) (g : File) : Bool := pfxB g.name nm && !hasB before g.name
def renOne (before now : List File) (f : File) : Bool := !hasB now f.name && now.any (newB before f.name)
def renTo (before now : List File) : Nat → Nat
  | 0 => 0
  | k + 1 => renTo before now k + if renOne before now (gt before k) then 1 else 0
def renN (before now : List File) : Nat := renTo before now before.length
theorem renTo_le (before now : List File) (k : Nat) : renTo before now k ≤ k := by
  induction k with
  | zero => simp [renTo]
  | succ k ih => unfold renTo; split <;> omega
theorem any_take_last {p : File → Bool} {l : List File} {k : Nat} (hk : k < l.length) (h : p (gt l k) = true) : l.any p = true := by
  rw [List.any_eq_true]
  exact ⟨gt l k, by rw [gt_eq l k hk]; exact List.getElem_mem hk, h⟩
theorem any_none {p : File → Bool} {l : List File} (h : ∀ j, j < l.length → p (gt l j) = false) : l.any p = false := by
  rw [List.any_eq_false]
  intro x hx
  obtain ⟨j, hj, rfl⟩ := List.getElem_of_mem hx
  have := h j hj
  rw [gt_eq l j hj] at this
  simp [this]
/-- What the closure of Renames holds: a file's name, and the files before. -/
structure RenEnv (w : World) (g7 g2 : Nat) (nm : ByteArray) (v : Value) (A : Option Addr) (before : List File) (c : Nat) : Prop where
  h7 : w.heap[g7]? = some (.cells #[.string nm, v] 52 (0, 0))
  h2 : w.heap[g2]? = some (.cells #[.slice A before.length c] 36 (0, 0))
  hC : kFile.C w A before.length before
theorem RenEnv.below {w w1 : World} {g7 g2 : Nat} {nm : ByteArray} {v : Value} {A : Option Addr} {before : List File} {c : Nat} (h : RenEnv w g7 g2 nm v A before c) (hb : Below w.heap.size w w1) : RenEnv w1 g7 g2 nm v A before c :=
  ⟨blk_below h.h7 hb, blk_below h.h2 hb, Kd.C_below h.hC hb⟩
set_option maxHeartbeats 1600000 in
theorem ren1_any (s : ByteArray) (u : Value) (hu : u.oneCell' = true) (g7 g2 : Nat) (nm : ByteArray) (v : Value) (A : Option Addr) (before : List File) (c : Nat) (r : Bool) (D : List UInt8) (hr : newB before nm ⟨s, D⟩ = r) (w : World) (h : RenEnv w g7 g2 nm v A before c) (hl : Mild before) (hs : s.size ≤ 1000000) (hn : nm.size ≤ 1000000) :
    Calls Tryd.prog 34 #[.agg #[.string s, u], .pointer (some ⟨g7, 0, none⟩), .pointer (some ⟨g2, 0, none⟩)] w fun e w' => e = .returned (.bool r) ∧ Below w.heap.size w w' := by
  have HB := Aside0.mk (below_alloc (Below.refl w.heap.size w) (.cells #[.string s, u] 52))
  have HV := Aside0.mk (h.below HB.out)
  have z0 := blk_cell (blk_new w (.cells #[.string s, u] 52)) 0
  have z7 := blk_cell HV.out.h7 0
  have z2 := blk_cell HV.out.h2 0
  simp only [List.getElem?_toArray, List.getElem?_cons_zero] at z0 z7 z2
  obtain ⟨p, hp⟩ : ∃ p, pfxB s nm = p := ⟨_, rfl⟩
  obtain ⟨q, hq⟩ : ∃ q, hasB before s = q := ⟨_, rfl⟩
  have HR : Aside0 ((p && !q) = r) := ⟨by rw [← hp, ← hq]; exact hr⟩
  have HP := Aside0.mk hp
  have HQ := Aside0.mk hq
  clear hr hp hq h
  go_enter Tryd.func34, Tryd.ntmps34
  cases p
  · go_wp2_with (go_at_call 35; refine (sprefix_any s nm false HP.out _ hs hn).mono ?_; rintro e w1 ⟨rfl, rfl⟩)
    go_ret
    exact ⟨by rw [← HR.out]; rfl, HB.out⟩
  · cases q
    all_goals
      go_wp2_with (first | (go_at_call 35; refine (sprefix_any s nm true HP.out _ hs hn).mono ?_; rintro e w1 ⟨rfl, rfl⟩) | (go_at_call 32; refine (has_any A before c s _ HQ.out _ HV.out.hC hl).mono ?_; rintro e w2 ⟨rfl, hb⟩; have HB2 := Aside0.mk (below_step HB.out hb); clear hb))
      go_ret
      exact ⟨by rw [← HR.out]; rfl, HB2.out⟩
set_option maxHeartbeats 1600000 in
theorem renIdx_any (B : Option Addr) (l : List File) (cl : Nat) (g7 g2 : Nat) (nm : ByteArray) (v : Value) (A : Option Addr) (before : List File) (c : Nat) (r : Bool) (hr : l.any (newB before nm) = r) (w : World) (h : RenEnv w g7 g2 nm v A before c) (hC : kFile.C w B l.length l) (hl : Mild before) (hm : Mild l) (hn : nm.size ≤ 1000000) :
    Calls Tryd.prog 54 #[.slice B l.length cl, .func (.func 34) #[] #[.pointer (some ⟨g7, 0, none⟩), .pointer (some ⟨g2, 0, none⟩)]] w fun e w' => (∃ i : Int, e = .returned (.int .i64 i) ∧ decide (0 ≤ i) = r) ∧ Below w.heap.size w w' := by
  have hmx := Kd.C_max hC
  have HR := Aside0.mk hr
  have HV := Aside0.mk h
  have HCC := Aside0.mk hC
  clear hr h hC
  go_enter Tryd.func54, Tryd.ntmps54
  go_wp2
  go_loopg [8, 5] l.length (fun gk i _ wr => ∃ k : Nat, k ≤ l.length ∧ Aside0 (gk = l.length - k) ∧ i = .int .i64 k ∧ Aside0 (∀ j, j < k → newB before nm (gt l j) = false) ∧ Aside0 (Below w.heap.size w wr))
  case atStart => exact ⟨0, Nat.zero_le _, ⟨rfl⟩, rfl, ⟨fun _ h => absurd h (by omega)⟩, ⟨Below.refl _ _⟩⟩
  case round =>
    obtain ⟨k, hk, HGK, rfl, HN, HB⟩ := hrel
    by_cases hlt : k < l.length
    · obtain ⟨ad, A1, c1, rfl, g0, g1, hc1, hd⟩ := file_at (Kd.C_below HCC.out HB.out) hlt
      obtain ⟨x, hx⟩ : ∃ x, x = gt l k := ⟨_, rfl⟩
      have hxs := (hm.2 k hlt).1
      rw [← hx] at g0 g1 hxs
      have HX := Aside0.mk hx
      have HLT := Aside0.mk hlt
      obtain ⟨b, hb⟩ : ∃ b, newB before nm x = b := ⟨_, rfl⟩
      have HBB := Aside0.mk hb
      clear hd hx hb
      cases b
      · go_wp2_with (go_at_call 34; refine (ren1_any x.name _ rfl g7 g2 nm v A before c false x.data HBB.out _ (HV.out.below HB.out) hl hxs hn).mono ?_; rintro e w1 ⟨rfl, hb⟩; have HB1 := Aside0.mk (below_step HB.out hb); clear hb)
        go_roundg (l.length - (k + 1))
        case measure => have := HGK.out; omega
        case rel => exact ⟨k + 1, by omega, ⟨rfl⟩, by go_num, ⟨fun j hj => if hq : j = k then by rw [hq, ← HX.out]; exact HBB.out else HN.out j (by omega)⟩, HB1⟩
      · go_wp2_with (go_at_call 34; refine (ren1_any x.name _ rfl g7 g2 nm v A before c true x.data HBB.out _ (HV.out.below HB.out) hl hxs hn).mono ?_; rintro e w1 ⟨rfl, hb⟩; have HB1 := Aside0.mk (below_step HB.out hb); clear hb)
        go_ret
        exact ⟨⟨_, rfl, by rw [← HR.out, any_take_last HLT.out (by rw [← HX.out]; exact HBB.out)]; simp⟩, HB1.out⟩
    · have HE : Aside0 (r = false) := ⟨by rw [← HR.out]; exact any_none (fun j hj => HN.out j (by omega))⟩
      go_wp2
      go_ret
      exact ⟨⟨-1, rfl, by rw [HE.out]; rfl⟩, HB.out⟩
theorem renAny_any (B : Option Addr) (l : List File) (cl : Nat) (g7 g2 : Nat) (nm : ByteArray) (v : Value) (A : Option Addr) (before : List File) (c : Nat) (r : Bool) (hr : l.any (newB before nm) = r) (w : World) (h : RenEnv w g7 g2 nm v A before c) (hC : kFile.C w B l.length l) (hl : Mild before) (hm : Mild l) (hn : nm.size ≤ 1000000) :
    Calls Tryd.prog 33 #[.slice B l.length cl, .func (.func 34) #[] #[.pointer (some ⟨g7, 0, none⟩), .pointer (some ⟨g2, 0, none⟩)]] w fun e w' => e = .returned (.bool r) ∧ Below w.heap.size w w' := by
  have HC := Aside0.mk (renIdx_any B l cl g7 g2 nm v A before c r hr w h hC hl hm hn)
  clear hr h hC
  go_enter Tryd.func33, Tryd.ntmps33
  go_wp2_with (go_at_call 54; refine HC.out.mono ?_; rintro e w1 ⟨⟨i, rfl, hi⟩, hb⟩; have HB := Aside0.mk hb; have HI := Aside0.mk hi; clear hb hi)
  go_ret
  exact ⟨ret_bool HI.out, HB.out⟩
set_option maxHeartbeats 3200000 in
theorem renames_any (A B : Option Addr) (before now : List File) (c1 c2 : Nat) (r : Nat) (hr : renN before now = r) (w : World) (h1 : kFile.C w A before.length before) (h2 : kFile.C w B now.length now) (hl : Mild before) (hm : Mild now) :
    Calls Tryd.prog 21 #[.slice A before.length c1, .slice B now.length c2] w fun e w' => e = .returned (.int .i64 (r : Int)) ∧ Below w.heap.size w w' := by
  have hmx := Kd.C_max h1
  have HR := Aside0.mk hr
  have H1 := Aside0.mk h1
  have H2 := Aside0.mk h2
  have HB0 := Aside0.mk (below_alloc (Below.refl w.heap.size w) (.cells #[.slice A before.length c1] 36))
  have HX0 := Aside0.mk (blk_new w (.cells #[.slice A before.length c1] 36))
  clear hr h1 h2
  go_enter Tryd.func21, Tryd.ntmps21
  go_wp2
  go_loopg [10, 5, 7] before.length (fun gk i v5 _ wr => ∃ k : Nat, k ≤ before.length ∧ Aside0 (gk = before.length - k) ∧ i = .int .i64 k ∧ (∃ n : Nat, v5 = .int .i64 n ∧ n ≤ k ∧ Aside0 (n = renTo before now k)) ∧ Aside0 (wr.heap[w.heap.size]? = some (.cells #[.slice A before.length c1] 36 (0, 0))) ∧ Aside0 (Below w.heap.size w wr))
  case atStart => exact ⟨0, Nat.zero_le _, ⟨rfl⟩, rfl, ⟨0, rfl, Nat.le_refl _, ⟨rfl⟩⟩, HX0, HB0⟩
  case round =>
    obtain ⟨k, hk, HGK, rfl, ⟨n, rfl, hnk, HN⟩, HX, HB⟩ := hrel
    by_cases hlt : k < before.length
    · obtain ⟨ad, A1, d1, rfl, g0, g1, hc1, hd⟩ := file_at (Kd.C_below H1.out HB.out) hlt
      obtain ⟨x, hx⟩ : ∃ x, x = gt before k := ⟨_, rfl⟩
      have hxs := (hl.2 k hlt).1
      rw [← hx] at g0 g1 hxs
      have HXX := Aside0.mk hx
      have HSTEP : Aside0 (renTo before now (k + 1) = renTo before now k + if (!hasB now x.name && now.any (newB before x.name)) then 1 else 0) := ⟨by rw [hx]; rfl⟩
      obtain ⟨p, hp⟩ : ∃ p, hasB now x.name = p := ⟨_, rfl⟩
      obtain ⟨q, hq⟩ : ∃ q, now.any (newB before x.name) = q := ⟨_, rfl⟩
      rw [hp, hq] at HSTEP
      have HP := Aside0.mk hp
      have HQ := Aside0.mk hq
      have HB2 := Aside0.mk (below_alloc HB.out (.cells #[.string x.name, .slice A1 x.data.length d1] 52))
      have HENV : Aside0 (RenEnv (wr.alloc (.cells #[.string x.name, .slice A1 x.data.length d1] 52)) wr.heap.size w.heap.size x.name (.slice A1 x.data.length d1) (some ad) before c1) := ⟨⟨blk_new wr _, blk_alloc HX.out _, Kd.C_below H1.out HB2.out⟩⟩
      have z0 := blk_cell HENV.out.h7 0
      simp only [List.getElem?_toArray, List.getElem?_cons_zero] at z0
      clear hd hx hp hq
      cases p
      · cases q
        · go_wp2_with (first | (go_at_call 32; refine (has_any B now c2 x.name false HP.out _ (Kd.C_below H2.out HB2.out) hm).mono ?_; rintro e w1 ⟨rfl, hb⟩; have HB3 := Aside0.mk (below_step HB2.out hb); have HX3 := Aside0.mk (blk_below (blk_alloc HX.out _) hb); have HENV3 := Aside0.mk (HENV.out.below hb); clear hb) | (go_at_call 33; refine (renAny_any B now c2 _ _ x.name _ (some ad) before c1 false HQ.out _ HENV3.out (Kd.C_below H2.out HB3.out) hl hm hxs).mono ?_; rintro e w2 ⟨rfl, hb⟩; have HB4 := Aside0.mk (below_step HB3.out hb); have HX4 := Aside0.mk (blk_below HX3.out hb); clear hb))
          go_roundg (before.length - (k + 1))
          case measure => have := HGK.out; omega
          case rel => exact ⟨k + 1, by omega, ⟨rfl⟩, by go_num, ⟨n, rfl, by omega, ⟨by rw [HSTEP.out, ← HN.out]; rfl⟩⟩, HX4, HB4⟩
        · go_wp2_with (first | (go_at_call 32; refine (has_any B now c2 x.name false HP.out _ (Kd.C_below H2.out HB2.out) hm).mono ?_; rintro e w1 ⟨rfl, hb⟩; have HB3 := Aside0.mk (below_step HB2.out hb); have HX3 := Aside0.mk (blk_below (blk_alloc HX.out _) hb); have HENV3 := Aside0.mk (HENV.out.below hb); clear hb) | (go_at_call 33; refine (renAny_any B now c2 _ _ x.name _ (some ad) before c1 true HQ.out _ HENV3.out (Kd.C_below H2.out HB3.out) hl hm hxs).mono ?_; rintro e w2 ⟨rfl, hb⟩; have HB4 := Aside0.mk (below_step HB3.out hb); have HX4 := Aside0.mk (blk_below HX3.out hb); clear hb))
          go_roundg (before.length - (k + 1))
          case measure => have := HGK.out; omega
          case rel => exact ⟨k + 1, by omega, ⟨rfl⟩, by go_num, ⟨n + 1, by go_num, by omega, ⟨by rw [HSTEP.out, ← HN.out]; rfl⟩⟩, HX4, HB4⟩
      · go_wp2_with (go_at_call 32; refine (has_any B now c2 x.name true HP.out _ (Kd.C_below H2.out HB2.out) hm).mono ?_; rintro e w1 ⟨rfl, hb⟩; have HB3 := Aside0.mk (below_step HB2.out hb); have HX3 := Aside0.mk (blk_below (blk_alloc HX.out _) hb); clear hb)
        go_roundg (before.length - (k + 1))
        case measure => have := HGK.out; omega
        case rel => exact ⟨k + 1, by omega, ⟨rfl⟩, by go_num, ⟨n, rfl, by omega, ⟨by rw [HSTEP.out, ← HN.out]; rfl⟩⟩, HX3, HB3⟩
    · have HE : Aside0 (n = r) := ⟨by rw [HN.out, ← HR.out, show k = before.length by omega]; rfl⟩
      go_wp2
      go_ret
      exact ⟨by rw [HE.out]; rfl, HB.out⟩
end Go.Proofs.YtoglbbonfjnmpaaDoor
