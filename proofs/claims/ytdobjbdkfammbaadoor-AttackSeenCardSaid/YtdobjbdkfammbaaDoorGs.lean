/-
  Chapter 51: bytes in another order, turned into others, twice: how many different ones there are. Plain.
-/
import Derived.Test.YtdobjbdkfammbaaDoorGr
/-
  Chapter 51: how many files were renamed: both sides.
-/
namespace Go.Proofs.YtdobjbdkfammbaaDoor
open Go.RowKit Go.Proofs.YtdobjbdkfammbaaDoorW.PrintWords Go.Proofs.YtdobjbdkfammbaaDoorW.PrintLast Go.Proofs.YtdobjbdkfammbaaDoorW.PrintMore
set_option linter.unusedVariables false
set_option linter.unusedSimpArgs false

/-- Does a string begin with another? -/
def pfxB (s p : ByteArray) : Bool := decide (p.size ≤ s.size ∧ s.extract 0 p.size = p)
def hasB (l : List File) (nm : ByteArray) : Bool := decide (0 ≤ idxOf l nm)
theorem has_look (l : List File) (nm : ByteArray) : hasB l nm = (look49 l nm).isSome := by
  unfold hasB
  rcases idx_cases l nm with ⟨h1, h2⟩ | ⟨k, _, h1, h2⟩
  · rw [h1, h2]; rfl
  · rw [h1, h2]; simp
set_option maxHeartbeats 800000 in
theorem spre_any (s p : ByteArray) (r : Bool) (hr : pfxB s p = r) (w : World) (hs : s.size ≤ 1000000) (hp : p.size ≤ 1000000) :
    Calls Tryd.prog 86 #[.string s, .string p] w fun e w' => e = .returned (.bool r) ∧ w = w' := by
  by_cases hle : p.size ≤ s.size
  · have HR : Aside0 (decide (s.extract 0 p.size = p) = r) := ⟨by rw [← hr]; unfold pfxB; exact decide_eq_decide.mpr ⟨fun h => ⟨hle, h⟩, fun h => h.2⟩⟩
    have hle' : (p.size : Int) ≤ (s.size : Int) := by omega
    clear hr
    go_enter Tryd.func86, Tryd.ntmps86
    go_wp2
    go_ret
    exact ⟨ret_bool (by rw [str_eql]; exact HR.out), rfl⟩
  · have HR : Aside0 (r = false) := ⟨by rw [← hr]; unfold pfxB; exact decide_eq_false (fun h => hle h.1)⟩
    have hle' : ¬ (p.size : Int) ≤ (s.size : Int) := by omega
    clear hr
    go_enter Tryd.func86, Tryd.ntmps86
    go_wp2
    go_ret
    exact ⟨by rw [HR.out]; rfl, rfl⟩
theorem sprefix_any (s p : ByteArray) (r : Bool) (hr : pfxB s p = r) (w : World) (hs : s.size ≤ 1000000) (hp : p.size ≤ 1000000) :
    Calls Tryd.prog 75 #[.string s, .string p] w fun e w' => e = .returned (.bool r) ∧ w = w' := by
  go_enter Tryd.func75, Tryd.ntmps75
  go_wp2_with (go_at_call 86; refine (spre_any s p r hr w hs hp).mono ?_; rintro e w1 ⟨rfl, rfl⟩)
  go_ret
  exact ⟨rfl, rfl⟩
/-- Files of which names and data are no longer than are looked at. -/
def Mild (l : List File) : Prop := l.length ≤ 1000000 ∧ ∀ k, k < l.length → (gt l k).name.size ≤ 1000000 ∧ (gt l k).data.length ≤ 1000000
theorem Mild.data {l : List File} (h : Mild l) : ∀ k, k < l.length → (gt l k).data.length ≤ 140737488355328 := fun k hk => by have := (h.2 k hk).2; omega
set_option maxHeartbeats 800000 in
theorem has_any (A : Option Addr) (l : List File) (c : Nat) (nm : ByteArray) (r : Bool) (hr : hasB l nm = r) (w : World) (h : kFile.C w A l.length l) (hl : Mild l) :
    Calls Tryd.prog 72 #[.slice A l.length c, .string nm] w fun e w' => e = .returned (.bool r) ∧ Below w.heap.size w w' := by
  have HR : Aside0 ((look49 l nm).isSome = r) := ⟨by rw [← hr, has_look]⟩
  have HC := Aside0.mk (find_any A l c nm w h hl.data)
  clear hr h
  go_enter Tryd.func72, Tryd.ntmps72
  cases r
  · have HN : Aside0 (look49 l nm = none) := ⟨by have := HR.out; simpa using this⟩
    go_wp2_with (go_at_call 48; refine HC.out.mono ?_; unfold FindPost; rintro e w1 hpost; rcases hpost with ⟨_, rfl, hb⟩ | ⟨x, v, hx, _⟩; rotate_left; (exact absurd (hx.symm.trans HN.out) (by simp)); have HB := Aside0.mk hb; clear hb)
    go_ret
    exact ⟨rfl, below_alloc HB.out _⟩
  · have HN : Aside0 (look49 l nm ≠ none) := ⟨fun hc => by have := HR.out; rw [hc] at this; cases this⟩
    go_wp2_with (go_at_call 48; refine HC.out.mono ?_; unfold FindPost; rintro e w1 hpost; rcases hpost with ⟨hx, _⟩ | ⟨x, v, hx, rfl, ho, hb⟩; (exact absurd hx HN.out); obtain ⟨Av, cv, rfl⟩ := Kd.R_slice ho; have HB := Aside0.mk hb; clear hb ho)
    go_ret
    exact ⟨rfl, below_alloc HB.out _⟩
/-- Is this one the new name of an old one? -/
def newB (before : List File) (nm : ByteArray) (g : File) : Bool := pfxB g.name nm && !hasB before g.name
def renOne (before now : List File) (f : File) : Bool := !hasB now f.name && now.any (newB before f.name)
def renTo (before now : List File) : Nat → Nat
  | 0 => 0
  | k + 1 => renTo before now k + if renOne before now (gt before k) then 1 else 0
def renN (before now : List File) : Nat := renTo before now before.length
theorem renTo_le (before now : List File) (k : Nat) : renTo before now k ≤ k := by
  induction k with
  | zero => simp [renTo]
  | succ k ih => unfold renTo; split <;> omega
theorem any_take_last {p : File → Bool} {l : List File} {k : Nat} (hk : k < l.length) (h : p (gt l k) = true) : l.any p = true := by
  rw [List.any_eq_true]
  exact ⟨gt l k, by rw [gt_eq l k hk]; exact List.getElem_mem hk, h⟩
theorem any_none {p : File → Bool} {l : List File} (h : ∀ j, j < l.length → p (gt l j) = false) : l.any p = false := by
  rw [List.any_eq_false]
  intro x hx
  obtain ⟨j, hj, rfl⟩ := List.getElem_of_mem hx
  have := h j hj
  rw [gt_eq l j hj] at this
  simp [this]
/-- What the closure of Renames holds: a file's name, and the files before. -/
structure RenEnv (w : World) (g7 g2 : Nat) (nm : ByteArray) (v : Value) (A : Option Addr) (before : List File) (c : Nat) : Prop where
  h7 : w.heap[g7]? = some (.cells #[.string nm, v] 56 (0, 0))
  h2 : w.heap[g2]? = some (.cells #[.slice A before.length c] 43 (0, 0))
  hC : kFile.C w A before.length before
theorem RenEnv.below {w w1 : World} {g7 g2 : Nat} {nm : ByteArray} {v : Value} {A : Option Addr} {before : List File} {c : Nat} (h : RenEnv w g7 g2 nm v A before c) (hb : Below w.heap.size w w1) : RenEnv w1 g7 g2 nm v A before c :=
  ⟨blk_below h.h7 hb, blk_below h.h2 hb, Kd.C_below h.hC hb⟩
set_option maxHeartbeats 1600000 in
theorem ren1_any (s : ByteArray) (u : Value) (hu : u.oneCell' = true) (g7 g2 : Nat) (nm : ByteArray) (v : Value) (A : Option Addr) (before : List File) (c : Nat) (r : Bool) (D : List UInt8) (hr : newB before nm ⟨s, D⟩ = r) (w : World) (h : RenEnv w g7 g2 nm v A before c) (hl : Mild before) (hs : s.size ≤ 1000000) (hn : nm.size ≤ 1000000) :
    Calls Tryd.prog 74 #[.agg #[.string s, u], .pointer (some ⟨g7, 0, none⟩), .pointer (some ⟨g2, 0, none⟩)] w fun e w' => e = .returned (.bool r) ∧ Below w.heap.size w w' := by
  have HB := Aside0.mk (below_alloc (Below.refl w.heap.size w) (.cells #[.string s, u] 56))
  have HV := Aside0.mk (h.below HB.out)
  have z0 := blk_cell (blk_new w (.cells #[.string s, u] 56)) 0
  have z7 := blk_cell HV.out.h7 0
  have z2 := blk_cell HV.out.h2 0
  simp only [List.getElem?_toArray, List.getElem?_cons_zero] at z0 z7 z2
  obtain ⟨p, hp⟩ : ∃ p, pfxB s nm = p := ⟨_, rfl⟩
  obtain ⟨q, hq⟩ : ∃ q, hasB before s = q := ⟨_, rfl⟩
  have HR : Aside0 ((p && !q) = r) := ⟨by rw [← hp, ← hq]; exact hr⟩
  have HP := Aside0.mk hp
  have HQ := Aside0.mk hq
  clear hr hp hq h
  go_enter Tryd.func74, Tryd.ntmps74
  cases p
  · go_wp2_with (go_at_call 75; refine (sprefix_any s nm false HP.out _ hs hn).mono ?_; rintro e w1 ⟨rfl, rfl⟩)
    go_ret
    exact ⟨by rw [← HR.out]; rfl, HB.out⟩
  · cases q
    all_goals
      go_wp2_with (first | (go_at_call 75; refine (sprefix_any s nm true HP.out _ hs hn).mono ?_; rintro e w1 ⟨rfl, rfl⟩) | (go_at_call 72; refine (has_any A before c s _ HQ.out _ HV.out.hC hl).mono ?_; rintro e w2 ⟨rfl, hb⟩; have HB2 := Aside0.mk (below_step HB.out hb); clear hb))
      go_ret
      exact ⟨by rw [← HR.out]; rfl, HB2.out⟩
set_option maxHeartbeats 1600000 in
theorem renIdx_any (B : Option Addr) (l : List File) (cl : Nat) (g7 g2 : Nat) (nm : ByteArray) (v : Value) (A : Option Addr) (before : List File) (c : Nat) (r : Bool) (hr : l.any (newB before nm) = r) (w : World) (h : RenEnv w g7 g2 nm v A before c) (hC : kFile.C w B l.length l) (hl : Mild before) (hm : Mild l) (hn : nm.size ≤ 1000000) :
    Calls Tryd.prog 68 #[.slice B l.length cl, .func (.func 74) #[] #[.pointer (some ⟨g7, 0, none⟩), .pointer (some ⟨g2, 0, none⟩)]] w fun e w' => (∃ i : Int, e = .returned (.int .i64 i) ∧ decide (0 ≤ i) = r) ∧ Below w.heap.size w w' := by
  have hmx := Kd.C_max hC
  have HR := Aside0.mk hr
  have HV := Aside0.mk h
  have HCC := Aside0.mk hC
  clear hr h hC
  go_enter Tryd.func68, Tryd.ntmps68
  go_wp2
  go_loopg [8, 5] l.length (fun gk i _ wr => ∃ k : Nat, k ≤ l.length ∧ Aside0 (gk = l.length - k) ∧ i = .int .i64 k ∧ Aside0 (∀ j, j < k → newB before nm (gt l j) = false) ∧ Aside0 (Below w.heap.size w wr))
  case atStart => exact ⟨0, Nat.zero_le _, ⟨rfl⟩, rfl, ⟨fun _ h => absurd h (by omega)⟩, ⟨Below.refl _ _⟩⟩
  case round =>
    obtain ⟨k, hk, HGK, rfl, HN, HB⟩ := hrel
    by_cases hlt : k < l.length
    · obtain ⟨ad, A1, c1, rfl, g0, g1, hc1, hd⟩ := file_at (Kd.C_below HCC.out HB.out) hlt
      obtain ⟨x, hx⟩ : ∃ x, x = gt l k := ⟨_, rfl⟩
      have hxs := (hm.2 k hlt).1
      rw [← hx] at g0 g1 hxs
      have HX := Aside0.mk hx
      have HLT := Aside0.mk hlt
      obtain ⟨b, hb⟩ : ∃ b, newB before nm x = b := ⟨_, rfl⟩
      have HBB := Aside0.mk hb
      clear hd hx hb
      cases b
      · go_wp2_with (go_at_call 74; refine (ren1_any x.name _ rfl g7 g2 nm v A before c false x.data HBB.out _ (HV.out.below HB.out) hl hxs hn).mono ?_; rintro e w1 ⟨rfl, hb⟩; have HB1 := Aside0.mk (below_step HB.out hb); clear hb)
        go_roundg (l.length - (k + 1))
        case measure => have := HGK.out; omega
        case rel => exact ⟨k + 1, by omega, ⟨rfl⟩, by go_num, ⟨fun j hj => if hq : j = k then by rw [hq, ← HX.out]; exact HBB.out else HN.out j (by omega)⟩, HB1⟩
      · go_wp2_with (go_at_call 74; refine (ren1_any x.name _ rfl g7 g2 nm v A before c true x.data HBB.out _ (HV.out.below HB.out) hl hxs hn).mono ?_; rintro e w1 ⟨rfl, hb⟩; have HB1 := Aside0.mk (below_step HB.out hb); clear hb)
        go_ret
        exact ⟨⟨_, rfl, by rw [← HR.out, any_take_last HLT.out (by rw [← HX.out]; exact HBB.out)]; simp⟩, HB1.out⟩
    · have HE : Aside0 (r = false) := ⟨by rw [← HR.out]; exact any_none (fun j hj => HN.out j (by omega))⟩
      go_wp2
      go_ret
      exact ⟨⟨-1, rfl, by rw [HE.out]; rfl⟩, HB.out⟩
theorem renAny_any (B : Option Addr) (l : List File) (cl : Nat) (g7 g2 : Nat) (nm : ByteArray) (v : Value) (A : Option Addr) (before : List File) (c : Nat) (r : Bool) (hr : l.any (newB before nm) = r) (w : World) (h : RenEnv w g7 g2 nm v A before c) (hC : kFile.C w B l.length l) (hl : Mild before) (hm : Mild l) (hn : nm.size ≤ 1000000) :
    Calls Tryd.prog 73 #[.slice B l.length cl, .func (.func 74) #[] #[.pointer (some ⟨g7, 0, none⟩), .pointer (some ⟨g2, 0, none⟩)]] w fun e w' => e = .returned (.bool r) ∧ Below w.heap.size w w' := by
  have HC := Aside0.mk (renIdx_any B l cl g7 g2 nm v A before c r hr w h hC hl hm hn)
  clear hr h hC
  go_enter Tryd.func73, Tryd.ntmps73
  go_wp2_with (go_at_call 68; refine HC.out.mono ?_; rintro e w1 ⟨⟨i, rfl, hi⟩, hb⟩; have HB := Aside0.mk hb; have HI := Aside0.mk hi; clear hb hi)
  go_ret
  exact ⟨ret_bool HI.out, HB.out⟩
set_option maxHeartbeats 3200000 in
theorem renames_any (A B : Option Addr) (before now : List File) (c1 c2 : Nat) (r : Nat) (hr : renN before now = r) (w : World) (h1 : kFile.C w A before.length before) (h2 : kFile.C w B now.length now) (hl : Mild before) (hm : Mild now) :
    Calls Tryd.prog 53 #[.slice A before.length c1, .slice B now.length c2] w fun e w' => e = .returned (.int .i64 (r : Int)) ∧ Below w.heap.size w w' := by
  have hmx := Kd.C_max h1
  have HR := Aside0.mk hr
  have H1 := Aside0.mk h1
  have H2 := Aside0.mk h2
  have HB0 := Aside0.mk (below_alloc (Below.refl w.heap.size w) (.cells #[.slice A before.length c1] 43))
  have HX0 := Aside0.mk (blk_new w (.cells #[.slice A before.length c1] 43))
  clear hr h1 h2
  go_enter Tryd.func53, Tryd.ntmps53
  go_wp2
  go_loopg [10, 5, 7] before.length (fun gk i v5 _ wr => ∃ k : Nat, k ≤ before.length ∧ Aside0 (gk = before.length - k) ∧ i = .int .i64 k ∧ (∃ n : Nat, v5 = .int .i64 n ∧ n ≤ k ∧ Aside0 (n = renTo before now k)) ∧ Aside0 (wr.heap[w.heap.size]? = some (.cells #[.slice A before.length c1] 43 (0, 0))) ∧ Aside0 (Below w.heap.size w wr))
  case atStart => exact ⟨0, Nat.zero_le _, ⟨rfl⟩, rfl, ⟨0, rfl, Nat.le_refl _, ⟨rfl⟩⟩, HX0, HB0⟩
  case round =>
    obtain ⟨k, hk, HGK, rfl, ⟨n, rfl, hnk, HN⟩, HX, HB⟩ := hrel
    by_cases hlt : k < before.length
    · obtain ⟨ad, A1, d1, rfl, g0, g1, hc1, hd⟩ := file_at (Kd.C_below H1.out HB.out) hlt
      obtain ⟨x, hx⟩ : ∃ x, x = gt before k := ⟨_, rfl⟩
      have hxs := (hl.2 k hlt).1
      rw [← hx] at g0 g1 hxs
      have HXX := Aside0.mk hx
      have HSTEP : Aside0 (renTo before now (k + 1) = renTo before now k + if (!hasB now x.name && now.any (newB before x.name)) then 1 else 0) := ⟨by rw [hx]; rfl⟩
      obtain ⟨p, hp⟩ : ∃ p, hasB now x.name = p := ⟨_, rfl⟩
      obtain ⟨q, hq⟩ : ∃ q, now.any (newB before x.name) = q := ⟨_, rfl⟩
      rw [hp, hq] at HSTEP
      have HP := Aside0.mk hp
      have HQ := Aside0.mk hq
      have HB2 := Aside0.mk (below_alloc HB.out (.cells #[.string x.name, .slice A1 x.data.length d1] 56))
      have HENV : Aside0 (RenEnv (wr.alloc (.cells #[.string x.name, .slice A1 x.data.length d1] 56)) wr.heap.size w.heap.size x.name (.slice A1 x.data.length d1) (some ad) before c1) := ⟨⟨blk_new wr _, blk_alloc HX.out _, Kd.C_below H1.out HB2.out⟩⟩
      have z0 := blk_cell HENV.out.h7 0
      simp only [List.getElem?_toArray, List.getElem?_cons_zero] at z0
      clear hd hx hp hq
      cases p
      · cases q
        · go_wp2_with (first | (go_at_call 72; refine (has_any B now c2 x.name false HP.out _ (Kd.C_below H2.out HB2.out) hm).mono ?_; rintro e w1 ⟨rfl, hb⟩; have HB3 := Aside0.mk (below_step HB2.out hb); have HX3 := Aside0.mk (blk_below (blk_alloc HX.out _) hb); have HENV3 := Aside0.mk (HENV.out.below hb); clear hb) | (go_at_call 73; refine (renAny_any B now c2 _ _ x.name _ (some ad) before c1 false HQ.out _ HENV3.out (Kd.C_below H2.out HB3.out) hl hm hxs).mono ?_; rintro e w2 ⟨rfl, hb⟩; have HB4 := Aside0.mk (below_step HB3.out hb); have HX4 := Aside0.mk (blk_below HX3.out hb); clear hb))
          go_roundg (before.length - (k + 1))
          case measure => have := HGK.out; omega
          case rel => exact ⟨k + 1, by omega, ⟨rfl⟩, by go_num, ⟨n, rfl, by omega, ⟨by rw [HSTEP.out, ← HN.out]; rfl⟩⟩, HX4, HB4⟩
        · go_wp2_with (first | (go_at_call 72; refine (has_any B now c2 x.name false HP.out _ (Kd.C_below H2.out HB2.out) hm).mono ?_; rintro e w1 ⟨rfl, hb⟩; have HB3 := Aside0.mk (below_step HB2.out hb); have HX3 := Aside0.mk (blk_below (blk_alloc HX.out _) hb); have HENV3 := Aside0.mk (HENV.out.below hb); clear hb) | (go_at_call 73; refine (renAny_any B now c2 _ _ x.name _ (some ad) before c1 true HQ.out _ HENV3.out (Kd.C_below H2.out HB3.out) hl hm hxs).mono ?_; rintro e w2 ⟨rfl, hb⟩; have HB4 := Aside0.mk (below_step HB3.out hb); have HX4 := Aside0.mk (blk_below HX3.out hb); clear hb))
          go_roundg (before.length - (k + 1))
          case measure => have := HGK.out; omega
          case rel => exact ⟨k + 1, by omega, ⟨rfl⟩, by go_num, ⟨n + 1, by go_num, by omega, ⟨by rw [HSTEP.out, ← HN.out]; rfl⟩⟩, HX4, HB4⟩
      · go_wp2_with (go_at_call 72; refine (has_any B now c2 x.name true HP.out _ (Kd.C_below H2.out HB2.out) hm).mono ?_; rintro e w1 ⟨rfl, hb⟩; have HB3 := Aside0.mk (below_step HB2.out hb); have HX3 := Aside0.mk (blk_below (blk_alloc HX.out _) hb); clear hb)
        go_roundg (before.length - (k + 1))
        case measure => have := HGK.out; omega
        case rel => exact ⟨k + 1, by omega, ⟨rfl⟩, by go_num, ⟨n, rfl, by omega, ⟨by rw [HSTEP.out, ← HN.out]; rfl⟩⟩, HX3, HB3⟩
    · have HE : Aside0 (n = r) := ⟨by rw [HN.out, ← HR.out, show k = before.length by omega]; rfl⟩
      go_wp2
      go_ret
      exact ⟨by rw [HE.out]; rfl, HB.out⟩
end Go.Proofs.YtdobjbdkfammbaaDoor
/-
  Chapter 51, the document's side: find, Renames.
-/
namespace Go.Proofs.YtdobjbdkfammbaaDoor
open Go.RowKit Go.Proofs.YtdobjbdkfammbaaDoorW.PrintWords Go.Proofs.YtdobjbdkfammbaaDoorW.PrintLast Go.Proofs.YtdobjbdkfammbaaDoorW.PrintMore
set_option linter.unusedVariables false
set_option linter.unusedSimpArgs false

end Go.Proofs.YtdobjbdkfammbaaDoor
/-
  Chapter 51: Look, half, Bad: the program's side.
-/
namespace Go.Proofs.YtdobjbdkfammbaaDoor
open Go.RowKit Go.Proofs.YtdobjbdkfammbaaDoorW.PrintWords Go.Proofs.YtdobjbdkfammbaaDoorW.PrintLast Go.Proofs.YtdobjbdkfammbaaDoorW.PrintMore
set_option linter.unusedVariables false
set_option linter.unusedSimpArgs false

/-- What was seen up to a file of now: broken, wild ones, tame ones. -/
structure Lk where
  brk : Bool
  wild : Nat
  tame : Nat
def lkWith (a : Lk) (f g : File) : Lk := ⟨a.brk || (decide (stateB g = 2) && decide (stateB f = 1)), a.wild + (if wildB f.data then 0 else if wildB g.data then 1 else 0), a.tame + (if wildB f.data then 0 else 1)⟩
def lkStep (before : List File) (a : Lk) (g : File) : Lk := match look49 before g.name with | none => a | some f => lkWith a f g
def lkTo (before now : List File) (right : Bool) (k : Nat) : Lk := (now.take k).foldl (lkStep before) ⟨!right, 0, 0⟩
theorem lk_succ (before now : List File) (right : Bool) (k : Nat) (hk : k < now.length) : lkTo before now right (k + 1) = lkStep before (lkTo before now right k) (gt now k) := by
  unfold lkTo
  rw [List.take_add_one, gt_some now k hk, List.foldl_append]
  rfl
def halfB (so of least : Nat) : Bool := decide (least ≤ so) && decide (of ≤ 2 * so)
/-- The three signs. -/
structure Sg where
  a : Bool
  b : Bool
  c : Bool
  deriving DecidableEq
def lookB (before now : List File) (right : Bool) : Sg :=
  let a := lkTo before now right now.length
  ⟨a.brk, halfB a.wild a.tame 1, halfB (renN before now) before.length 2⟩
def badB (s : Sg) : Bool := s.a || s.b || s.c
def sgV (s : Sg) : Value := .agg #[.bool s.a, .bool s.b, .bool s.c]
theorem lk_le (before now : List File) (right : Bool) (k : Nat) : (lkTo before now right k).wild ≤ k ∧ (lkTo before now right k).tame ≤ k := by
  induction k with
  | zero => exact ⟨Nat.le_refl _, Nat.le_refl _⟩
  | succ k ih =>
    by_cases hk : k < now.length
    · rw [lk_succ _ _ _ _ hk]
      unfold lkStep
      split
      · omega
      · unfold lkWith
        constructor
        · show _ + _ ≤ _; split <;> (try split) <;> omega
        · show _ + _ ≤ _; split <;> omega
    · have : lkTo before now right (k + 1) = lkTo before now right k := by unfold lkTo; rw [List.take_of_length_le (by omega), List.take_of_length_le (by omega)]
      rw [this]; omega
theorem half_any (so of least : Nat) (r : Bool) (hr : halfB so of least = r) (w : World) (h1 : so ≤ 1000000) :
    Calls Tryd.prog 52 #[.int .i64 (so : Int), .int .i64 (of : Int), .int .i64 (least : Int)] w fun e w' => e = .returned (.bool r) ∧ w = w' := by
  by_cases hle : least ≤ so
  · have HR : Aside0 (decide (of ≤ 2 * so) = r) := ⟨by rw [← hr]; unfold halfB; rw [decide_eq_true hle]; rfl⟩
    have hle' : (least : Int) ≤ (so : Int) := by omega
    clear hr
    go_enter Tryd.func52, Tryd.ntmps52
    go_wp2
    go_ret
    exact ⟨ret_bool (by rw [← HR.out]; exact decide_eq_decide.mpr (by omega)), rfl⟩
  · have HR : Aside0 (r = false) := ⟨by rw [← hr]; unfold halfB; rw [decide_eq_false hle]; rfl⟩
    have hle' : ¬ (least : Int) ≤ (so : Int) := by omega
    clear hr
    go_enter Tryd.func52, Tryd.ntmps52
    go_wp2
    go_ret
    exact ⟨by rw [HR.out]; rfl, rfl⟩
theorem bad_any (a b c : Bool) (r : Bool) (hr : (a || b || c) = r) (w : World) :
    Calls Tryd.prog 29 #[.agg #[.bool a, .bool b, .bool c]] w fun e w' => e = .returned (.bool r) ∧ Below w.heap.size w w' := by
  subst hr
  have HB := Aside0.mk (below_alloc (Below.refl w.heap.size w) (.cells #[.bool a, .bool b, .bool c] 68))
  cases a <;> cases b <;> cases c
  all_goals
    go_enter Tryd.func29, Tryd.ntmps29
    go_wp2
    go_ret
    exact ⟨rfl, HB.out⟩
/-- Look's own boxes: its result, its signs so far. -/
structure LkBox (w wr : World) (b : Bool) : Prop where
  out : Below w.heap.size w wr
  res : wr.heap[w.heap.size]? = some (.cells #[.bool false, .bool false, .bool false] 68 (0, 0))
  box : wr.heap[w.heap.size + 1]? = some (.cells #[.bool b, .bool false, .bool false] 68 (0, 0))
theorem LkBox.below {w w1 w2 : World} {b : Bool} (h : LkBox w w1 b) (hb : Below w1.heap.size w1 w2) : LkBox w w2 b := ⟨below_step h.out hb, blk_below h.res hb, blk_below h.box hb⟩
theorem LkBox.alloc {w w1 : World} {b : Bool} (h : LkBox w w1 b) (o : Obj) : LkBox w (w1.alloc o) b := ⟨below_alloc h.out _, blk_alloc h.res _, blk_alloc h.box _⟩
/-- .. with the boxes of a file of now and of its former self. -/
structure LkIn (w W : World) (b : Bool) (gb fb : Nat) (sg : ByteArray) (Ag : Option Addr) (ng cg : Nat) (sf : ByteArray) (Af : Option Addr) (xs : List UInt8) (cf : Nat) : Prop where
  box : LkBox w W b
  g : W.heap[gb]? = some (.cells #[.string sg, .slice Ag ng cg] 56 (0, 0))
  f : W.heap[fb]? = some (.cells #[.string sf, .slice Af xs.length cf] 56 (0, 0))
  d : byte.R 5 W w.heap.size (fun _ => True) (.slice Af xs.length cf) xs
section
variable {w W : World} {b : Bool} {gb fb : Nat} {sg : ByteArray} {Ag : Option Addr} {ng cg : Nat} {sf : ByteArray} {Af : Option Addr} {xs : List UInt8} {cf : Nat}
theorem LkIn.below {W' : World} (h : LkIn w W b gb fb sg Ag ng cg sf Af xs cf) (hb : Below W.heap.size W W') : LkIn w W' b gb fb sg Ag ng cg sf Af xs cf :=
  ⟨h.box.below hb, blk_below h.g hb, blk_below h.f hb, Kd.R_below h.d hb⟩
theorem LkIn.ne (h : LkIn w W b gb fb sg Ag ng cg sf Af xs cf) : gb ≠ w.heap.size + 1 ∧ fb ≠ w.heap.size + 1 := ⟨blk_ne h.g h.box.box (by decide), blk_ne h.f h.box.box (by decide)⟩
theorem LkIn.set (h : LkIn w W b gb fb sg Ag ng cg sf Af xs cf) (b' : Bool) : LkIn w (W.setCell ⟨w.heap.size + 1, 0, none⟩ (.bool b')) b' gb fb sg Ag ng cg sf Af xs cf := by
  refine ⟨⟨h.box.out.setCell (Nat.le_succ _) _, blk_far h.box.res (by show w.heap.size ≠ w.heap.size + 1; omega) _, ?_⟩, blk_far h.g h.ne.1 _, blk_far h.f h.ne.2 _, Kd.R_set h.d h.box.box ?_ 0 _⟩
  · have := blk_set h.box.box 0 (.bool b')
    simpa using this
  · intro q hq; simp [byte, Kd.scalar] at hq; subst hq; decide
theorem LkIn.cells (h : LkIn w W b gb fb sg Ag ng cg sf Af xs cf) : W.cell? ⟨w.heap.size + 1, 0, none⟩ = some (.bool b) ∧ W.frozen? ⟨w.heap.size + 1, 0, none⟩ = false ∧ W.cell? ⟨gb, 0, none⟩ = some (.string sg) ∧ W.cell? ⟨gb, 1, none⟩ = some (.slice Ag ng cg) ∧ W.cell? ⟨fb, 0, none⟩ = some (.string sf) ∧ W.cell? ⟨fb, 1, none⟩ = some (.slice Af xs.length cf) :=
  ⟨blk_cell h.box.box 0, blk_frozen h.box.box 0, blk_cell h.g 0, blk_cell h.g 1, blk_cell h.f 0, blk_cell h.f 1⟩
theorem LkIn.after (h : LkIn w W b gb fb sg Ag ng cg sf Af xs cf) (b' : Bool) : (W.setCell ⟨w.heap.size + 1, 0, none⟩ (.bool b')).cell? ⟨gb, 1, none⟩ = some (.slice Ag ng cg) ∧ (W.setCell ⟨w.heap.size + 1, 0, none⟩ (.bool b')).cell? ⟨fb, 1, none⟩ = some (.slice Af xs.length cf) :=
  ⟨(h.set b').cells.2.2.2.1, (h.set b').cells.2.2.2.2.2⟩
theorem LkIn.C (h : LkIn w W b gb fb sg Ag ng cg sf Af xs cf) : xs.length ≤ cf ∧ byte.C W Af xs.length xs := (Kd.R_reads' h.d).2
end
theorem sound_as (s : ByteArray) (A : Option Addr) (xs : List UInt8) (n : Nat) (hn : n = xs.length) (c : Nat) (r : Bool) (hst : decide (stateB ⟨s, xs⟩ = 1) = r) (w : World) (hs : s.size ≤ 1000000) (h : byte.C w A n xs) (hc : n ≤ c) (he : EndAt w) (hq : NumAt w) :
    Calls Tryd.prog 50 #[.agg #[.string s, .slice A n c]] w fun e w' => e = .returned (.bool r) ∧ Below w.heap.size w w' := by
  subst hst hn
  exact sound_any s A xs c _ rfl w hs h hc he hq
theorem broken_as (s : ByteArray) (A : Option Addr) (xs : List UInt8) (n : Nat) (hn : n = xs.length) (c : Nat) (r : Bool) (hst : decide (stateB ⟨s, xs⟩ = 2) = r) (w : World) (hs : s.size ≤ 1000000) (h : byte.C w A n xs) (hc : n ≤ c) (he : EndAt w) (hq : NumAt w) :
    Calls Tryd.prog 49 #[.agg #[.string s, .slice A n c]] w fun e w' => e = .returned (.bool r) ∧ Below w.heap.size w w' := by
  subst hst hn
  exact broken_any s A xs c _ rfl w hs h hc he hq
theorem wild_as (A : Option Addr) (xs : List UInt8) (n : Nat) (hn : n = xs.length) (c : Nat) (r : Bool) (hr : wildB xs = r) (w : World) (h : byte.C w A n xs) (hl : n ≤ 1000000) :
    Calls Tryd.prog 51 #[.slice A n c] w fun e w' => e = .returned (.bool r) ∧ Below w.heap.size w w' := by
  subst hn
  exact wild_any A xs c r hr w h hl
theorem name_of_look {l : List File} {nm : ByteArray} {x : File} (h : look49 l nm = some x) : x = ⟨nm, x.data⟩ := by
  unfold look49 at h
  have := List.find?_some h
  rw [str_eql] at this
  have := of_decide_eq_true this
  cases x
  simp at this
  subst this
  rfl
theorem look_mem {l : List File} {nm : ByteArray} {x : File} (h : look49 l nm = some x) : ∃ k, k < l.length ∧ x = gt l k := by
  rcases idx_cases l nm with ⟨_, h2⟩ | ⟨k, hk, _, h2⟩
  · rw [h] at h2; cases h2
  · rw [h] at h2; exact ⟨k, hk, by injection h2⟩
theorem lkin_mk {w wr w1 : World} {b : Bool} (h : LkBox w wr b) (sg : ByteArray) (A1 : Option Addr) (m d1 : Nat) (x : File) {Av : Option Addr} {cv : Nat} {base : Nat}
    (hb : Below (wr.alloc (.cells #[.string sg, .slice A1 m d1] 56)).heap.size (wr.alloc (.cells #[.string sg, .slice A1 m d1] 56)) w1)
    (ho : byte.R 5 w1 base (fun _ => True) (.slice Av x.data.length cv) x.data) (hbase : w.heap.size ≤ base) (nm : ByteArray) :
    LkIn w (w1.alloc (.cells #[.string nm, .slice Av x.data.length cv] 56)) b wr.heap.size w1.heap.size sg A1 m d1 nm Av x.data cv :=
  ⟨((h.alloc _).below hb).alloc _, blk_alloc (blk_below (blk_new wr _) hb) _, blk_new w1 _, Kd.R_alloc (Kd.R_lower ho hbase) _⟩
set_option maxRecDepth 4000 in
set_option maxHeartbeats 6400000 in
theorem look_any (A B : Option Addr) (before now : List File) (c1 c2 : Nat) (right : Bool) (S : Sg) (hS : lookB before now right = S) (w : World) (h1 : kFile.C w A before.length before) (h2 : kFile.C w B now.length now) (hl : Mild before) (hm : Mild now) (he : EndAt w) (hn : NumAt w) :
    Calls Tryd.prog 28 #[.slice A before.length c1, .slice B now.length c2, .bool right] w fun e w' => e = .returned (sgV S) ∧ Below w.heap.size w w' := by
  have hmx := Kd.C_max h1
  have hmx2 := Kd.C_max h2
  have H1 := Aside0.mk h1
  have H2 := Aside0.mk h2
  have HE := Aside0.mk he
  have HNM := Aside0.mk hn
  have HSS := Aside0.mk hS
  have hrn : renN before now ≤ before.length := renTo_le before now before.length
  have hbl := hl.1
  have HL0 : Aside0 (LkBox w ((w.alloc (.cells #[.bool false, .bool false, .bool false] 68)).alloc (.cells #[.bool (!right), .bool false, .bool false] 68)) (!right)) := ⟨below_alloc (below_alloc (Below.refl _ _) _) _, blk_alloc (blk_new w _) _, blk_new2 w _ _⟩
  clear h1 h2 he hn hS
  go_enter Tryd.func28, Tryd.ntmps28
  go_wp2
  go_loopg [19, 8, 9, 11, 12, 13] now.length (fun gk i v8 v9 _ _ _ wr => ∃ k : Nat, k ≤ now.length ∧ Aside0 (gk = now.length - k) ∧ i = .int .i64 k ∧ ∃ (b : Bool) (nw nt : Nat), v8 = .int .i64 nw ∧ v9 = .int .i64 nt ∧ nw ≤ k ∧ nt ≤ k ∧ Aside0 (lkTo before now right k = ⟨b, nw, nt⟩) ∧ Aside0 (LkBox w wr b))
  case atStart => exact ⟨0, Nat.zero_le _, ⟨rfl⟩, rfl, !right, 0, 0, rfl, rfl, Nat.le_refl _, Nat.le_refl _, ⟨rfl⟩, HL0⟩
  case round =>
    obtain ⟨k, hk, HGK, rfl, b, nw, nt, rfl, rfl, hnw, hnt, HLT, HLB⟩ := hrel
    have hm1 := hm.1
    by_cases hlt : k < now.length
    · obtain ⟨ad, A1, d1, rfl, g0, g1, hc1, hd⟩ := file_at H2.out hlt
      obtain ⟨g, hg⟩ : ∃ g, g = gt now k := ⟨_, rfl⟩
      have hgs := hm.2 k hlt
      have HLS := Aside0.mk (lk_succ before now right k hlt)
      rw [← hg] at g0 g1 hd hc1 hgs HLS
      replace g0 := cell_old HLB.out.out g0
      replace g1 := cell_old HLB.out.out g1
      obtain ⟨m, hm'⟩ : ∃ m, m = g.data.length := ⟨_, rfl⟩
      rw [← hm'] at g1 hc1 hgs hd
      have HM := Aside0.mk hm'
      have HD := Aside0.mk hd
      have HB1 := Aside0.mk (below_alloc HLB.out.out (.cells #[.string g.name, .slice A1 m d1] 56))
      have z0 := blk_cell (blk_new wr (.cells #[.string g.name, .slice A1 m d1] 56)) 0
      simp only [List.getElem?_toArray, List.getElem?_cons_zero] at z0
      have hgn := hgs.1
      have hgd := hgs.2
      clear hg hd hm' hgs
      rcases hlk : look49 before g.name with _ | x
      · have HLK := Aside0.mk hlk
        have HST : Aside0 (lkTo before now right (k + 1) = ⟨b, nw, nt⟩) := ⟨by rw [HLS.out, HLT.out]; unfold lkStep; rw [HLK.out]⟩
        clear hlk
        go_wp2_with (go_at_call 48; refine (find_any A before c1 g.name _ (Kd.C_below H1.out HB1.out) hl.data).mono ?_; unfold FindPost; rintro e w1 hpost; rcases hpost with ⟨_, rfl, hb⟩ | ⟨x, v, hx, _⟩; rotate_left; (exact absurd (hx.symm.trans HLK.out) (by simp)); have HL1 := Aside0.mk ((HLB.out.alloc (.cells #[.string g.name, .slice A1 m d1] 56)).below hb); clear hb)
        go_roundg (now.length - (k + 1))
        case measure => have := HGK.out; omega
        case rel => exact ⟨k + 1, by omega, ⟨rfl⟩, by go_num, b, nw, nt, rfl, rfl, by omega, by omega, HST, ⟨HL1.out.alloc _⟩⟩
      · obtain ⟨kx, hkx, hxk⟩ := look_mem hlk
        have hxd := (hl.2 kx hkx).2
        rw [← hxk] at hxd
        obtain ⟨xs, hxs⟩ : ∃ xs, xs = x.data := ⟨_, rfl⟩
        rw [← hxs] at hxd
        have hxe : x = ⟨g.name, xs⟩ := by rw [hxs]; exact name_of_look hlk
        have HLK : Aside0 (look49 before g.name = some ⟨g.name, xs⟩) := ⟨by rw [hlk, hxe]⟩
        obtain ⟨pb, hpb⟩ : ∃ pb, decide (stateB ⟨g.name, g.data⟩ = 2) = pb := ⟨_, rfl⟩
        obtain ⟨ps, hps⟩ : ∃ ps, decide (stateB ⟨g.name, xs⟩ = 1) = ps := ⟨_, rfl⟩
        obtain ⟨wf, hwf⟩ : ∃ wf, wildB xs = wf := ⟨_, rfl⟩
        obtain ⟨wg, hwg⟩ : ∃ wg, wildB g.data = wg := ⟨_, rfl⟩
        have HST : Aside0 (lkTo before now right (k + 1) = ⟨b || (pb && ps), nw + (if wf then 0 else if wg then 1 else 0), nt + (if wf then 0 else 1)⟩) := ⟨by rw [HLS.out, HLT.out]; unfold lkStep; rw [HLK.out, ← hpb, ← hps, ← hwf, ← hwg]; rfl⟩
        have HPB := Aside0.mk hpb
        have HPS := Aside0.mk hps
        have HWF := Aside0.mk hwf
        have HWG := Aside0.mk hwg
        clear hlk hxk hxs hxe hpb hps hwf hwg hkx
        clear x
        rcases (show (b = true) ∨ (b = false ∧ pb = false) ∨ (b = false ∧ pb = true ∧ ps = false) ∨ (b = false ∧ pb = true ∧ ps = true) by cases b <;> cases pb <;> cases ps <;> simp) with rfl | ⟨rfl, rfl⟩ | ⟨rfl, rfl, rfl⟩ | ⟨rfl, rfl, rfl⟩
        all_goals
          rcases (show (wf = true) ∨ (wf = false ∧ wg = false) ∨ (wf = false ∧ wg = true) by cases wf <;> cases wg <;> simp) with rfl | ⟨rfl, rfl⟩ | ⟨rfl, rfl⟩
        all_goals
          go_wp2_with (first | (go_at_call 48; refine (find_any A before c1 g.name _ (Kd.C_below H1.out HB1.out) hl.data).mono ?_; unfold FindPost; rintro e w1 hpost; rcases hpost with ⟨hx, _⟩ | ⟨x', v, hx, rfl, ho, hb⟩; (exact absurd (hx.symm.trans HLK.out) (by simp)); (have hxe := Option.some.inj (hx.symm.trans HLK.out)); subst hxe; obtain ⟨Av, cv, rfl⟩ := Kd.R_slice ho; have HI3 := Aside0.mk (lkin_mk HLB.out g.name A1 m d1 ⟨g.name, xs⟩ hb ho HB1.out.size g.name); obtain ⟨k0, k1, k2, k3, k4, k5⟩ := HI3.out.cells; have ka := fun v => (HI3.out.after v).1; have kb := fun v => (HI3.out.after v).2; have kf := blk_frozen HI3.out.f 1; clear ho hb hx) | (go_at_call 49; refine (broken_as g.name A1 g.data m HM.out d1 _ HPB.out _ hgn (Kd.C_below HD.out HI3.out.box.out) hc1 (Kd.C_below HE.out HI3.out.box.out) (Kd.C_below HNM.out HI3.out.box.out)).mono ?_; rintro e w4 ⟨rfl, hb⟩; have HI4 := Aside0.mk (HI3.out.below hb); obtain ⟨j0, j1, j2, j3, j4, j5⟩ := HI4.out.cells; have ja := fun v => (HI4.out.after v).1; have jb := fun v => (HI4.out.after v).2; clear hb) | (go_at_call 50; refine (sound_as g.name _ xs xs.length rfl _ _ HPS.out _ hgn HI4.out.C.2 HI4.out.C.1 (Kd.C_below HE.out HI4.out.box.out) (Kd.C_below HNM.out HI4.out.box.out)).mono ?_; rintro e w5 ⟨rfl, hb⟩; have HI5 := Aside0.mk (HI4.out.below hb); obtain ⟨l0, l1, l2, l3, l4, l5⟩ := HI5.out.cells; have la := fun v => (HI5.out.after v).1; have lb := fun v => (HI5.out.after v).2; clear hb))
          go_wp2_with (first | (go_at_call_of 51 (Value.slice Av xs.length cv); refine (wild_as Av xs xs.length rfl cv _ HWF.out _ (by first | exact (HI5.out.set _).C.2 | exact (HI4.out.set _).C.2 | exact (HI3.out.set _).C.2) hxd).mono ?_; rintro e w7 ⟨rfl, hb⟩; (first | (have HI7 := Aside0.mk ((HI5.out.set _).below hb)) | (have HI7 := Aside0.mk ((HI4.out.set _).below hb)) | (have HI7 := Aside0.mk ((HI3.out.set _).below hb))); obtain ⟨_, _, _, i7, _, _⟩ := HI7.out.cells; clear hb) | (go_at_call_of 51 (Value.slice A1 m d1); refine (wild_as A1 g.data m HM.out d1 _ HWG.out _ (Kd.C_below HD.out HI7.out.box.out) hgd).mono ?_; rintro e w8 ⟨rfl, hb⟩; have HI8 := Aside0.mk (HI7.out.below hb); clear hb))
          go_roundg (now.length - (k + 1))
          case measure => have := HGK.out; omega
          case rel => first | exact ⟨k + 1, by omega, ⟨rfl⟩, by go_num, _, nw, nt, rfl, rfl, by omega, by omega, ⟨HST.out⟩, ⟨HI7.out.box⟩⟩ | exact ⟨k + 1, by omega, ⟨rfl⟩, by go_num, _, nw, nt + 1, rfl, by go_num, by omega, by omega, ⟨HST.out⟩, ⟨HI8.out.box⟩⟩ | exact ⟨k + 1, by omega, ⟨rfl⟩, by go_num, _, nw + 1, nt + 1, by go_num, by go_num, by omega, by omega, ⟨HST.out⟩, ⟨HI8.out.box⟩⟩
    · have hkk : k = now.length := by omega
      have HLF : Aside0 (lkTo before now right now.length = ⟨b, nw, nt⟩) := ⟨by rw [← hkk]; exact HLT.out⟩
      obtain ⟨h1, hh1⟩ : ∃ h1, halfB nw nt 1 = h1 := ⟨_, rfl⟩
      obtain ⟨n, hn⟩ : ∃ n, renN before now = n := ⟨_, rfl⟩
      obtain ⟨h2, hh2⟩ : ∃ h2, halfB n before.length 2 = h2 := ⟨_, rfl⟩
      have HF : Aside0 (S = ⟨b, h1, h2⟩) := ⟨by rw [← HSS.out, ← hh1, ← hh2, ← hn]; unfold lookB; rw [HLF.out]⟩
      have HH1 := Aside0.mk hh1
      have HH2 := Aside0.mk hh2
      have HN := Aside0.mk hn
      rw [hn] at hrn
      have hn1 : n ≤ 1000000 := by omega
      have hn2 : nw ≤ 1000000 := by omega
      obtain ⟨kc, kfz⟩ : wr.cell? ⟨w.heap.size + 1, 1, none⟩ = some (.bool false) ∧ wr.frozen? ⟨w.heap.size + 1, 1, none⟩ = false := ⟨blk_cell HLB.out.box 1, blk_frozen HLB.out.box 1⟩
      clear hh1 hh2 hn hkk
      go_wp2_with (first | (go_at_call_of 52 (Value.int .i64 (nw : Int)); refine (half_any nw nt 1 h1 HH1.out _ hn2).mono ?_; rintro e w2 ⟨rfl, rfl⟩; have hx1 := blk_set HLB.out.box 1 (.bool h1); have HX1 := Aside0.mk hx1; have HB1 := Aside0.mk (HLB.out.out.setCell (p := ⟨w.heap.size + 1, 1, none⟩) (Nat.le_succ _) (.bool h1)); have HR1 := Aside0.mk (blk_far HLB.out.res (p := ⟨w.heap.size + 1, 1, none⟩) (by show w.heap.size ≠ w.heap.size + 1; omega) (.bool h1)); clear hx1) | (go_at_call 53; refine (renames_any A B before now c1 c2 n HN.out _ (Kd.C_below H1.out HB1.out) (Kd.C_below H2.out HB1.out) hl hm).mono ?_; rintro e w3 ⟨rfl, hb⟩; have HX3 := Aside0.mk (blk_below HX1.out hb); have HR3 := Aside0.mk (blk_below HR1.out hb); have HB3 := Aside0.mk (below_step HB1.out hb); have kc3 := blk_cell HX3.out 2; have kf3 := blk_frozen HX3.out 2; clear hb) | (go_at_call_of 52 (Value.int .i64 (n : Int)); refine (half_any n before.length 2 h2 HH2.out _ hn1).mono ?_; rintro e w4 ⟨rfl, rfl⟩; have hx4 := blk_set HX3.out 2 (.bool h2); have HX4 := Aside0.mk hx4; have HR4 := Aside0.mk (blk_far HR3.out (p := ⟨w.heap.size + 1, 2, none⟩) (by show w.heap.size ≠ w.heap.size + 1; omega) (.bool h2)); have HB4 := Aside0.mk (HB3.out.setCell (p := ⟨w.heap.size + 1, 2, none⟩) (Nat.le_succ _) (.bool h2)); have y0 := blk_cell hx4 0; have y1 := blk_cell hx4 1; have y2 := blk_cell hx4 2; simp at y0 y1 y2; have r0 := blk_cell HR4.out 0; have r1 := blk_cell HR4.out 1; have r2 := blk_cell HR4.out 2; simp at r0 r1 r2; have f0 := blk_frozen HR4.out 0; have f1 := blk_frozen HR4.out 1; have f2 := blk_frozen HR4.out 2; clear hx4))
      have e5 := blk_set (blk_set (blk_set HR4.out 0 (.bool b)) 1 (.bool h1)) 2 (.bool h2)
      have p0 := blk_cell e5 0
      have p1 := blk_cell e5 1
      have p2 := blk_cell e5 2
      simp at p0 p1 p2
      refine bodyPost_ret (v := .agg #[.bool b, .bool h1, .bool h2]) (by simp [results, Tryd.results28, go_sem, p0, p1, p2]) rfl ?_
      refine ⟨by rw [HF.out]; rfl, ((HB4.out.setCell (p := ⟨w.heap.size, 0, none⟩) (Nat.le_refl _) _).setCell (p := ⟨w.heap.size, 1, none⟩) (Nat.le_refl _) _).setCell (p := ⟨w.heap.size, 2, none⟩) (Nat.le_refl _) _⟩
end Go.Proofs.YtdobjbdkfammbaaDoor
namespace Go.Proofs.YtdobjbdkfammbaaDoor
open Go.RowKit Go.Proofs.YtdobjbdkfammbaaDoorW.PrintWords Go.Proofs.YtdobjbdkfammbaaDoorW.PrintLast Go.Proofs.YtdobjbdkfammbaaDoorW.PrintMore
set_option linter.unusedVariables false
set_option linter.unusedSimpArgs false

theorem nodup_len : ∀ (l1 l2 : List UInt8), l1.Nodup → (∀ x, x ∈ l1 → x ∈ l2) → l1.length ≤ l2.length
  | [], _, _, _ => by simp
  | x :: l1, l2, hn, hs => by
    obtain ⟨h1, h2⟩ := List.nodup_cons.1 hn
    have hx : x ∈ l2 := hs x (by simp)
    have ih := nodup_len l1 (l2.erase x) h2 (fun y hy => (List.mem_erase_of_ne (fun e => h1 (by rw [← e]; exact hy))).2 (hs y (by simp [hy])))
    rw [List.length_erase_of_mem hx] at ih
    have : 0 < l2.length := List.length_pos_of_mem hx
    simp
    omega
theorem spread_sub {xs ys : List UInt8} (h : ∀ x, x ∈ xs → x ∈ ys) : spreadN xs ≤ spreadN ys :=
  nodup_len _ _ (nodup_dis xs) (fun x hx => (mem_dis ys x).2 (h x ((mem_dis xs x).1 hx)))
theorem spread_same {xs ys : List UInt8} (h : ∀ x, x ∈ xs ↔ x ∈ ys) : spreadN xs = spreadN ys :=
  Nat.le_antisymm (spread_sub fun x hx => (h x).1 hx) (spread_sub fun x hx => (h x).2 hx)
theorem spread_map (f : UInt8 → UInt8) (hf : ∀ x y, f x = f y → x = y) {xs ys : List UInt8} (h : ∀ x, x ∈ xs → f x ∈ ys) : spreadN xs ≤ spreadN ys := by
  have hn : ((dis xs).map f).Nodup := by
    unfold List.Nodup
    rw [List.pairwise_map]
    exact (nodup_dis xs).imp fun hne he => hne (hf _ _ he)
  have := nodup_len _ (dis ys) hn (fun y hy => by
    obtain ⟨x, hx, rfl⟩ := List.mem_map.1 hy
    exact (mem_dis ys _).2 (h x ((mem_dis xs x).1 hx)))
  rw [List.length_map] at this
  exact this
theorem xor_inj (key : UInt8) : ∀ x y : UInt8, x ^^^ key = y ^^^ key → x = y := fun x y h => by
  have h2 : (x ^^^ key) ^^^ key = (y ^^^ key) ^^^ key := by rw [h]
  rwa [UInt8.xor_assoc, UInt8.xor_assoc, UInt8.xor_self, UInt8.xor_zero, UInt8.xor_zero] at h2
theorem spread_256 (xs : List UInt8) : spreadN xs ≤ 256 := by
  have := nodup_len (dis xs) ((List.range 256).map UInt8.ofNat) (nodup_dis xs) (fun x _ => List.mem_map.2 ⟨x.toNat, List.mem_range.2 x.toNat_lt, by simp⟩)
  simp only [List.length_map, List.length_range] at this
  exact this
/-- Bytes turned by k places, each with a key on it: the first i of them. -/
def turnTo (xs : List UInt8) (key : UInt8) (k i : Nat) : List UInt8 := (List.range i).map fun j => gt xs ((j + k) % xs.length) ^^^ key
theorem turn_succ (xs : List UInt8) (key : UInt8) (k i : Nat) : turnTo xs key k (i + 1) = turnTo xs key k i ++ [gt xs ((i + k) % xs.length) ^^^ key] := by
  unfold turnTo
  rw [List.range_succ, List.map_append]
  rfl
theorem turn_len (xs : List UInt8) (key : UInt8) (k i : Nat) : (turnTo xs key k i).length = i := by simp [turnTo]
theorem turn_spread (xs : List UInt8) (key : UInt8) (k : Nat) (hk : k < xs.length) : spreadN (turnTo xs key k xs.length) = spreadN xs := by
  refine Nat.le_antisymm (spread_map (· ^^^ key) (xor_inj key) fun x hx => ?_) (spread_map (· ^^^ key) (xor_inj key) fun x hx => ?_)
  · obtain ⟨j, hj, rfl⟩ := List.mem_map.1 hx
    have hlt : (j + k) % xs.length < xs.length := Nat.mod_lt _ (by omega)
    show (gt xs ((j + k) % xs.length) ^^^ key) ^^^ key ∈ xs
    rw [UInt8.xor_assoc, UInt8.xor_self, UInt8.xor_zero, gt_eq xs _ hlt]
    exact List.getElem_mem hlt
  · obtain ⟨i, hi, rfl⟩ := List.getElem_of_mem hx
    refine List.mem_map.2 ⟨(i + (xs.length - k)) % xs.length, List.mem_range.2 (Nat.mod_lt _ (by omega)), ?_⟩
    have e : ((i + (xs.length - k)) % xs.length + k) % xs.length = i := by
      rw [Nat.mod_add_mod, show i + (xs.length - k) + k = i + xs.length by omega, Nat.add_mod_right, Nat.mod_eq_of_lt hi]
    show gt xs (((i + (xs.length - k)) % xs.length + k) % xs.length) ^^^ key = _
    rw [e, gt_eq xs i hi]
theorem wild_of {xs ys : List UInt8} (hs : spreadN xs = spreadN ys) (h16 : 16 ≤ xs.length ↔ 16 ≤ ys.length) (h64 : min xs.length 64 = min ys.length 64) : wildB xs = wildB ys := by
  unfold wildB
  rw [hs, h64, decide_eq_decide.mpr h16]
end Go.Proofs.YtdobjbdkfammbaaDoor
