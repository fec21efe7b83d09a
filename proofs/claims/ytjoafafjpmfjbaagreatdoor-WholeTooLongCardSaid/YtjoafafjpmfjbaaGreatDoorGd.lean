/-
  WholeTooLong: slices.Compact keeps the last one.
-/
import Derived.Test.YtjoafafjpmfjbaaGreatDoorGc
import Derived.Lib.SliceRun
/-
  WholeTooLong: slices.Sort of a few numbers.
-/
namespace Go.Proofs.YtjoafafjpmfjbaaGreatDoor
open Go.RowKit Go.Shelf Go.Proofs.YtjoafafjpmfjbaaGreatDoorW.PrintWords Go.Proofs.YtjoafafjpmfjbaaGreatDoorW.PrintLast Go.Proofs.YtjoafafjpmfjbaaGreatDoorW.PrintMore
set_option linter.unusedVariables false
set_option linter.unusedSimpArgs false

/-- Two that stand side by side change places. -/
def swl (xs : List Int) (j : Nat) : List Int := (xs.set j (gt xs (j - 1))).set (j - 1) (gt xs j)
/-- One goes down to its place. -/
def insIn : Nat → List Int → List Int
  | 0, xs => xs
  | j + 1, xs => if gt xs (j + 1) < gt xs j then insIn j (swl xs (j + 1)) else xs
/-- The first k + 1 are put in order. -/
def insTo : Nat → List Int → List Int
  | 0, xs => xs
  | k + 1, xs => insIn (k + 1) (insTo k xs)
def isort (xs : List Int) : List Int := insTo (xs.length - 1) xs
theorem swl_len (xs : List Int) (j : Nat) : (swl xs j).length = xs.length := by simp [swl]
theorem insIn_len (j : Nat) : ∀ xs : List Int, (insIn j xs).length = xs.length := by
  induction j with
  | zero => intro xs; rfl
  | succ j ih =>
    intro xs
    unfold insIn
    split
    · rw [ih, swl_len]
    · rfl
theorem insTo_len (k : Nat) (xs : List Int) : (insTo k xs).length = xs.length := by
  induction k with
  | zero => rfl
  | succ k ih => unfold insTo; rw [insIn_len, ih]
theorem isort_len (xs : List Int) : (isort xs).length = xs.length := insTo_len _ _
theorem intR_at {e base g n cap : Nat} {W : World} {ok : Nat → Prop} {xs : List Int} (h : (Kd.int .i64).R e W base ok (.slice (some ⟨g, 0, none⟩) n cap) xs) (i : Nat) (hi : i < n) : W.cell? ⟨g, i, none⟩ = some (.int .i64 (gt xs i)) ∧ W.frozen? ⟨g, i, none⟩ = false := by
  have h1 := Kd.R_celln (0 : Int) h (i : Int) (Int.natCast_nonneg _) (by omega)
  rw [Int.toNat_natCast] at h1
  have hl := (Kd.R_reads' h).1
  refine ⟨h1.1.trans ?_, h1.2⟩
  rw [gt_eq _ _ (by omega)]
  have hi2 : i < xs.length := by omega
  simp [rdOf, List.getElem?_eq_getElem hi2]
theorem intR_swap {e base g n cap : Nat} {W : World} {ok : Nat → Prop} {xs : List Int} (h : (Kd.int .i64).R e W base ok (.slice (some ⟨g, 0, none⟩) n cap) xs) (j : Nat) :
    (Kd.int .i64).R e ((W.setCell ⟨g, j, none⟩ (.int .i64 (gt xs (j - 1)))).setCell ⟨g, j - 1, none⟩ (.int .i64 (gt xs j))) base ok (.slice (some ⟨g, 0, none⟩) n cap) (swl xs j) := by
  have h1 := Kd.R_putn h (j : Int) (gt xs (j - 1))
  rw [Int.toNat_natCast] at h1
  have h2 := Kd.R_putn h1 ((j - 1 : Nat) : Int) (gt xs j)
  rw [Int.toNat_natCast] at h2
  exact h2
theorem R_drewswap {e base g n cap a b m : Nat} {u v : Value} {W : World} {ok : Nat → Prop} {xs : List Int} (h : (Kd.int .i64).R e ((W.setCell ⟨g, a, none⟩ u).setCell ⟨g, b, none⟩ v) base ok (.slice (some ⟨g, 0, none⟩) n cap) xs) :
    (Kd.int .i64).R e (((W.drewN m).setCell ⟨g, a, none⟩ u).setCell ⟨g, b, none⟩ v) base ok (.slice (some ⟨g, 0, none⟩) n cap) xs := Kd.R_step h (fun _ _ _ => rfl)
theorem less_any (x y : Int) (b : Bool) (hb : decide (x < y) = b) (w : World) : Calls Tryz.prog 96 #[.int .i64 x, .int .i64 y] w fun e w' => e = .returned (.bool b) ∧ w' = w := by
  subst hb
  have hn : ∀ (z : Int), Aside0 (Calls Tryz.prog 103 #[.int .i64 z] w fun e w' => e = .returned (.bool false) ∧ w = w') := by
    intro z
    refine ⟨?_⟩
    go_enter Tryz.func103, Tryz.ntmps103
    go_wp2_with fail
    go_ret
    exact ⟨by simp, rfl⟩
  have HX := hn x
  go_enter Tryz.func96, Tryz.ntmps96
  go_wp2_with (go_at_call 103; refine HX.out.mono ?_; rintro e w2 ⟨rfl, rfl⟩)
  go_ret
  exact ⟨rfl, rfl⟩
set_option maxRecDepth 20000 in
set_option maxHeartbeats 1600000 in
theorem ins_any (w0 : World) (base : Nat) (ok : Nat → Prop) (g n c : Nat) (xs : List Int) (hn : xs.length = n) (h6 : n ≤ 12) (w : World) (h : (Kd.int .i64).R 3 w base ok (.slice (some ⟨g, 0, none⟩) n c) xs) (hg : base ≤ g) (hB : Below base w0 w) (n0 : 1 ≤ n) :
    Calls Tryz.prog 90 #[.slice (some ⟨g, 0, none⟩) n c, .int .i64 0, .int .i64 n] w fun e w' => (∃ v, e = .returned v) ∧ (Kd.int .i64).R 3 w' base ok (.slice (some ⟨g, 0, none⟩) n c) (isort xs) ∧ Below base w0 w' := by
  have hmc := (Kd.R_reads' h).2.1
  have H := Aside0.mk h
  have HB := Aside0.mk hB
  have HN := Aside0.mk hn
  clear h hB hn
  go_enter Tryz.func90, Tryz.ntmps90
  go_wp2_with fail
  go_loopg [6, 7] n (fun gk i j wr => ∃ k : Nat, k + 1 ≤ n ∧ Aside0 (gk = n - k) ∧ i = .int .i64 ((k : Int) + 1) ∧ Aside0 ((Kd.int .i64).R 3 wr base ok (.slice (some ⟨g, 0, none⟩) n c) (insTo k xs)) ∧ Aside0 (Below base w0 wr))
  case atStart => exact ⟨0, n0, ⟨rfl⟩, rfl, H, HB⟩
  case round =>
    obtain ⟨k, hk, HGK, rfl, HR, HB1⟩ := hrel
    by_cases hlt : k + 1 < n
    · have i1 : (k : Int) + 1 < (n : Int) := by omega
      obtain ⟨i, hi⟩ : ∃ i, i = (k : Int) + 1 := ⟨_, rfl⟩
      rw [← hi] at i1 ⊢
      have HI := Aside0.mk hi
      obtain ⟨zs, hzs⟩ : ∃ zs, zs = insTo k xs := ⟨_, rfl⟩
      have hzl : zs.length = n := by rw [hzs, insTo_len]; exact HN.out
      have HZS := Aside0.mk hzs
      have HZL := Aside0.mk hzl
      rw [← hzs] at HR
      clear hi hzs hzl
      go_wp2_with fail
      go_loopg [7] (k + 1) (fun gk2 j wr2 => ∃ (p : Nat) (ys : List Int), p < n ∧ Aside0 (gk2 = p) ∧ j = .int .i64 p ∧ Aside0 (ys.length = n) ∧ Aside0 (insIn p ys = insTo (k + 1) xs) ∧ Aside0 ((Kd.int .i64).R 3 wr2 base ok (.slice (some ⟨g, 0, none⟩) n c) ys) ∧ Aside0 (Below base w0 wr2))
      case atStart => exact ⟨k + 1, zs, hlt, ⟨rfl⟩, by rw [HI.out]; rfl, HZL, ⟨by rw [HZS.out]; rfl⟩, HR, HB1⟩
      case round =>
        obtain ⟨p, ys, hp, HGP, rfl, HYL, HYS, HR2, HB2⟩ := hrel
        rcases p with _ | p
        · go_wp2_with fail
          go_quiet (fail)
          go_wp2_with fail
          go_roundg (n - (k + 1))
          case measure => have := HGK.out; omega
          case rel => exact ⟨k + 1, hlt, ⟨rfl⟩, by (have := HI.out; refine congrArg (Value.int .i64) ?_; unfold wrap64; omega), ⟨by rw [← HYS.out]; exact Kd.R_drewN HR2.out _⟩, ⟨pw_below_drewN HB2.out _⟩⟩
        · have hc := intR_at HR2.out p (by omega)
          have hd := intR_at HR2.out (p + 1) (by omega)
          have hSW := intR_swap HR2.out (p + 1)
          rw [show p + 1 - 1 = p by omega] at hSW
          have HIN : Aside0 (insIn (p + 1) ys = if gt ys (p + 1) < gt ys p then insIn p (swl ys (p + 1)) else ys) := ⟨rfl⟩
          obtain ⟨x, hx⟩ : ∃ x, x = gt ys p := ⟨_, rfl⟩
          obtain ⟨y, hy⟩ : ∃ y, y = gt ys (p + 1) := ⟨_, rfl⟩
          rw [← hx] at hc hSW HIN
          rw [← hy] at hd hSW HIN
          have q0 := hc.1
          have q1 := hd.1
          have f0 := hc.2
          have f1 := hd.2
          obtain ⟨J, hJ⟩ : ∃ J : Int, J = ((p + 1 : Nat) : Int) := ⟨_, rfl⟩
          have j0 : J > 0 := by omega
          have j1 : J.toNat = p + 1 := by omega
          have j2 : J < (n : Int) := by omega
          have j3 : IntKind.i64.wrap (J - 1) = (p : Int) := by rw [hJ]; rw [show ((p + 1 : Nat) : Int) - 1 = (p : Int) by omega]; exact IntWalk.i64_in _ (by omega)
          have j4 : (p : Int) < (n : Int) := by omega
          have HSW := Aside0.mk hSW
          rw [← hJ]
          have HJ := Aside0.mk hJ
          clear hc hd hSW hx hy hJ
          cases hb : decide (y < x)
          · have HBB := Aside0.mk hb
            clear hb
            go_wp2_with fail
            go_quiet ((go_at_call 96; exact Calls.quiet_of_same (less_any y x false HBB.out _)))
            go_wp2_with fail
            go_roundg (n - (k + 1))
            case measure => have := HGK.out; omega
            case rel => exact ⟨k + 1, hlt, ⟨rfl⟩, by (have := HI.out; refine congrArg (Value.int .i64) ?_; unfold wrap64; omega), ⟨by rw [← HYS.out, HIN.out, if_neg (of_decide_eq_false HBB.out)]; exact Kd.R_drewN HR2.out _⟩, ⟨pw_below_drewN HB2.out _⟩⟩
          · have HBB := Aside0.mk hb
            clear hb
            go_wp2_with fail
            go_quiet ((go_at_call 96; exact Calls.quiet_of_same (less_any y x true HBB.out _)))
            go_wp2_with fail
            go_region
            go_wp2_with fail
            go_roundg p
            case measure => have := HGP.out; omega
            case rel => exact ⟨p, swl ys (p + 1), by omega, ⟨rfl⟩, rfl, ⟨by rw [swl_len]; exact HYL.out⟩, ⟨by rw [← HYS.out, HIN.out, if_pos (of_decide_eq_true HBB.out)]⟩, ⟨R_drewswap HSW.out⟩, ⟨(Below.setCell (Below.setCell (pw_below_drewN HB2.out _) (p := ⟨g, p + 1, none⟩) hg _) (p := ⟨g, p, none⟩) hg _)⟩⟩
    · have i1 : ¬ (k : Int) + 1 < (n : Int) := by omega
      go_wp2_with fail
      go_end0
      exact ⟨⟨_, rfl⟩, by unfold isort; rw [HN.out, show n - 1 = k by omega]; exact HR.out, HB1.out⟩
end Go.Proofs.YtjoafafjpmfjbaaGreatDoor
/-
  WholeTooLong: slices.Sort, slices.Compact of a few numbers.
-/
namespace Go.Proofs.YtjoafafjpmfjbaaGreatDoor
open Go.RowKit Go.Shelf Go.Proofs.YtjoafafjpmfjbaaGreatDoorW.PrintWords Go.Proofs.YtjoafafjpmfjbaaGreatDoorW.PrintLast Go.Proofs.YtjoafafjpmfjbaaGreatDoorW.PrintMore
set_option linter.unusedVariables false
set_option linter.unusedSimpArgs false

set_option maxRecDepth 20000 in
theorem pdq_any (w0 : World) (base : Nat) (ok : Nat → Prop) (g n c : Nat) (xs : List Int) (hn : xs.length = n) (h6 : n ≤ 12) (w : World) (h : (Kd.int .i64).R 3 w base ok (.slice (some ⟨g, 0, none⟩) n c) xs) (hg : base ≤ g) (hB : Below base w0 w) (n0 : 1 ≤ n) (lim : Int) :
    Calls Tryz.prog 83 #[.slice (some ⟨g, 0, none⟩) n c, .int .i64 0, .int .i64 n, .int .i64 lim] w fun e w' => (∃ v, e = .returned v) ∧ (Kd.int .i64).R 3 w' base ok (.slice (some ⟨g, 0, none⟩) n c) (isort xs) ∧ Below base w0 w' := by
  have H := Aside0.mk h
  have HB := Aside0.mk hB
  have HN := Aside0.mk hn
  have i12 : (n : Int) ≤ 12 := by omega
  clear h hB hn
  go_enter Tryz.func83, Tryz.ntmps83
  go_wp2_with fail
  go_loopg [1, 2] 0 (fun gk b d wr => b = .int .i64 0 ∧ d = .int .i64 n ∧ Aside0 ((Kd.int .i64).R 3 wr base ok (.slice (some ⟨g, 0, none⟩) n c) xs) ∧ Aside0 (Below base w0 wr))
  case atStart => exact ⟨rfl, rfl, H, HB⟩
  case round =>
    obtain ⟨rfl, rfl, HR, HB1⟩ := hrel
    go_wp2_with (go_at_call 90; refine (ins_any w0 base ok g n c xs HN.out h6 _ HR.out hg HB1.out n0).mono ?_; rintro e w2 ⟨⟨v, rfl⟩, hr, hb⟩; have HR2 := Aside0.mk hr; have HB2 := Aside0.mk hb; clear hr hb)
    exact bodyPost_ret (results_none rfl _ _ _) rfl ⟨⟨_, rfl⟩, HR2.out, HB2.out⟩
theorem sort_any (w0 : World) (base : Nat) (ok : Nat → Prop) (g n c : Nat) (xs : List Int) (hn : xs.length = n) (h6 : n ≤ 12) (w : World) (h : (Kd.int .i64).R 3 w base ok (.slice (some ⟨g, 0, none⟩) n c) xs) (hg : base ≤ g) (hB : Below base w0 w) (n0 : 1 ≤ n) :
    Calls Tryz.prog 69 #[.slice (some ⟨g, 0, none⟩) n c] w fun e w' => (∃ v, e = .returned v) ∧ (Kd.int .i64).R 3 w' base ok (.slice (some ⟨g, 0, none⟩) n c) (isort xs) ∧ Below base w0 w' := by
  have H := Aside0.mk h
  have HB := Aside0.mk hB
  have HN := Aside0.mk hn
  clear h hB hn
  go_enter Tryz.func69, Tryz.ntmps69
  go_wp2_with (first | (go_at_call 67; refine (blen_some (n : Int) _ (by omega) (by omega)).mono ?_; rintro e w1 ⟨⟨v, rfl⟩, rfl⟩) | (go_at_call 83; refine (pdq_any w0 base ok g n c xs HN.out h6 _ H.out hg HB.out n0 _).mono ?_; rintro e w2 ⟨⟨v2, rfl⟩, hr, hb⟩; have HR2 := Aside0.mk hr; have HB2 := Aside0.mk hb; clear hr hb))
  go_end0
  exact ⟨⟨_, rfl⟩, HR2.out, HB2.out⟩
theorem ins_nil (w : World) : Calls Tryz.prog 90 #[.slice none 0 0, .int .i64 0, .int .i64 0] w fun e w' => (∃ v, e = .returned v) ∧ Below w.heap.size w w' := by
  go_enter Tryz.func90, Tryz.ntmps90
  go_wp2_with fail
  go_loopg [6, 7] 0 (fun gk i j wr => i = .int .i64 1 ∧ Aside0 (Below w.heap.size w wr))
  case atStart => exact ⟨rfl, ⟨Below.refl _ _⟩⟩
  case round =>
    obtain ⟨rfl, HB⟩ := hrel
    go_wp2_with fail
    go_end0
    exact ⟨⟨_, rfl⟩, HB.out⟩
set_option maxRecDepth 20000 in
theorem pdq_nil (lim : Int) (w : World) : Calls Tryz.prog 83 #[.slice none 0 0, .int .i64 0, .int .i64 0, .int .i64 lim] w fun e w' => (∃ v, e = .returned v) ∧ Below w.heap.size w w' := by
  go_enter Tryz.func83, Tryz.ntmps83
  go_wp2_with fail
  go_loopg [1, 2] 0 (fun gk b c wr => b = .int .i64 0 ∧ c = .int .i64 0 ∧ Aside0 (Below w.heap.size w wr))
  case atStart => exact ⟨rfl, rfl, ⟨Below.refl _ _⟩⟩
  case round =>
    obtain ⟨rfl, rfl, HB⟩ := hrel
    go_wp2_with (go_at_call 90; refine (ins_nil _).mono ?_; rintro e w2 ⟨⟨v, rfl⟩, hb⟩; have HB2 := Aside0.mk (below_step HB.out hb); clear hb)
    exact bodyPost_ret (results_none rfl _ _ _) rfl ⟨⟨_, rfl⟩, HB2.out⟩
theorem sort_nil (w : World) : Calls Tryz.prog 69 #[.slice none 0 0] w fun e w' => (∃ v, e = .returned v) ∧ Below w.heap.size w w' := by
  go_enter Tryz.func69, Tryz.ntmps69
  go_wp2_with (first | (go_at_call 67; refine (blen_some 0 _ (by decide) (by decide)).mono ?_; rintro e w1 ⟨⟨v, rfl⟩, rfl⟩) | (go_at_call 83; refine (pdq_nil _ _).mono ?_; rintro e w2 ⟨⟨v2, rfl⟩, hb⟩; have HB2 := Aside0.mk hb; clear hb))
  go_end0
  exact ⟨⟨_, rfl⟩, HB2.out⟩
theorem compact_nil (w : World) : Calls Tryz.prog 70 #[.slice none 0 0] w fun e w' => e = .returned (.slice none 0 0) ∧ Below w.heap.size w w' := by
  go_enter Tryz.func70, Tryz.ntmps70
  go_wp2_with fail
  go_ret
  exact ⟨rfl, Below.refl _ _⟩
end Go.Proofs.YtjoafafjpmfjbaaGreatDoor
namespace Go.Proofs.YtjoafafjpmfjbaaGreatDoor
open Go.RowKit Go.Shelf Go.Proofs.YtjoafafjpmfjbaaGreatDoorW.PrintWords Go.Proofs.YtjoafafjpmfjbaaGreatDoorW.PrintLast Go.Proofs.YtjoafafjpmfjbaaGreatDoorW.PrintMore
set_option linter.unusedVariables false
set_option linter.unusedSimpArgs false

theorem gt_set_ne (xs : List Int) (i j : Nat) (v : Int) (h : i ≠ j) : gt (xs.set i v) j = gt xs j := by
  simp [gt, List.getElem?_set, h]
theorem gt_set_eq (xs : List Int) (i : Nat) (v : Int) (h : i < xs.length) : gt (xs.set i v) i = v := by
  simp [gt, List.getElem?_set, h]
theorem intR_put1 {e base g n cap : Nat} {W : World} {ok : Nat → Prop} {xs : List Int} (h : (Kd.int .i64).R e W base ok (.slice (some ⟨g, 0, none⟩) n cap) xs) (i : Nat) (x : Int) : (Kd.int .i64).R e (W.setCell ⟨g, i, none⟩ (.int .i64 x)) base ok (.slice (some ⟨g, 0, none⟩) n cap) (xs.set i x) := by
  have h1 := Kd.R_putn h (i : Int) x
  rwa [Int.toNat_natCast] at h1
theorem belowSet {B g : Nat} {a : World} (hg : B ≤ g) : ∀ (vs : List Value) (o : Nat) {w : World}, Below B a w → Below B a (w.setCells g o vs)
  | [], _, _, h => h
  | v :: vs, o, _, h => belowSet hg vs (o + 1) (Below.setCell h (p := ⟨g, o, none⟩) hg v)
set_option maxRecDepth 20000 in
set_option maxHeartbeats 3200000 in
theorem compact_any (w0 : World) (base : Nat) (ok : Nat → Prop) (g n c : Nat) (xs : List Int) (hn : xs.length = n) (h6 : n ≤ 12) (w : World) (h : (Kd.int .i64).R 3 w base ok (.slice (some ⟨g, 0, none⟩) n c) xs) (hg : base ≤ g) (hB : Below base w0 w) (n0 : 1 ≤ n) :
    Calls Tryz.prog 70 #[.slice (some ⟨g, 0, none⟩) n c] w fun e w' => ∃ k cc : Nat, e = .returned (.slice (some ⟨g, 0, none⟩) k cc) ∧ 1 ≤ k ∧ k ≤ n ∧ w'.cell? ⟨g, k - 1, none⟩ = some (.int .i64 (gt xs (n - 1))) ∧ Below base w0 w' := by
  have hmc := (Kd.R_reads' h).2.1
  have H := Aside0.mk h
  have HB := Aside0.mk hB
  have HN := Aside0.mk hn
  clear h hB hn
  by_cases h2 : n < 2
  · have i2 : (n : Int) < 2 := by omega
    go_enter Tryz.func70, Tryz.ntmps70
    go_wp2_with fail
    go_ret
    exact ⟨n, c, rfl, n0, Nat.le_refl _, (intR_at H.out (n - 1) (by omega)).1, HB.out⟩
  · have i2 : ¬ (n : Int) < 2 := by omega
    go_enter Tryz.func70, Tryz.ntmps70
    go_wp2_with fail
    go_loopg [3] (n - 1) (fun gk s3 wr => ∃ k : Nat, 1 ≤ k ∧ k ≤ n ∧ Aside0 (gk = n - k) ∧ s3 = .int .i64 k ∧ Aside0 ((Kd.int .i64).R 3 wr base ok (.slice (some ⟨g, 0, none⟩) n c) xs) ∧ Aside0 (Below base w0 wr))
    case atStart => exact ⟨1, Nat.le_refl _, n0, ⟨rfl⟩, rfl, H, HB⟩
    case round =>
      obtain ⟨k, hk1, hk, HGK, rfl, HR, HB1⟩ := hrel
      by_cases hlt : k < n
      · obtain ⟨c1, f1⟩ := intR_at HR.out k hlt
        obtain ⟨c0, f0⟩ := intR_at HR.out (k - 1) (by omega)
        obtain ⟨x, hx⟩ : ∃ x, x = gt xs k := ⟨_, rfl⟩
        obtain ⟨y, hy⟩ : ∃ y, y = gt xs (k - 1) := ⟨_, rfl⟩
        rw [← hx] at c1
        rw [← hy] at c0
        obtain ⟨p, hp⟩ : ∃ p, p = k - 1 := ⟨_, rfl⟩
        rw [← hp] at c0 f0
        have j1 : (k : Int) < (n : Int) := by omega
        have j3 : IntKind.i64.wrap ((k : Int) - 1) = (p : Int) := by rw [show (k : Int) - 1 = (p : Int) by omega]; exact IntWalk.i64_in _ (by omega)
        have j4 : (p : Int) < (n : Int) := by omega
        have HX := Aside0.mk hx
        have HY := Aside0.mk hy
        have HP := Aside0.mk hp
        clear hx hy hp
        by_cases hdup : x = y
        · subst hdup
          go_wp2_with fail
          go_quiet (fail)
          have j5 : (1 : Int) ≤ (k : Int) := by omega
          have j6 : (k : Int) ≤ (n : Int) := by omega
          have j7 : (n : Int) ≤ (c : Int) := by omega
          go_wp2_with fail
          obtain ⟨M, hM⟩ : ∃ M, M = n - k := ⟨_, rfl⟩
          obtain ⟨C, hC⟩ : ∃ C, C = c - k := ⟨_, rfl⟩
          rw [← hM, ← hC]
          have HM := Aside0.mk hM
          have HMC : M ≤ C := by omega
          have hMn : k + M = n := by omega
          clear hM hC c0 c1 f0 f1
          go_loopg [3, 5] (M - 1) (fun gk2 s3 s5 wr2 => ∃ (kk q : Nat) (ys : List Int), s3 = .int .i64 kk ∧ s5 = .int .i64 q ∧ 1 ≤ q ∧ q ≤ M ∧ 1 ≤ kk ∧ kk + 1 ≤ k + q ∧ Aside0 (gk2 = M - q) ∧ Aside0 ((Kd.int .i64).R 3 wr2 base ok (.slice (some ⟨g, 0, none⟩) n c) ys) ∧ Aside0 (ys.length = n) ∧ Aside0 (gt ys (kk - 1) = gt xs (k + q - 1)) ∧ Aside0 (∀ i, k + q - 1 ≤ i → i < n → gt ys i = gt xs i) ∧ Aside0 (Below base w0 wr2))
          case atStart => exact ⟨k, 1, xs, rfl, rfl, Nat.le_refl _, by omega, hk1, Nat.le_refl _, ⟨rfl⟩, ⟨Kd.R_drewN HR.out _⟩, HN, ⟨by rw [show k + 1 - 1 = k by omega, ← HX.out, HY.out]⟩, ⟨fun _ _ _ => rfl⟩, ⟨pw_below_drewN HB1.out _⟩⟩
          case round =>
            obtain ⟨kk, q, ys, rfl, rfl, hq1, hqM, hkk1, hkk, HGK2, HR2, HYL, HLAST, HHI, HB2⟩ := hrel
            by_cases hlt2 : q < M
            · obtain ⟨cm, fm⟩ := intR_at HR2.out (k + q) (by omega)
              obtain ⟨cp, fp⟩ := intR_at HR2.out (k + q - 1) (by omega)
              obtain ⟨ck, fk⟩ := intR_at HR2.out kk (by omega)
              rw [HHI.out (k + q) (by omega) (by omega)] at cm
              rw [HHI.out (k + q - 1) (Nat.le_refl _) (by omega)] at cp
              obtain ⟨u, hu⟩ : ∃ u, u = gt xs (k + q) := ⟨_, rfl⟩
              obtain ⟨v, hv⟩ : ∃ v, v = gt xs (k + q - 1) := ⟨_, rfl⟩
              obtain ⟨o, ho⟩ : ∃ o, o = gt ys kk := ⟨_, rfl⟩
              obtain ⟨r, hr⟩ : ∃ r, r = q - 1 := ⟨_, rfl⟩
              rw [← hu] at cm
              rw [← hv] at cp
              rw [← ho] at ck
              rw [show k + q - 1 = k + r by omega] at cp fp
              have l1 : (q : Int) < (M : Int) := by omega
              have l3 : IntKind.i64.wrap ((q : Int) - 1) = (r : Int) := by rw [show (q : Int) - 1 = (r : Int) by omega]; exact IntWalk.i64_in _ (by omega)
              have l4 : (r : Int) < (M : Int) := by omega
              have l5 : (kk : Int) < (n : Int) := by omega
              have HU := Aside0.mk hu
              have HV := Aside0.mk hv
              clear hu hv ho hr
              by_cases huv : u = v
              · subst huv
                go_wp2_with fail
                go_quiet (fail)
                go_wp2_with fail
                go_roundg (M - (q + 1))
                case measure => have := HGK2.out; omega
                case rel => exact ⟨kk, q + 1, ys, rfl, by go_num, by omega, by omega, hkk1, by omega, ⟨rfl⟩, ⟨Kd.R_drewN HR2.out _⟩, HYL, ⟨by rw [HLAST.out, show k + (q + 1) - 1 = k + q by omega, ← HU.out, HV.out]⟩, ⟨fun i h1 h2 => HHI.out i (by omega) h2⟩, ⟨pw_below_drewN HB2.out _⟩⟩
              · have huv2 : (u == v) = false := by simpa using huv
                go_wp2_with fail
                go_quiet (fail)
                go_wp2_with fail
                go_roundg (M - (q + 1))
                case measure => have := HGK2.out; omega
                case rel => exact ⟨kk + 1, q + 1, ys.set kk u, by go_num, by go_num, by omega, by omega, by omega, by omega, ⟨rfl⟩, ⟨intR_put1 (Kd.R_drewN HR2.out _) kk u⟩, ⟨by rw [List.length_set]; exact HYL.out⟩, ⟨by rw [show kk + 1 - 1 = kk by omega, gt_set_eq _ _ _ (by rw [HYL.out]; omega), HU.out, show k + (q + 1) - 1 = k + q by omega]⟩, ⟨fun i h1 h2 => by rw [gt_set_ne _ _ _ _ (by omega)]; exact HHI.out i (by omega) h2⟩, ⟨Below.setCell (pw_below_drewN HB2.out _) (p := ⟨g, kk, none⟩) hg _⟩⟩
            · have hend : k + q = n := by omega
              have l1 : ¬ (q : Int) < (M : Int) := by omega
              have l5 : (kk : Int) ≤ (n : Int) := by omega
              have hcl : ∀ ty, (Builtin.clear_ #[33] ty #[.slice (some ⟨g, kk, none⟩) (n - kk) (c - kk)]).run Tryz.prog wr = .ok (.tuple #[]) (wr.setCells g kk (List.replicate (n - kk) (.int .i64 0))) :=
                fun ty => Lib.run_clear_slice wr _ _ ty _ Tryz.underlying33 (fun _ => rfl) rfl rfl g kk _ _ (by omega) (fun j hj => by rw [(intR_at HR2.out (kk + j) (by omega)).1]; rfl) (fun j hj => (intR_at HR2.out (kk + j) (by omega)).2)
              go_wp2_with fail
              go_ret
              exact ⟨kk, ⟨c, rfl⟩, hkk1, by omega, (World.cell?_setCells_out g _ kk wr ⟨g, kk - 1, none⟩ (fun _ _ => .inl (by show kk - 1 < kk; omega))).trans ((intR_at HR2.out (kk - 1) (by omega)).1.trans (by rw [HLAST.out, show k + q - 1 = n - 1 by omega])), belowSet hg _ _ HB2.out⟩
        · have hd2 : (x == y) = false := by simpa using hdup
          go_wp2_with fail
          go_quiet (fail)
          go_wp2_with fail
          go_roundg (n - (k + 1))
          case measure => have := HGK.out; omega
          case rel => exact ⟨k + 1, by omega, by omega, ⟨rfl⟩, by go_num, ⟨Kd.R_drewN HR.out _⟩, ⟨pw_below_drewN HB1.out _⟩⟩
      · have j1 : ¬ (k : Int) < (n : Int) := by omega
        go_wp2_with fail
        go_ret
        exact ⟨n, ⟨c, rfl⟩, n0, Nat.le_refl _, (intR_at HR.out (n - 1) (by omega)).1, HB1.out⟩
end Go.Proofs.YtjoafafjpmfjbaaGreatDoor
