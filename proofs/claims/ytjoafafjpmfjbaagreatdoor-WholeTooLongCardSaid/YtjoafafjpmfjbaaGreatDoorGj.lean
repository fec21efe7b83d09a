/-
  WholeTooLong: all clashes.
-/
import Derived.Test.YtjoafafjpmfjbaaGreatDoorGi
import Derived.Deep.RegionHeld3
/-
  WholeTooLong: does a rule keep whatever another one keeps? why do two rules clash?
-/
namespace Go.Proofs.YtjoafafjpmfjbaaGreatDoor
open Go.RowKit Go.Shelf Go.Proofs.YtjoafafjpmfjbaaGreatDoorW.PrintWords Go.Proofs.YtjoafafjpmfjbaaGreatDoorW.PrintLast Go.Proofs.YtjoafafjpmfjbaaGreatDoorW.PrintMore
set_option linter.unusedVariables false
set_option linter.unusedSimpArgs false

theorem keepsB_len {x : Ru} (h : keepsB x = true) (h2 : x.kind = 2) : 1 ≤ x.len := by
  unfold keepsB at h
  rw [if_neg (by omega), if_pos h2] at h
  simpa using h
set_option maxHeartbeats 1600000 in
theorem covers_any (a b : Ru) (w : World) : Calls Tryz.prog 36 #[.agg #[.int .i64 a.kind, .int .i64 a.len, .int .i64 a.fr], .agg #[.int .i64 b.kind, .int .i64 b.len, .int .i64 b.fr]] w fun e w' => (∃ r : Bool, e = .returned (.bool r)) ∧ Below w.heap.size w w' := by
  have HKA := Aside0.mk (keeps_any a)
  have HKB := Aside0.mk (keeps_any b)
  have hla := fun h h2 => keepsB_len (x := a) h h2
  obtain ⟨ka, hka⟩ : ∃ ka, ka = keepsB a := ⟨_, rfl⟩
  obtain ⟨kb, hkb⟩ : ∃ kb, kb = keepsB b := ⟨_, rfl⟩
  rw [← hka] at HKA hla
  rw [← hkb] at HKB
  have HLA := Aside0.mk hla
  clear hla hka hkb
  obtain ⟨ak, al, af⟩ := a
  obtain ⟨bk, bl, bf⟩ := b
  dsimp only at HKA HKB HLA ⊢
  have HB0 := Aside0.mk (below_alloc (below_alloc (Below.refl w.heap.size w) (.cells #[.int .i64 ak, .int .i64 al, .int .i64 af] 41)) (.cells #[.int .i64 bk, .int .i64 bl, .int .i64 bf] 41))
  have HA0 := Aside0.mk (blk_alloc (blk_new w (.cells #[.int .i64 ak, .int .i64 al, .int .i64 af] 41)) (.cells #[.int .i64 bk, .int .i64 bl, .int .i64 bf] 41))
  have hbx := (blk_new (w.alloc (.cells #[.int .i64 ak, .int .i64 al, .int .i64 af] 41)) (.cells #[.int .i64 bk, .int .i64 bl, .int .i64 bf] 41))
  rw [World.size_alloc] at hbx
  have HBX0 := Aside0.mk hbx
  clear hbx
  cases ka
  · go_enter Tryz.func36, Tryz.ntmps36
    go_wp2_with (first | (go_at_call 35; with_reducible refine (HKA.out _).mono ?_; rintro e w1 ⟨rfl, hbb⟩; have HB1 := Aside0.mk (below_step HB0.out hbb); have HA1 := Aside0.mk (blk_below HA0.out hbb); have HBX1 := Aside0.mk (blk_below HBX0.out hbb); clear hbb; (have bx := HBX1.out; have q0 := blk_cell bx 0; have q1 := blk_cell bx 1; have q2 := blk_cell bx 2; simp only [List.getElem?_toArray, List.getElem?_cons_zero, List.getElem?_cons_succ] at q0 q1 q2; clear bx)) | (go_at_call 35; with_reducible refine (HKB.out _).mono ?_; rintro e w2 ⟨rfl, hbb⟩; have HB2 := Aside0.mk (below_step HB1.out hbb); clear q0 q1 q2; (have bx := blk_below HA1.out hbb; have p0 := blk_cell bx 0; have p1 := blk_cell bx 1; have p2 := blk_cell bx 2; simp only [List.getElem?_toArray, List.getElem?_cons_zero, List.getElem?_cons_succ] at p0 p1 p2; clear bx); (have bx := blk_below HBX1.out hbb; have q0 := blk_cell bx 0; have q1 := blk_cell bx 1; have q2 := blk_cell bx 2; simp only [List.getElem?_toArray, List.getElem?_cons_zero, List.getElem?_cons_succ] at q0 q1 q2; clear bx); clear hbb))
    go_ret
    exact ⟨⟨_, rfl⟩, HB1.out⟩
  · cases kb
    · go_enter Tryz.func36, Tryz.ntmps36
      go_wp2_with (first | (go_at_call 35; with_reducible refine (HKA.out _).mono ?_; rintro e w1 ⟨rfl, hbb⟩; have HB1 := Aside0.mk (below_step HB0.out hbb); have HA1 := Aside0.mk (blk_below HA0.out hbb); have HBX1 := Aside0.mk (blk_below HBX0.out hbb); clear hbb; (have bx := HBX1.out; have q0 := blk_cell bx 0; have q1 := blk_cell bx 1; have q2 := blk_cell bx 2; simp only [List.getElem?_toArray, List.getElem?_cons_zero, List.getElem?_cons_succ] at q0 q1 q2; clear bx)) | (go_at_call 35; with_reducible refine (HKB.out _).mono ?_; rintro e w2 ⟨rfl, hbb⟩; have HB2 := Aside0.mk (below_step HB1.out hbb); clear q0 q1 q2; (have bx := blk_below HA1.out hbb; have p0 := blk_cell bx 0; have p1 := blk_cell bx 1; have p2 := blk_cell bx 2; simp only [List.getElem?_toArray, List.getElem?_cons_zero, List.getElem?_cons_succ] at p0 p1 p2; clear bx); (have bx := blk_below HBX1.out hbb; have q0 := blk_cell bx 0; have q1 := blk_cell bx 1; have q2 := blk_cell bx 2; simp only [List.getElem?_toArray, List.getElem?_cons_zero, List.getElem?_cons_succ] at q0 q1 q2; clear bx); clear hbb))
      go_ret
      exact ⟨⟨_, rfl⟩, HB2.out⟩
    · by_cases hf : af < bf
      · go_enter Tryz.func36, Tryz.ntmps36
        go_wp2_with (first | (go_at_call 35; with_reducible refine (HKA.out _).mono ?_; rintro e w1 ⟨rfl, hbb⟩; have HB1 := Aside0.mk (below_step HB0.out hbb); have HA1 := Aside0.mk (blk_below HA0.out hbb); have HBX1 := Aside0.mk (blk_below HBX0.out hbb); clear hbb; (have bx := HBX1.out; have q0 := blk_cell bx 0; have q1 := blk_cell bx 1; have q2 := blk_cell bx 2; simp only [List.getElem?_toArray, List.getElem?_cons_zero, List.getElem?_cons_succ] at q0 q1 q2; clear bx)) | (go_at_call 35; with_reducible refine (HKB.out _).mono ?_; rintro e w2 ⟨rfl, hbb⟩; have HB2 := Aside0.mk (below_step HB1.out hbb); clear q0 q1 q2; (have bx := blk_below HA1.out hbb; have p0 := blk_cell bx 0; have p1 := blk_cell bx 1; have p2 := blk_cell bx 2; simp only [List.getElem?_toArray, List.getElem?_cons_zero, List.getElem?_cons_succ] at p0 p1 p2; clear bx); (have bx := blk_below HBX1.out hbb; have q0 := blk_cell bx 0; have q1 := blk_cell bx 1; have q2 := blk_cell bx 2; simp only [List.getElem?_toArray, List.getElem?_cons_zero, List.getElem?_cons_succ] at q0 q1 q2; clear bx); clear hbb))
        go_ret
        exact ⟨⟨_, rfl⟩, HB2.out⟩
      · by_cases h1 : ak = 1
        · subst h1
          go_enter Tryz.func36, Tryz.ntmps36
          go_wp2_with (first | (go_at_call 35; with_reducible refine (HKA.out _).mono ?_; rintro e w1 ⟨rfl, hbb⟩; have HB1 := Aside0.mk (below_step HB0.out hbb); have HA1 := Aside0.mk (blk_below HA0.out hbb); have HBX1 := Aside0.mk (blk_below HBX0.out hbb); clear hbb; (have bx := HBX1.out; have q0 := blk_cell bx 0; have q1 := blk_cell bx 1; have q2 := blk_cell bx 2; simp only [List.getElem?_toArray, List.getElem?_cons_zero, List.getElem?_cons_succ] at q0 q1 q2; clear bx)) | (go_at_call 35; with_reducible refine (HKB.out _).mono ?_; rintro e w2 ⟨rfl, hbb⟩; have HB2 := Aside0.mk (below_step HB1.out hbb); clear q0 q1 q2; (have bx := blk_below HA1.out hbb; have p0 := blk_cell bx 0; have p1 := blk_cell bx 1; have p2 := blk_cell bx 2; simp only [List.getElem?_toArray, List.getElem?_cons_zero, List.getElem?_cons_succ] at p0 p1 p2; clear bx); (have bx := blk_below HBX1.out hbb; have q0 := blk_cell bx 0; have q1 := blk_cell bx 1; have q2 := blk_cell bx 2; simp only [List.getElem?_toArray, List.getElem?_cons_zero, List.getElem?_cons_succ] at q0 q1 q2; clear bx); clear hbb))
          go_ret
          exact ⟨⟨_, rfl⟩, HB2.out⟩
        · by_cases h2 : ak = bk
          · by_cases h3 : ak = 2
            · subst h2
              subst h3
              have i1 := HLA.out rfl rfl
              have i2 : ¬ al = 0 := by omega
              go_enter Tryz.func36, Tryz.ntmps36
              go_wp2_with (first | (go_at_call 35; with_reducible refine (HKA.out _).mono ?_; rintro e w1 ⟨rfl, hbb⟩; have HB1 := Aside0.mk (below_step HB0.out hbb); have HA1 := Aside0.mk (blk_below HA0.out hbb); have HBX1 := Aside0.mk (blk_below HBX0.out hbb); clear hbb; (have bx := HBX1.out; have q0 := blk_cell bx 0; have q1 := blk_cell bx 1; have q2 := blk_cell bx 2; simp only [List.getElem?_toArray, List.getElem?_cons_zero, List.getElem?_cons_succ] at q0 q1 q2; clear bx)) | (go_at_call 35; with_reducible refine (HKB.out _).mono ?_; rintro e w2 ⟨rfl, hbb⟩; have HB2 := Aside0.mk (below_step HB1.out hbb); clear q0 q1 q2; (have bx := blk_below HA1.out hbb; have p0 := blk_cell bx 0; have p1 := blk_cell bx 1; have p2 := blk_cell bx 2; simp only [List.getElem?_toArray, List.getElem?_cons_zero, List.getElem?_cons_succ] at p0 p1 p2; clear bx); (have bx := blk_below HBX1.out hbb; have q0 := blk_cell bx 0; have q1 := blk_cell bx 1; have q2 := blk_cell bx 2; simp only [List.getElem?_toArray, List.getElem?_cons_zero, List.getElem?_cons_succ] at q0 q1 q2; clear bx); clear hbb))
              go_ret
              exact ⟨⟨_, rfl⟩, HB2.out⟩
            · subst h2
              go_enter Tryz.func36, Tryz.ntmps36
              go_wp2_with (first | (go_at_call 35; with_reducible refine (HKA.out _).mono ?_; rintro e w1 ⟨rfl, hbb⟩; have HB1 := Aside0.mk (below_step HB0.out hbb); have HA1 := Aside0.mk (blk_below HA0.out hbb); have HBX1 := Aside0.mk (blk_below HBX0.out hbb); clear hbb; (have bx := HBX1.out; have q0 := blk_cell bx 0; have q1 := blk_cell bx 1; have q2 := blk_cell bx 2; simp only [List.getElem?_toArray, List.getElem?_cons_zero, List.getElem?_cons_succ] at q0 q1 q2; clear bx)) | (go_at_call 35; with_reducible refine (HKB.out _).mono ?_; rintro e w2 ⟨rfl, hbb⟩; have HB2 := Aside0.mk (below_step HB1.out hbb); clear q0 q1 q2; (have bx := blk_below HA1.out hbb; have p0 := blk_cell bx 0; have p1 := blk_cell bx 1; have p2 := blk_cell bx 2; simp only [List.getElem?_toArray, List.getElem?_cons_zero, List.getElem?_cons_succ] at p0 p1 p2; clear bx); (have bx := blk_below HBX1.out hbb; have q0 := blk_cell bx 0; have q1 := blk_cell bx 1; have q2 := blk_cell bx 2; simp only [List.getElem?_toArray, List.getElem?_cons_zero, List.getElem?_cons_succ] at q0 q1 q2; clear bx); clear hbb))
              go_ret
              exact ⟨⟨_, rfl⟩, HB2.out⟩
          · go_enter Tryz.func36, Tryz.ntmps36
            go_wp2_with (first | (go_at_call 35; with_reducible refine (HKA.out _).mono ?_; rintro e w1 ⟨rfl, hbb⟩; have HB1 := Aside0.mk (below_step HB0.out hbb); have HA1 := Aside0.mk (blk_below HA0.out hbb); have HBX1 := Aside0.mk (blk_below HBX0.out hbb); clear hbb; (have bx := HBX1.out; have q0 := blk_cell bx 0; have q1 := blk_cell bx 1; have q2 := blk_cell bx 2; simp only [List.getElem?_toArray, List.getElem?_cons_zero, List.getElem?_cons_succ] at q0 q1 q2; clear bx)) | (go_at_call 35; with_reducible refine (HKB.out _).mono ?_; rintro e w2 ⟨rfl, hbb⟩; have HB2 := Aside0.mk (below_step HB1.out hbb); clear q0 q1 q2; (have bx := blk_below HA1.out hbb; have p0 := blk_cell bx 0; have p1 := blk_cell bx 1; have p2 := blk_cell bx 2; simp only [List.getElem?_toArray, List.getElem?_cons_zero, List.getElem?_cons_succ] at p0 p1 p2; clear bx); (have bx := blk_below HBX1.out hbb; have q0 := blk_cell bx 0; have q1 := blk_cell bx 1; have q2 := blk_cell bx 2; simp only [List.getElem?_toArray, List.getElem?_cons_zero, List.getElem?_cons_succ] at q0 q1 q2; clear bx); clear hbb))
            go_ret
            exact ⟨⟨_, rfl⟩, HB2.out⟩
/-- A rule that is too long beside a Never. -/
def longB (a b : Ru) : Bool := keepsB a && (decide (b.kind = 4) && decide (b.fr < a.fr))
theorem two_box (w : World) (c1 c2 : Obj) : ((w.alloc c1).alloc c2).drew.heap[w.heap.size]? = some c1 ∧ ((w.alloc c1).alloc c2).drew.heap[w.heap.size + 1]? = some c2 := by
  refine ⟨blk_drew (blk_alloc (blk_new w c1) c2), blk_drew ?_⟩
  have := blk_new (w.alloc c1) c2
  rwa [World.size_alloc] at this
set_option maxHeartbeats 1600000 in
theorem why_any (A : Option Addr) (n c i j : Nat) (l : List Ru) (hi : i < n) (hj : j < n) (hij : i ≠ j) (h1000 : n ≤ 1000) (w : World) (h : kRu.C w A n l) :
    Calls Tryz.prog 16 #[.slice A n c, .int .i64 i, .int .i64 j] w fun e w' => (∃ v : Int, e = .returned (.int .i64 v) ∧ (v = 1 ↔ longB (gt l i) (gt l j) = true)) ∧ Below w.heap.size w w' := by
  obtain ⟨ad, rfl, p0, p1, p2⟩ := ru_at h hi
  obtain ⟨ad2, e2, q0, q1, q2⟩ := ru_at h hj
  cases e2
  have HKA := Aside0.mk (keeps_any (gt l i))
  have HC1 := Aside0.mk (covers_any (gt l i) (gt l j))
  have HC2 := Aside0.mk (covers_any (gt l j) (gt l i))
  obtain ⟨ka, hka⟩ : ∃ ka, ka = keepsB (gt l i) := ⟨_, rfl⟩
  unfold longB
  rw [← hka] at HKA ⊢
  have i1 : (i : Int) < (n : Int) := by omega
  have i2 : (j : Int) < (n : Int) := by omega
  generalize gt l i = a at *
  generalize gt l j = b at *
  obtain ⟨ak, al, af⟩ := a
  obtain ⟨bk, bl, bf⟩ := b
  dsimp only at p0 p1 p2 q0 q1 q2 HKA HC1 HC2 ⊢
  clear hka h
  go_enter Tryz.func16, Tryz.ntmps16
  go_upto_region 1 with fail
  go_cut [7, 8] (fun v7 v8 wd => ∃ B7 B8 : Nat, v7 = .pointer (some ⟨B7, 0, none⟩) ∧ v8 = .pointer (some ⟨B8, 0, none⟩) ∧ Aside0 (ruBox wd B7 ⟨ak, al, af⟩) ∧ Aside0 (ruBox wd B8 ⟨bk, bl, bf⟩) ∧ Aside0 (Below w.heap.size w wd))
  case first =>
    go_region_held3 (fun W => W.cell? (ad.add (i * 3)) = some (.int .i64 ak) ∧ W.cell? ⟨(ad.add (i * 3)).block, (ad.add (i * 3)).off + 1, none⟩ = some (.int .i64 al) ∧ W.cell? ⟨(ad.add (i * 3)).block, (ad.add (i * 3)).off + 2, none⟩ = some (.int .i64 af) ∧ W.cell? (ad.add (j * 3)) = some (.int .i64 bk) ∧ W.cell? ⟨(ad.add (j * 3)).block, (ad.add (j * 3)).off + 1, none⟩ = some (.int .i64 bl) ∧ W.cell? ⟨(ad.add (j * 3)).block, (ad.add (j * 3)).off + 2, none⟩ = some (.int .i64 bf)) (go_keep) (fail)
    all_goals (go_wp2_with fail)
    all_goals go_meet
    all_goals (first | (exact ⟨_, _, rfl, rfl, ⟨(two_box w _ _).1⟩, ⟨(two_box w _ _).2⟩, ⟨below_drew (below_alloc (below_alloc (Below.refl _ _) _) _)⟩⟩) | (exact ⟨_, _, rfl, rfl, ⟨(two_box w _ _).2⟩, ⟨(two_box w _ _).1⟩, ⟨below_drew (below_alloc (below_alloc (Below.refl _ _) _) _)⟩⟩))
  obtain ⟨B7, B8, rfl, rfl, HA0, HBX0, HB0⟩ := hcut
  clear p0 p1 p2 q0 q1 q2
  (have bx := HA0.out; have p0 := blk_cell bx 0; have p1 := blk_cell bx 1; have p2 := blk_cell bx 2; simp only [List.getElem?_toArray, List.getElem?_cons_zero, List.getElem?_cons_succ] at p0 p1 p2; clear bx)
  (have bx := HBX0.out; have q0 := blk_cell bx 0; have q1 := blk_cell bx 1; have q2 := blk_cell bx 2; simp only [List.getElem?_toArray, List.getElem?_cons_zero, List.getElem?_cons_succ] at q0 q1 q2; clear bx)
  go_upto_region 2 with fail
  go_cut [17] (fun v17 wd => v17 = .bool (ka && (decide (bk = 4) && decide (bf < af))) ∧ Aside0 (ruBox wd B7 ⟨ak, al, af⟩) ∧ Aside0 (ruBox wd B8 ⟨bk, bl, bf⟩) ∧ Aside0 (Below w.heap.size w wd))
  case first =>
    cases ka
    · (go_wp2_with (go_at_call 35; (with_reducible refine (HKA.out _).mono ?_); rintro e w1 ⟨rfl, hbb⟩; have HB1 := Aside0.mk (below_step HB0.out hbb); have HA1 := Aside0.mk (blk_below HA0.out hbb); have HBX1 := Aside0.mk (blk_below HBX0.out hbb); clear hbb p0 p1 p2 q0 q1 q2; (have bx := HA1.out; have p0 := blk_cell bx 0; have p1 := blk_cell bx 1; have p2 := blk_cell bx 2; simp only [List.getElem?_toArray, List.getElem?_cons_zero, List.getElem?_cons_succ] at p0 p1 p2; clear bx); (have bx := HBX1.out; have q0 := blk_cell bx 0; have q1 := blk_cell bx 1; have q2 := blk_cell bx 2; simp only [List.getElem?_toArray, List.getElem?_cons_zero, List.getElem?_cons_succ] at q0 q1 q2; clear bx)))
      go_meet
      case rel => exact ⟨rfl, HA1, HBX1, HB1⟩
    · by_cases h4 : bk = 4
      · subst h4
        by_cases hf : bf < af
        · (go_wp2_with (go_at_call 35; (with_reducible refine (HKA.out _).mono ?_); rintro e w1 ⟨rfl, hbb⟩; have HB1 := Aside0.mk (below_step HB0.out hbb); have HA1 := Aside0.mk (blk_below HA0.out hbb); have HBX1 := Aside0.mk (blk_below HBX0.out hbb); clear hbb p0 p1 p2 q0 q1 q2; (have bx := HA1.out; have p0 := blk_cell bx 0; have p1 := blk_cell bx 1; have p2 := blk_cell bx 2; simp only [List.getElem?_toArray, List.getElem?_cons_zero, List.getElem?_cons_succ] at p0 p1 p2; clear bx); (have bx := HBX1.out; have q0 := blk_cell bx 0; have q1 := blk_cell bx 1; have q2 := blk_cell bx 2; simp only [List.getElem?_toArray, List.getElem?_cons_zero, List.getElem?_cons_succ] at q0 q1 q2; clear bx)))
          go_meet
          case rel => exact ⟨by simp [hf], HA1, HBX1, HB1⟩
        · (go_wp2_with (go_at_call 35; (with_reducible refine (HKA.out _).mono ?_); rintro e w1 ⟨rfl, hbb⟩; have HB1 := Aside0.mk (below_step HB0.out hbb); have HA1 := Aside0.mk (blk_below HA0.out hbb); have HBX1 := Aside0.mk (blk_below HBX0.out hbb); clear hbb p0 p1 p2 q0 q1 q2; (have bx := HA1.out; have p0 := blk_cell bx 0; have p1 := blk_cell bx 1; have p2 := blk_cell bx 2; simp only [List.getElem?_toArray, List.getElem?_cons_zero, List.getElem?_cons_succ] at p0 p1 p2; clear bx); (have bx := HBX1.out; have q0 := blk_cell bx 0; have q1 := blk_cell bx 1; have q2 := blk_cell bx 2; simp only [List.getElem?_toArray, List.getElem?_cons_zero, List.getElem?_cons_succ] at q0 q1 q2; clear bx)))
          go_meet
          case rel => exact ⟨by simp [hf], HA1, HBX1, HB1⟩
      · (go_wp2_with (go_at_call 35; (with_reducible refine (HKA.out _).mono ?_); rintro e w1 ⟨rfl, hbb⟩; have HB1 := Aside0.mk (below_step HB0.out hbb); have HA1 := Aside0.mk (blk_below HA0.out hbb); have HBX1 := Aside0.mk (blk_below HBX0.out hbb); clear hbb p0 p1 p2 q0 q1 q2; (have bx := HA1.out; have p0 := blk_cell bx 0; have p1 := blk_cell bx 1; have p2 := blk_cell bx 2; simp only [List.getElem?_toArray, List.getElem?_cons_zero, List.getElem?_cons_succ] at p0 p1 p2; clear bx); (have bx := HBX1.out; have q0 := blk_cell bx 0; have q1 := blk_cell bx 1; have q2 := blk_cell bx 2; simp only [List.getElem?_toArray, List.getElem?_cons_zero, List.getElem?_cons_succ] at q0 q1 q2; clear bx)))
        go_meet
        case rel => exact ⟨by simp [h4], HA1, HBX1, HB1⟩
  obtain ⟨rfl, HA1, HBX1, HB1⟩ := hcut
  clear p0 p1 p2 q0 q1 q2 HA0 HBX0 HB0
  obtain ⟨t, ht⟩ : ∃ t, t = (ka && (decide (bk = 4) && decide (bf < af))) := ⟨_, rfl⟩
  rw [← ht]
  have HT := Aside0.mk ht
  clear ht
  cases t
  · have HNO : Aside0 (∀ v : Int, v ≠ 1 → (v = 1 ↔ (ka && (decide (bk = 4) && decide (bf < af))) = true)) := ⟨fun v hv => ⟨fun h => absurd h hv, fun h => by rw [← HT.out] at h; cases h⟩⟩
    (have bx := HA1.out; have p0 := blk_cell bx 0; have p1 := blk_cell bx 1; have p2 := blk_cell bx 2; simp only [List.getElem?_toArray, List.getElem?_cons_zero, List.getElem?_cons_succ] at p0 p1 p2; clear bx)
    (have bx := HBX1.out; have q0 := blk_cell bx 0; have q1 := blk_cell bx 1; have q2 := blk_cell bx 2; simp only [List.getElem?_toArray, List.getElem?_cons_zero, List.getElem?_cons_succ] at q0 q1 q2; clear bx)
    go_upto_region 4 with fail
    go_cut [32] (fun v32 wd => ∃ t : Bool, v32 = .bool t ∧ Aside0 (ruBox wd B7 ⟨ak, al, af⟩) ∧ Aside0 (ruBox wd B8 ⟨bk, bl, bf⟩) ∧ Aside0 (Below w.heap.size w wd))
    case first =>
      by_cases h1 : ak = 4
      · by_cases h2 : bk = 4
        · by_cases h3 : (i : Int) > (j : Int)
          · go_wp2_with fail
            go_meet
            case rel => exact ⟨_, rfl, HA1, HBX1, HB1⟩
          · go_wp2_with fail
            go_meet
            case rel => exact ⟨_, rfl, HA1, HBX1, HB1⟩
        · go_wp2_with fail
          go_meet
          case rel => exact ⟨_, rfl, HA1, HBX1, HB1⟩
      · go_wp2_with fail
        go_meet
        case rel => exact ⟨_, rfl, HA1, HBX1, HB1⟩
    obtain ⟨t2, rfl, HA2, HBX2, HB2⟩ := hcut
    clear p0 p1 p2 q0 q1 q2 HA1 HBX1 HB1
    cases t2
    · (have bx := HA2.out; have p0 := blk_cell bx 0; have p1 := blk_cell bx 1; have p2 := blk_cell bx 2; simp only [List.getElem?_toArray, List.getElem?_cons_zero, List.getElem?_cons_succ] at p0 p1 p2; clear bx)
      (have bx := HBX2.out; have q0 := blk_cell bx 0; have q1 := blk_cell bx 1; have q2 := blk_cell bx 2; simp only [List.getElem?_toArray, List.getElem?_cons_zero, List.getElem?_cons_succ] at q0 q1 q2; clear bx)
      go_upto_region 6 with fail
      go_cut [46] (fun v46 wd => ∃ t : Bool, v46 = .bool t ∧ Aside0 (Below w.heap.size w wd))
      case first =>
        by_cases h3 : (i : Int) > (j : Int)
        · (go_wp2_with (first | (go_at_call 36; (with_reducible refine (HC2.out _).mono ?_); rintro e w3 ⟨⟨r, rfl⟩, hbb⟩; have HB3 := Aside0.mk (below_step HB2.out hbb); clear p0 p1 p2 q0 q1 q2; (have bx := blk_below HA2.out hbb; have p0 := blk_cell bx 0; have p1 := blk_cell bx 1; have p2 := blk_cell bx 2; simp only [List.getElem?_toArray, List.getElem?_cons_zero, List.getElem?_cons_succ] at p0 p1 p2; clear bx); (have bx := blk_below HBX2.out hbb; have q0 := blk_cell bx 0; have q1 := blk_cell bx 1; have q2 := blk_cell bx 2; simp only [List.getElem?_toArray, List.getElem?_cons_zero, List.getElem?_cons_succ] at q0 q1 q2; clear bx); clear hbb; cases r) | (go_at_call 36; (with_reducible refine (HC1.out _).mono ?_); rintro e w4 ⟨⟨r, rfl⟩, hbb⟩; have HB4 := Aside0.mk (below_step HB3.out hbb); clear hbb; cases r)))
          all_goals go_meet
          all_goals (first | exact ⟨_, rfl, HB3⟩ | exact ⟨_, rfl, HB4⟩)
        · (go_wp2_with (first | (go_at_call 36; (with_reducible refine (HC2.out _).mono ?_); rintro e w3 ⟨⟨r, rfl⟩, hbb⟩; have HB3 := Aside0.mk (below_step HB2.out hbb); clear p0 p1 p2 q0 q1 q2; (have bx := blk_below HA2.out hbb; have p0 := blk_cell bx 0; have p1 := blk_cell bx 1; have p2 := blk_cell bx 2; simp only [List.getElem?_toArray, List.getElem?_cons_zero, List.getElem?_cons_succ] at p0 p1 p2; clear bx); (have bx := blk_below HBX2.out hbb; have q0 := blk_cell bx 0; have q1 := blk_cell bx 1; have q2 := blk_cell bx 2; simp only [List.getElem?_toArray, List.getElem?_cons_zero, List.getElem?_cons_succ] at q0 q1 q2; clear bx); clear hbb; cases r) | (go_at_call 36; (with_reducible refine (HC1.out _).mono ?_); rintro e w4 ⟨⟨r, rfl⟩, hbb⟩; have HB4 := Aside0.mk (below_step HB3.out hbb); clear hbb; cases r)))
          all_goals go_meet
          all_goals (first | exact ⟨_, rfl, HB3⟩ | exact ⟨_, rfl, HB4⟩)
      obtain ⟨t3, rfl, HB3⟩ := hcut
      cases t3
      · go_wp2_with fail
        go_ret
        exact ⟨⟨_, rfl, HNO.out _ (by decide)⟩, HB3.out⟩
      · go_wp2_with fail
        go_ret
        exact ⟨⟨_, rfl, HNO.out _ (by decide)⟩, HB3.out⟩
    · go_wp2_with fail
      go_ret
      exact ⟨⟨_, rfl, HNO.out _ (by decide)⟩, HB2.out⟩
  · go_wp2_with fail
    go_ret
    exact ⟨⟨1, rfl, ⟨fun _ => HT.out.symm, fun _ => rfl⟩⟩, HB1.out⟩
end Go.Proofs.YtjoafafjpmfjbaaGreatDoor
namespace Go.Proofs.YtjoafafjpmfjbaaGreatDoor
open Go.RowKit Go.Shelf Go.Proofs.YtjoafafjpmfjbaaGreatDoorW.PrintWords Go.Proofs.YtjoafafjpmfjbaaGreatDoorW.PrintLast Go.Proofs.YtjoafafjpmfjbaaGreatDoorW.PrintMore
set_option linter.unusedVariables false
set_option linter.unusedSimpArgs false

/-- A clash. -/
structure Cl where
  i : Int
  j : Int
  why : Int
  deriving Inhabited
def kClash : Kd Cl := Kd.iso (Kd.pair (Kd.int .i64) (Kd.pair (Kd.int .i64) (Kd.int .i64))) (fun x : Cl => (x.i, x.j, x.why))
theorem kClash_open {w : World} {x : Cl} {cs : List Value} (h : kClash.K w x cs) : cs = [.int .i64 x.i, .int .i64 x.j, .int .i64 x.why] := by
  obtain ⟨_, _, rfl, rfl, ⟨_, _, rfl, rfl, rfl⟩⟩ := h
  rfl
theorem kClash_mk (w : World) (base : Nat) (ok : Nat → Prop) (x y z : Int) : kClash.M w base ok ⟨x, y, z⟩ [.int .i64 x, .int .i64 y, .int .i64 z] := ⟨[.int .i64 x], [.int .i64 y, .int .i64 z], rfl, rfl, ⟨[.int .i64 y], [.int .i64 z], rfl, rfl, rfl⟩⟩
theorem clash_at {w : World} {A : Option Addr} {n : Nat} {xs : List Cl} (h : kClash.C w A n xs) {k : Nat} (hk : k < n) : ∃ ad, A = some ad ∧ w.cell? (ad.add (k * 3)) = some (.int .i64 (gt xs k).i) ∧ w.cell? ⟨(ad.add (k * 3)).block, (ad.add (k * 3)).off + 1, none⟩ = some (.int .i64 (gt xs k).j) ∧
    w.cell? ⟨(ad.add (k * 3)).block, (ad.add (k * 3)).off + 2, none⟩ = some (.int .i64 (gt xs k).why) := by
  obtain ⟨ad, cs, e, hK, hc0⟩ := C_at h hk
  have hc : ∀ j u, cs[j]? = some u → w.cell? (ad.add (k * 3 + j)) = some u := hc0
  have hK' := kClash_open hK
  subst hK'
  exact ⟨ad, e, hc 0 _ rfl, by rw [← add_field _ _ 1 (by omega)]; exact hc 1 _ rfl, by rw [← add_field _ _ 2 (by omega)]; exact hc 2 _ rfl⟩
/-- What a clash tells. -/
def ClOk (l : List Ru) (n : Nat) (c : Cl) : Prop := ∃ i j : Nat, c.i = i ∧ c.j = j ∧ i < n ∧ j < n ∧ i ≠ j ∧ (c.why = 1 ↔ longB (gt l i) (gt l j) = true)
/-- The clashes of the pairs ahead of (k, m). -/
structure ChkInv (l : List Ru) (n k m : Nat) (L : List Cl) : Prop where
  ok : ∀ c ∈ L, ClOk l n c
  all : ∀ i j : Nat, i < n → j < n → i ≠ j → (i < k ∨ (i = k ∧ j < m)) → longB (gt l i) (gt l j) = true → ∃ c ∈ L, c.why = 1
  len : L.length ≤ 16 * k + m
theorem ChkInv.skip {l : List Ru} {n k : Nat} {L : List Cl} (h : ChkInv l n k k L) : ChkInv l n k (k + 1) L :=
  ⟨h.ok, fun i j hi hj hij hp hl => h.all i j hi hj hij (by rcases hp with hp | ⟨rfl, hp⟩; exact .inl hp; exact .inr ⟨rfl, by omega⟩) hl, by have := h.len; omega⟩
theorem ChkInv.none {l : List Ru} {n k m : Nat} {L : List Cl} (h : ChkInv l n k m L) (hn : longB (gt l k) (gt l m) = false) : ChkInv l n k (m + 1) L :=
  ⟨h.ok, fun i j hi hj hij hp hl => h.all i j hi hj hij (by
    rcases hp with hp | ⟨rfl, hp⟩
    · exact .inl hp
    · by_cases e : j = m
      · subst e; rw [hn] at hl; cases hl
      · exact .inr ⟨rfl, by omega⟩) hl, by have := h.len; omega⟩
theorem ChkInv.put {l : List Ru} {n k m : Nat} {L : List Cl} (h : ChkInv l n k m L) (hk : k < n) (hm : m < n) (hkm : k ≠ m) (v : Int) (hv : v = 1 ↔ longB (gt l k) (gt l m) = true) : ChkInv l n k (m + 1) (L ++ [⟨k, m, v⟩]) :=
  ⟨fun c hc => by
    rw [List.mem_append, List.mem_singleton] at hc
    rcases hc with hc | rfl
    · exact h.ok c hc
    · exact ⟨k, m, rfl, rfl, hk, hm, hkm, hv⟩,
   fun i j hi hj hij hp hl => by
    by_cases e : i = k ∧ j = m
    · obtain ⟨rfl, rfl⟩ := e
      exact ⟨_, List.mem_append_right _ (List.mem_singleton_self _), hv.2 hl⟩
    · obtain ⟨c, hc, h1⟩ := h.all i j hi hj hij (by omega) hl
      exact ⟨c, List.mem_append_left _ hc, h1⟩, by have := h.len; simp; omega⟩
theorem ChkInv.next {l : List Ru} {n k : Nat} {L : List Cl} (h : ChkInv l n k n L) (h16 : n ≤ 16) : ChkInv l n (k + 1) 0 L :=
  ⟨h.ok, fun i j hi hj hij hp hl => h.all i j hi hj hij (by omega) hl, by have := h.len; omega⟩
theorem info_clash : (Tryz.prog.info? 39).map (fun i => (i.zero, i.size, i.bytes)) = some (some (.agg #[.int .i64 0, .int .i64 0, .int .i64 0]), 3, 24) := by kernel_rfl
set_option maxHeartbeats 3200000 in
theorem check_any (A : Option Addr) (n c : Nat) (l : List Ru) (h16 : n ≤ 16) (w : World) (h : kRu.C w A n l) :
    Calls Tryz.prog 6 #[.slice A n c] w fun e w' => ∃ v, e = .returned v ∧ ∃ L, kClash.R 39 w' w.heap.size (fun _ => True) v L ∧ ChkInv l n n 0 L ∧ Below w.heap.size w w' := by
  have H := Aside0.mk h
  clear h
  go_enter Tryz.func6, Tryz.ntmps6
  go_wp2_with fail
  go_loopg [9, 3] n (fun gk i v wr => ∃ k : Nat, k ≤ n ∧ Aside0 (gk = n - k) ∧ i = .int .i64 k ∧ ∃ L, Aside0 (kClash.R 39 wr w.heap.size (fun _ => True) v L) ∧ Aside0 (ChkInv l n k 0 L) ∧ Aside0 (Below w.heap.size w wr))
  case atStart => exact ⟨0, Nat.zero_le _, ⟨rfl⟩, rfl, [], ⟨Kd.R_nil _ _ _ _ _⟩, ⟨⟨fun c hc => by simp at hc, fun i j _ _ _ hp => by omega, by simp⟩⟩, ⟨Below.refl _ _⟩⟩
  case round =>
    obtain ⟨k, hk, HGK, rfl, L0, HR, HI, HB⟩ := hrel
    by_cases hlt : k < n
    · have i1 : (k : Int) < (n : Int) := by omega
      go_wp2_with fail
      go_loopg [14, 3] n (fun gk i v wr => ∃ m : Nat, m ≤ n ∧ Aside0 (gk = n - m) ∧ i = .int .i64 m ∧ ∃ L, Aside0 (kClash.R 39 wr w.heap.size (fun _ => True) v L) ∧ Aside0 (ChkInv l n k m L) ∧ Aside0 (Below w.heap.size w wr))
      case atStart => exact ⟨0, Nat.zero_le _, ⟨rfl⟩, rfl, L0, HR, HI, HB⟩
      case round =>
        clear HR HI HB
        obtain ⟨m, hm, HGM, rfl, L, HR, HI, HB⟩ := hrel
        by_cases hlm : m < n
        · have i2 : (m : Int) < (n : Int) := by omega
          by_cases hkm : k = m
          · subst hkm
            go_wp2_with fail
            go_roundg (n - (k + 1))
            case measure => have := HGM.out; omega
            case rel => exact ⟨k + 1, by omega, ⟨rfl⟩, by go_num, L, HR, ⟨HI.out.skip⟩, HB⟩
          · have i3 : ¬ ((k : Int) = (m : Int)) := by omega
            have HW := Aside0.mk (why_any A n c k m l hlt hlm hkm (by omega) wr (Kd.C_below H.out HB.out))
            go_wp2_with (first | (go_at_call 16; refine HW.out.mono ?_; rintro e w1 ⟨⟨y, rfl, hy⟩, hbb⟩; have HY := Aside0.mk hy; have HB1 := Aside0.mk (below_step HB.out hbb); have HR1 := Aside0.mk (Kd.R_below HR.out hbb); clear hbb hy; by_cases hy0 : y = 0) | ((with_reducible refine gate_builtin (b := .append) (xs := #[.tmp 26, .tmp 31]) rfl ?_); at_builtin; refine Kd.R_append kClash (w0 := w) w.heap.size rfl (.tmp 26) (.tmp 31) 36 39 (.agg #[.int .i64 0, .int .i64 0, .int .i64 0]) 24 rfl Tryz.underlying36 info_clash rfl (Nat.succ_pos _) (by omega) _ L ⟨k, m, y⟩ [.int .i64 k, .int .i64 m, .int .i64 y] (fun _ => True) (fun _ => False) rfl rfl (kClash_mk _ _ _ _ _ _) (fun _ hk => hk.elim) (fun _ _ => trivial) HR1.out HB1.out HB1.out.size (by have := HI.out.len; omega) ?_; intro v2 w2 ho hb hg hat; have HR2 := Aside0.mk ho; have HB2 := Aside0.mk hb; clear ho hb hg hat))
            · go_roundg (n - (m + 1))
              case measure => have := HGM.out; omega
              case rel => exact ⟨m + 1, by omega, ⟨rfl⟩, by go_num, L, HR1, ⟨HI.out.none (by cases hl : longB (gt l k) (gt l m); rfl; have := HY.out.2 hl; omega)⟩, HB1⟩
            · go_roundg (n - (m + 1))
              case measure => have := HGM.out; omega
              case rel => exact ⟨m + 1, by omega, ⟨rfl⟩, by go_num, _, HR2, ⟨HI.out.put hlt hlm hkm y HY.out⟩, HB2⟩
        · have i2 : ¬ (m : Int) < (n : Int) := by omega
          obtain rfl : m = n := by omega
          go_wp2_with fail
          go_roundg (m - (k + 1))
          case measure => have := HGK.out; omega
          case rel => exact ⟨k + 1, by omega, ⟨rfl⟩, by go_num, L, HR, ⟨HI.out.next h16⟩, HB⟩
    · have i1 : ¬ (k : Int) < (n : Int) := by omega
      obtain rfl : k = n := by omega
      go_wp2_with fail
      go_ret
      exact ⟨_, rfl, L0, HR.out, HI.out, HB.out⟩
end Go.Proofs.YtjoafafjpmfjbaaGreatDoor
