/-
  WholeTooLong: an empty book holds nothing.
-/
import Derived.Test.YtjoafafjpmfjbaaGreatDoorGa
import Derived.RangeFuncNested
import Derived.RangeFuncBound
import Derived.RangeFuncCalls
import Derived.RangeFuncLeaves
import Derived.Shelf.Abstract
import Derived.Shelf.RegionOpen
import Derived.WalkKit
import Derived.OwnWalkIn
import Derived.TacticsInMore
import Derived.LoopNIn
import Derived.LoopIn
/-
  WholeTooLong: a new table, a new book, a new forest.
-/
namespace Go.Proofs.YtjoafafjpmfjbaaGreatDoor
open Go.RowKit Go.Proofs.YtjoafafjpmfjbaaGreatDoorW.PrintWords Go.Proofs.YtjoafafjpmfjbaaGreatDoorW.PrintLast Go.Proofs.YtjoafafjpmfjbaaGreatDoorW.PrintMore
set_option linter.unusedVariables false
set_option linter.unusedSimpArgs false

theorem new_tab (w : World) : Calls Tryz.prog 13 #[] w fun e w' => e = .returned (.pointer (some ⟨w.heap.size, 0, none⟩)) ∧ w' = w.alloc (.cells #[.slice none 0 0] 60) := by
  go_enter Tryz.func13, Tryz.ntmps13
  go_wp2_with fail
  go_ret
  exact ⟨rfl, rfl⟩
theorem new_book (w : World) : Calls Tryz.prog 14 #[] w fun e w' => e = .returned (.pointer (some ⟨w.heap.size, 0, none⟩)) ∧ w' = w.alloc (.cells #[.slice none 0 0] 95) := by
  go_enter Tryz.func14, Tryz.ntmps14
  go_wp2_with fail
  go_ret
  exact ⟨rfl, rfl⟩
/-- A forest with no branch. -/
def forestZ : List Value := (List.replicate 16 [.bool false, .int .i64 0, .int .u64 0, .int .u64 0]).flatten
theorem new_forest (w : World) : Calls Tryz.prog 15 #[] w fun e w' => e = .returned (.pointer (some ⟨w.heap.size, 0, none⟩)) ∧ w' = w.alloc (.cells forestZ.toArray 100) := by
  obtain ⟨zz, hzz⟩ : ∃ zz, zz = forestZ := ⟨_, rfl⟩
  have HZZ := Aside0.mk hzz
  rw [← hzz]
  clear hzz
  go_enter Tryz.func15, Tryz.ntmps15
  go_wp2_with fail
  go_ret
  exact ⟨rfl, by rw [HZZ.out]; rfl⟩
end Go.Proofs.YtjoafafjpmfjbaaGreatDoor
namespace Go.Proofs.YtjoafafjpmfjbaaGreatDoor
open Go.RowKit Go.Shelf Go.Proofs.YtjoafafjpmfjbaaGreatDoorW.PrintWords Go.Proofs.YtjoafafjpmfjbaaGreatDoorW.PrintLast Go.Proofs.YtjoafafjpmfjbaaGreatDoorW.PrintMore
set_option linter.unusedVariables false
set_option linter.unusedSimpArgs false
attribute [local go_sem] Oper.semAt_some

theorem cell_of1 {W : World} {b : Nat} {v : Value} {t : TypeId} (h : W.heap[b]? = some (.cells #[v] t (0, 0))) : W.cell? ⟨b, 0, none⟩ = some v ∧ W.frozen? ⟨b, 0, none⟩ = false := ⟨Boxed.cell h, Boxed.frozen h⟩
theorem bookAll_any (g : Nat) (w : World) : Calls Tryz.prog 63 #[.pointer (some ⟨g, 0, none⟩)] w fun e w' => e = .returned (.func (.func 71) #[] #[.pointer (some ⟨w.heap.size, 0, none⟩)]) ∧ w.alloc (.cells #[.pointer (some ⟨g, 0, none⟩)] 29) = w' := by
  go_enter Tryz.func63, Tryz.ntmps63
  go_wp2_with fail
  go_ret
  exact ⟨rfl, rfl⟩
set_option maxRecDepth 100000 in
set_option maxHeartbeats 1000000 in
theorem bookAll_stops (F : Fence) (n : Nat) (h10 : F.fn 71) (hro : F.round = none) (hn : 1 ≤ n) (B g : Nat) (w : World) (hB : B < w.heap.size) (hg : g < w.heap.size)
    (hb1 : w.heap[B]? = some (.cells #[.pointer (some ⟨g, 0, none⟩)] 29 (0, 0))) (hb2 : w.heap[g]? = some (.cells #[.slice none 0 0] 95 (0, 0))) :
    SeqStopsK F n Tryz.prog 71 #[.pointer (some ⟨B, 0, none⟩)] (fun x : Empty => #[Empty.elim x]) (fun _ _ => True) (fun ss => ss = []) (fun _ => False) 0 w := by
  intro l J Jx W hW hJ hJx hY h0
  have c1 := (cell_of1 ((hW.block B hB).trans hb1)).1
  have c2 := (cell_of1 ((hW.block g hg).trans hb2)).1
  refine callsIn_of_wp Tryz.func71 rfl h10 ?_ hro
  simp only [Tryz.ntmps71, List.size_toArray, List.length_cons, List.length_nil, Nat.reduceAdd, Nat.reduceSub, Array.replicate_succ, Array.replicate_zero, List.push_toArray, List.append_toArray, List.nil_append, List.cons_append]
  gi_wp2
  gi_loopw [12] (fun i wr => i = .int .i64 0 ∧ J [] wr) (fun i _ => 0)
  case atStart => exact ⟨rfl, h0⟩
  case round =>
    obtain ⟨rfl, hJk⟩ := hrel
    gi_wp2
    go_end0
    exact ⟨⟨_, rfl⟩, .inl ⟨_, rfl, hJk⟩⟩
set_option maxRecDepth 100000 in
set_option maxHeartbeats 1000000 in
theorem over_any (g : Nat) (m now : Int) (w : World) (h : w.heap[g]? = some (.cells #[.slice none 0 0] 95 (0, 0))) :
    Calls Tryz.prog 41 #[.pointer (some ⟨g, 0, none⟩), .int .i64 m, .int .i64 now] w fun e w' => e = .returned (.slice none 0 0) ∧ Below w.heap.size w w' := by
  refine (callsIn_wide (n := 6)).1 ?_
  refine callsIn_of_wp_marks Tryz.func41 rfl trivial ?_ rfl
  simp only [Tryz.ntmps41, List.size_toArray, List.length_cons, List.length_nil, Nat.reduceAdd, Nat.reduceSub, Array.replicate_succ, Array.replicate_zero, List.push_toArray, List.append_toArray, List.nil_append, List.cons_append]
  refine wpIn_wide.2 ?_
  go_wp2_with ((go_at_call 63; refine (bookAll_any g _).mono ?_; rintro e w5 ⟨rfl, hw5⟩))
  refine (wpIn_wide (n := 6)).1 ?_
  have a1 := World.size_alloc w (.cells #[.int .i64 m] 3)
  have a2 := World.size_alloc (w.alloc (.cells #[.int .i64 m] 3)) (.cells #[.int .i64 now] 3)
  have a3 := World.size_alloc ((w.alloc (.cells #[.int .i64 m] 3)).alloc (.cells #[.int .i64 now] 3)) (.cells #[.slice none 0 0] 93)
  have b2 := blk_new ((w.alloc (.cells #[.int .i64 m] 3)).alloc (.cells #[.int .i64 now] 3)) (.cells #[.slice none 0 0] 93)
  have b4 := blk_new (((w.alloc (.cells #[.int .i64 m] 3)).alloc (.cells #[.int .i64 now] 3)).alloc (.cells #[.slice none 0 0] 93)) (.cells #[.pointer (some ⟨g, 0, none⟩)] 29)
  have b3 := blk_alloc b2 (.cells #[.pointer (some ⟨g, 0, none⟩)] 29)
  have hB5 := below_alloc (below_alloc (below_alloc (below_alloc (Below.refl w.heap.size w) (.cells #[.int .i64 m] 3)) (.cells #[.int .i64 now] 3)) (.cells #[.slice none 0 0] 93)) (.cells #[.pointer (some ⟨g, 0, none⟩)] 29)
  have a5 := World.size_alloc (((w.alloc (.cells #[.int .i64 m] 3)).alloc (.cells #[.int .i64 now] 3)).alloc (.cells #[.slice none 0 0] 93)) (.cells #[.pointer (some ⟨g, 0, none⟩)] 29)
  rw [hw5] at b3 b4 hB5 a5
  rw [a3, a2, a1] at b4 a5
  rw [a2, a1] at b3
  have hbg := blk_below h hB5
  have hgl := blk_lt h
  have hbx : Boxed w5 (w.heap.size + 1 + 1) 93 (.slice none 0 0) := b3
  clear hw5 a1 a2 a3 b2 b3
  refine wpIn_rangeFunc_ownF rfl (by omega) (gf := 71) (lb := #[.pointer (some ⟨w.heap.size + 1 + 1 + 1, 0, none⟩)]) rfl trivial (enters_of Tryz.func71 (by kernel_rfl) rfl) (bookAll_stops Fence.wide (6 - 1) trivial rfl (by omega) (w.heap.size + 1 + 1 + 1) g w5 (by omega) (by omega) b4 hbg) (fun _ _ => trivial) (fun _ _ _ _ _ _ _ _ => trivial) (Below.refl _ _) (fun x => x.elim)
    (fun pre W => Boxed W (w.heap.size + 1 + 1) 93 (.slice none 0 0) ∧ Below w.heap.size w W) (fun _ _ _ => False) (OwnFrom.and (Own.from (boxed_own _ _ (fun _ => .slice none 0 0)) _) (ownFrom_below (Nat.le_refl _) (by omega))) (fun _ _ _ _ _ h => h.elim)
    ⟨hbx, hB5⟩ (fun x => x.elim) ?assign ?body ?done ?stop
  case assign => exact fun l x => x.elim
  case body => exact fun l pre x => x.elim
  case done =>
    rintro D ps W hD rfl ⟨hv, hB⟩ hK
    have hvc := hv.cell
    go_wp2_with fail
    refine ⟨by simp, .inl ⟨_, _, rfl, run_takeDeferred hK, ?_⟩⟩
    exact ⟨_, results_tmp rfl _ _ _, rfl, hB.grown (grownBy_putObj' _ _ _) hB.size (fun k e => by cases e; omega)⟩
  case stop =>
    rintro D c pre W _ _ h _
    exact h.elim
theorem indexF_nil (v : Value) (w : World) : Calls Tryz.prog 62 #[.slice none 0 0, v] w fun e w' => e = .returned (.int .i64 (-1)) ∧ Below w.heap.size w w' := by
  go_enter Tryz.func62, Tryz.ntmps62
  go_wp2_with fail
  go_loopg [8] 0 (fun gk i wr => i = .int .i64 0 ∧ Aside0 (Below w.heap.size w wr))
  case atStart => exact ⟨rfl, ⟨Below.refl _ _⟩⟩
  case round =>
    obtain ⟨rfl, HB⟩ := hrel
    go_wp2_with fail
    go_ret
    exact ⟨rfl, HB.out⟩
theorem containsF_nil (v : Value) (w : World) : Calls Tryz.prog 40 #[.slice none 0 0, v] w fun e w' => e = .returned (.bool false) ∧ Below w.heap.size w w' := by
  go_enter Tryz.func40, Tryz.ntmps40
  go_wp2_with (go_at_call 62; refine (indexF_nil _ _).mono ?_; rintro e w5 ⟨rfl, hb⟩; have HB := Aside0.mk hb; clear hb)
  go_ret
  exact ⟨rfl, HB.out⟩
set_option maxHeartbeats 800000 in
theorem held_any (av : Value) (tb g fo : Nat) (nv : Int) (ns : Bool) (num m now : Int) (w : World) (h : w.heap[g]? = some (.cells #[.slice none 0 0] 95 (0, 0))) :
    Calls Tryz.prog 21 #[.agg #[.pointer (some ⟨tb, 0, none⟩), av, .int .i64 nv, .bool ns, .pointer (some ⟨g, 0, none⟩), .pointer (some ⟨fo, 0, none⟩)], .int .u64 num, .int .i64 m, .int .i64 now] w fun e w' => e = .returned (.bool false) ∧ Below w.heap.size w w' := by
  have H := Aside0.mk h
  have HB0 := Aside0.mk (below_alloc (below_alloc (Below.refl w.heap.size w) (.cells #[.pointer (some ⟨tb, 0, none⟩), av, .int .i64 nv, .bool ns, .pointer (some ⟨g, 0, none⟩), .pointer (some ⟨fo, 0, none⟩)] 32)) (.cells #[.int .u64 num] 44))
  clear h
  go_enter Tryz.func21, Tryz.ntmps21
  go_wp2_with (first | (go_at_call 41; refine (over_any g m now _ (blk_below H.out HB0.out)).mono ?_; rintro e w1 ⟨rfl, hb⟩; have HB1 := Aside0.mk (below_step HB0.out hb); clear hb) | (go_at_call 40; refine (containsF_nil _ _).mono ?_; rintro e w2 ⟨rfl, hb⟩; have HB2 := Aside0.mk (below_step HB1.out hb); clear hb))
  go_ret
  exact ⟨rfl, HB2.out⟩
end Go.Proofs.YtjoafafjpmfjbaaGreatDoor
