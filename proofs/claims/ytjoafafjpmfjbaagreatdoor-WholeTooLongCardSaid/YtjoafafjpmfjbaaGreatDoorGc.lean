/-
  WholeTooLong: a forest with no branch has no base.
-/
import Derived.Test.YtjoafafjpmfjbaaGreatDoorGb
import Derived.Lib.Strings
import Derived.Lib.Slices
import Derived.Lib.Small
import Derived.Lib.Walk
import Derived.Lib.BitFns
/-
  WholeTooLong: math/bits.Len: some number.
-/
namespace Go.Proofs.YtjoafafjpmfjbaaGreatDoor
open Go.RowKit Go.Proofs.YtjoafafjpmfjbaaGreatDoorW.PrintWords Go.Proofs.YtjoafafjpmfjbaaGreatDoorW.PrintLast Go.Proofs.YtjoafafjpmfjbaaGreatDoorW.PrintMore
set_option linter.unusedVariables false
set_option linter.unusedSimpArgs false

set_option maxHeartbeats 4000000 in
set_option maxRecDepth 100000 in
theorem len64_some (x : Int) (w : World) (h0 : 0 ≤ x) (h1 : x < 200) : Calls Tryz.prog 82 #[.int .u64 x] w fun e w' => (∃ v, e = .returned (.int .i64 v)) ∧ w' = w := by
  have h2 : ¬ (x ≥ 4294967296) := by omega
  have h3 : ¬ (x ≥ 65536) := by omega
  have h4 : ¬ (x ≥ 256) := by omega
  have h5 : (x.toNat : Int) = x := by omega
  have h6 : x.toNat < 256 := by omega
  go_enter Tryz.func82, Tryz.ntmps82
  go_wp2
  go_ret
  exact ⟨⟨_, rfl⟩, rfl⟩
theorem blen_some (x : Int) (w : World) (h0 : 0 ≤ x) (h1 : x < 200) : Calls Tryz.prog 67 #[.int .u64 x] w fun e w' => (∃ v, e = .returned (.int .i64 v)) ∧ w' = w := by
  go_enter Tryz.func67, Tryz.ntmps67
  go_wp2_with (go_at_call 82; refine (len64_some x _ h0 h1).mono ?_; rintro e w2 ⟨⟨v, rfl⟩, rfl⟩)
  go_ret
  exact ⟨⟨_, rfl⟩, rfl⟩
end Go.Proofs.YtjoafafjpmfjbaaGreatDoor
/-
  WholeTooLong: a forest with no branch: whence nothing branches off.
-/
namespace Go.Proofs.YtjoafafjpmfjbaaGreatDoor
open Go.RowKit Go.Shelf Go.Proofs.YtjoafafjpmfjbaaGreatDoorW.PrintWords Go.Proofs.YtjoafafjpmfjbaaGreatDoorW.PrintLast Go.Proofs.YtjoafafjpmfjbaaGreatDoorW.PrintMore
set_option linter.unusedVariables false
set_option linter.unusedSimpArgs false
attribute [local go_sem] Oper.semAt_some

theorem ins64_nil (w : World) : Calls Tryz.prog 72 #[.slice none 0 0, .int .i64 0, .int .i64 0] w fun e w' => (∃ v, e = .returned v) ∧ Below w.heap.size w w' := by
  go_enter Tryz.func72, Tryz.ntmps72
  go_wp2_with fail
  go_loopg [6, 7] 0 (fun gk i j wr => i = .int .i64 1 ∧ Aside0 (Below w.heap.size w wr))
  case atStart => exact ⟨rfl, ⟨Below.refl _ _⟩⟩
  case round =>
    obtain ⟨rfl, HB⟩ := hrel
    go_wp2_with fail
    go_end0
    exact ⟨⟨_, rfl⟩, HB.out⟩
set_option maxRecDepth 20000 in
theorem pdq64_nil (lim : Int) (w : World) : Calls Tryz.prog 66 #[.slice none 0 0, .int .i64 0, .int .i64 0, .int .i64 lim] w fun e w' => (∃ v, e = .returned v) ∧ Below w.heap.size w w' := by
  go_enter Tryz.func66, Tryz.ntmps66
  go_wp2_with fail
  go_loopg [1, 2] 0 (fun gk b c wr => b = .int .i64 0 ∧ c = .int .i64 0 ∧ Aside0 (Below w.heap.size w wr))
  case atStart => exact ⟨rfl, rfl, ⟨Below.refl _ _⟩⟩
  case round =>
    obtain ⟨rfl, rfl, HB⟩ := hrel
    go_wp2_with (go_at_call 72; refine (ins64_nil _).mono ?_; rintro e w2 ⟨⟨v, rfl⟩, hb⟩; have HB2 := Aside0.mk (below_step HB.out hb); clear hb)
    exact bodyPost_ret (results_none rfl _ _ _) rfl ⟨⟨_, rfl⟩, HB2.out⟩
theorem sort64_nil (w : World) : Calls Tryz.prog 46 #[.slice none 0 0] w fun e w' => (∃ v, e = .returned v) ∧ Below w.heap.size w w' := by
  go_enter Tryz.func46, Tryz.ntmps46
  go_wp2_with (first | (go_at_call 67; refine (blen_some 0 _ (by decide) (by decide)).mono ?_; rintro e w1 ⟨⟨v, rfl⟩, rfl⟩) | (go_at_call 66; refine (pdq64_nil _ _).mono ?_; rintro e w2 ⟨⟨v2, rfl⟩, hb⟩; have HB2 := Aside0.mk hb; clear hb))
  go_end0
  exact ⟨⟨_, rfl⟩, HB2.out⟩
theorem compact64_nil (w : World) : Calls Tryz.prog 47 #[.slice none 0 0] w fun e w' => e = .returned (.slice none 0 0) ∧ Below w.heap.size w w' := by
  go_enter Tryz.func47, Tryz.ntmps47
  go_wp2_with fail
  go_ret
  exact ⟨rfl, Below.refl _ _⟩
theorem index64_nil (v : Value) (w : World) : Calls Tryz.prog 43 #[.slice none 0 0, v] w fun e w' => e = .returned (.int .i64 (-1)) ∧ Below w.heap.size w w' := by
  go_enter Tryz.func43, Tryz.ntmps43
  go_wp2_with fail
  go_loopg [8] 0 (fun gk i wr => i = .int .i64 0 ∧ Aside0 (Below w.heap.size w wr))
  case atStart => exact ⟨rfl, ⟨Below.refl _ _⟩⟩
  case round =>
    obtain ⟨rfl, HB⟩ := hrel
    go_wp2_with fail
    go_ret
    exact ⟨rfl, HB.out⟩
theorem contains64_nil (v : Value) (w : World) : Calls Tryz.prog 22 #[.slice none 0 0, v] w fun e w' => e = .returned (.bool false) ∧ Below w.heap.size w w' := by
  go_enter Tryz.func22, Tryz.ntmps22
  go_wp2_with (go_at_call 43; refine (index64_nil _ _).mono ?_; rintro e w5 ⟨rfl, hb⟩; have HB := Aside0.mk hb; clear hb)
  go_ret
  exact ⟨rfl, HB.out⟩
end Go.Proofs.YtjoafafjpmfjbaaGreatDoor
namespace Go.Proofs.YtjoafafjpmfjbaaGreatDoor
open Go.RowKit Go.Shelf Go.Proofs.YtjoafafjpmfjbaaGreatDoorW.PrintWords Go.Proofs.YtjoafafjpmfjbaaGreatDoorW.PrintLast Go.Proofs.YtjoafafjpmfjbaaGreatDoorW.PrintMore
set_option linter.unusedVariables false
set_option linter.unusedSimpArgs false
attribute [local go_sem] Oper.semAt_some

theorem forestZ_at (k : Nat) (hk : k < 16) : forestZ[k * 4]? = some (.bool false) := by
  have : k = 0 ∨ k = 1 ∨ k = 2 ∨ k = 3 ∨ k = 4 ∨ k = 5 ∨ k = 6 ∨ k = 7 ∨ k = 8 ∨ k = 9 ∨ k = 10 ∨ k = 11 ∨ k = 12 ∨ k = 13 ∨ k = 14 ∨ k = 15 := by omega
  rcases this with rfl | rfl | rfl | rfl | rfl | rfl | rfl | rfl | rfl | rfl | rfl | rfl | rfl | rfl | rfl | rfl <;> rfl
theorem alive_at (f k : Nat) (hk : k < 16) (w : World) (h : w.heap[f]? = some (.cells forestZ.toArray 100 (0, 0))) :
    Calls Tryz.prog 65 #[.pointer (some ⟨f, 0, none⟩), .int .i64 k] w fun e w' => e = .returned (.bool (decide (k = 0))) ∧ w = w' := by
  have c0 := blk_cell h (k * 4)
  rw [List.getElem?_toArray, forestZ_at k hk] at c0
  clear h
  have i1 : ¬ ((k : Int) < 0) := by omega
  have i2 : ¬ ((k : Int) ≥ 16) := by omega
  have i3 : (k : Int) < 16 := by omega
  by_cases hz : k = 0
  · subst hz
    go_enter Tryz.func65, Tryz.ntmps65
    go_wp2_with fail
    go_ret
    exact ⟨rfl, rfl⟩
  · have i4 : ¬ ((k : Int) = 0) := by omega
    go_enter Tryz.func65, Tryz.ntmps65
    go_wp2_with fail
    go_ret
    exact ⟨congrArg (fun b => Ending.returned (.bool b)) (by simp; exact hz), rfl⟩
theorem parent_0 (f : Nat) (w : World) (h : w.heap[f]? = some (.cells forestZ.toArray 100 (0, 0))) :
    Calls Tryz.prog 45 #[.pointer (some ⟨f, 0, none⟩), .int .i64 0] w fun e w' => e = .returned (.tuple #[.int .i64 0, .int .u64 0, .bool false]) ∧ w = w' := by
  have H := Aside0.mk h
  clear h
  go_enter Tryz.func45, Tryz.ntmps45
  go_wp2_with fail
  refine bodyPost_ret (results_tmp3 rfl _ _ _) rfl ?_
  exact ⟨rfl, rfl⟩
theorem forestAll_any (g : Nat) (w : World) : Calls Tryz.prog 44 #[.pointer (some ⟨g, 0, none⟩)] w fun e w' => e = .returned (.func (.func 64) #[] #[.pointer (some ⟨w.heap.size, 0, none⟩)]) ∧ w.alloc (.cells #[.pointer (some ⟨g, 0, none⟩)] 30) = w' := by
  go_enter Tryz.func44, Tryz.ntmps44
  go_wp2_with fail
  go_ret
  exact ⟨rfl, rfl⟩
/-- What a round keeps: these two blocks. -/
def KpF (B g : Nat) (W W' : World) : Prop := W'.heap[B]? = W.heap[B]? ∧ W'.heap[g]? = W.heap[g]?
set_option maxRecDepth 100000 in
set_option maxHeartbeats 1000000 in
theorem forestAll_stops (n : Nat) (hn : 2 ≤ n) (B g : Nat) (w : World) (hB : B < w.heap.size) (hg : g < w.heap.size)
    (hb1 : w.heap[B]? = some (.cells #[.pointer (some ⟨g, 0, none⟩)] 30 (0, 0))) (hb2 : w.heap[g]? = some (.cells forestZ.toArray 100 (0, 0))) :
    SeqStopsK Fence.wide n Tryz.prog 64 #[.pointer (some ⟨B, 0, none⟩)] (fun x : Unit => #[.int .i64 0]) (KpF B g) (fun ss => True) (fun _ => True) 1 w := by
  intro l J Jx W hW hJ hJx hY h0
  refine callsIn_of_wp Tryz.func64 rfl trivial ?_ rfl
  simp only [Tryz.ntmps64, List.size_toArray, List.length_cons, List.length_nil, Nat.reduceAdd, Nat.reduceSub, Array.replicate_succ, Array.replicate_zero, List.push_toArray, List.append_toArray, List.nil_append, List.cons_append]
  gi_wp2
  gi_loopw [4] (fun i wr => ∃ k : Nat, k ≤ 16 ∧ i = .int .i64 (k : Nat) ∧ J (List.replicate (min k 1) ()) wr ∧ KpF B g W wr) (fun i _ => 16 - (intOf i).toNat)
  case atStart => exact ⟨0, Nat.zero_le _, rfl, h0, rfl, rfl⟩
  case round =>
    obtain ⟨k, hk, rfl, hJk, hKk⟩ := hrel
    have hb1' := (hKk.1.trans (hW.block B hB)).trans hb1
    have hb2' := (hKk.2.trans (hW.block g hg)).trans hb2
    have c1 := (cell_of1 hb1').1
    have HAL := Aside0.mk (fun (W1 : World) (h : W1.heap[g]? = some (.cells forestZ.toArray 100 (0, 0))) (hk : k < 16) => alive_at g k hk W1 h)
    by_cases hlt : k < 16
    · have i1 : (k : Int) < 16 := by omega
      by_cases hz : k = 0
      · subst hz
        obtain ⟨fn, tmps, assign, body, hy, hR⟩ := hY _ () wr hJk (by simp)
        gi_wp2_with (refine ⟨trivial, fun _ => (by omega), ?_⟩; refine (callsIn_wide.2 (HAL.out wr hb2' (by omega))).mono ?_; rintro e w2 ⟨rfl, rfl⟩)
        refine ⟨fun _ => (by omega), hR.mono ?_⟩
        rintro e W3 (⟨rfl, hJ3, hk3⟩ | ⟨rfl, hx⟩)
        · gi_wp2
          go_roundw
          case rel => exact ⟨1, by omega, rfl, hJ3, hk3.1.trans hKk.1, hk3.2.trans hKk.2⟩
          case measure => simp [intOf]
        · gi_wp2
          exact bodyPost_ret (results_none rfl _ _ _) rfl ⟨⟨_, rfl⟩, .inr ⟨_, trivial, hx⟩⟩
      · gi_wp2_with (refine ⟨trivial, fun _ => (by omega), ?_⟩; refine (callsIn_wide.2 (HAL.out wr hb2' (by omega))).mono ?_; rintro e w2 ⟨rfl, rfl⟩)
        refine ⟨fun _ h => (by cases h), ?_⟩
        gi_wp2
        go_roundw
        case rel => exact ⟨k + 1, by omega, (by go_num), (by rw [show min (k + 1) 1 = min k 1 by omega]; exact hJk), hKk⟩
        case measure => simp [intOf]; omega
    · have i1 : ¬ (k : Int) < 16 := by omega
      gi_wp2
      go_end0
      exact ⟨⟨_, rfl⟩, .inl ⟨_, hJk⟩⟩
theorem cellsF_own {β : Type} (g : Nat) (cs : Array Value) (t : TypeId) (fr : Nat × Nat) : Own (fun (_ : β) W => W.heap[g]? = some (.cells cs t fr)) := by
  rintro s X Y row h hg hrow
  refine (hg.block g (blk_lt h) (fun e => ?_)).trans h
  obtain ⟨o, ho, hc⟩ := hrow g e.symm
  rw [h] at ho; cases ho; cases hc
set_option maxRecDepth 100000 in
set_option maxHeartbeats 1000000 in
theorem bases_nil (f : Nat) (w : World) (h : w.heap[f]? = some (.cells forestZ.toArray 100 (0, 0))) :
    Calls Tryz.prog 23 #[.pointer (some ⟨f, 0, none⟩)] w fun e w' => e = .returned (.slice none 0 0) ∧ Below w.heap.size w w' := by
  have HF := Aside0.mk h
  clear h
  refine (callsIn_wide (n := 6)).1 ?_
  refine callsIn_of_wp_marks Tryz.func23 rfl trivial ?_ rfl
  simp only [Tryz.ntmps23, List.size_toArray, List.length_cons, List.length_nil, Nat.reduceAdd, Nat.reduceSub, Array.replicate_succ, Array.replicate_zero, List.push_toArray, List.append_toArray, List.nil_append, List.cons_append]
  refine wpIn_wide.2 ?_
  go_wp2_with ((go_at_call 44; refine (forestAll_any f _).mono ?_; rintro e w5 ⟨rfl, hw5⟩))
  refine (wpIn_wide (n := 6)).1 ?_
  have h := HF.out
  have a1 := World.size_alloc w (.cells #[.pointer (some ⟨f, 0, none⟩)] 30)
  have a2 := World.size_alloc (w.alloc (.cells #[.pointer (some ⟨f, 0, none⟩)] 30)) (.cells #[.slice none 0 0] 47)
  have a3 := World.size_alloc ((w.alloc (.cells #[.pointer (some ⟨f, 0, none⟩)] 30)).alloc (.cells #[.slice none 0 0] 47)) (.cells #[.pointer (some ⟨f, 0, none⟩)] 30)
  have b1 := blk_alloc (blk_alloc (blk_new w (.cells #[.pointer (some ⟨f, 0, none⟩)] 30)) (.cells #[.slice none 0 0] 47)) (.cells #[.pointer (some ⟨f, 0, none⟩)] 30)
  have b2 := blk_alloc (blk_new (w.alloc (.cells #[.pointer (some ⟨f, 0, none⟩)] 30)) (.cells #[.slice none 0 0] 47)) (.cells #[.pointer (some ⟨f, 0, none⟩)] 30)
  have b3 := blk_new ((w.alloc (.cells #[.pointer (some ⟨f, 0, none⟩)] 30)).alloc (.cells #[.slice none 0 0] 47)) (.cells #[.pointer (some ⟨f, 0, none⟩)] 30)
  have hB5 := below_alloc (below_alloc (below_alloc (Below.refl w.heap.size w) (.cells #[.pointer (some ⟨f, 0, none⟩)] 30)) (.cells #[.slice none 0 0] 47)) (.cells #[.pointer (some ⟨f, 0, none⟩)] 30)
  rw [hw5] at b1 b2 b3 hB5 a3
  rw [a2, a1] at b3 a3
  rw [a1] at b2
  have hbf := blk_below h hB5
  have hfl := blk_lt h
  clear hw5 a1 a2 h
  refine wpIn_rangeFunc_ownF rfl (by omega) (gf := 64) (lb := #[.pointer (some ⟨w.heap.size + 1 + 1, 0, none⟩)]) rfl trivial (enters_of Tryz.func64 (by kernel_rfl) rfl) (forestAll_stops (6 - 1) (by omega) (w.heap.size + 1 + 1) f w5 (by omega) (by omega) b3 hbf) (fun h1 h2 => ⟨h2.1.trans h1.1, h2.2.trans h1.2⟩) (fun W l o o' hl _ _ _ => ⟨World.putObj_heap_other (by omega), World.putObj_heap_other (by omega)⟩) (Below.refl _ _) (fun _ => rfl)
    (fun pre W => (Boxed W w.heap.size 30 (.pointer (some ⟨f, 0, none⟩)) ∧ Boxed W (w.heap.size + 1) 47 (.slice none 0 0) ∧ W.heap[f]? = some (.cells forestZ.toArray 100 (0, 0)) ∧ W.heap[w.heap.size + 1 + 1]? = some (.cells #[.pointer (some ⟨f, 0, none⟩)] 30 (0, 0))) ∧ Below w.heap.size w W) (fun _ _ _ => False)
    (OwnFrom.and (OwnFrom.and (Own.from (boxed_own _ _ (fun _ => .pointer (some ⟨f, 0, none⟩))) _) (OwnFrom.and (Own.from (boxed_own _ _ (fun _ => .slice none 0 0)) _) (OwnFrom.and (Own.from (cellsF_own f _ _ _) _) (Own.from (cellsF_own (w.heap.size + 1 + 1) _ _ _) _)))) (ownFrom_below (Nat.le_refl _) (by omega))) (fun _ _ _ _ _ h => h.elim)
    ⟨⟨b1, b2, hbf, b3⟩, hB5⟩ (fun x => { tmps := #[.pointer (some ⟨f, 0, none⟩), .pointer (some ⟨w.heap.size, 0, none⟩), .slice none 0 0, .pointer (some ⟨w.heap.size + 1, 0, none⟩), .int .i64 0, undef, undef, undef, .pointer (some ⟨f, 0, none⟩), .func (.func 64) #[] #[.pointer (some ⟨w.heap.size + 1 + 1, 0, none⟩)], .int .i64 0, undef, undef, undef, undef, undef, undef, undef, undef, undef, undef, undef, undef, undef, undef, undef, undef], defers := [] }) ?assign ?body ?done ?stop
  case assign =>
    intro l x W K hK
    gi_wp2
    exact hK
  case body =>
    rintro l pre x W ⟨⟨h1, h2, h3, h4⟩, hB⟩ hlen
    have c1 := h1.cell
    gi_wp2_with (refine ⟨trivial, ?_⟩; refine (CallsIn.inRound l (callsIn_wide.2 (parent_0 f _ h3))).mono ?_; rintro e w2 ⟨rfl, rfl⟩)
    exact ⟨KeepsOthers.refl _, ⟨rfl, rfl⟩, ⟨h1, h2, h3, h4⟩, hB⟩
  case done =>
    rintro D ps W hD _ ⟨⟨h1, h2, h3, h4⟩, hB⟩ hK
    have c2 := h2.cell
    have h2' := Aside0.mk h2
    have hk' := Aside0.mk hK
    clear h1 h3 h4
    go_wp2_with (first | (go_at_call 46; refine (sort64_nil _).mono ?_; rintro e w2 ⟨⟨v, rfl⟩, hb⟩; have HB2 := Aside0.mk (below_step hB hb); have c3 := (Boxed.cell (blk_below h2'.out hb)); have HK2 := Aside0.mk (blk_below hk'.out hb); clear hb) | (go_at_call 47; refine (compact64_nil _).mono ?_; rintro e w3 ⟨rfl, hb⟩; have HB3 := Aside0.mk (below_step HB2.out hb); have HK3 := Aside0.mk (blk_below HK2.out hb); clear hb))
    refine ⟨by simp, .inl ⟨_, _, rfl, run_takeDeferred HK3.out, ?_⟩⟩
    exact ⟨_, results_tmp rfl _ _ _, rfl, HB3.out.grown (grownBy_putObj' _ _ _) HB3.out.size (fun k e => by cases e; omega)⟩
  case stop =>
    rintro D c pre W _ _ h _
    exact h.elim
end Go.Proofs.YtjoafafjpmfjbaaGreatDoor
