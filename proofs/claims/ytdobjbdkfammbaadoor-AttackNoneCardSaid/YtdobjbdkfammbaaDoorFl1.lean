/-
  Chapter 55: whole writes loaded and stored; the numbers of a flood.
-/
import Derived.Test.YtdobjbdkfammbaaDoorAr2
namespace Go.Proofs.YtdobjbdkfammbaaDoor
open Go.RowKit Go.Shelf Go.Proofs.YtdobjbdkfammbaaDoorW.PrintWords Go.Proofs.YtdobjbdkfammbaaDoorW.PrintLast Go.Proofs.YtdobjbdkfammbaaDoorW.PrintMore
set_option linter.unusedVariables false
set_option linter.unusedSimpArgs false

theorem info_wrS (n : Nat) (h : n = 35) : (Tryd.prog.info? 39).map (·.size) = some n := by rw [h]; exact info_wrsz
/-- A whole write is read, wherever it lies. -/
theorem run_load_write {w : World} (p : Addr) (x : Wr) (hl : x.data.length = 32) (hc : ∀ j u, (wrV x)[j]? = some u → w.cell? (p.add j) = some u) : (loadVar 39 p).run Tryd.prog w = .ok (.agg (wrV x).toArray) w := by
  have hl2 : (loadCells p (wrV x).length).run Tryd.prog w = .ok (wrV x).toArray w := run_loadCells_list (P := Tryd.prog) w p (wrV x) hc
  have hlen : (wrV x).length = 35 := wrV_len x hl
  have hagg : (isAgg 39).run Tryd.prog w = .ok true w := by
    unfold isAgg
    rw [Sem.run_bind, run_underlying Tryd.underlying39 w]
    simp
  rw [hlen] at hl2
  cases hq : Tryd.prog.info? 39 with
  | none => have := info_wrsz; simp [hq] at this
  | some i =>
    have hs : i.size = 35 := by have := info_wrsz; simpa [hq] using this
    simp [loadVar, Sem.run_bind, hagg, sizeOf, typeInfo, hq, hs, hl2]
theorem load_write {ops : Array Oper} {rest : List Oper} {op : Oper} {a : Act} {w : World} {Q : Exit → Act → World → Prop} (hgd : op.guard = none) (x : Operand) (ho : op.op = .load 39 x)
    (p : Addr) (hx : a.eval x = .pointer (some p)) (y : Wr) (hl : y.data.length = 32) (hc : ∀ j u, (wrV y)[j]? = some u → w.cell? (p.add j) = some u)
    (h : wpList Tryd.prog ops Q rest (a.put op.dst (.agg (wrV y).toArray)) w) : wpList Tryd.prog ops Q (op :: rest) a w := by
  refine wpList_plain hgd fun _ hK => ?_
  unfold Oper.wp execOp
  simp only [ho, hx, Instr.loadAt, Instr.sureAddr, Sem.run_bind, Sem.run_pure, Result.andThen_ok, run_load_write p y hl hc]
  exact hK _ _ h
/-- A whole write is written into the box that was made last. -/
theorem store_write_new {ops : Array Oper} {rest : List Oper} {op : Oper} {a : Act} {W : World} {Q : Exit → Act → World → Prop} (hgd : op.guard = none) (x y : Operand) (ho : op.op = .store 39 x y)
    (c0 : Array Value) (hc0 : c0.size = 35) (hx : a.eval x = .pointer (some ⟨W.heap.size, 0, none⟩)) (z : Wr) (hl : z.data.length = 32) (hy : a.eval y = .agg (wrV z).toArray)
    (h : wpList Tryd.prog ops Q rest (a.put op.dst undef) (W.alloc (.cells (wrV z).toArray 39))) : wpList Tryd.prog ops Q (op :: rest) a (W.alloc (.cells c0 39)) := by
  have hs : (wrV z).toArray.size = 35 := by simp [wrV, bytesV, hl]
  have hr := run_storeAt_new (P := Tryd.prog) W 39 c0 (wrV z).toArray (info_wrS _ hs) (by rw [hc0, hs]) (all_oneCell_toArray (wrV_one z))
  refine wpList_plain hgd fun _ hK => ?_
  unfold Oper.wp execOp
  simp only [ho, hx, hy, Sem.run_bind, Sem.run_pure, hr, Result.andThen_ok]
  exact hK _ _ h
theorem wr_cells {W : World} {g : Nat} {y : Wr} (h : W.heap[g]? = some (.cells (wrV y).toArray 39 (0, 0))) : ∀ j u, (wrV y)[j]? = some u → W.cell? ((⟨g, 0, none⟩ : Addr).add j) = some u := fun j u hu => by
  rw [Go.Proofs.YtdobjbdkfammbaaDoorW.PrintWords.add_plain, blk_cell h]
  simpa using hu
/-- The next of a flood's numbers. -/
def lcg (x : Int) : Int := IntKind.u64.wrap (IntKind.u64.wrap (x * 6364136223846793005) + 1442695040888963407)
theorem u64_range (n : Int) : 0 ≤ IntKind.u64.wrap n ∧ IntKind.u64.wrap n ≤ 18446744073709551615 := by
  simp only [IntKind.wrap, IntKind.bits, IntKind.signed]
  simp
  omega
theorem lcg_range (x : Int) : 0 ≤ lcg x ∧ lcg x ≤ 18446744073709551615 := u64_range _
def lcgN (x : Int) : Nat → Int
  | 0 => x
  | n + 1 => lcg (lcgN x n)
def hiN (x : Int) : Int := x / 8589934592
theorem hi_range (x : Int) (h : 0 ≤ x ∧ x ≤ 18446744073709551615) : 0 ≤ hiN x ∧ hiN x ≤ 2147483647 := by
  unfold hiN
  omega
set_option maxHeartbeats 800000 in
theorem random_any (B : Nat) (x : Int) (hx : 0 ≤ x ∧ x ≤ 18446744073709551615) (W : World) (h : Boxed W B 22 (.int .u64 x)) :
    Calls Tryd.prog 30 #[.pointer (some ⟨B, 0, none⟩)] W fun e W' => e = .returned (.int .u64 (hiN (lcg x))) ∧ W' = W.setCell ⟨B, 0, none⟩ (.int .u64 (lcg x)) := by
  have c0 := h.cell
  have c1 := h.frozen
  have hx0 := hx.1
  have hx1 := hx.2
  clear hx
  go_enter Tryd.func30, Tryd.ntmps30
  go_wp2
  go_ret
  exact ⟨rfl, rfl⟩
end Go.Proofs.YtdobjbdkfammbaaDoor
