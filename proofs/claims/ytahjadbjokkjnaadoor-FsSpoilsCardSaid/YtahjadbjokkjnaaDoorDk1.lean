/-
  Chapter 49: what tells the blocks of a list (the law's own disk).
-/
import Derived.Test.YtahjadbjokkjnaaDoorRd4
namespace Go.Proofs.YtahjadbjokkjnaaDoor
open Go.RowKit Go.Proofs.YtahjadbjokkjnaaDoorW.PrintWords Go.Proofs.YtahjadbjokkjnaaDoorW.PrintLast Go.Proofs.YtahjadbjokkjnaaDoorW.PrintMore
set_option linter.unusedVariables false
set_option linter.unusedSimpArgs false

theorem hide_any (n k K : Nat) (w : World) (h : w.cell? ⟨K, 0, none⟩ = some (.int .i64 (k : Int))) :
    Calls Tryd.prog 25 #[.int .i64 (n : Int), .pointer (some ⟨K, 0, none⟩)] w fun e w' => e = .returned (.bool (decide (n = k))) ∧ w' = w := by
  go_enter Tryd.func25, Tryd.ntmps25
  go_wp2
  go_ret
  refine ⟨ret_bool ?_, rfl⟩
  by_cases hn : n = k
  · subst hn; simp
  · rw [decide_eq_false hn, beq_eq_false_iff_ne]; omega
/-- What the law's disk tells. -/
def diskT (L : List (List UInt8)) (hk : Option Nat) (n : Nat) : List UInt8 := if n < L.length ∧ hk ≠ some n then gt L n else zeroB
/-- The boxes of the law's disk. -/
structure DiskAt (w : World) (B1 B2 : Nat) (L : List (List UInt8)) (hk : Option Nat) (A : Option Addr) (c : Nat) : Prop where
  cell1 : w.cell? ⟨B1, 0, none⟩ = some (.slice A L.length c)
  row : kBlock.C w A L.length L
  form : 0 < L.length → ∃ g, A = some ⟨g, 0, none⟩
  hide : (hk = none ∧ w.cell? ⟨B2, 0, none⟩ = some .nilFunc) ∨ ∃ k K, hk = some k ∧ w.cell? ⟨B2, 0, none⟩ = some (.func (.func 25) #[] #[.pointer (some ⟨K, 0, none⟩)]) ∧ w.cell? ⟨K, 0, none⟩ = some (.int .i64 (k : Int))
theorem DiskAt.below {w w' : World} {B1 B2 : Nat} {L : List (List UInt8)} {hk : Option Nat} {A : Option Addr} {c : Nat} (h : DiskAt w B1 B2 L hk A c) (hb : Below w.heap.size w w') : DiskAt w' B1 B2 L hk A c :=
  ⟨cell_old hb h.cell1, Kd.C_below h.row hb, h.form, h.hide.imp (fun ⟨a, b⟩ => ⟨a, cell_old hb b⟩) (fun ⟨k, K, a, b, d⟩ => ⟨k, K, a, cell_old hb b, cell_old hb d⟩)⟩
theorem results_ct {fn : Func} {p u : Tmp} (h : fn.results = #[.cell p 40, .tmp u]) (tmps : Array Value) (w : World) (g : Nat) (xs : List UInt8) (hl : xs.length = 32)
    (hp : tmps.getD p undef = .pointer (some ⟨g, 0, none⟩)) (hg : w.heap[g]? = some (.cells (bytesV xs).toArray 40 (0, 0))) : (results fn tmps).run Tryd.prog w = .ok (.tuple #[.agg (bytesV xs).toArray, tmps.getD u undef]) w := by
  have hp' : tmps[p]?.getD undef = .pointer (some ⟨g, 0, none⟩) := by simpa using hp
  simp [results, h, hp', asAddr, run_load_block (⟨g, 0, none⟩ : Addr) xs hl (block_cells hg)]
theorem equalIn_hide_nil (d : Nat) (w : World) : (Op.equalIn (d + 1) 52 .nilFunc .nilFunc).run Tryd.prog w = .ok true w := by
  simp [Op.equalIn, run_underlying Tryd.underlying52]
theorem equalIn_hide_func (d : Nat) (f : Fn) (ar bnd : Array Value) (w : World) : (Op.equalIn (d + 1) 52 (.func f ar bnd) .nilFunc).run Tryd.prog w = .ok false w := by
  simp [Op.equalIn, run_underlying Tryd.underlying52]
theorem neq_nil_nil (w : World) : (binOp .neq 52 .nilFunc .nilFunc).run Tryd.prog w = .ok (.bool false) w := by
  simp only [binOp]
  simp [Op.equal, Op.maxDepth, equalIn_hide_nil 9999 w]
theorem neq_func_nil (f : Fn) (ar bnd : Array Value) (w : World) : (binOp .neq 52 (.func f ar bnd) .nilFunc).run Tryd.prog w = .ok (.bool true) w := by
  simp only [binOp]
  simp [Op.equal, Op.maxDepth, equalIn_hide_func 9999 f ar bnd w]
end Go.Proofs.YtahjadbjokkjnaaDoor
