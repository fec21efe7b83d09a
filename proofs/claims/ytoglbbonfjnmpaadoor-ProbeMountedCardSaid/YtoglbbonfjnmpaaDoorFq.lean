/-
  Chapter 49: whether files are the same: fs.Same over slices.EqualFunc, the document's Same.
-/
import Derived.Test.YtoglbbonfjnmpaaDoorFr2
namespace Go.Proofs.YtoglbbonfjnmpaaDoor
open Go.RowKit Go.Proofs.YtoglbbonfjnmpaaDoorW.PrintWords Go.Proofs.YtoglbbonfjnmpaaDoorW.PrintLast Go.Proofs.YtoglbbonfjnmpaaDoorW.PrintMore
set_option linter.unusedVariables false
set_option linter.unusedSimpArgs false

def sameFile (x y : File) : Bool := (x.name.toList == y.name.toList) && decide (x.data = y.data)
def allTo (a b : List File) (k : Nat) : Bool := (List.range k).all fun j => sameFile (gt a j) (gt b j)
theorem allTo_succ (a b : List File) (k : Nat) : allTo a b (k + 1) = (allTo a b k && sameFile (gt a k) (gt b k)) := by
  unfold allTo
  rw [List.range_succ, List.all_append]
  simp
theorem allTo_false {a b : List File} {j k : Nat} (h : sameFile (gt a j) (gt b j) = false) (hj : j < k) : allTo a b k = false := by
  unfold allTo
  rw [Bool.eq_false_iff]
  intro ha
  have := List.all_eq_true.1 ha j (List.mem_range.2 hj)
  rw [h] at this
  cases this
def sameB (a b : List File) : Bool := decide (a.length = b.length) && allTo a b a.length
end Go.Proofs.YtoglbbonfjnmpaaDoor
