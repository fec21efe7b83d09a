/-
  Chapter 49, the document's Read: its box of a file; names, bytes.
-/
import Derived.Test.YtahjadbjokkjnaaDoorRr1
import Derived.Test.YtahjadbjokkjnaaDoorRm1
import Derived.Laws.BytesString
namespace Go.Proofs.YtahjadbjokkjnaaDoor
open Go.RowKit Go.Proofs.YtahjadbjokkjnaaDoorW.PrintWords Go.Proofs.YtahjadbjokkjnaaDoorW.PrintLast Go.Proofs.YtahjadbjokkjnaaDoorW.PrintMore
set_option linter.unusedVariables false
set_option linter.unusedSimpArgs false

theorem tw_end {p : UInt8 → Bool} : ∀ (xs : List UInt8), (xs.takeWhile p).length < xs.length → p (gt xs (xs.takeWhile p).length) = false
  | [], h => by simp at h
  | x :: xs, h => by
    cases hp : p x
    · rw [List.takeWhile_cons, hp]
      show p x = false
      exact hp
    · rw [List.takeWhile_cons, hp] at h ⊢
      simp only [if_true, List.length_cons] at h ⊢
      exact tw_end (p := p) xs (by omega)
theorem tw_gt {p : UInt8 → Bool} : ∀ (xs : List UInt8) (q : Nat), q < (xs.takeWhile p).length → gt (xs.takeWhile p) q = gt xs q ∧ p (gt xs q) = true
  | [], q, h => by simp at h
  | x :: xs, q, h => by
    cases hp : p x
    · rw [List.takeWhile_cons, hp] at h
      simp at h
    · rw [List.takeWhile_cons, hp] at h ⊢
      simp only [if_true] at h ⊢
      cases q with
      | zero => exact ⟨rfl, hp⟩
      | succ q => exact tw_gt xs q (by simpa using h)
theorem take_gt (b : List UInt8) (n q : Nat) (h : q < n) (hb : q < b.length) : gt (b.take n) q = gt b q := by
  rw [gt_eq _ _ (by rw [List.length_take]; omega), gt_eq _ _ hb]
  simp
theorem entN_le (b : List UInt8) : (entN b).length ≤ 12 := nameK_le b
theorem entN_more {b : List UInt8} (hb : b.length = 32) {q : Nat} (h : q < (entN b).length) : q < 12 ∧ gt b q ≠ 0 ∧ gt (entN b) q = gt b q := by
  have h12 := entN_le b
  obtain ⟨e1, e2⟩ := tw_gt (b.take 12) q h
  rw [take_gt b 12 q (by omega) (by omega)] at e1 e2
  exact ⟨by omega, by simpa using e2, e1⟩
theorem entN_done {b : List UInt8} (hb : b.length = 32) (h : (entN b).length < 12) : gt b (entN b).length = 0 := by
  have e := tw_end (p := fun x => x != 0) (b.take 12) (by rw [List.length_take, hb]; exact h)
  have e2 : gt b (entN b).length = gt (b.take 12) (entN b).length := (take_gt b 12 _ h (by omega)).symm
  rw [e2]
  have e3 : (gt (b.take 12) (entN b).length != 0) = false := e
  simpa using e3
/-- The box of a file, made in world w. -/
structure FBox (w wr : World) (nm : ByteArray) (v : Value) : Prop where
  out : Below w.heap.size w wr
  box : wr.heap[w.heap.size]? = some (.cells #[.string nm, v] 30 (0, 0))
theorem FBox.new (w : World) (nm : ByteArray) (v : Value) : FBox w (w.alloc (.cells #[.string nm, v] 30)) nm v := ⟨below_alloc (Below.refl _ _) _, blk_new _ _⟩
theorem FBox.below {w wr w1 : World} {nm : ByteArray} {v : Value} (h : FBox w wr nm v) (hb : Below wr.heap.size wr w1) : FBox w w1 nm v := ⟨below_step h.out hb, blk_below h.box hb⟩
theorem FBox.set0 {w wr : World} {nm : ByteArray} {v : Value} (h : FBox w wr nm v) (nm' : ByteArray) : FBox w (wr.setCell ⟨w.heap.size, 0, none⟩ (.string nm')) nm' v := ⟨h.out.setCell (p := ⟨w.heap.size, 0, none⟩) (Nat.le_refl _) _, by have := blk_set h.box 0 (.string nm'); simpa using this⟩
theorem FBox.set1 {w wr : World} {nm : ByteArray} {v : Value} (h : FBox w wr nm v) (v' : Value) : FBox w (wr.setCell ⟨w.heap.size, 1, none⟩ v') nm v' := ⟨h.out.setCell (p := ⟨w.heap.size, 1, none⟩) (Nat.le_refl _) _, by have := blk_set h.box 1 v'; simpa using this⟩
theorem FBox.cells {w wr : World} {nm : ByteArray} {v : Value} (h : FBox w wr nm v) : (wr.cell? ⟨w.heap.size, 0, none⟩ = some (.string nm) ∧ wr.frozen? ⟨w.heap.size, 0, none⟩ = false) ∧ (wr.cell? ⟨w.heap.size, 1, none⟩ = some v ∧ wr.frozen? ⟨w.heap.size, 1, none⟩ = false) := ⟨⟨blk_cell h.box 0, blk_frozen h.box 0⟩, blk_cell h.box 1, blk_frozen h.box 1⟩
theorem at_int (A : Option Addr) (L : List (List UInt8)) (N c n : Nat) (z : Int) (hz : z = (n : Int)) (hN : L.length = N) (b : List UInt8) (hb : tellR L n = b) (w : World) (h : kBlock.C w A N L) (hn : n ≤ 1000000) :
    Calls Tryd.prog 43 #[.slice A N c, .int .i64 z] w fun e w' => e = .returned (.agg (bytesV b).toArray) ∧ b.length = 32 ∧ Below w.heap.size w w' := by
  subst hz
  exact at_any A L N c n hN b hb w h hn
def RefPost (tell : Nat → List UInt8) (w : World) (e : Ending) (w' : World) : Prop := Below w.heap.size w w' ∧
  ((refR tell = none ∧ e = .returned (.tuple #[.slice none 0 0, .int .i64 0])) ∨
  ∃ l A c, refR tell = some l ∧ e = .returned (.tuple #[.slice A l.length c, .int .i64 ((makeB l).length : Int)]) ∧ kFile.C w' A l.length l)
theorem str_add (nm : ByteArray) (s : List UInt8) (q : Nat) (hq : q < s.length) (h : nm.data.toList = s.take q) : (nm ++ ⟨#[gt s q]⟩).data.toList = s.take (q + 1) := by
  rw [ByteArray.data_append, Array.toList_append, h, List.take_add_one, gt_some s q hq]
  rfl
end Go.Proofs.YtahjadbjokkjnaaDoor
