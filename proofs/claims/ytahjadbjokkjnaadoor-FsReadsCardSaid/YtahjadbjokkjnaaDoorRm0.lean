/-
  Chapter 49, erewhileref49.Make: its boxes and rows, plain.
-/
import Derived.Test.YtahjadbjokkjnaaDoorFr2
import Derived.Test.YtahjadbjokkjnaaDoorFi
namespace Go.Proofs.YtahjadbjokkjnaaDoor
open Go.RowKit Go.Proofs.YtahjadbjokkjnaaDoorW.PrintWords Go.Proofs.YtahjadbjokkjnaaDoorW.PrintLast Go.Proofs.YtahjadbjokkjnaaDoorW.PrintMore
set_option linter.unusedVariables false
set_option linter.unusedSimpArgs false

/-- A block, its first bytes those of s. -/
def headS (s : List UInt8) : List UInt8 := s ++ List.replicate (32 - s.length) 0
theorem headS_len (s : List UInt8) (h : s.length ≤ 32) : (headS s).length = 32 := by simp [headS]; omega
theorem headS_nil : headS [] = zeroB := rfl
theorem headS_set (s : List UInt8) (k : Nat) (hk : k < s.length) (h : s.length ≤ 32) : (headS (s.take k)).set k (gt s k) = headS (s.take (k + 1)) := by
  have hl : (s.take k).length = k := by rw [List.length_take]; omega
  have hl2 : (s.take (k + 1)).length = k + 1 := by rw [List.length_take]; omega
  unfold headS
  rw [hl, hl2, List.set_append_right _ _ (by omega), hl, Nat.sub_self, show 32 - k = (32 - (k + 1)) + 1 by omega, List.replicate_succ, List.set_cons_zero, List.take_add_one, gt_some s k hk]
  simp
theorem set_two (b : List UInt8) (j : Nat) (x y : UInt8) (h : j + 2 ≤ b.length) : (b.set j x).set (j + 1) y = putB b j [x, y] := by
  unfold putB
  apply List.ext_getElem
  · simp; omega
  · intro i h1 h2
    simp only [List.length_set] at h1
    rw [List.getElem_set, List.getElem_set]
    by_cases e1 : j + 1 = i
    · subst e1
      rw [if_pos rfl, List.getElem_append_left (by simp; omega), List.getElem_append_right (by simp; omega)]
      simp [show j + 1 - min j b.length = 1 by omega]
    · rw [if_neg e1]
      by_cases e2 : j = i
      · subst e2
        rw [if_pos rfl, List.getElem_append_left (by simp; omega), List.getElem_append_right (by simp; omega)]
        simp [show j - min j b.length = 0 by omega]
      · rw [if_neg e2]
        by_cases e3 : i < j
        · rw [List.getElem_append_left (by simp; omega), List.getElem_append_left (by simp; omega), List.getElem_take]
        · rw [List.getElem_append_right (by simp; omega), List.getElem_drop]
          congr 1
          simp
          omega
theorem headS_put (s : List UInt8) (h : s.length ≤ 12) : headS s = putB zeroB 0 s := by
  rw [putB_zero s h]
  unfold headS
  rw [List.append_assoc, List.replicate_append_replicate, show 12 - s.length + 20 = 32 - s.length by omega]
/-- A file's entry, byte by byte. -/
theorem entry_sets (x : File) (a : Nat) (hn : x.name.data.toList.length ≤ 12) :
    (let b1 := ((headS x.name.data.toList).set 12 (hi2 x.data.length)).set 13 (lo2 x.data.length); if 0 < x.data.length then (b1.set 14 (hi2 a)).set 15 (lo2 a) else b1) = entryB x a := by
  have h32 : (headS x.name.data.toList).length = 32 := headS_len _ (by omega)
  rw [← entry_made x a hn]
  simp only []
  rw [set_two _ 12 _ _ (by omega), headS_put _ hn]
  have h2 : (putB (putB zeroB 0 x.name.data.toList) 12 [hi2 x.data.length, lo2 x.data.length]).length = 32 := putB_len (putB_len rfl (by omega)) (by simp)
  rw [set_two _ 14 _ _ (by omega)]
theorem pad_head (s : List UInt8) (h : s.length ≤ 32) : pad s = headS s := pad_eq s h
/-- One's own row may be given any 'ok' that its own block meets. -/
theorem kBlock_ok {e base : Nat} {w : World} {ok ok' : Nat → Prop} {v : Value} {xs : List (List UInt8)} (h : kBlock.R e w base ok v xs) (hv : ∀ k, v.ownBlock = some k → ok' k) : kBlock.R e w base ok' v xs :=
  ⟨hv, h.2.imp_ (fun _ _ hp => hp)⟩
end Go.Proofs.YtahjadbjokkjnaaDoor
