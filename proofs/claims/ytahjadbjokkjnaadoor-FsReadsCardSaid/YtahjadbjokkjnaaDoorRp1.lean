/-
  Chapter 49, plain: what is read is what was made; what was made is read.
-/
import Derived.Test.YtahjadbjokkjnaaDoorRd3
import Derived.Test.YtahjadbjokkjnaaDoorFi
namespace Go.Proofs.YtahjadbjokkjnaaDoor
open Go.RowKit Go.Proofs.YtahjadbjokkjnaaDoorW.PrintWords Go.Proofs.YtahjadbjokkjnaaDoorW.PrintLast Go.Proofs.YtahjadbjokkjnaaDoorW.PrintMore
set_option linter.unusedVariables false
set_option linter.unusedSimpArgs false

/-- The first blocks that are told. -/
def tellN (tell : Nat → List UInt8) (n : Nat) : List (List UInt8) := (List.range n).map tell
theorem tellN_len (tell : Nat → List UInt8) (n : Nat) : (tellN tell n).length = n := by simp [tellN]
theorem tellN_gt (tell : Nat → List UInt8) (n i : Nat) (h : i < n) : gt (tellN tell n) i = tell i := by
  rw [gt_eq _ _ (by rw [tellN_len]; exact h)]
  simp [tellN]
theorem tellN_add (tell : Nat → List UInt8) (n m : Nat) : tellN tell (n + m) = tellN tell n ++ tellN (fun i => tell (n + i)) m := by
  unfold tellN
  rw [List.range_add, List.map_append, List.map_map]
  rfl
theorem tellN_eq {tell : Nat → List UInt8} {L : List (List UInt8)} (h : ∀ i, i < L.length → tell i = gt L i) : L = tellN tell L.length := by
  apply List.ext_getElem
  · rw [tellN_len]
  · intro i h1 h2
    rw [← gt_eq L i h1, ← h i h1]
    simp [tellN]
theorem zerosB_eq {xs : List UInt8} (h : zerosB xs = true) : xs = List.replicate xs.length 0 := List.eq_replicate_iff.2 ⟨rfl, (zerosB_iff xs).1 h⟩
theorem zerosB_rep (n : Nat) : zerosB (List.replicate n 0) = true := (zerosB_iff _).2 (fun x hx => (List.mem_replicate.1 hx).2)
theorem hilo_of (a b : UInt8) : hi2 (a.toNat * 256 + b.toNat) = a ∧ lo2 (a.toNat * 256 + b.toNat) = b := by
  have h1 := a.toNat_lt
  have h2 := b.toNat_lt
  refine ⟨UInt8.toNat_inj.mp ?_, UInt8.toNat_inj.mp ?_⟩ <;> simp only [hi2, lo2, UInt8.toNat_ofNat'] <;> omega
theorem hilo_to (n : Nat) (h : n ≤ 65535) : (hi2 n).toNat * 256 + (lo2 n).toNat = n := by
  simp only [hi2, lo2, UInt8.toNat_ofNat']
  omega
theorem drop_gt (b : List UInt8) (k : Nat) (h : k < b.length) : b.drop k = gt b k :: b.drop (k + 1) := by
  rw [List.drop_eq_getElem_cons h, gt_eq b k h]
theorem block_cut (b : List UInt8) (h : b.length = 32) : b = b.take 12 ++ ([gt b 12, gt b 13] ++ ([gt b 14, gt b 15] ++ b.drop 16)) := by
  conv => lhs; rw [← List.take_append_drop 12 b, drop_gt b 12 (by omega), drop_gt b 13 (by omega), drop_gt b 14 (by omega), drop_gt b 15 (by omega)]
  rfl
theorem take12_of (b : List UInt8) (h : b.length = 32) (hz : zerosB ((b.take 12).drop (nameK b)) = true) : b.take 12 = pad12 (entN b) := by
  have hn := nameK_le b
  have e0 : entN b = (b.take 12).take (nameK b) := List.prefix_iff_eq_take.1 (List.takeWhile_prefix _)
  have hl : (entN b).length = nameK b := rfl
  have e1 : (b.take 12).drop (nameK b) = List.replicate (12 - nameK b) 0 := by
    have := zerosB_eq hz
    rwa [List.length_drop, List.length_take, h, Nat.min_eq_left (by omega)] at this
  rw [pad12_eq _ (by rw [hl]; exact hn), hl, ← e1]
  conv => lhs; rw [← List.take_append_drop (nameK b) (b.take 12), ← e0]
/-- A right entry is the entry of its name, its length and its place. -/
theorem entry_back (b : List UInt8) (h : b.length = 32) (first : Nat) (hg : entGood b first = true) (x : File) (hx : nmL x = entN b) (hd : x.data.length = entS b) : entryB x first = b := by
  unfold entGood entK at hg
  simp only [Bool.and_eq_true, decide_eq_true_eq] at hg
  obtain ⟨⟨h1, h2⟩, h3, h4⟩ := hg
  have hp := take12_of b h h1
  have e16 : b.drop 16 = List.replicate 16 0 := by
    have := zerosB_eq h2
    rwa [List.length_drop, h] at this
  obtain ⟨s1, s2⟩ := hilo_of (gt b 12) (gt b 13)
  obtain ⟨f1, f2⟩ := hilo_of (gt b 14) (gt b 15)
  have hS : entS b = (gt b 12).toNat * 256 + (gt b 13).toNat := rfl
  have hF : entF b = (gt b 14).toNat * 256 + (gt b 15).toNat := rfl
  have e : entryB x first = pad12 (nmL x) ++ ([hi2 x.data.length, lo2 x.data.length] ++ ((if 0 < x.data.length then [hi2 first, lo2 first] else [0, 0]) ++ List.replicate 16 0)) := by
    unfold entryB pad12 nmL
    simp only [List.append_assoc]
  rw [e, hx, hd]
  conv => rhs; rw [block_cut b h, hp, e16]
  rw [hS, s1, s2]
  rw [hF, hS] at h4
  by_cases h0 : (gt b 12).toNat * 256 + (gt b 13).toNat = 0
  · rw [if_neg (by omega)]
    rw [if_pos h0] at h4
    have a1 : gt b 14 = 0 := UInt8.toNat_inj.mp (by simp only [UInt8.toNat_zero]; omega)
    have a2 : gt b 15 = 0 := UInt8.toNat_inj.mp (by simp only [UInt8.toNat_zero]; omega)
    rw [a1, a2]
  · rw [if_pos (by omega)]
    rw [if_neg h0] at h4
    rw [← h4, f1, f2]
end Go.Proofs.YtahjadbjokkjnaaDoor
