/-
  Chapter 51: bytes in another order, turned into others, twice: how many different ones there are. Plain.
-/
import Derived.Test.YtoglbbonfjnmpaaDoorPa
namespace Go.Proofs.YtoglbbonfjnmpaaDoor
open Go.RowKit Go.Proofs.YtoglbbonfjnmpaaDoorW.PrintWords Go.Proofs.YtoglbbonfjnmpaaDoorW.PrintLast Go.Proofs.YtoglbbonfjnmpaaDoorW.PrintMore
set_option linter.unusedVariables false
set_option linter.unusedSimpArgs false

theorem nodup_len : ∀ (l1 l2 : List UInt8), l1.Nodup → (∀ x, x ∈ l1 → x ∈ l2) → l1.length ≤ l2.length
  | [], _, _, _ => by simp
  | x :: l1, l2, hn, hs => by
    obtain ⟨h1, h2⟩ := List.nodup_cons.1 hn
    have hx : x ∈ l2 := hs x (by simp)
    have ih := nodup_len l1 (l2.erase x) h2 (fun y hy => (List.mem_erase_of_ne (fun e => h1 (by rw [← e]; exact hy))).2 (hs y (by simp [hy])))
    rw [List.length_erase_of_mem hx] at ih
    have : 0 < l2.length := List.length_pos_of_mem hx
    simp
    omega
theorem spread_sub {xs ys : List UInt8} (h : ∀ x, x ∈ xs → x ∈ ys) : spreadN xs ≤ spreadN ys :=
  nodup_len _ _ (nodup_dis xs) (fun x hx => (mem_dis ys x).2 (h x ((mem_dis xs x).1 hx)))
theorem spread_same {xs ys : List UInt8} (h : ∀ x, x ∈ xs ↔ x ∈ ys) : spreadN xs = spreadN ys :=
  Nat.le_antisymm (spread_sub fun x hx => (h x).1 hx) (spread_sub fun x hx => (h x).2 hx)
theorem spread_map (f : UInt8 → UInt8) (hf : ∀ x y, f x = f y → x = y) {xs ys : List UInt8} (h : ∀ x, x ∈ xs → f x ∈ ys) : spreadN xs ≤ spreadN ys := by
  have hn : ((dis xs).map f).Nodup := by
    unfold List.Nodup
    rw [List.pairwise_map]
    exact (nodup_dis xs).imp fun hne he => hne (hf _ _ he)
  have := nodup_len _ (dis ys) hn (fun y hy => by
    obtain ⟨x, hx, rfl⟩ := List.mem_map.1 hy
    exact (mem_dis ys _).2 (h x ((mem_dis xs x).1 hx)))
  rw [List.length_map] at this
  exact this
theorem xor_inj (key : UInt8) : ∀ x y : UInt8, x ^^^ key = y ^^^ key → x = y := fun x y h => by
  have h2 : (x ^^^ key) ^^^ key = (y ^^^ key) ^^^ key := by rw [h]
  rwa [UInt8.xor_assoc, UInt8.xor_assoc, UInt8.xor_self, UInt8.xor_zero, UInt8.xor_zero] at h2
theorem spread_256 (xs : List UInt8) : spreadN xs ≤ 256 := by
  have := nodup_len (dis xs) ((List.range 256).map UInt8.ofNat) (nodup_dis xs) (fun x _ => List.mem_map.2 ⟨x.toNat, List.mem_range.2 x.toNat_lt, by simp⟩)
  simp only [List.length_map, List.length_range] at this
  exact this
/-- Bytes turned by k places, each with a key on it: the first i of them. -/
def turnTo (xs : List UInt8) (key : UInt8) (k i : Nat) : List UInt8 := (List.range i).map fun j => gt xs ((j + k) % xs.length) ^^^ key
theorem turn_succ (xs : List UInt8) (key : UInt8) (k i : Nat) : turnTo xs key k (i + 1) = turnTo xs key k i ++ [gt xs ((i + k) % xs.length) ^^^ key] := by
  unfold turnTo
  rw [List.range_succ, List.map_append]
  rfl
theorem turn_len (xs : List UInt8) (key : UInt8) (k i : Nat) : (turnTo xs key k i).length = i := by simp [turnTo]
theorem turn_spread (xs : List UInt8) (key : UInt8) (k : Nat) (hk : k < xs.length) : spreadN (turnTo xs key k xs.length) = spreadN xs := by
  refine Nat.le_antisymm (spread_map (· ^^^ key) (xor_inj key) fun x hx => ?_) (spread_map (· ^^^ key) (xor_inj key) fun x hx => ?_)
  · obtain ⟨j, hj, rfl⟩ := List.mem_map.1 hx
    have hlt : (j + k) % xs.length < xs.length := Nat.mod_lt _ (by omega)
    show (gt xs ((j + k) % xs.length) ^^^ key) ^^^ key ∈ xs
    rw [UInt8.xor_assoc, UInt8.xor_self, UInt8.xor_zero, gt_eq xs _ hlt]
    exact List.getElem_mem hlt
  · obtain ⟨i, hi, rfl⟩ := List.getElem_of_mem hx
    refine List.mem_map.2 ⟨(i + (xs.length - k)) % xs.length, List.mem_range.2 (Nat.mod_lt _ (by omega)), ?_⟩
    have e : ((i + (xs.length - k)) % xs.length + k) % xs.length = i := by
      rw [Nat.mod_add_mod, show i + (xs.length - k) + k = i + xs.length by omega, Nat.add_mod_right, Nat.mod_eq_of_lt hi]
    show gt xs (((i + (xs.length - k)) % xs.length + k) % xs.length) ^^^ key = _
    rw [e, gt_eq xs i hi]
theorem wild_of {xs ys : List UInt8} (hs : spreadN xs = spreadN ys) (h16 : 16 ≤ xs.length ↔ 16 ≤ ys.length) (h64 : min xs.length 64 = min ys.length 64) : wildB xs = wildB ys := by
  unfold wildB
  rw [hs, h64, decide_eq_decide.mpr h16]
end Go.Proofs.YtoglbbonfjnmpaaDoor
