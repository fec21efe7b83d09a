/-
  Chapter 49: what slices.Collect(slices.Chunk(data, 32)) answers, read: the parts of the data.
-/
import Derived.Test.YtdobjbdkfammbaaDoorFs3
namespace Go.Proofs.YtdobjbdkfammbaaDoor
open Go.RowKit Go.Proofs.YtdobjbdkfammbaaDoorW.PrintWords Go.Proofs.YtdobjbdkfammbaaDoorW.PrintLast Go.Proofs.YtdobjbdkfammbaaDoorW.PrintMore
set_option linter.unusedVariables false
set_option linter.unusedSimpArgs false

/-- The k-th part of bytes. -/
def chunk (xs : List UInt8) (k : Nat) : List UInt8 := (xs.drop (32 * k)).take 32
theorem chunk_len (xs : List UInt8) (k : Nat) : (chunk xs k).length = min 32 (xs.length - 32 * k) := by
  simp [chunk]
theorem chunk_gt (xs : List UInt8) (k j : Nat) (hj : j < (chunk xs k).length) : gt (chunk xs k) j = gt xs (32 * k + j) := by
  rw [chunk_len] at hj
  rw [gt_eq _ _ (by rw [chunk_len]; exact hj), gt_eq _ _ (by omega)]
  simp [chunk]
theorem chunk_C {w : World} {ad : Addr} {xs : List UInt8} (h : byte.C w (some ad) xs.length xs) (k : Nat) : byte.C w (some (ad.add (32 * k))) (chunk xs k).length (chunk xs k) := by
  refine ⟨rfl, by rw [chunk_len]; omega, fun hn => ⟨_, rfl, fun j p hj => ?_⟩⟩
  obtain ⟨hjl, hp⟩ := List.getElem?_eq_some_iff.1 hj
  have hl := hjl
  rw [chunk_len] at hl
  obtain ⟨_, e, hc⟩ := byte_at h (k := 32 * k + j) (by omega)
  cases e
  rw [← chunk_gt xs k j hjl, gt_eq _ _ hjl, hp] at hc
  refine ⟨[.int .u8 (p.toNat : Int)], rfl, rfl, fun i u hu => ?_⟩
  rcases i with _ | i
  · simp only [List.getElem?_cons_zero, Option.some.injEq] at hu
    subst hu
    rw [Deep.add_add]
    have : j * byte.sz + 0 = j := by show j * 1 + 0 = j; omega
    rw [this]
    exact hc
  · simp at hu
/-- The parts, as the loop over them reads them. -/
theorem part_at {w : World} {base M : Nat} {v : Value} {ad : Addr} {m : Nat} (h : w.ownsRow base 54 1 v M ((partsTo ad m M).map encP)) (hM : 0 < M) : ∃ g cap, v = .slice (some ⟨g, 0, none⟩) M cap ∧ base ≤ g ∧ ∀ k, k < M → w.cell? ((⟨g, 0, none⟩ : Addr).add k) = some (.slice (some (ad.add (32 * k))) (min 32 (m - 32 * k)) (min 32 (m - 32 * k))) := by
  have h' := h
  rcases h.2 with ⟨_, h0⟩ | ⟨g, cap, cur, rfl, hg, _⟩
  · omega
  · refine ⟨g, cap, rfl, hg, fun k hk => ?_⟩
    exact h'.cells (g := g) (by simp [Value.ownBlock]) k _ (by simp [partsTo, partAt, encP, hk])
def manyN (n : Nat) : Nat := (n + 31) / 32
/-- A list of the parts of bytes, in block g2; the bytes lay at w0. -/
def PartsB (w0 w : World) (g2 : Nat) (xs : List UInt8) : Prop := ∀ k, k < manyN xs.length → ∃ Ak ck, w.cell? ⟨g2, k, none⟩ = some (.slice Ak (chunk xs k).length ck) ∧ byte.C w0 Ak (chunk xs k).length (chunk xs k)
theorem PartsB.kept {w0 w w1 : World} {g2 : Nat} {xs : List UInt8} (h : PartsB w0 w g2 xs) (he : w1.heap[g2]? = w.heap[g2]?) : PartsB w0 w1 g2 xs := fun k hk => by
  obtain ⟨Ak, ck, h1, h2⟩ := h k hk
  exact ⟨Ak, ck, (World.cell?_of_block (a := ⟨g2, k, none⟩) he).trans h1, h2⟩
theorem collect_all (w0 : World) (X0 B1 B2 : Nat) (A : Option Addr) (xs : List UInt8) (c : Nat) (hmc : xs.length ≤ c) (hm : xs.length ≤ 1000000000) (hC : byte.C w0 A xs.length xs) (w : World) (hX : X0 < w.heap.size)
    (hb1 : w.cell? ⟨B1, 0, none⟩ = some (.slice A xs.length c)) (hb2 : w.cell? ⟨B2, 0, none⟩ = some (.int .i64 32)) :
    Calls Tryd.prog 58 #[.func (.func 78) #[] #[.pointer (some ⟨B1, 0, none⟩), .pointer (some ⟨B2, 0, none⟩)]] w fun e w' =>
      ∃ Av cv g2, e = .returned (.slice Av (manyN xs.length) cv) ∧ (0 < manyN xs.length → Av = some ⟨g2, 0, none⟩) ∧ (g2 = X0 ∨ w.heap.size ≤ g2) ∧ g2 < w'.heap.size ∧ PartsB w0 w' g2 xs ∧ Below w.heap.size w w' := by
  by_cases h0 : xs.length = 0
  · rw [h0] at hb1
    refine (collect_none B1 B2 A c w hb1).mono ?_
    rintro e w' ⟨rfl, hb⟩
    refine ⟨none, 0, X0, by rw [h0]; rfl, fun hk => ?_, .inl rfl, Nat.lt_of_lt_of_le hX hb.size, fun k hk => ?_, hb⟩
    · rw [h0] at hk
      exact absurd hk (by simp [manyN])
    · rw [h0] at hk
      exact absurd hk (by simp [manyN])
  · obtain ⟨ad, rfl, _⟩ := byte_at hC (k := 0) (by omega)
    refine (collect_parts B1 B2 ad xs.length c hmc hm w hb1 hb2).mono ?_
    rintro e w' ⟨v, rfl, hrow, hb⟩
    have hM : 0 < (xs.length + 31) / 32 := by omega
    obtain ⟨g, cap, rfl, hg, hcell⟩ := part_at hrow hM
    refine ⟨_, _, g, rfl, fun _ => rfl, .inr hg, hrow.lt g (by simp [Value.ownBlock]) |>.2, fun k hk => ⟨some (ad.add (32 * k)), min 32 (xs.length - 32 * k), ?_, chunk_C hC k⟩, hb⟩
    have := hcell k hk
    rw [add_plain] at this
    rw [chunk_len]
    exact this
end Go.Proofs.YtdobjbdkfammbaaDoor
