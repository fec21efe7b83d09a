/-
  Chapter 49, the plain disk of files: the head, the table's entries, the data in blocks of 32.
-/
import Derived.Test.YtdobjbdkfammbaaDoorFs4
import Derived.Lib.LazyBuf
namespace Go.Proofs.YtdobjbdkfammbaaDoor
open Go.RowKit Go.Proofs.YtdobjbdkfammbaaDoorW.PrintWords Go.Proofs.YtdobjbdkfammbaaDoorW.PrintLast Go.Proofs.YtdobjbdkfammbaaDoorW.PrintMore
set_option linter.unusedVariables false
set_option linter.unusedSimpArgs false

/-- Bytes and noughts behind them, 32 in all. -/
def pad (xs : List UInt8) : List UInt8 := (xs ++ List.replicate 32 0).take 32
theorem pad_len (xs : List UInt8) : (pad xs).length = 32 := by simp [pad]
/-- The blocks of a file's data. -/
def dataB (x : File) : List (List UInt8) := (List.range (manyN x.data.length)).map (fun k => pad (chunk x.data k))
/-- A file's entry; at: its first block. -/
def entryB (x : File) (at_ : Nat) : List UInt8 :=
  (x.name.data.toList ++ List.replicate 12 0).take 12 ++ [hi2 x.data.length, lo2 x.data.length] ++ (if 0 < x.data.length then [hi2 at_, lo2 at_] else [0, 0]) ++ List.replicate 16 0
theorem entryB_len (x : File) (a : Nat) : (entryB x a).length = 32 := by
  unfold entryB
  split <;> simp
def blocksTo (l : List File) (i : Nat) : Nat := ((l.take i).map (fun x => manyN x.data.length)).sum
/-- The table. -/
def tableB (l : List File) : List (List UInt8) := (List.range l.length).map (fun i => entryB (gt l i) (1 + l.length + blocksTo l i))
def headB (mg : List UInt8) (n s : Nat) : List UInt8 := mg ++ [UInt8.ofNat n, hi2 s, lo2 s] ++ List.replicate 24 0
def magicB : List UInt8 := [69, 82, 69, 87, 1]
/-- The disk of files. -/
def makeB (l : List File) : List (List UInt8) := headB magicB l.length (sumT (tableB l)) :: tableB l ++ (l.map dataB).flatten
/-- Bytes written into a block from a place on. -/
def putB (b : List UInt8) (j : Nat) (seg : List UInt8) : List UInt8 := b.take j ++ seg ++ b.drop (j + seg.length)
theorem putB_len {b : List UInt8} {j : Nat} {seg : List UInt8} (hb : b.length = 32) (hj : j + seg.length ≤ 32) : (putB b j seg).length = 32 := by
  simp [putB, hb]; omega
theorem bytesV_len (xs : List UInt8) : (bytesV xs).length = xs.length := by simp [bytesV]
theorem kBlock_M (w : World) (base : Nat) (ok : Nat → Prop) {xs : List UInt8} (h : xs.length = 32) : kBlock.M w base ok xs (bytesV xs) := by
  have := Kd.arr_of_cells (n := 32) (w := w) (base := base) (ok := ok) (hs := by decide) (enc := fun x : UInt8 => Value.int .u8 (x.toNat : Int)) (h1 := fun _ => rfl) (xs := xs) h
  rw [encs_bytes] at this
  exact this
/-- A run of bytes is written into block i of a row of one's own. -/
theorem R_copyIn {W : World} {base g n cap : Nat} {ok : Nat → Prop} {xs : List (List UInt8)} (h : kBlock.R 37 W base ok (.slice (some ⟨g, 0, none⟩) n cap) xs) (i : Nat) (hi : i < n) (j : Nat) (seg : List UInt8) (hj : j + seg.length ≤ 32) :
    kBlock.R 37 (W.setCells g (i * 32 + j) (bytesV seg)) base ok (.slice (some ⟨g, 0, none⟩) n cap) (xs.set i (putB (gt xs i) j seg)) ∧ W.grownBy (W.setCells g (i * 32 + j) (bytesV seg)) (some g) ∧
      (∀ q, q < seg.length → (W.cell? ⟨g, i * 32 + j + q, none⟩).isSome = true) ∧ (∀ q, q < seg.length → W.frozen? ⟨g, i * 32 + j + q, none⟩ = false) := by
  obtain ⟨cs, hcl, hM, hc, hf⟩ := Kd.R_elem h default (i : Int) (by omega) (by omega)
  have hM' : kBlock.M W base (fun k => ok k ∧ k ≠ g) (gt xs i) cs := by simpa [gt] using hM
  obtain ⟨hl, hcs⟩ := Kd.arr_cells (kBlock.K_of_M hM')
  rw [encs_bytes] at hcs
  subst hcs
  simp only [Int.toNat_natCast] at hc hf
  have hsz : kBlock.sz = 32 := rfl
  have hseg := Kd.R_seg h (i : Int) (by omega) (by omega) (c := bytesV (gt xs i)) (seg := bytesV seg) (j := j) hcl (by simpa using hc) (by rw [bytesV_len]; exact hj) (x' := putB (gt xs i) j seg) (okp := fun _ => False)
    (by
      have : (bytesV (gt xs i)).take j ++ bytesV seg ++ (bytesV (gt xs i)).drop (j + (bytesV seg).length) = bytesV (putB (gt xs i) j seg) := by
        simp [bytesV, putB, List.map_take, List.map_drop]
      rw [this]
      exact kBlock_M W base _ (putB_len hl hj)) (fun _ hk => hk.elim)
  simp only [Int.toNat_natCast, hsz] at hseg
  refine ⟨hseg.1, hseg.2, fun q hq => ?_, fun q hq => ?_⟩
  · have hjq : j + q < (bytesV (gt xs i)).length := by rw [bytesV_len, hl]; omega
    have := hc (j + q) _ (List.getElem?_eq_getElem hjq)
    rw [hsz, ← Nat.add_assoc] at this
    rw [this]
    rfl
  · have := hf (j + q)
    rwa [hsz, ← Nat.add_assoc] at this
theorem size_byte (w : World) : (Go.sizeOf 5).run Tryd.prog w = .ok 1 w := by
  cases hq : Tryd.prog.info? 5 with
  | none => have := info_byte; simp [hq] at this
  | some i =>
    have : i.size = 1 := by have := info_byte; simp [hq] at this; exact this.2.1
    simp [Go.sizeOf, typeInfo, Sem.run_bind, hq, this]
/-- copy(b[j:], s), s a string that fits. -/
theorem copy_str {W : World} {base g n cap : Nat} {ok : Nat → Prop} {xs : List (List UInt8)} (h : kBlock.R 37 W base ok (.slice (some ⟨g, 0, none⟩) n cap) xs) (i : Nat) (hi : i < n) (s : ByteArray) (hs : s.data.toList.length ≤ 32) (ty : TypeId) :
    ∃ W2, (Builtin.copy_ #[54, 9] ty #[.slice (some ⟨g, i * 32, none⟩) 32 32, .string s]).run Tryd.prog W = .ok (goInt s.size) W2 ∧
      kBlock.R 37 W2 base ok (.slice (some ⟨g, 0, none⟩) n cap) (xs.set i (putB (gt xs i) 0 s.data.toList)) ∧ W.grownBy W2 (some g) := by
  obtain ⟨h1, h2, h3, h4⟩ := R_copyIn h i hi 0 s.data.toList (by omega)
  have hz : s.size = s.data.toList.length := Lib.size_eq s
  refine ⟨_, Go.run_copy_string W 54 9 ty 5 g (i * 32) 32 32 s Tryd.underlying54 size_byte (by omega) (fun q hq => h3 q (by omega)) (fun q hq => h4 q (by omega)), ?_, ?_⟩
  · exact h1
  · exact h2
/-- copy(b[j:], x), x bytes that fit. -/
theorem copy_bts {W : World} {base g n cap : Nat} {ok : Nat → Prop} {xs : List (List UInt8)} (h : kBlock.R 37 W base ok (.slice (some ⟨g, 0, none⟩) n cap) xs) (i : Nat) (hi : i < n) (j : Nat) (seg : List UInt8) (hj : j + seg.length ≤ 32) (A : Option Addr) (c dLen dCap : Nat) (hs : byte.C W A seg.length seg) (hd : seg.length ≤ dLen) (hp : 0 < seg.length) (ty : TypeId) :
    ∃ W2, (Builtin.copy_ #[54, 54] ty #[.slice (some ⟨g, i * 32 + j, none⟩) dLen dCap, .slice A seg.length c]).run Tryd.prog W = .ok (goInt seg.length) W2 ∧
      kBlock.R 37 W2 base ok (.slice (some ⟨g, 0, none⟩) n cap) (xs.set i (putB (gt xs i) j seg)) ∧ W.grownBy W2 (some g) := by
  obtain ⟨h1, h2, h3, h4⟩ := R_copyIn h i hi j seg hj
  obtain ⟨a, rfl, _⟩ := byte_at hs hp
  have hsz : (Tryd.prog.info? 5).map (·.size) = some 1 := by kernel_rfl
  have hr := run_copy_cells (P := Tryd.prog) W 54 54 ty 5 g (i * 32 + j) dLen dCap a seg.length c (bytesV seg) Tryd.underlying54 hsz (by rw [bytesV_len]; exact (Nat.min_eq_left hd).symm)
    (fun q v hv => by
      have hq : q < seg.length := by have := (List.getElem?_eq_some_iff.1 hv).1; rwa [bytesV_len] at this
      obtain ⟨a', e, hc⟩ := byte_at hs hq
      cases e
      rw [hc]
      simp [bytesV, gt_some seg q hq] at hv
      rw [← hv])
    (fun q hq => h3 q (by rwa [bytesV_len] at hq)) (fun q hq => h4 q (by rwa [bytesV_len] at hq)) (bytesV_one seg)
  rw [bytesV_len] at hr
  exact ⟨_, hr, h1, h2⟩
end Go.Proofs.YtdobjbdkfammbaaDoor
