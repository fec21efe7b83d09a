/-
  Chapter 55, kinds: a write, a slice that may share its block with others, a deed. Plain.
-/
import Derived.Test.YtnpnpgihbgohgaaDoorGa
import Derived.Lib.LazyBuf
/-
  Chapter 49, the plain disk of files: the head, the table's entries, the data in blocks of 32.
-/
namespace Go.Proofs.YtnpnpgihbgohgaaDoor
open Go.RowKit Go.Proofs.YtnpnpgihbgohgaaDoorW.PrintWords Go.Proofs.YtnpnpgihbgohgaaDoorW.PrintLast Go.Proofs.YtnpnpgihbgohgaaDoorW.PrintMore
set_option linter.unusedVariables false
set_option linter.unusedSimpArgs false

/-- Bytes and noughts behind them, 32 in all. -/
def pad (xs : List UInt8) : List UInt8 := (xs ++ List.replicate 32 0).take 32
theorem pad_len (xs : List UInt8) : (pad xs).length = 32 := by simp [pad]
/-- The blocks of a file's data. -/
def dataB (x : File) : List (List UInt8) := (List.range (manyN x.data.length)).map (fun k => pad (chunk x.data k))
/-- A file's entry; at: its first block. -/
def entryB (x : File) (at_ : Nat) : List UInt8 :=
  (x.name.data.toList ++ List.replicate 12 0).take 12 ++ [hi2 x.data.length, lo2 x.data.length] ++ (if 0 < x.data.length then [hi2 at_, lo2 at_] else [0, 0]) ++ List.replicate 16 0
theorem entryB_len (x : File) (a : Nat) : (entryB x a).length = 32 := by
  unfold entryB
  split <;> simp
def blocksTo (l : List File) (i : Nat) : Nat := ((l.take i).map (fun x => manyN x.data.length)).sum
/-- The table. -/
def tableB (l : List File) : List (List UInt8) := (List.range l.length).map (fun i => entryB (gt l i) (1 + l.length + blocksTo l i))
def headB (mg : List UInt8) (n s : Nat) : List UInt8 := mg ++ [UInt8.ofNat n, hi2 s, lo2 s] ++ List.replicate 24 0
def magicB : List UInt8 := [69, 82, 69, 87, 1]
/-- The disk of files. -/
def makeB (l : List File) : List (List UInt8) := headB magicB l.length (sumT (tableB l)) :: tableB l ++ (l.map dataB).flatten
/-- Bytes written into a block from a place on. -/
def putB (b : List UInt8) (j : Nat) (seg : List UInt8) : List UInt8 := b.take j ++ seg ++ b.drop (j + seg.length)
theorem putB_len {b : List UInt8} {j : Nat} {seg : List UInt8} (hb : b.length = 32) (hj : j + seg.length ≤ 32) : (putB b j seg).length = 32 := by
  simp [putB, hb]; omega
theorem bytesV_len (xs : List UInt8) : (bytesV xs).length = xs.length := by simp [bytesV]
theorem kBlock_M (w : World) (base : Nat) (ok : Nat → Prop) {xs : List UInt8} (h : xs.length = 32) : kBlock.M w base ok xs (bytesV xs) := by
  have := Kd.arr_of_cells (n := 32) (w := w) (base := base) (ok := ok) (hs := by decide) (enc := fun x : UInt8 => Value.int .u8 (x.toNat : Int)) (h1 := fun _ => rfl) (xs := xs) h
  rw [encs_bytes] at this
  exact this
/-- A run of bytes is written into block i of a row of one's own. -/
theorem R_copyIn {W : World} {base g n cap : Nat} {ok : Nat → Prop} {xs : List (List UInt8)} (h : kBlock.R 41 W base ok (.slice (some ⟨g, 0, none⟩) n cap) xs) (i : Nat) (hi : i < n) (j : Nat) (seg : List UInt8) (hj : j + seg.length ≤ 32) :
    kBlock.R 41 (W.setCells g (i * 32 + j) (bytesV seg)) base ok (.slice (some ⟨g, 0, none⟩) n cap) (xs.set i (putB (gt xs i) j seg)) ∧ W.grownBy (W.setCells g (i * 32 + j) (bytesV seg)) (some g) ∧
      (∀ q, q < seg.length → (W.cell? ⟨g, i * 32 + j + q, none⟩).isSome = true) ∧ (∀ q, q < seg.length → W.frozen? ⟨g, i * 32 + j + q, none⟩ = false) := by
  obtain ⟨cs, hcl, hM, hc, hf⟩ := Kd.R_elem h default (i : Int) (by omega) (by omega)
  have hM' : kBlock.M W base (fun k => ok k ∧ k ≠ g) (gt xs i) cs := by simpa [gt] using hM
  obtain ⟨hl, hcs⟩ := Kd.arr_cells (kBlock.K_of_M hM')
  rw [encs_bytes] at hcs
  subst hcs
  simp only [Int.toNat_natCast] at hc hf
  have hsz : kBlock.sz = 32 := rfl
  have hseg := Kd.R_seg h (i : Int) (by omega) (by omega) (c := bytesV (gt xs i)) (seg := bytesV seg) (j := j) hcl (by simpa using hc) (by rw [bytesV_len]; exact hj) (x' := putB (gt xs i) j seg) (okp := fun _ => False)
    (by
      have : (bytesV (gt xs i)).take j ++ bytesV seg ++ (bytesV (gt xs i)).drop (j + (bytesV seg).length) = bytesV (putB (gt xs i) j seg) := by
        simp [bytesV, putB, List.map_take, List.map_drop]
      rw [this]
      exact kBlock_M W base _ (putB_len hl hj)) (fun _ hk => hk.elim)
  simp only [Int.toNat_natCast, hsz] at hseg
  refine ⟨hseg.1, hseg.2, fun q hq => ?_, fun q hq => ?_⟩
  · have hjq : j + q < (bytesV (gt xs i)).length := by rw [bytesV_len, hl]; omega
    have := hc (j + q) _ (List.getElem?_eq_getElem hjq)
    rw [hsz, ← Nat.add_assoc] at this
    rw [this]
    rfl
  · have := hf (j + q)
    rwa [hsz, ← Nat.add_assoc] at this
theorem size_byte (w : World) : (Go.sizeOf 5).run Tryd.prog w = .ok 1 w := by
  cases hq : Tryd.prog.info? 5 with
  | none => have := info_byte; simp [hq] at this
  | some i =>
    have : i.size = 1 := by have := info_byte; simp [hq] at this; exact this.2.1
    simp [Go.sizeOf, typeInfo, Sem.run_bind, hq, this]
/-- copy(b[j:], s), s a string that fits. -/
theorem copy_str {W : World} {base g n cap : Nat} {ok : Nat → Prop} {xs : List (List UInt8)} (h : kBlock.R 41 W base ok (.slice (some ⟨g, 0, none⟩) n cap) xs) (i : Nat) (hi : i < n) (s : ByteArray) (hs : s.data.toList.length ≤ 32) (ty : TypeId) :
    ∃ W2, (Builtin.copy_ #[45, 9] ty #[.slice (some ⟨g, i * 32, none⟩) 32 32, .string s]).run Tryd.prog W = .ok (goInt s.size) W2 ∧
      kBlock.R 41 W2 base ok (.slice (some ⟨g, 0, none⟩) n cap) (xs.set i (putB (gt xs i) 0 s.data.toList)) ∧ W.grownBy W2 (some g) := by
  obtain ⟨h1, h2, h3, h4⟩ := R_copyIn h i hi 0 s.data.toList (by omega)
  have hz : s.size = s.data.toList.length := Lib.size_eq s
  refine ⟨_, Go.run_copy_string W 45 9 ty 5 g (i * 32) 32 32 s Tryd.underlying45 size_byte (by omega) (fun q hq => h3 q (by omega)) (fun q hq => h4 q (by omega)), ?_, ?_⟩
  · exact h1
  · exact h2
/-- copy(b[j:], x), x bytes that fit. -/
theorem copy_bts {W : World} {base g n cap : Nat} {ok : Nat → Prop} {xs : List (List UInt8)} (h : kBlock.R 41 W base ok (.slice (some ⟨g, 0, none⟩) n cap) xs) (i : Nat) (hi : i < n) (j : Nat) (seg : List UInt8) (hj : j + seg.length ≤ 32) (A : Option Addr) (c dLen dCap : Nat) (hs : byte.C W A seg.length seg) (hd : seg.length ≤ dLen) (hp : 0 < seg.length) (ty : TypeId) :
    ∃ W2, (Builtin.copy_ #[45, 45] ty #[.slice (some ⟨g, i * 32 + j, none⟩) dLen dCap, .slice A seg.length c]).run Tryd.prog W = .ok (goInt seg.length) W2 ∧
      kBlock.R 41 W2 base ok (.slice (some ⟨g, 0, none⟩) n cap) (xs.set i (putB (gt xs i) j seg)) ∧ W.grownBy W2 (some g) := by
  obtain ⟨h1, h2, h3, h4⟩ := R_copyIn h i hi j seg hj
  obtain ⟨a, rfl, _⟩ := byte_at hs hp
  have hsz : (Tryd.prog.info? 5).map (·.size) = some 1 := by kernel_rfl
  have hr := run_copy_cells (P := Tryd.prog) W 45 45 ty 5 g (i * 32 + j) dLen dCap a seg.length c (bytesV seg) Tryd.underlying45 hsz (by rw [bytesV_len]; exact (Nat.min_eq_left hd).symm)
    (fun q v hv => by
      have hq : q < seg.length := by have := (List.getElem?_eq_some_iff.1 hv).1; rwa [bytesV_len] at this
      obtain ⟨a', e, hc⟩ := byte_at hs hq
      cases e
      rw [hc]
      simp [bytesV, gt_some seg q hq] at hv
      rw [← hv])
    (fun q hq => h3 q (by rwa [bytesV_len] at hq)) (fun q hq => h4 q (by rwa [bytesV_len] at hq)) (bytesV_one seg)
  rw [bytesV_len] at hr
  exact ⟨_, hr, h1, h2⟩
end Go.Proofs.YtnpnpgihbgohgaaDoor
/-
  Chapter 49, fs.Make, walked.
-/
namespace Go.Proofs.YtnpnpgihbgohgaaDoor
open Go.RowKit Go.Proofs.YtnpnpgihbgohgaaDoorW.PrintWords Go.Proofs.YtnpnpgihbgohgaaDoorW.PrintLast Go.Proofs.YtnpnpgihbgohgaaDoorW.PrintMore
set_option linter.unusedVariables false
set_option linter.unusedSimpArgs false

def zeroB : List UInt8 := List.replicate 32 0
def zB : Value := .agg (bytesV zeroB).toArray
theorem info_blockZ : (Tryd.prog.info? 41).map (fun i => (i.zero, i.size, i.bytes)) = some (some zB, 32, 32) := by kernel_rfl
theorem zB_M (w : World) (base : Nat) (ok : Nat → Prop) : kBlock.M w base ok zeroB zB.cells.toList := by
  have := Kd.arr_of_cells (n := 32) (w := w) (base := base) (ok := ok) (hs := by decide) (enc := fun x : UInt8 => Value.int .u8 (x.toNat : Int)) (h1 := fun _ => rfl) (xs := zeroB) (by simp [zeroB])
  rw [encs_bytes] at this
  exact this
set_option maxRecDepth 4000 in
set_option maxHeartbeats 3200000 in
theorem make_full (A : Option Addr) (l : List File) (c : Nat) (w : World) (h : kFile.C w A l.length l) (hl : 8 < l.length) :
    Calls Tryd.prog 8 #[.slice A l.length c] w fun e w' => e = .returned (.tuple #[.slice none 0 0, .int .i64 6]) ∧ Below w.heap.size w w' := by
  have h8 : (8 : Int) < (l.length : Int) := by omega
  go_enter Tryd.func8, Tryd.ntmps8
  go_wp2
  go_ret2
  exact ⟨rfl, Below.refl _ _⟩
theorem make_form (A : Option Addr) (l : List File) (c : Nat) (w : World) (h : kFile.C w A l.length l) (hl : l.length ≤ 8) (hs : ∀ k, k < l.length → (gt l k).name.size ≤ 9223372036854775807) (ht : togB l = false) :
    Calls Tryd.prog 8 #[.slice A l.length c] w fun e w' => e = .returned (.tuple #[.slice none 0 0, .int .i64 3]) ∧ Below w.heap.size w w' := by
  have h8 : ¬ (8 : Int) < (l.length : Int) := by omega
  go_enter Tryd.func8, Tryd.ntmps8
  go_wp2_with (go_at_call 17; refine (together_any A l c false ht _ h hs (by omega)).mono ?_; rintro e w1 ⟨rfl, hb⟩; have HB := Aside0.mk hb; clear hb)
  go_ret2
  exact ⟨rfl, HB.out⟩
theorem readsS {e : Nat} {w : World} {base n c : Nat} {ok : Nat → Prop} {A : Option Addr} {xs : List UInt8} (h : byte.R e w base ok (.slice A n c) xs) : n = xs.length ∧ xs.length ≤ c ∧ byte.C w A xs.length xs := by
  obtain ⟨A', c', he, hl, hC⟩ := Kd.R_reads h
  cases he
  exact ⟨rfl, hl, hC⟩
theorem togTo_right {l : List File} : ∀ {n : Nat}, togTo l n = true → ∀ k, k < n → rightB (gt l k) = true := by
  intro n
  induction n with
  | zero => intro _ k hk; omega
  | succ n ih =>
    intro h k hk
    unfold togTo at h
    simp only [Bool.and_eq_true] at h
    by_cases he : k = n
    · subst he; exact h.2.1
    · exact ih h.1 k (by omega)
theorem tog_right {l : List File} (h : togB l = true) (k : Nat) (hk : k < l.length) : (gt l k).name.size ≤ 12 ∧ (gt l k).data.length ≤ 256 := by
  have := togTo_right h k hk
  unfold rightB namedB at this
  simp only [Bool.and_eq_true, decide_eq_true_eq] at this
  exact ⟨this.1.2, this.2⟩
theorem tog_name {l : List File} (h : togB l = true) (k : Nat) (hk : k < l.length) : (gt l k).name.data.toList.length ≤ 32 := by
  have := (tog_right h k hk).1
  rw [Lib.size_eq] at this
  omega
/-- What lies there when k files are made. -/
def outTo (l : List File) (k : Nat) : List (List UInt8) := zeroB :: ((tableB l).take k ++ List.replicate (l.length - k) zeroB) ++ ((l.take k).map dataB).flatten
theorem outTo_zero (l : List File) : outTo l 0 = List.replicate (l.length + 1) zeroB := by
  simp [outTo, List.replicate_succ]
theorem outTo_len (l : List File) (k : Nat) (hk : k ≤ l.length) : (outTo l k).length = 1 + l.length + blocksTo l k := by
  unfold outTo blocksTo
  simp only [List.length_cons, List.length_append, List.length_take, List.length_replicate, List.length_flatten, List.map_map, tableB, List.length_map, List.length_range]
  have : (List.map (List.length ∘ dataB) (List.take k l)) = (List.map (fun x : File => manyN x.data.length) (List.take k l)) := by
    apply List.map_congr_left
    intro x _
    simp [dataB]
  rw [this]
  omega
theorem blocksTo_le {l : List File} (h : togB l = true) (k : Nat) (hk : k ≤ l.length) : blocksTo l k ≤ 8 * k := by
  induction k with
  | zero => simp [blocksTo]
  | succ k ih =>
    have h1 : blocksTo l (k + 1) = blocksTo l k + manyN (gt l k).data.length := by
      unfold blocksTo
      rw [List.take_add_one, gt_some l k (by omega), List.map_append, List.sum_append]
      simp
    have h2 := (tog_right h k (by omega)).2
    have h3 : manyN (gt l k).data.length ≤ 8 := by unfold manyN; omega
    have := ih (by omega)
    omega
/-- What stands while fs.Make fills the k-th entry: the row of blocks of its own, and the file's box. -/
structure MkSt (w W : World) (X g n cap : Nat) (nm : ByteArray) (A : Option Addr) (m c : Nat) (out : List (List UInt8)) : Prop where
  row : kBlock.R 41 W w.heap.size (fun _ => True) (.slice (some ⟨g, 0, none⟩) n cap) out
  below : Below w.heap.size w W
  file : W.heap[X]? = some (.cells #[.string nm, .slice A m c] 54 (0, 0))
  ne : X ≠ g
  hg : w.heap.size ≤ g
namespace MkSt
variable {w W W1 : World} {X g n cap : Nat} {nm : ByteArray} {A : Option Addr} {m c : Nat} {out : List (List UInt8)}
theorem drew (h : MkSt w W X g n cap nm A m c out) : MkSt w W.drew X g n cap nm A m c out := ⟨Kd.R_drew h.row, below_drew h.below, h.file, h.ne, h.hg⟩
theorem later (h : MkSt w W X g n cap nm A m c out) (hb : Below W.heap.size W W1) : MkSt w W1 X g n cap nm A m c out := ⟨Kd.R_below h.row hb, below_step h.below hb, blk_below h.file hb, h.ne, h.hg⟩
theorem len (h : MkSt w W X g n cap nm A m c out) : n = out.length := by
  obtain ⟨A', c', he, _, _⟩ := Kd.R_reads h.row
  cases he
  rfl
theorem cell0 (h : MkSt w W X g n cap nm A m c out) : W.cell? ⟨X, 0, none⟩ = some (.string nm) := by
  have := blk_cell h.file 0; simpa using this
theorem cell1 (h : MkSt w W X g n cap nm A m c out) : W.cell? ⟨X, 1, none⟩ = some (.slice A m c) := by
  have := blk_cell h.file 1; simpa using this
theorem copyStr (h : MkSt w W X g n cap nm A m c out) (i : Nat) (hi : i < n) (s : ByteArray) (hs : s.data.toList.length ≤ 32) (ty : TypeId) :
    ∃ W2, (Builtin.copy_ #[45, 9] ty #[.slice (some ⟨g, i * 32, none⟩) 32 32, .string s]).run Tryd.prog W = .ok (goInt s.size) W2 ∧ MkSt w W2 X g n cap nm A m c (out.set i (putB (gt out i) 0 s.data.toList)) := by
  obtain ⟨W2, hr, hR, hg2⟩ := copy_str h.row i hi s hs ty
  exact ⟨W2, hr, hR, pw_below_grown h.below (some g) h.below.size hg2 (fun q e => by cases e; exact h.hg), blk_grown h.file hg2 (by intro e; injection e with e; exact h.ne e), h.ne, h.hg⟩
theorem copyBts (h : MkSt w W X g n cap nm A m c out) (i : Nat) (hi : i < n) (j : Nat) (seg : List UInt8) (hj : j + seg.length ≤ 32) (As : Option Addr) (cs dLen dCap : Nat) (hs : byte.C W As seg.length seg) (hd : seg.length ≤ dLen) (hp : 0 < seg.length) (ty : TypeId) :
    ∃ W2, (Builtin.copy_ #[45, 45] ty #[.slice (some ⟨g, i * 32 + j, none⟩) dLen dCap, .slice As seg.length cs]).run Tryd.prog W = .ok (goInt seg.length) W2 ∧ MkSt w W2 X g n cap nm A m c (out.set i (putB (gt out i) j seg)) := by
  obtain ⟨W2, hr, hR, hg2⟩ := copy_bts h.row i hi j seg hj As cs dLen dCap hs hd hp ty
  exact ⟨W2, hr, hR, pw_below_grown h.below (some g) h.below.size hg2 (fun q e => by cases e; exact h.hg), blk_grown h.file hg2 (by intro e; injection e with e; exact h.ne e), h.ne, h.hg⟩
theorem away (h : MkSt w W X g n cap nm A m c out) (g2 : Nat) (h2 : g2 = X ∨ W.heap.size ≤ g2) : kBlock.R 41 W w.heap.size (fun k => k ≠ g2) (.slice (some ⟨g, 0, none⟩) n cap) out := by
  rcases h2 with rfl | h2
  · exact Kd.R_mono (Kd.R_types h.row h.file (by
      intro q hq
      have : q = 41 := by simpa [kBlock, Kd.arr, byte, Kd.scalar] using hq
      rw [this]
      decide)) (fun k hk => hk.2)
  · exact Kd.R_mono (Kd.R_bound h.row) (fun k hk => by have := hk.2.2.1; omega)
end MkSt
theorem gt_set {α : Type} [Inhabited α] (xs : List α) (i : Nat) (x : α) (h : i < xs.length) : gt (xs.set i x) i = x := by
  rw [gt_eq _ _ (by simpa using h)]
  simp
theorem putB_zero (s : List UInt8) (h : s.length ≤ 12) : putB zeroB 0 s = s ++ List.replicate (12 - s.length) 0 ++ List.replicate 20 0 := by
  unfold putB zeroB
  rw [List.take_zero, List.nil_append, List.drop_replicate, List.append_assoc, List.replicate_append_replicate]
  congr 2
  omega
theorem putB_mid (a b seg c : List UInt8) (j : Nat) (hj : a.length = j) (hs : seg.length = b.length) : putB (a ++ (b ++ c)) j seg = a ++ (seg ++ c) := by
  unfold putB
  subst hj
  rw [List.take_left, hs, List.append_assoc, ← List.drop_drop, List.drop_left, List.drop_left]
theorem entry_made (x : File) (n : Nat) (hn : x.name.data.toList.length ≤ 12) :
    (let b1 := putB (putB zeroB 0 x.name.data.toList) 12 [hi2 x.data.length, lo2 x.data.length]; if 0 < x.data.length then putB b1 14 [hi2 n, lo2 n] else b1) = entryB x n := by
  obtain ⟨s, hs⟩ : ∃ s, s = x.name.data.toList := ⟨_, rfl⟩
  obtain ⟨m, hm⟩ : ∃ m, m = x.data.length := ⟨_, rfl⟩
  rw [← hs] at hn
  have h12 : (s ++ List.replicate 12 0).take 12 = s ++ List.replicate (12 - s.length) (0 : UInt8) := by
    rw [List.take_append, List.take_of_length_le hn, List.take_replicate, Nat.min_eq_left (by omega)]
  have hb1 : putB (putB zeroB 0 s) 12 [hi2 m, lo2 m] = (s ++ List.replicate (12 - s.length) 0) ++ ([hi2 m, lo2 m] ++ List.replicate 18 0) := by
    rw [putB_zero s hn, show (List.replicate 20 (0 : UInt8)) = [0, 0] ++ List.replicate 18 0 from rfl]
    exact putB_mid _ _ _ _ 12 (by simp; omega) rfl
  have hb2 : putB ((s ++ List.replicate (12 - s.length) 0) ++ ([hi2 m, lo2 m] ++ List.replicate 18 0)) 14 [hi2 n, lo2 n] = ((s ++ List.replicate (12 - s.length) 0) ++ [hi2 m, lo2 m]) ++ ([hi2 n, lo2 n] ++ List.replicate 16 0) := by
    rw [← List.append_assoc, show (List.replicate 18 (0 : UInt8)) = [0, 0] ++ List.replicate 16 0 from rfl]
    exact putB_mid _ _ _ _ 14 (by simp; omega) rfl
  unfold entryB
  rw [← hs, ← hm, h12]
  show (if 0 < m then putB (putB (putB zeroB 0 s) 12 [hi2 m, lo2 m]) 14 [hi2 n, lo2 n] else putB (putB zeroB 0 s) 12 [hi2 m, lo2 m]) = _
  rw [hb1]
  by_cases h0 : 0 < m
  · rw [if_pos h0, if_pos h0, hb2]
    simp only [List.append_assoc]
  · rw [if_neg h0, if_neg h0]
    simp only [List.append_assoc, show (List.replicate 18 (0 : UInt8)) = [0, 0] ++ List.replicate 16 0 from rfl]
theorem outTo_gt (l : List File) (k : Nat) (hk : k < l.length) : gt (outTo l k) (1 + k) = zeroB := by
  have hl : k ≤ (tableB l).length := by simp [tableB]; omega
  unfold outTo gt
  simp only [List.getD_eq_getElem?_getD, List.cons_append]
  rw [Nat.add_comm 1 k, List.getElem?_cons_succ, List.append_assoc, List.getElem?_append_right (by simp; omega)]
  rw [List.length_take, Nat.min_eq_left hl, Nat.sub_self, List.getElem?_append_left (by simp; omega)]
  rw [List.getElem?_replicate, if_pos (by omega)]
  rfl
theorem outTo_set (l : List File) (k : Nat) (hk : k < l.length) (e : List UInt8) (he : e = gt (tableB l) k) : (outTo l k).set (1 + k) e ++ dataB (gt l k) = outTo l (k + 1) := by
  have hl : k < (tableB l).length := by simp [tableB]; omega
  have h1 : ((tableB l).take k ++ List.replicate (l.length - k) zeroB).set k e = (tableB l).take (k + 1) ++ List.replicate (l.length - (k + 1)) zeroB := by
    rw [List.set_append_right _ _ (by simp; omega), List.length_take, Nat.min_eq_left (by omega), Nat.sub_self, show l.length - k = (l.length - (k + 1)) + 1 by omega, List.replicate_succ, List.set_cons_zero, List.take_add_one, gt_some _ _ hl, ← he]
    simp
  unfold outTo
  rw [List.cons_append, Nat.add_comm 1 k, List.set_cons_succ, List.set_append_left _ _ (by simp; omega), h1, List.take_add_one (l := l), gt_some l k hk]
  simp
theorem outTo_step (l : List File) (k : Nat) (hk : k < l.length) (hr : (gt l k).name.data.toList.length ≤ 12) (x : File) (hx : x = gt l k) (n : Nat) (hn : n = (outTo l k).length) (o o1 o2 : List (List UInt8))
    (ho : o = (outTo l k).set (1 + k) (putB (gt (outTo l k) (1 + k)) 0 x.name.data.toList)) (ho1 : o1 = o.set (1 + k) (putB (gt o (1 + k)) 12 [hi2 x.data.length, lo2 x.data.length]))
    (ho2 : o2 = if 0 < x.data.length then o1.set (1 + k) (putB (gt o1 (1 + k)) 14 [hi2 n, lo2 n]) else o1) : o2 ++ dataB x = outTo l (k + 1) := by
  have hL : 1 + k < (outTo l k).length := by rw [outTo_len l k (by omega)]; omega
  have hn2 : n = 1 + l.length + blocksTo l k := by rw [hn, outTo_len l k (by omega)]
  have e := entry_made x n (by rw [hx]; exact hr)
  have e0 : gt (tableB l) k = entryB x n := by
    rw [gt_eq _ _ (by simp [tableB]; omega)]
    simp [tableB, hn2, hx]
  have h1 : o1 = (outTo l k).set (1 + k) (putB (putB zeroB 0 x.name.data.toList) 12 [hi2 x.data.length, lo2 x.data.length]) := by
    rw [ho1, ho, gt_set _ _ _ hL, List.set_set, outTo_gt l k hk]
  have h2 : o2 = (outTo l k).set (1 + k) (entryB x n) := by
    rw [ho2, ← e, h1, gt_set _ _ _ hL, List.set_set]
    by_cases h0 : 0 < x.data.length
    · simp only [if_pos h0]
    · simp only [if_neg h0]
  rw [h2, hx]
  rw [hx] at e0
  exact outTo_set l k hk _ e0.symm
theorem dataB_take (x : File) (q : Nat) (hq : q < manyN x.data.length) : (dataB x).take (q + 1) = (dataB x).take q ++ [pad (chunk x.data q)] := by
  rw [List.take_add_one, gt_some _ _ (by simpa [dataB] using hq), gt_eq _ _ (by simpa [dataB] using hq)]
  simp [dataB]
theorem heap_setCells (b : Nat) (t : TypeId) : ∀ (vs : List Value) (o : Nat) (W : World) (cs : List Value), W.heap[b]? = some (.cells cs.toArray t (0, 0)) → o + vs.length ≤ cs.length → (W.setCells b o vs).heap[b]? = some (.cells (cs.take o ++ vs ++ cs.drop (o + vs.length)).toArray t (0, 0))
  | [], o, W, cs, h, _ => by simpa [World.setCells] using h
  | v :: vs, o, W, cs, h, hl => by
    have h1 := blk_set h o v
    simp only [List.setIfInBounds_toArray] at h1
    have hl' : o + 1 + vs.length ≤ (cs.set o v).length := by simp at hl ⊢; omega
    have := heap_setCells b t vs (o + 1) _ _ h1 hl'
    simp only [World.setCells]
    rw [this]
    have ho : o < cs.length := by simp at hl; omega
    congr 3
    apply List.ext_getElem?
    intro i
    simp only [List.length_cons] at hl
    simp only [List.getElem?_append, List.length_append, List.length_take, List.getElem?_take, List.getElem?_drop, List.length_set, List.getElem?_set, List.length_cons, List.getElem?_cons]
    grind
theorem setCells_size (b : Nat) : ∀ (vs : List Value) (o : Nat) (W : World), (W.setCells b o vs).heap.size = W.heap.size
  | [], _, _ => rfl
  | v :: vs, o, W => by
    simp only [World.setCells]
    rw [setCells_size b vs (o + 1)]
    simp [World.setCell]
theorem below_setCells {w : World} {B b : Nat} (hb : B ≤ b) : ∀ (vs : List Value) (o : Nat) (W : World), Below B w W → Below B w (W.setCells b o vs)
  | [], _, _, h => h
  | v :: vs, o, W, h => by
    simp only [World.setCells]
    exact below_setCells hb vs (o + 1) _ (h.setCell hb _)
theorem pad_eq (seg : List UInt8) (h : seg.length ≤ 32) : pad seg = seg ++ List.replicate (32 - seg.length) 0 := by
  unfold pad
  rw [List.take_append, List.take_of_length_le h, List.take_replicate, Nat.min_eq_left (by omega)]
theorem pad_put (seg : List UInt8) (h : seg.length ≤ 32) : (bytesV zeroB).take 0 ++ bytesV seg ++ (bytesV zeroB).drop (0 + (bytesV seg).length) = bytesV (pad seg) := by
  rw [pad_eq seg h]
  unfold bytesV zeroB
  simp only [List.take_zero, List.nil_append, List.map_append, List.map_replicate, List.drop_replicate, List.length_map, Nat.zero_add]
/-- copy(x[:], part) into the block that was made last. -/
theorem copy_new (W : World) (seg : List UInt8) (hl : seg.length ≤ 32) (hp : 0 < seg.length) (A : Option Addr) (c : Nat) (hs : byte.C W A seg.length seg) (ty : TypeId) :
    ∃ W2, (Builtin.copy_ #[45, 45] ty #[.slice (some ⟨W.heap.size, 0, none⟩) 32 32, .slice A seg.length c]).run Tryd.prog (W.alloc (.cells (bytesV zeroB).toArray 41)) = .ok (goInt seg.length) W2 ∧
      W2.heap[W.heap.size]? = some (.cells (bytesV (pad seg)).toArray 41 (0, 0)) ∧ Below W.heap.size W W2 := by
  have hs' := Kd.C_below hs (below_alloc (Below.refl _ _) (.cells (bytesV zeroB).toArray 41))
  obtain ⟨a, rfl, _⟩ := byte_at hs' hp
  have hsz : (Tryd.prog.info? 5).map (·.size) = some 1 := by kernel_rfl
  have hz : (bytesV zeroB).length = 32 := by simp [bytesV_len, zeroB]
  have hnew := blk_new W (.cells (bytesV zeroB).toArray 41)
  have hcell : ∀ q, q < 32 → ((W.alloc (.cells (bytesV zeroB).toArray 41)).cell? ⟨W.heap.size, q, none⟩).isSome = true := fun q hq => by
    rw [blk_cell hnew q]
    simp [hz, hq]
  have hr := run_copy_cells (P := Tryd.prog) (W.alloc (.cells (bytesV zeroB).toArray 41)) 45 45 ty 5 W.heap.size 0 32 32 a seg.length c (bytesV seg) Tryd.underlying45 hsz (by rw [bytesV_len]; exact (Nat.min_eq_left hl).symm)
    (fun q v hv => by
      have hq : q < seg.length := by have := (List.getElem?_eq_some_iff.1 hv).1; rwa [bytesV_len] at this
      obtain ⟨a', e, hc⟩ := byte_at hs' hq
      cases e
      rw [hc]
      simp [bytesV, gt_some seg q hq] at hv
      rw [← hv])
    (fun q hq => by rw [Nat.zero_add]; exact hcell q (by rw [bytesV_len] at hq; omega)) (fun q hq => by rw [Nat.zero_add]; exact World.frozen?_alloc_at _ _ _ _ rfl) (bytesV_one seg)
  rw [bytesV_len] at hr
  refine ⟨_, hr, ?_, below_setCells (Nat.le_refl _) _ _ _ (below_alloc (Below.refl _ _) _)⟩
  rw [heap_setCells _ _ _ _ _ _ hnew (by rw [bytesV_len, hz]; omega), pad_put seg hl]
end Go.Proofs.YtnpnpgihbgohgaaDoor
/-
  Chapter 49, fs.Make, walked: the disk of files that may stand together.
-/
namespace Go.Proofs.YtnpnpgihbgohgaaDoor
open Go.RowKit Go.Proofs.YtnpnpgihbgohgaaDoorW.PrintWords Go.Proofs.YtnpnpgihbgohgaaDoorW.PrintLast Go.Proofs.YtnpnpgihbgohgaaDoorW.PrintMore
set_option linter.unusedVariables false
set_option linter.unusedSimpArgs false

theorem outTo_full (l : List File) : outTo l l.length = zeroB :: (tableB l ++ (l.map dataB).flatten) := by
  unfold outTo
  rw [Nat.sub_self, List.replicate_zero, List.append_nil, List.take_of_length_le (by simp [tableB]), List.take_of_length_le (Nat.le_refl _)]
  rfl
theorem head_made (n s : Nat) : putB (putB (putB zeroB 0 magicB) 5 [UInt8.ofNat n]) 6 [hi2 s, lo2 s] = headB magicB n s := by
  simp [putB, zeroB, magicB, headB, List.replicate]
theorem gt_zero {α : Type} [Inhabited α] (x : α) (xs : List α) : gt (x :: xs) 0 = x := rfl
theorem tab_C {W : World} {base g c n : Nat} {ok : Nat → Prop} {out : List (List UInt8)} (h : kBlock.R 41 W base ok (.slice (some ⟨g, 0, none⟩) n c) out) (x : List UInt8) (t d : List (List UInt8)) (ho : out = x :: (t ++ d)) :
    kBlock.C W (if c = 1 then some ⟨g, 0, none⟩ else some ⟨g, 32, none⟩) t.length t := by
  obtain ⟨A', c', he, hle, hC⟩ := Kd.R_reads h
  cases he
  have hlen : out.length = 1 + (t.length + d.length) := by rw [ho]; simp; omega
  have hm := Kd.C_mid (lo := 1) (hi := 1 + t.length) hC (by omega) (by omega) hle
  have e : (out.take (1 + t.length)).drop 1 = t := by
    rw [ho, Nat.add_comm, List.take_succ_cons, List.drop_succ_cons, List.drop_zero, List.take_left]
  rw [e] at hm
  exact hm
theorem sum_call (A : Option Addr) (t : List (List UInt8)) (n : Nat) (hn : t.length = n) (c : Nat) (w : World) (h : kBlock.C w A t.length t) (s : Nat) (hs : sumT t = s) :
    Calls Tryd.prog 21 #[.slice A n c] w fun e w' => e = .returned (.int .u64 s) ∧ Below w.heap.size w w' := by
  subst hn hs
  exact sum_any A t c w h
/-- The variable fs.magic, as it is laid. -/
def MagicAt (w : World) : Prop := byte.C w (some ⟨0, 0, none⟩) 5 magicB
set_option maxRecDepth 8000 in
set_option maxHeartbeats 6400000 in
theorem make_ok (A : Option Addr) (l : List File) (c : Nat) (w : World) (h : kFile.C w A l.length l) (hl : l.length ≤ 8) (hs : ∀ k, k < l.length → (gt l k).name.size ≤ 9223372036854775807) (ht : togB l = true) (hmg : MagicAt w) :
    Calls Tryd.prog 8 #[.slice A l.length c] w fun e w' => ∃ v, e = .returned (.tuple #[v, .int .i64 0]) ∧ kBlock.R 41 w' w.heap.size (fun _ => True) v (makeB l) ∧ Below w.heap.size w w' := by
  have h8 : ¬ (8 : Int) < (l.length : Int) := by omega
  have i0 : IntKind.i64.wrap (1 + (l.length : Int)) = 1 + (l.length : Int) := IntWalk.i64_in _ (by omega)
  have HH := Aside0.mk h
  have HMG := Aside0.mk hmg
  clear hmg
  go_enter Tryd.func8, Tryd.ntmps8
  go_wp2_with (first | (go_at_call 17; refine (together_any A l c true ht _ h hs (by omega)).mono ?_; rintro e w1 ⟨rfl, hb⟩; have HB := Aside0.mk hb; clear hb) | ((with_reducible refine gate_dst (N := 22) rfl ?_); refine Kd.R_make kBlock (w0 := w) w.heap.size 41 rfl (N := 22) rfl 33 _ _ rfl (1 + (l.length : Int)) rfl rfl Tryd.underlying33 zB 32 info_blockZ rfl (by decide) (by omega) zeroB (ok := fun _ => True) (okp := fun _ => True) (zB_M _ _ _) (fun _ hk => hk) trivial (by omega) (by omega) HB.out HB.out.size ?_; intro v1 w2 ho hb hg hnew; clear hg hnew; have HO := Aside0.mk ho; have HB2 := Aside0.mk hb; clear ho hb))
  go_loopg [25, 4, 5, 6, 7, 9, 10] l.length (fun gk i v4 _ _ _ _ _ wr => ∃ k g n cap : Nat, k ≤ l.length ∧ gk = l.length - k ∧ i = .int .i64 k ∧ v4 = .slice (some ⟨g, 0, none⟩) n cap ∧ Aside0 (kBlock.R 41 wr w.heap.size (fun _ => True) v4 (outTo l k)) ∧ Aside0 (Below w.heap.size w wr))
  case atStart =>
    obtain ⟨g, cap, rfl, _⟩ := Kd.R_form HO.out (by simp; omega)
    exact ⟨0, g, _, cap, Nat.zero_le _, rfl, rfl, rfl, ⟨by rw [outTo_zero, show l.length + 1 = (1 + (l.length : Int)).toNat by omega]; exact HO.out⟩, HB2⟩
  case round =>
    obtain ⟨k, g, n, cap, hk, HGK, rfl, rfl, HR, HBr⟩ := hrel
    replace HGK := Aside0.mk HGK
    by_cases hlt : k < l.length
    · obtain ⟨ad, A3, c3, rfl, g0, g1, hc3, hd⟩ := file_at h hlt
      replace g0 := cell_old HBr.out g0
      replace g1 := cell_old HBr.out g1
      obtain ⟨f, hf⟩ : ∃ f, f = gt l k := ⟨_, rfl⟩
      obtain ⟨nm, hnm⟩ : ∃ nm, nm = f.name := ⟨_, rfl⟩
      obtain ⟨m, hm⟩ : ∃ m, m = f.data.length := ⟨_, rfl⟩
      rw [← hf] at g0 g1 hd hc3
      rw [← hnm] at g0
      rw [← hm] at g1 hc3
      have HD := Aside0.mk hd
      have HF := Aside0.mk hf
      have HNM := Aside0.mk hnm
      have HM := Aside0.mk hm
      have hg : w.heap.size ≤ g := Kd.R_base HR.out g (by simp [Value.ownBlock])
      have hgw : g < wr.heap.size := Kd.R_lt HR.out g (by simp [Value.ownBlock])
      have hn : l.length + 1 ≤ n := by obtain ⟨A', c', he, _, _⟩ := Kd.R_reads HR.out; cases he; simp [outTo, tableB]; omega
      have i1 : IntKind.i64.wrap (1 + (k : Int)) = 1 + (k : Int) := IntWalk.i64_in _ (by omega)
      have i2 : (0 : Int) ≤ 1 + (k : Int) := by omega
      have i3 : 1 + (k : Int) < (n : Int) := by omega
      have i4 : (1 + (k : Int)).toNat = 1 + k := by omega
      have HS0 : Aside0 (MkSt w (wr.alloc (.cells #[.string nm, .slice A3 m c3] 54)) wr.heap.size g n cap nm A3 m c3 (outTo l k)) := ⟨Kd.R_alloc HR.out _, below_alloc HBr.out _, blk_new wr _, by omega, hg⟩
      clear hd hf hnm hm
      go_upto_region 10 with fail
      obtain ⟨Wb, hWb⟩ : ∃ Wb, wr.alloc (.cells #[.string nm, .slice A3 m c3] 54) = Wb := ⟨_, rfl⟩
      obtain ⟨X, hX⟩ : ∃ X, X = wr.heap.size := ⟨_, rfl⟩
      rw [hWb, ← hX] at HS0
      rw [hWb]
      rw [← hX]
      have HX := Aside0.mk hX
      clear hWb hX
      go_cut [] (fun wc => Aside0 (MkSt w wc X g n cap nm A3 m c3 ((outTo l k).set (1 + k) (putB (gt (outTo l k) (1 + k)) 0 nm.data.toList))))
      case first =>
        obtain ⟨W2, hcp, hS2⟩ := HS0.out.drew.copyStr (1 + k) (by omega) nm (by rw [HNM.out, HF.out]; exact tog_name ht k hlt) 3
        have z0 := HS0.out.cell0
        have HS2 := Aside0.mk hS2
        clear hS2
        go_region
        go_wp2_with fail
        go_meet
        case rel => exact HS2
      obtain ⟨out, hout⟩ : ∃ out, out = (outTo l k).set (1 + k) (putB (gt (outTo l k) (1 + k)) 0 nm.data.toList) := ⟨_, rfl⟩
      rw [← hout] at hcut
      go_upto_region 11 with fail
      go_cut [] (fun wd => Aside0 (MkSt w wd X g n cap nm A3 m c3 (out.set (1 + k) (putB (gt out (1 + k)) 12 [hi2 m, lo2 m]))))
      case first =>
        have HS0 := hcut
        clear hcut
        have z1 := HS0.out.cell1
        have hml : m ≤ 256 := by rw [HM.out, HF.out]; exact (tog_right ht k hlt).2
        have j0 : IntKind.u64.wrap (m : Int) = (m : Int) := IntWalk.u64_in _ (by omega)
        go_region_with (go_at_call 18; refine (put2_any m _ (by omega)).mono ?_; rintro e w3 ⟨v, rfl, ho, hb⟩; obtain ⟨Ap, cp, rfl⟩ := Kd.R_slice ho; obtain ⟨W4, hcp, hS4⟩ := (HS0.out.drew.later hb).copyBts (1 + k) (by omega) 12 [hi2 m, lo2 m] (by simp) Ap cp 20 20 (readsS ho).2.2 (by simp) (by simp) 3; have HS4 := Aside0.mk hS4; replace hcp : (Builtin.copy_ #[45, 45] 3 #[.slice (some ⟨g, (1 + k) * 32 + 12, none⟩) 20 20, .slice Ap 2 cp]).run Tryd.prog w3 = .ok (goInt 2) W4 := hcp; clear ho hb hS4)
        go_wp2_with fail
        go_meet
        case rel => exact HS4
      obtain ⟨out1, hout1⟩ : ∃ out1, out1 = out.set (1 + k) (putB (gt out (1 + k)) 12 [hi2 m, lo2 m]) := ⟨_, rfl⟩
      rw [← hout1] at hcut
      have HO0 := Aside0.mk hout
      have HO1 := Aside0.mk hout1
      clear hout hout1
      obtain ⟨Wd, hWd⟩ : ∃ Wd, Wd = wc := ⟨_, rfl⟩
      rw [← hWd] at hcut ⊢
      clear hWd
      have HS1 := hcut
      clear hcut
      have z1 := HS1.out.cell1
      go_upto_if 52 with fail
      go_cut [] (fun wd => Aside0 (MkSt w wd X g n cap nm A3 m c3 (if 0 < m then out1.set (1 + k) (putB (gt out1 (1 + k)) 14 [hi2 n, lo2 n]) else out1)))
      case first =>
        by_cases hm0 : 0 < m
        · have HM0 := Aside0.mk hm0
          have hn9 : n ≤ 65535 := by
            have h1 := HS1.out.len
            have h2 : out1.length = (outTo l k).length := by rw [HO1.out, HO0.out]; simp
            have h3 := outTo_len l k (by omega)
            have h4 := blocksTo_le ht k (by omega)
            omega
          have j0 : IntKind.u64.wrap (n : Int) = (n : Int) := IntWalk.u64_in _ (by omega)
          go_wp2_with fail
          go_region_with (go_at_call 18; refine (put2_any n _ (by omega)).mono ?_; rintro e w3 ⟨v, rfl, ho, hb⟩; obtain ⟨Ap, cp, rfl⟩ := Kd.R_slice ho; obtain ⟨W4, hcp, hS4⟩ := (HS1.out.drew.later hb).copyBts (1 + k) (by omega) 14 [hi2 n, lo2 n] (by simp) Ap cp 18 18 (readsS ho).2.2 (by simp) (by simp) 3; have HS4 := Aside0.mk hS4; replace hcp : (Builtin.copy_ #[45, 45] 3 #[.slice (some ⟨g, (1 + k) * 32 + 14, none⟩) 18 18, .slice Ap 2 cp]).run Tryd.prog w3 = .ok (goInt 2) W4 := hcp; clear ho hb hS4)
          go_wp2_with fail
          go_meet
          case rel => rw [if_pos HM0.out]; exact HS4
        · have HM0 := Aside0.mk hm0
          go_wp2_with fail
          go_meet
          case rel => rw [if_neg HM0.out]; exact HS1
      obtain ⟨out2, hout2⟩ : ∃ out2, out2 = if 0 < m then out1.set (1 + k) (putB (gt out1 (1 + k)) 14 [hi2 n, lo2 n]) else out1 := ⟨_, rfl⟩
      rw [← hout2] at hcut
      have HO2 := Aside0.mk hout2
      clear hout2 z1
      obtain ⟨We, hWe⟩ : ∃ We, We = wc := ⟨_, rfl⟩
      rw [← hWe] at hcut ⊢
      clear hWe
      have HS2 := hcut
      clear hcut HS1
      have z1 := HS2.out.cell1
      have hXs : X < We.heap.size := blk_lt HS2.out.file
      have HCL : Aside0 (byte.C w A3 f.data.length f.data) := HD
      have hm256 : m ≤ 256 := by rw [HM.out, HF.out]; exact (tog_right ht k hlt).2
      have x1 := blk_cell (blk_alloc (blk_new We (.cells #[.slice A3 m c3] 45)) (.cells #[.int .i64 32] 3)) 0
      have x2 := blk_cell (blk_new (We.alloc (.cells #[.slice A3 m c3] 45)) (.cells #[.int .i64 32] 3)) 0
      rw [World.size_alloc] at x2
      have HX1 : Aside0 (((We.alloc (.cells #[.slice A3 m c3] 45)).alloc (.cells #[.int .i64 32] 3)).cell? ⟨We.heap.size, 0, none⟩ = some (.slice A3 f.data.length c3)) := ⟨by rw [← HM.out, x1]; simp⟩
      have HX2 : Aside0 (((We.alloc (.cells #[.slice A3 m c3] 45)).alloc (.cells #[.int .i64 32] 3)).cell? ⟨We.heap.size + 1, 0, none⟩ = some (.int .i64 32)) := ⟨by rw [x2]; simp⟩
      clear x1 x2
      go_upto_block 3 with (first | (go_at_call 20; refine (chunk_any (.slice A3 m c3) We rfl).mono ?_; rintro e w5 ⟨rfl, rfl⟩) | (go_at_call 19; refine (collect_all w X _ _ A3 f.data c3 (by have := HM.out; omega) (by have := HM.out; omega) HCL.out _ (by simp; omega) HX1.out HX2.out).mono ?_; rintro e w6 ⟨Av, cv, g2, rfl, hAv, hg2, hg2s, hPB, hb6⟩; have HAV := Aside0.mk hAv; have HG2 := Aside0.mk hg2; have HPB := Aside0.mk hPB; have HB6 := Aside0.mk hb6; clear hAv hg2 hPB hb6))
      have hb5 : Below We.heap.size We w6 := (below_alloc (below_alloc (Below.refl _ _) _) _).trans (HB6.out.mono (by simp; omega))
      have HS3 := Aside0.mk (HS2.out.later hb5)
      have HRI : Aside0 (kBlock.R 41 w6 w.heap.size (fun k => k ≠ g2) (.slice (some ⟨g, 0, none⟩) n cap) out2) := ⟨Kd.R_below (HS2.out.away g2 (by rcases HG2.out with h | h; exact .inl h; right; simp at h; omega)) hb5⟩
      clear hb5 HX1 HX2
      obtain ⟨M, hM⟩ : ∃ M, M = manyN f.data.length := ⟨_, rfl⟩
      rw [← hM] at HAV ⊢
      have hM8 : M ≤ 8 := by rw [hM]; unfold manyN; have := HM.out; omega
      have HMM := Aside0.mk hM
      clear hM
      go_wp2_with fail
      go_loopg [66, 4, 9, 10] M (fun gk j v4 _ _ wz => ∃ q g' n' cap' : Nat, q ≤ M ∧ Aside0 (gk = M - q) ∧ j = .int .i64 q ∧ v4 = .slice (some ⟨g', 0, none⟩) n' cap' ∧ Aside0 (kBlock.R 41 wz w.heap.size (fun k => k ≠ g2) v4 (out2 ++ (dataB f).take q)) ∧ Aside0 (Below w.heap.size w wz) ∧ Aside0 (wz.heap[g2]? = w6.heap[g2]? ∧ g2 < wz.heap.size))
      case atStart => exact ⟨0, g, n, cap, Nat.zero_le _, ⟨rfl⟩, rfl, rfl, ⟨by simpa using HRI.out⟩, ⟨HS3.out.below⟩, ⟨rfl, hg2s⟩⟩
      case round =>
        obtain ⟨q, g', n', cap', hq, HGQ, rfl, rfl, HRq, HBq, HKq⟩ := hrel
        by_cases hqt : q < M
        · obtain rfl := HAV.out (by omega)
          obtain ⟨Ak, ck, zc, zd⟩ := (HPB.out.kept HKq.out.1) q (by rw [← HMM.out]; exact hqt)
          obtain ⟨pt, hpt⟩ : ∃ pt, pt = chunk f.data q := ⟨_, rfl⟩
          rw [← hpt] at zc zd
          have hp0 : 0 < pt.length := by rw [hpt, chunk_len]; have := HMM.out; unfold manyN at this; omega
          have hp32 : pt.length ≤ 32 := by rw [hpt, chunk_len]; omega
          have HZD := Aside0.mk (Kd.C_below zd HBq.out)
          have HPT := Aside0.mk hpt
          clear zd hpt
          go_upto_region 17 with fail
          go_cut [10] (fun v10 wd => ∃ N : Nat, v10 = .pointer (some ⟨N, 0, none⟩) ∧ Aside0 (N = wr.heap.size) ∧ Aside0 (wd = wr.alloc (.cells (bytesV zeroB).toArray 41)))
          case first =>
            go_wp2_with fail
            go_meet
            case rel => exact ⟨_, rfl, ⟨rfl⟩, ⟨rfl⟩⟩
          obtain ⟨N, rfl, HN, HWA⟩ := hcut
          obtain ⟨W2, hcp, hblk, hb2⟩ := copy_new wr pt hp32 hp0 Ak ck HZD.out 3
          rw [← HN.out] at hblk
          rw [← HN.out, ← HWA.out] at hcp
          have HBLK := Aside0.mk hblk
          have HB2 := Aside0.mk (below_step HBq.out hb2)
          have HR2 := Aside0.mk (Kd.R_below HRq.out hb2)
          have HK2 : Aside0 (W2.heap[g2]? = w6.heap[g2]? ∧ g2 < W2.heap.size) := ⟨(hb2.block g2 HKq.out.2).trans HKq.out.1, Nat.lt_of_lt_of_le HKq.out.2 hb2.size⟩
          have hgg : g' ≠ g2 := HRq.out.1 g' (by simp [Value.ownBlock])
          have HLEN : Aside0 (((out2 ++ (dataB f).take q).length + 1) * 32 ≤ 140737488355328) := ⟨by
            have h1 := HS2.out.len
            have h2 : out2.length = (outTo l k).length := by rw [HO2.out]; split <;> simp [HO1.out, HO0.out]
            have h3 := outTo_len l k (by omega)
            have h4 := blocksTo_le ht k (by omega)
            have h5 : ((dataB f).take q).length ≤ q := List.length_take_le _ _
            rw [List.length_append]
            omega⟩
          clear hblk hb2 z1 zc
          go_upto_region 19 with fail
          go_wp2_with (first | ((with_reducible refine gate_dst (N := 74) rfl ?_); refine load_block rfl _ rfl ⟨N, 0, none⟩ rfl (pad pt) (pad_len pt) (block_cells HBLK.out) ?_) | ((with_reducible refine gate_dst (N := 75) rfl ?_); refine build_block rfl (.tmp 74) rfl (pad pt) (pad_len pt) rfl ?_) | ((with_reducible refine gate_builtin (b := .append) (xs := #[.tmp 73, .tmp 75]) rfl ?_); at_builtin; refine Kd.R_append kBlock (w0 := w) w.heap.size rfl (.tmp 73) (.tmp 75) 33 41 zB 32 rfl Tryd.underlying33 info_blockZ rfl (by decide) (by omega) (.slice (some ⟨g', 0, none⟩) n' cap') (out2 ++ (dataB f).take q) (pad pt) (bytesV (pad pt)) (fun k => k ≠ g2) (fun _ => False) rfl rfl (kBlock_M _ _ _ (pad_len pt)) (fun _ hk => hk.elim) (fun k hk => by have := HK2.out.2; omega) HR2.out HB2.out HB2.out.size HLEN.out ?_; intro v7 w7 ho7 hb7 hg7 hat7; have HO7 := Aside0.mk ho7; have HB7 := Aside0.mk hb7; have HG7 := Aside0.mk hg7; clear ho7 hb7 hg7 hat7))
          obtain ⟨g7, cap7, rfl, hgb7, hgl7, cs7, hcs7⟩ := Kd.R_form HO7.out (by rw [List.length_append]; simp only [List.length_singleton]; omega)
          clear hgb7 hgl7 hcs7
          have HROW : Aside0 (kBlock.R 41 w7 w.heap.size (fun k => k ≠ g2) (.slice (some ⟨g7, 0, none⟩) (out2 ++ (dataB f).take q ++ [pad pt]).length cap7) (out2 ++ (dataB f).take (q + 1))) := ⟨by
            rw [dataB_take f q (by rw [← HMM.out]; exact hqt), ← HPT.out, ← List.append_assoc]
            exact HO7.out⟩
          have HK7 : Aside0 (w7.heap[g2]? = w6.heap[g2]? ∧ g2 < w7.heap.size) := ⟨(HG7.out.block g2 HK2.out.2 (by simp [Value.ownBlock]; omega)).trans HK2.out.1, Nat.lt_of_lt_of_le HK2.out.2 HG7.out.size⟩
          go_wp2_with fail
          go_roundg (M - (q + 1))
          case measure => have := HGQ.out; omega
          case rel => exact ⟨q + 1, g7, _, cap7, by omega, ⟨rfl⟩, by go_num, rfl, HROW, HB7, HK7⟩
        · have hqM : q = M := by omega
          have hrow : kBlock.R 41 wr w.heap.size (fun _ => True) (.slice (some ⟨g', 0, none⟩) n' cap') (outTo l (k + 1)) := by
            rw [← outTo_step l k hlt (by have := (tog_right ht k hlt).1; rwa [Lib.size_eq] at this) f HF.out n (by have := HS2.out.len; rw [this, HO2.out]; split <;> simp [HO1.out, HO0.out]) out out1 out2 (by rw [HO0.out, HNM.out]) (by rw [HO1.out, HM.out]) (by rw [HO2.out, HM.out])]
            have := Kd.R_mono HRq.out (ok' := fun _ => True) (fun _ _ => trivial)
            rwa [List.take_of_length_le (by rw [hqM, HMM.out]; simp [dataB])] at this
          have HROW := Aside0.mk hrow
          clear hrow hqM
          go_wp2_with fail
          go_roundg (l.length - (k + 1))
          case measure => have := HGK.out; omega
          case rel => exact ⟨k + 1, g', n', cap', by omega, rfl, by go_num, rfl, HROW, HBq⟩
    · have hkl : k = l.length := by omega
      have HROW : Aside0 (kBlock.R 41 wr w.heap.size (fun _ => True) (.slice (some ⟨g, 0, none⟩) n cap) (outTo l l.length)) := ⟨by rw [← hkl]; exact HR.out⟩
      have hgw : g < wr.heap.size := Kd.R_lt HR.out g (by simp [Value.ownBlock])
      have hg : w.heap.size ≤ g := Kd.R_base HR.out g (by simp [Value.ownBlock])
      have hn : 0 < n := by obtain ⟨A', c', he, _, _⟩ := Kd.R_reads HROW.out; cases he; simp [outTo]
      clear hkl
      go_upto_region 22 with fail
      obtain ⟨W2, hcp, hR2, hg2⟩ := copy_bts (Kd.R_drew HROW.out) 0 hn 0 magicB (by simp [magicB]) (some ⟨0, 0, none⟩) 5 32 32 (Kd.C_below (Kd.C_below HMG.out HBr.out) (below_drew1 (Below.refl _ _))) (by simp [magicB]) (by simp [magicB]) 3
      replace hcp : (Builtin.copy_ #[45, 45] 3 #[.slice (some ⟨g, 0, none⟩) 32 32, .slice (some ⟨0, 0, none⟩) 5 5]).run Tryd.prog wr.drew = .ok (goInt 5) W2 := hcp
      have HB22 : Aside0 (Below w.heap.size w W2) := ⟨pw_below_grown (below_drew1 HBr.out) (some g) (HBr.out.size) hg2 (fun q e => by cases e; exact hg)⟩
      obtain ⟨out, hout⟩ : ∃ out, out = (outTo l l.length).set 0 (putB (gt (outTo l l.length) 0) 0 magicB) := ⟨_, rfl⟩
      rw [← hout] at hR2
      have HOUT := Aside0.mk hout
      have HR2 := Aside0.mk hR2
      clear hR2 hg2 hout
      have hnI : (0 : Int) < (n : Int) := by omega
      go_region
      obtain ⟨hR3, hg3, hs3, hf3⟩ := R_copyIn HR2.out 0 hn 5 [UInt8.ofNat l.length] (by simp)
      obtain ⟨v3, hv3⟩ := Option.isSome_iff_exists.1 (hs3 0 (by simp))
      replace hf3 := hf3 0 (by simp)
      simp only [Nat.zero_mul, Nat.zero_add, Nat.add_zero] at hv3 hf3 hR3 hg3
      have HR3 := Aside0.mk hR3
      have HG3 := Aside0.mk hg3
      clear hR3 hg3 hs3 hcp
      have j0 : IntKind.u8.wrap (l.length : Int) = ((UInt8.ofNat l.length).toNat : Int) := by
        rw [IntWalk.u8_in _ (by omega)]
        simp
        omega
      go_upto_region 24 with fail
      obtain ⟨W3, hW3⟩ : ∃ W3, W2.setCell ⟨g, 5, none⟩ (.int .u8 ((l.length : Int) % 256)) = W3 := ⟨_, rfl⟩
      rw [hW3]
      have hlen8 : ((l.length : Int) % 256) = ((UInt8.ofNat l.length).toNat : Int) := by simp
      have hW3' : W2.setCells g 5 (bytesV [UInt8.ofNat l.length]) = W3 := by rw [← hW3, hlen8]; rfl
      rw [hW3'] at HR3 HG3
      have HB3 : Aside0 (Below w.heap.size w W3) := ⟨pw_below_grown HB22.out (some g) (HB22.out.size) HG3.out (fun q e => by cases e; exact hg)⟩
      clear hW3 hW3' hlen8 hv3 hf3 HG3 j0
      have hcap : n ≤ cap := by obtain ⟨A', c', he, hle, _⟩ := Kd.R_reads HROW.out; cases he; exact hle
      have hnl : 1 + l.length ≤ n := by obtain ⟨A', c', he, _, _⟩ := Kd.R_reads HROW.out; cases he; simp [outTo, tableB]; omega
      have k1 : IntKind.i64.wrap (1 + (l.length : Int)) = 1 + (l.length : Int) := IntWalk.i64_in _ (by omega)
      have k2 : (1 : Int) ≤ 1 + (l.length : Int) := by omega
      have k3 : 1 + (l.length : Int) ≤ (cap : Int) := by omega
      have k4 : (1 + (l.length : Int)).toNat = 1 + l.length := by omega
      obtain ⟨sv, hsv0⟩ : ∃ sv, sumT (tableB l) = sv := ⟨_, rfl⟩
      have hsv : sv ≤ 65535 := by rw [← hsv0]; exact sumT_le _
      have HSV := Aside0.mk hsv0
      clear hsv0
      have hout1 : out.set 0 (putB (gt out 0) 5 [UInt8.ofNat l.length]) = putB (putB zeroB 0 magicB) 5 [UInt8.ofNat l.length] :: (tableB l ++ (l.map dataB).flatten) := by
        rw [HOUT.out, outTo_full, gt_zero, List.set_cons_zero, gt_zero, List.set_cons_zero]
      have HTA := Aside0.mk (tab_C HR3.out _ _ _ hout1)
      have hfin : (out.set 0 (putB (gt out 0) 5 [UInt8.ofNat l.length])).set 0 (putB (gt (out.set 0 (putB (gt out 0) 5 [UInt8.ofNat l.length])) 0) 6 [hi2 sv, lo2 sv]) = makeB l := by
        rw [hout1, gt_zero, List.set_cons_zero, head_made, ← HSV.out]
        rfl
      have HFIN := Aside0.mk hfin
      clear hfin hout1
      by_cases hc1 : cap = 1
      · have HT : Aside0 (kBlock.C W3 (some ⟨g, 0, none⟩) (tableB l).length (tableB l)) := ⟨by have := HTA.out; rwa [if_pos hc1] at this⟩
        subst hc1
        go_region_with (first | (go_at_call 21; refine (sum_call _ (tableB l) l.length (by simp [tableB]) _ _ (Kd.C_below HT.out (below_drew1 (Below.refl _ _))) sv HSV.out).mono ?_; rintro e w4 ⟨rfl, hb4⟩; have HB4 := Aside0.mk hb4; clear hb4) | (go_at_call 18; refine (put2_any sv _ hsv).mono ?_; rintro e w5 ⟨v, rfl, ho, hb⟩; obtain ⟨Ap, cp, rfl⟩ := Kd.R_slice ho; obtain ⟨W6, hcp, hR6, hg6⟩ := copy_bts (Kd.R_below (Kd.R_below (Kd.R_drew HR3.out) HB4.out) hb) 0 hn 6 [hi2 sv, lo2 sv] (by simp) Ap cp 26 26 (readsS ho).2.2 (by simp) (by simp) 3; have HR6 := Aside0.mk hR6; have HB6 : Aside0 (Below w.heap.size w W6) := ⟨pw_below_grown (below_step (below_step (below_drew1 HB3.out) HB4.out) hb) (some g) (below_step (below_step (below_drew1 HB3.out) HB4.out) hb).size hg6 (fun q e => by cases e; exact hg)⟩; replace hcp : (Builtin.copy_ #[45, 45] 3 #[.slice (some ⟨g, 6, none⟩) 26 26, .slice Ap 2 cp]).run Tryd.prog w5 = .ok (goInt 2) W6 := hcp; clear ho hb hR6 hg6))
        go_wp2_with fail
        go_ret2
        refine ⟨_, rfl, ?_, HB6.out⟩
        have hR6 := HR6.out
        rw [HFIN.out] at hR6
        exact hR6
      · have HT : Aside0 (kBlock.C W3 (some ⟨g, 32, none⟩) (tableB l).length (tableB l)) := ⟨by have := HTA.out; rwa [if_neg hc1] at this⟩
        go_region_with (first | (go_at_call 21; refine (sum_call _ (tableB l) l.length (by simp [tableB]) _ _ (Kd.C_below HT.out (below_drew1 (Below.refl _ _))) sv HSV.out).mono ?_; rintro e w4 ⟨rfl, hb4⟩; have HB4 := Aside0.mk hb4; clear hb4) | (go_at_call 18; refine (put2_any sv _ hsv).mono ?_; rintro e w5 ⟨v, rfl, ho, hb⟩; obtain ⟨Ap, cp, rfl⟩ := Kd.R_slice ho; obtain ⟨W6, hcp, hR6, hg6⟩ := copy_bts (Kd.R_below (Kd.R_below (Kd.R_drew HR3.out) HB4.out) hb) 0 hn 6 [hi2 sv, lo2 sv] (by simp) Ap cp 26 26 (readsS ho).2.2 (by simp) (by simp) 3; have HR6 := Aside0.mk hR6; have HB6 : Aside0 (Below w.heap.size w W6) := ⟨pw_below_grown (below_step (below_step (below_drew1 HB3.out) HB4.out) hb) (some g) (below_step (below_step (below_drew1 HB3.out) HB4.out) hb).size hg6 (fun q e => by cases e; exact hg)⟩; replace hcp : (Builtin.copy_ #[45, 45] 3 #[.slice (some ⟨g, 6, none⟩) 26 26, .slice Ap 2 cp]).run Tryd.prog w5 = .ok (goInt 2) W6 := hcp; clear ho hb hR6 hg6))
        go_wp2_with fail
        go_ret2
        refine ⟨_, rfl, ?_, HB6.out⟩
        have hR6 := HR6.out
        rw [HFIN.out] at hR6
        exact hR6
end Go.Proofs.YtnpnpgihbgohgaaDoor
/-
  Chapter 49, fs.Make, whole; what the laws of this chapter call first: awake, great.
-/
namespace Go.Proofs.YtnpnpgihbgohgaaDoor
open Go.RowKit Go.Proofs.YtnpnpgihbgohgaaDoorW.PrintWords Go.Proofs.YtnpnpgihbgohgaaDoorW.PrintLast Go.Proofs.YtnpnpgihbgohgaaDoorW.PrintMore
set_option linter.unusedVariables false
set_option linter.unusedSimpArgs false

/-- Why there is no disk; 0: there is one. -/
def makeE (l : List File) : Int := if 8 < l.length then 6 else if togB l then 0 else 3
def makeV (l : List File) : List (List UInt8) := if 8 < l.length then [] else if togB l then makeB l else []
def MakePost (w : World) (l : List File) (e : Ending) (w' : World) : Prop := ∃ A c, e = .returned (.tuple #[.slice A (makeV l).length c, .int .i64 (makeE l)]) ∧ kBlock.R 41 w' w.heap.size (fun _ => True) (.slice A (makeV l).length c) (makeV l) ∧ Below w.heap.size w w'
theorem make_any (A : Option Addr) (l : List File) (c : Nat) (w : World) (h : kFile.C w A l.length l) (hs : ∀ k, k < l.length → (gt l k).name.size ≤ 9223372036854775807) (hmg : MagicAt w) :
    Calls Tryd.prog 8 #[.slice A l.length c] w (MakePost w l) := by
  by_cases h8 : 8 < l.length
  · refine (make_full A l c w h h8).mono ?_
    rintro e w' ⟨rfl, hb⟩
    unfold MakePost makeE makeV
    simp only [if_pos h8]
    exact ⟨none, 0, rfl, Kd.R_nil _ _ _ _ _, hb⟩
  · cases ht : togB l
    · refine (make_form A l c w h (by omega) hs ht).mono ?_
      rintro e w' ⟨rfl, hb⟩
      unfold MakePost makeE makeV
      simp only [if_neg h8, ht]
      exact ⟨none, 0, rfl, Kd.R_nil _ _ _ _ _, hb⟩
    · refine (make_ok A l c w h (by omega) hs ht hmg).mono ?_
      rintro e w' ⟨v, rfl, hr, hb⟩
      obtain ⟨A', c', rfl⟩ := Kd.R_slice hr
      unfold MakePost makeE makeV
      simp only [if_neg h8, ht, if_true]
      exact ⟨A', c', rfl, hr, hb⟩
theorem make_as (A : Option Addr) (l : List File) (c : Nat) (w : World) (h : kFile.C w A l.length l) (hs : ∀ k, k < l.length → (gt l k).name.size ≤ 9223372036854775807) (hmg : MagicAt w) (n : Nat) (hn : (makeV l).length = n) (E : Int) (hE : makeE l = E) :
    Calls Tryd.prog 8 #[.slice A l.length c] w fun e w' => ∃ Aa ca, e = .returned (.tuple #[.slice Aa n ca, .int .i64 E]) ∧ kBlock.R 41 w' w.heap.size (fun _ => True) (.slice Aa n ca) (makeV l) ∧ Below w.heap.size w w' := by
  subst hn hE
  exact make_any A l c w h hs hmg
theorem block_in {w : World} {g n : Nat} {xs : List (List UInt8)} (h : kBlock.C w (some ⟨g, 0, none⟩) n xs) {k : Nat} (hk : k < n) :
    (gt xs k).length = 32 ∧ ∀ j u, (bytesV (gt xs k))[j]? = some u → w.cell? ((⟨g, k * 32, none⟩ : Addr).add j) = some u := by
  obtain ⟨ad, e, h1, h2⟩ := block_at h hk
  cases e
  rw [add_plain] at h2
  exact ⟨h1, h2⟩
/-- A row of one file that is made. -/
theorem file_one {W : World} {N : Nat} {t : TypeId} {x : File} {A : Option Addr} {c : Nat} (hb : W.heap[N]? = some (.cells #[.string x.name, .slice A x.data.length c] t (0, 0))) (hl : x.data.length ≤ c) (hC : byte.C W A x.data.length x.data) : kFile.C W (some ⟨N, 0, none⟩) 1 [x] := by
  refine C_block (d := kFile) (xs := [x]) hb ⟨rfl, fun j p hj => ?_⟩ (by simp)
  rcases j with _ | j
  · simp only [List.getElem?_cons_zero, Option.some.injEq] at hj
    subst hj
    exact kFile_mk W _ hl hC
  · simp at hj
theorem byte_blk {W : World} {N : Nat} {t : TypeId} {xs : List UInt8} (hb : W.heap[N]? = some (.cells (bytesV xs).toArray t (0, 0))) (hm : xs.length ≤ 9223372036854775807) : byte.C W (some ⟨N, 0, none⟩) xs.length xs := by
  refine C_block (d := byte) (xs := xs) hb ?_ hm
  have := Kd.reps_scalar (enc := fun x : UInt8 => Value.int .u8 (x.toNat : Int)) xs
  rw [encs_bytes] at this
  exact this
def f0 : File := ⟨⟨#[97]⟩, [7, 8]⟩
def blkA : List UInt8 := [97, 0, 0, 0, 0, 0, 0, 0, 0, 0, 0, 0, 0, 2, 0, 2, 0, 0, 0, 0, 0, 0, 0, 0, 0, 0, 0, 0, 0, 0, 0, 0]
def blkD : List UInt8 := [7, 8, 0, 0, 0, 0, 0, 0, 0, 0, 0, 0, 0, 0, 0, 0, 0, 0, 0, 0, 0, 0, 0, 0, 0, 0, 0, 0, 0, 0, 0, 0]
theorem f0_E : makeE [f0] = 0 := by decide
theorem f0_1 : gt (makeV [f0]) 1 = blkA := by decide
theorem f0_2 : gt (makeV [f0]) 2 = blkD := by decide
theorem f0_len : (makeV [f0]).length = 3 := by decide
end Go.Proofs.YtnpnpgihbgohgaaDoor
/-
  Chapter 49: blocks compared in a statement that draws its order; the disk of two lists of the same names and lengths; FsTable, walked.
-/
namespace Go.Proofs.YtnpnpgihbgohgaaDoor
open Go.RowKit Go.Proofs.YtnpnpgihbgohgaaDoorW.PrintWords Go.Proofs.YtnpnpgihbgohgaaDoorW.PrintLast Go.Proofs.YtnpnpgihbgohgaaDoorW.PrintMore
set_option linter.unusedVariables false
set_option linter.unusedSimpArgs false

theorem load_block_quiet {ops : Array Oper} {rest : List Oper} {op : Oper} {a : Act} {w : World} {Q : Act → Prop} (hw : Region.wanted op (yielded ops a.tmps) = true) (x : Operand) (ho : op.op = .load 41 x)
    (p : Addr) (hx : a.eval x = .pointer (some p)) (xs : List UInt8) (hl : xs.length = 32) (hc : ∀ j u, (bytesV xs)[j]? = some u → w.cell? (p.add j) = some u)
    (h : wpQuiet Tryd.prog ops (fun w' => ∃ n, w' = w.drewN n) Q rest (a.put op.dst (.agg (bytesV xs).toArray))) : wpQuiet Tryd.prog ops (fun w' => ∃ n, w' = w.drewN n) Q (op :: rest) a :=
  wpQuiet_step fun K hK => by
    rw [if_pos hw]
    refine ⟨_, fun w' hw' => ?_, hK _ h⟩
    obtain ⟨n, rfl⟩ := hw'
    have hc' : ∀ j u, (bytesV xs)[j]? = some u → (w.drewN n).cell? (p.add j) = some u := fun j u hu => hc j u hu
    unfold Oper.quietAt execOp
    simp only [ho, hx, Instr.loadAt, Instr.sureAddr, Sem.run_bind, Sem.run_pure, Result.andThen_ok, run_load_block p xs hl hc']
    exact ⟨rfl, rfl⟩
theorem byteR_cell {e base g n cap : Nat} {W : World} {ok : Nat → Prop} {xs : List UInt8} (h : byte.R e W base ok (.slice (some ⟨g, 0, none⟩) n cap) xs) (i : Nat) (hi : i < n) : W.cell? ⟨g, i, none⟩ = some (.int .u8 ((gt xs i).toNat : Int)) ∧ W.frozen? ⟨g, i, none⟩ = false := by
  obtain ⟨rfl, _, _⟩ := readsS h
  have := Kd.R_cell default h (i : Int) (by omega) (by omega)
  simpa [rdOf, gt] using this
theorem byteR_put {e base g n cap : Nat} {W : World} {ok : Nat → Prop} {xs : List UInt8} (h : byte.R e W base ok (.slice (some ⟨g, 0, none⟩) n cap) xs) (i : Nat) (x : UInt8) : byte.R e (W.setCell ⟨g, i, none⟩ (.int .u8 (x.toNat : Int))) base ok (.slice (some ⟨g, 0, none⟩) n cap) (xs.set i x) := by
  obtain ⟨rfl, _, _⟩ := readsS h
  exact (Kd.R_put h (i : Int) x).1
theorem R_formV {α : Type} {d : Kd α} {e base n c : Nat} {W : World} {ok : Nat → Prop} {A : Option Addr} {xs : List α} (h : d.R e W base ok (.slice A n c) xs) (hn : 0 < n) : ∃ g, A = some ⟨g, 0, none⟩ ∧ base ≤ g ∧ g < W.heap.size := by
  obtain ⟨A', c', he, _, _⟩ := Kd.R_reads h
  cases he
  obtain ⟨g, cap, he, h1, h2, _⟩ := Kd.R_form h hn
  cases he
  exact ⟨g, rfl, h1, h2⟩
theorem readsS' {α : Type} {d : Kd α} {e : Nat} {w : World} {base n c : Nat} {ok : Nat → Prop} {A : Option Addr} {xs : List α} (h : d.R e w base ok (.slice A n c) xs) : d.C w A xs.length xs := by
  obtain ⟨A', c', he, hl, hC⟩ := Kd.R_reads h
  cases he
  exact hC
/-- n bytes, the first k of them written. -/
def stg (x : UInt8) (n k : Nat) : List UInt8 := List.replicate k x ++ List.replicate (n - k) 0
theorem stg_zero (x : UInt8) (n : Nat) : stg x n 0 = List.replicate n 0 := by simp [stg]
theorem stg_full (x : UInt8) (n : Nat) : stg x n n = List.replicate n x := by simp [stg]
theorem stg_set (x : UInt8) (n k : Nat) (h : k < n) : (stg x n k).set k x = stg x n (k + 1) := by
  unfold stg
  rw [List.set_append_right _ _ (by simp), List.length_replicate, Nat.sub_self, show n - k = (n - (k + 1)) + 1 by omega, List.replicate_succ, List.set_cons_zero, List.replicate_succ']
  simp
/-! ### the plain law -/
def sameFace (x y : File) : Prop := x.name = y.name ∧ x.data.length = y.data.length
theorem right_face {x y : File} (h : sameFace x y) : rightB x = rightB y := by unfold rightB; rw [h.1, h.2]
theorem togTo_face {l m : List File} (hl : l.length = m.length) (h : ∀ k, k < l.length → sameFace (gt l k) (gt m k)) : ∀ k, k ≤ l.length → togTo l k = togTo m k ∧ (l.take k).map nmL = (m.take k).map nmL := by
  intro k
  induction k with
  | zero => intro _; exact ⟨rfl, rfl⟩
  | succ k ih =>
    intro hk
    obtain ⟨h1, h2⟩ := ih (by omega)
    have hf := h k (by omega)
    have hn : nmL (gt l k) = nmL (gt m k) := by unfold nmL; rw [hf.1]
    refine ⟨?_, ?_⟩
    · unfold togTo
      rw [h1, h2, right_face hf, hn]
    · rw [List.take_add_one, List.take_add_one, gt_some l k (by omega), gt_some m k (by omega), List.map_append, List.map_append, h2]
      simp [hn]
theorem blocksTo_face {l m : List File} (hl : l.length = m.length) (h : ∀ k, k < l.length → sameFace (gt l k) (gt m k)) : ∀ k, k ≤ l.length → blocksTo l k = blocksTo m k := by
  intro k
  induction k with
  | zero => intro _; rfl
  | succ k ih =>
    intro hk
    have h1 := ih (by omega)
    unfold blocksTo at h1 ⊢
    rw [List.take_add_one, List.take_add_one, gt_some l k (by omega), gt_some m k (by omega), List.map_append, List.map_append, List.sum_append, List.sum_append, h1]
    simp [(h k (by omega)).2]
theorem table_face {l m : List File} (hl : l.length = m.length) (h : ∀ k, k < l.length → sameFace (gt l k) (gt m k)) : tableB l = tableB m := by
  unfold tableB
  rw [← hl]
  apply List.map_congr_left
  intro i hi
  have hi' : i < l.length := List.mem_range.1 hi
  have hf := h i hi'
  rw [blocksTo_face hl h i (by omega)]
  unfold entryB
  rw [hf.1, hf.2]
theorem makeB_len (l : List File) : (makeB l).length = 1 + l.length + blocksTo l l.length := by
  have := outTo_len l l.length (Nat.le_refl _)
  rw [outTo_full] at this
  unfold makeB
  simpa using this
/-- Two lists of the same names and lengths: the disks have one length, and one head and table. -/
theorem make_face {l m : List File} (hl : l.length = m.length) (h : ∀ k, k < l.length → sameFace (gt l k) (gt m k)) :
    makeE l = makeE m ∧ (makeV l).length = (makeV m).length ∧ ∀ i, i ≤ l.length → gt (makeV l) i = gt (makeV m) i := by
  have ht : togB l = togB m := by unfold togB; rw [← hl]; exact (togTo_face hl h l.length (Nat.le_refl _)).1
  have hT := table_face hl h
  unfold makeE makeV
  rw [← ht, ← hl]
  refine ⟨rfl, ?_, ?_⟩
  · by_cases h8 : 8 < l.length
    · simp only [if_pos h8]
    · simp only [if_neg h8]
      cases togB l
      · rfl
      · simp only [if_true]
        rw [makeB_len, makeB_len, ← hl, blocksTo_face hl h _ (Nat.le_refl _)]
  · intro i hi
    by_cases h8 : 8 < l.length
    · simp only [if_pos h8]
    · simp only [if_neg h8]
      cases togB l
      · rfl
      · simp only [if_true]
        have hlen : ∀ q : List File, q.length = l.length → ∀ t, tableB q = t → gt (makeB q) i = gt (headB magicB l.length (sumT t) :: t) i := by
          intro q hq t hqt
          unfold makeB gt
          rw [hqt, hq]
          simp only [List.getD_eq_getElem?_getD]
          rw [List.cons_append]
          congr 1
          rcases i with _ | i
          · rfl
          · rw [List.getElem?_cons_succ, List.getElem?_cons_succ, List.getElem?_append_left (by rw [← hqt]; simp [tableB]; omega)]
        rw [hlen l rfl _ rfl, hlen m hl.symm _ hT.symm]
end Go.Proofs.YtnpnpgihbgohgaaDoor
namespace Go.Proofs.YtnpnpgihbgohgaaDoor
open Go.RowKit Go.Proofs.YtnpnpgihbgohgaaDoorW.PrintWords Go.Proofs.YtnpnpgihbgohgaaDoorW.PrintLast Go.Proofs.YtnpnpgihbgohgaaDoorW.PrintMore
set_option linter.unusedVariables false
set_option linter.unusedSimpArgs false

/-- A kind whose cells lead nowhere. -/
def Flat {α : Type} (d : Kd α) : Prop := ∀ w w' x cs, d.K w x cs → d.K w' x cs
theorem cell_same {w w1 : World} {a : Addr} (h : w1.heap[a.block]? = w.heap[a.block]?) : w1.cell? a = w.cell? a := by
  unfold World.cell?
  rw [h]
theorem C_flat {α : Type} {d : Kd α} (hf : Flat d) {w w1 : World} {ad : Addr} {n : Nat} {xs : List α} (h : d.C w (some ad) n xs) (hm : w1.heap[ad.block]? = w.heap[ad.block]?) : d.C w1 (some ad) n xs := by
  refine ⟨h.1, h.2.1, fun hn => ?_⟩
  obtain ⟨ad', e, hc⟩ := h.2.2 hn
  cases e
  refine ⟨ad, rfl, fun j p hj => ?_⟩
  obtain ⟨cs, h1, h2, h3⟩ := hc j p hj
  refine ⟨cs, h1, hf _ _ _ _ h2, fun i u hu => ?_⟩
  exact (cell_same (w := w) (w1 := w1) (a := ad.add (j * d.sz + i)) (by rw [add_block]; exact hm)).trans (h3 i u hu)
/-- A slice of flat elements that lies in a block of elements; others may lie there too. -/
def shr {α : Type} (e : Nat) (d : Kd α) (hf : Flat d) : Kd (List α) where
  sz := 1
  E := [e]
  K := fun w xs cs => ∃ A c, cs = [.slice A xs.length c] ∧ xs.length ≤ c ∧ d.C w A xs.length xs
  M := fun w base ok xs cs => ∃ A c, cs = [.slice A xs.length c] ∧ xs.length ≤ c ∧ d.C w A xs.length xs ∧ ∀ ad, A = some ad → 0 < xs.length → ok ad.block ∧ base ≤ ad.block ∧ ad.block < w.heap.size ∧ ∃ cells, w.heap[ad.block]? = some (.cells cells e (0, 0))
  K_len := by
    rintro w x cs ⟨A, c, rfl, _⟩
    rfl
  K_one := by
    rintro w x cs ⟨A, c, rfl, _⟩ u hu
    rw [List.mem_singleton.1 hu]
    rfl
  K_below := by
    rintro w w1 x cs hb ⟨A, c, rfl, hl, hr⟩
    exact ⟨A, c, rfl, hl, Kd.C_below hr hb⟩
  K_of_M := by
    rintro w base ok x cs ⟨A, c, rfl, hl, hr, _⟩
    exact ⟨A, c, rfl, hl, hr⟩
  M_mono := by
    rintro w base ok ok' x cs hok ⟨A, c, rfl, hl, hr, ho⟩
    exact ⟨A, c, rfl, hl, hr, fun ad e hp => ⟨hok _ (ho ad e hp).1, (ho ad e hp).2⟩⟩
  M_bound := by
    rintro w base ok x cs ⟨A, c, rfl, hl, hr, ho⟩
    exact ⟨A, c, rfl, hl, hr, fun ad ea hp => ⟨⟨(ho ad ea hp).1, (ho ad ea hp).2.1, (ho ad ea hp).2.2.1, e, List.mem_singleton.2 rfl, (ho ad ea hp).2.2.2⟩, (ho ad ea hp).2⟩⟩
  M_move := by
    rintro w w1 base ok x cs hm ⟨A, c, rfl, hl, hr, ho⟩
    refine ⟨A, c, rfl, hl, ?_, fun ad ea hp => ?_⟩
    · rcases Nat.eq_zero_or_pos x.length with h0 | hp
      · exact ⟨hr.1, hr.2.1, fun h => absurd h (by omega)⟩
      · obtain ⟨ad, rfl, _⟩ := hr.2.2 hp
        exact C_flat hf hr (hm _ (ho ad rfl hp).1)
    · obtain ⟨h1, h2, h3, cells, h4⟩ := ho ad ea hp
      have h5 := (hm _ h1).trans h4
      exact ⟨h1, h2, (Array.getElem?_eq_some_iff.1 h5).1, cells, h5⟩
  M_lower := by
    rintro w base base' ok x cs hb ⟨A, c, rfl, hl, hr, ho⟩
    exact ⟨A, c, rfl, hl, hr, fun ad ea hp => ⟨(ho ad ea hp).1, Nat.le_trans hb (ho ad ea hp).2.1, (ho ad ea hp).2.2⟩⟩
theorem flat_scalar {α : Type} (enc : α → Value) (h1 : ∀ x, (enc x).oneCell' = true) : Flat (Kd.scalar enc h1) := fun _ _ _ _ h => h
theorem flat_pair {α β : Type} {a : Kd α} {b : Kd β} (ha : Flat a) (hb : Flat b) : Flat (Kd.pair a b) := by
  rintro w w' x cs ⟨c0, c1, rfl, h0, h1⟩
  exact ⟨c0, c1, rfl, ha _ _ _ _ h0, hb _ _ _ _ h1⟩
theorem flat_iso {α β : Type} {a : Kd α} (ha : Flat a) (f : β → α) : Flat (Kd.iso a f) := fun _ _ _ _ h => ha _ _ _ _ h
theorem flat_arr {α : Type} {n : Nat} {d : Kd α} {hs : 0 < d.sz} (hd : Flat d) : Flat (Kd.arr n d hs) := fun w w' xs cs h => ⟨h.1, h.2.imp_ (fun _ _ hk => hd _ _ _ _ hk)⟩

/-! ### a row of one's own, one element more; a cell behind it -/
section
variable {α : Type} {d : Kd α} {e base g m cap : Nat} {ok okp : Nat → Prop} {W : World} {xs : List α}
/-- One element more stands behind the row. -/
theorem R_extend (h : d.R e W base ok (.slice (some ⟨g, 0, none⟩) m cap) xs) (hm : m + 1 ≤ cap) {x : α} {c : List Value} (hcl : c.length = d.sz) (hcc : ∀ j u, c[j]? = some u → W.cell? ⟨g, m * d.sz + j, none⟩ = some u) (hM : d.M W base okp x c) (hokp : ∀ k, okp k → ok k ∧ k ≠ g) :
    d.R e W base ok (.slice (some ⟨g, 0, none⟩) (m + 1) cap) (xs ++ [x]) := by
  obtain ⟨hn, _, _⟩ := Kd.R_reads' h
  obtain ⟨hok, inner, ho, hr⟩ := h
  obtain ⟨ho1, ho2⟩ := ho
  rcases ho2 with ⟨hv, _⟩ | ⟨g', cap', cur, hv, hb, hh, hnc', hcm, hcs, ht⟩
  · cases hv
  injection hv with ha _ hc
  injection ha with ha
  injection ha with hg
  subst hg; subst hc
  have hlen : (xs ++ [x]).length = m + 1 := by simp [hn]
  have hg2 : (Value.slice (some ⟨g, 0, none⟩) (m + 1) cap).ownBlock = some g := by simp [Value.ownBlock]
  have hg1 : (Value.slice (some ⟨g, 0, none⟩) m cap).ownBlock = some g := by simp [Value.ownBlock]
  refine ⟨fun k hk => hok k (by rw [hg1, ← hg2]; exact hk), inner ++ c, ⟨?_, .inr ⟨g, cap, cur, by rw [hlen], hb, hh, by rw [hlen]; exact hm, hcm, hcs, ?_⟩⟩, ?_⟩
  · rw [List.length_append, ho1, hcl, hlen, ← hn, Nat.succ_mul]
  · rw [hlen, Nat.succ_mul, List.take_add, ← hn] at *
    rw [ht]
    congr 1
    apply List.ext_getElem?
    intro j
    have hfit : (m + 1) * d.sz ≤ cap * d.sz := Nat.mul_le_mul_right _ hm
    rw [Nat.succ_mul] at hfit
    rw [List.getElem?_take]
    by_cases hj : j < d.sz
    · have h6 := hcc j _ (List.getElem?_eq_getElem (by omega))
      rw [cell_of_row W g _ cur e (0, 0) hh] at h6
      rw [if_pos hj, List.getElem?_drop, Array.getElem?_toList, h6, List.getElem?_eq_getElem (by omega)]
    · rw [if_neg hj, List.getElem?_eq_none (by omega)]
  · exact (hr.imp_ (fun p c hp => d.M_mono (fun k hk => ⟨hk.1, by rw [hg2, ← hg1]; exact hk.2⟩) hp)).snoc (d.M_mono (fun k hk => ⟨(hokp k hk).1, fun he => (hokp k hk).2 (by rw [hg2] at he; injection he)⟩) hM) hcl
/-- A cell behind the row is written. -/
theorem R_beyond (h : d.R e W base ok (.slice (some ⟨g, 0, none⟩) m cap) xs) {j : Nat} (hj : m * d.sz ≤ j) (u : Value) : d.R e (W.setCell ⟨g, j, none⟩ u) base ok (.slice (some ⟨g, 0, none⟩) m cap) xs := by
  obtain ⟨hok, inner, ho, hr⟩ := h
  obtain ⟨ho1, ho2⟩ := ho
  have hg1 : (Value.slice (some ⟨g, 0, none⟩) m cap).ownBlock = some g := by simp [Value.ownBlock]
  rcases ho2 with ⟨hv, _⟩ | ⟨g', cap', cur, hv, hb, hh, hnc', hcm, hcs, ht⟩
  · cases hv
  injection hv with ha hl hc
  injection ha with ha
  injection ha with hg
  subst hg; subst hc
  refine ⟨hok, inner, ⟨ho1, .inr ⟨g, cap, cur.setIfInBounds j u, by rw [hl], hb, blk_set hh j u, hnc', hcm, by simp [hcs], ?_⟩⟩, hr.imp_ (fun p c hp => Kd.M_far hp (p := ⟨g, j, none⟩) (fun k hk e => hk.2 (by rw [e, hg1])) u)⟩
  rw [Array.toList_setIfInBounds, List.take_set_of_le (by rw [← hl]; exact hj)]
  exact ht
end
end Go.Proofs.YtnpnpgihbgohgaaDoor
