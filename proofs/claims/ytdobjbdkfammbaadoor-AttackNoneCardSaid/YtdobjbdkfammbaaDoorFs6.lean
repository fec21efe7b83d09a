/-
  Chapter 49, fs.Make, walked.
-/
import Derived.Test.YtdobjbdkfammbaaDoorFs5
namespace Go.Proofs.YtdobjbdkfammbaaDoor
open Go.RowKit Go.Proofs.YtdobjbdkfammbaaDoorW.PrintWords Go.Proofs.YtdobjbdkfammbaaDoorW.PrintLast Go.Proofs.YtdobjbdkfammbaaDoorW.PrintMore
set_option linter.unusedVariables false
set_option linter.unusedSimpArgs false

def zeroB : List UInt8 := List.replicate 32 0
def zB : Value := .agg (bytesV zeroB).toArray
theorem info_blockZ : (Tryd.prog.info? 37).map (fun i => (i.zero, i.size, i.bytes)) = some (some zB, 32, 32) := by kernel_rfl
theorem zB_M (w : World) (base : Nat) (ok : Nat → Prop) : kBlock.M w base ok zeroB zB.cells.toList := by
  have := Kd.arr_of_cells (n := 32) (w := w) (base := base) (ok := ok) (hs := by decide) (enc := fun x : UInt8 => Value.int .u8 (x.toNat : Int)) (h1 := fun _ => rfl) (xs := zeroB) (by simp [zeroB])
  rw [encs_bytes] at this
  exact this
set_option maxRecDepth 4000 in
set_option maxHeartbeats 3200000 in
theorem make_full (A : Option Addr) (l : List File) (c : Nat) (w : World) (h : kFile.C w A l.length l) (hl : 8 < l.length) :
    Calls Tryd.prog 35 #[.slice A l.length c] w fun e w' => e = .returned (.tuple #[.slice none 0 0, .int .i64 6]) ∧ Below w.heap.size w w' := by
  have h8 : (8 : Int) < (l.length : Int) := by omega
  go_enter Tryd.func35, Tryd.ntmps35
  go_wp2
  go_ret2
  exact ⟨rfl, Below.refl _ _⟩
theorem make_form (A : Option Addr) (l : List File) (c : Nat) (w : World) (h : kFile.C w A l.length l) (hl : l.length ≤ 8) (hs : ∀ k, k < l.length → (gt l k).name.size ≤ 9223372036854775807) (ht : togB l = false) :
    Calls Tryd.prog 35 #[.slice A l.length c] w fun e w' => e = .returned (.tuple #[.slice none 0 0, .int .i64 3]) ∧ Below w.heap.size w w' := by
  have h8 : ¬ (8 : Int) < (l.length : Int) := by omega
  go_enter Tryd.func35, Tryd.ntmps35
  go_wp2_with (go_at_call 56; refine (together_any A l c false ht _ h hs (by omega)).mono ?_; rintro e w1 ⟨rfl, hb⟩; have HB := Aside0.mk hb; clear hb)
  go_ret2
  exact ⟨rfl, HB.out⟩
theorem readsS {e : Nat} {w : World} {base n c : Nat} {ok : Nat → Prop} {A : Option Addr} {xs : List UInt8} (h : byte.R e w base ok (.slice A n c) xs) : n = xs.length ∧ xs.length ≤ c ∧ byte.C w A xs.length xs := by
  obtain ⟨A', c', he, hl, hC⟩ := Kd.R_reads h
  cases he
  exact ⟨rfl, hl, hC⟩
theorem togTo_right {l : List File} : ∀ {n : Nat}, togTo l n = true → ∀ k, k < n → rightB (gt l k) = true := by
  intro n
  induction n with
  | zero => intro _ k hk; omega
  | succ n ih =>
    intro h k hk
    unfold togTo at h
    simp only [Bool.and_eq_true] at h
    by_cases he : k = n
    · subst he; exact h.2.1
    · exact ih h.1 k (by omega)
theorem tog_right {l : List File} (h : togB l = true) (k : Nat) (hk : k < l.length) : (gt l k).name.size ≤ 12 ∧ (gt l k).data.length ≤ 256 := by
  have := togTo_right h k hk
  unfold rightB namedB at this
  simp only [Bool.and_eq_true, decide_eq_true_eq] at this
  exact ⟨this.1.2, this.2⟩
theorem tog_name {l : List File} (h : togB l = true) (k : Nat) (hk : k < l.length) : (gt l k).name.data.toList.length ≤ 32 := by
  have := (tog_right h k hk).1
  rw [Lib.size_eq] at this
  omega
/-- What lies there when k files are made. -/
def outTo (l : List File) (k : Nat) : List (List UInt8) := zeroB :: ((tableB l).take k ++ List.replicate (l.length - k) zeroB) ++ ((l.take k).map dataB).flatten
theorem outTo_zero (l : List File) : outTo l 0 = List.replicate (l.length + 1) zeroB := by
  simp [outTo, List.replicate_succ]
theorem outTo_len (l : List File) (k : Nat) (hk : k ≤ l.length) : (outTo l k).length = 1 + l.length + blocksTo l k := by
  unfold outTo blocksTo
  simp only [List.length_cons, List.length_append, List.length_take, List.length_replicate, List.length_flatten, List.map_map, tableB, List.length_map, List.length_range]
  have : (List.map (List.length ∘ dataB) (List.take k l)) = (List.map (fun x : File => manyN x.data.length) (List.take k l)) := by
    apply List.map_congr_left
    intro x _
    simp [dataB]
  rw [this]
  omega
theorem blocksTo_le {l : List File} (h : togB l = true) (k : Nat) (hk : k ≤ l.length) : blocksTo l k ≤ 8 * k := by
  induction k with
  | zero => simp [blocksTo]
  | succ k ih =>
    have h1 : blocksTo l (k + 1) = blocksTo l k + manyN (gt l k).data.length := by
      unfold blocksTo
      rw [List.take_add_one, gt_some l k (by omega), List.map_append, List.sum_append]
      simp
    have h2 := (tog_right h k (by omega)).2
    have h3 : manyN (gt l k).data.length ≤ 8 := by unfold manyN; omega
    have := ih (by omega)
    omega
/-- What stands while fs.Make fills the k-th entry: the row of blocks of its own, and the file's box. -/
structure MkSt (w W : World) (X g n cap : Nat) (nm : ByteArray) (A : Option Addr) (m c : Nat) (out : List (List UInt8)) : Prop where
  row : kBlock.R 37 W w.heap.size (fun _ => True) (.slice (some ⟨g, 0, none⟩) n cap) out
  below : Below w.heap.size w W
  file : W.heap[X]? = some (.cells #[.string nm, .slice A m c] 56 (0, 0))
  ne : X ≠ g
  hg : w.heap.size ≤ g
namespace MkSt
variable {w W W1 : World} {X g n cap : Nat} {nm : ByteArray} {A : Option Addr} {m c : Nat} {out : List (List UInt8)}
theorem drew (h : MkSt w W X g n cap nm A m c out) : MkSt w W.drew X g n cap nm A m c out := ⟨Kd.R_drew h.row, below_drew h.below, h.file, h.ne, h.hg⟩
theorem later (h : MkSt w W X g n cap nm A m c out) (hb : Below W.heap.size W W1) : MkSt w W1 X g n cap nm A m c out := ⟨Kd.R_below h.row hb, below_step h.below hb, blk_below h.file hb, h.ne, h.hg⟩
theorem len (h : MkSt w W X g n cap nm A m c out) : n = out.length := by
  obtain ⟨A', c', he, _, _⟩ := Kd.R_reads h.row
  cases he
  rfl
theorem cell0 (h : MkSt w W X g n cap nm A m c out) : W.cell? ⟨X, 0, none⟩ = some (.string nm) := by
  have := blk_cell h.file 0; simpa using this
theorem cell1 (h : MkSt w W X g n cap nm A m c out) : W.cell? ⟨X, 1, none⟩ = some (.slice A m c) := by
  have := blk_cell h.file 1; simpa using this
theorem copyStr (h : MkSt w W X g n cap nm A m c out) (i : Nat) (hi : i < n) (s : ByteArray) (hs : s.data.toList.length ≤ 32) (ty : TypeId) :
    ∃ W2, (Builtin.copy_ #[54, 9] ty #[.slice (some ⟨g, i * 32, none⟩) 32 32, .string s]).run Tryd.prog W = .ok (goInt s.size) W2 ∧ MkSt w W2 X g n cap nm A m c (out.set i (putB (gt out i) 0 s.data.toList)) := by
  obtain ⟨W2, hr, hR, hg2⟩ := copy_str h.row i hi s hs ty
  exact ⟨W2, hr, hR, pw_below_grown h.below (some g) h.below.size hg2 (fun q e => by cases e; exact h.hg), blk_grown h.file hg2 (by intro e; injection e with e; exact h.ne e), h.ne, h.hg⟩
theorem copyBts (h : MkSt w W X g n cap nm A m c out) (i : Nat) (hi : i < n) (j : Nat) (seg : List UInt8) (hj : j + seg.length ≤ 32) (As : Option Addr) (cs dLen dCap : Nat) (hs : byte.C W As seg.length seg) (hd : seg.length ≤ dLen) (hp : 0 < seg.length) (ty : TypeId) :
    ∃ W2, (Builtin.copy_ #[54, 54] ty #[.slice (some ⟨g, i * 32 + j, none⟩) dLen dCap, .slice As seg.length cs]).run Tryd.prog W = .ok (goInt seg.length) W2 ∧ MkSt w W2 X g n cap nm A m c (out.set i (putB (gt out i) j seg)) := by
  obtain ⟨W2, hr, hR, hg2⟩ := copy_bts h.row i hi j seg hj As cs dLen dCap hs hd hp ty
  exact ⟨W2, hr, hR, pw_below_grown h.below (some g) h.below.size hg2 (fun q e => by cases e; exact h.hg), blk_grown h.file hg2 (by intro e; injection e with e; exact h.ne e), h.ne, h.hg⟩
theorem away (h : MkSt w W X g n cap nm A m c out) (g2 : Nat) (h2 : g2 = X ∨ W.heap.size ≤ g2) : kBlock.R 37 W w.heap.size (fun k => k ≠ g2) (.slice (some ⟨g, 0, none⟩) n cap) out := by
  rcases h2 with rfl | h2
  · exact Kd.R_mono (Kd.R_types h.row h.file (by
      intro q hq
      have : q = 37 := by simpa [kBlock, Kd.arr, byte, Kd.scalar] using hq
      rw [this]
      decide)) (fun k hk => hk.2)
  · exact Kd.R_mono (Kd.R_bound h.row) (fun k hk => by have := hk.2.2.1; omega)
end MkSt
theorem gt_set {α : Type} [Inhabited α] (xs : List α) (i : Nat) (x : α) (h : i < xs.length) : gt (xs.set i x) i = x := by
  rw [gt_eq _ _ (by simpa using h)]
  simp
theorem putB_zero (s : List UInt8) (h : s.length ≤ 12) : putB zeroB 0 s = s ++ List.replicate (12 - s.length) 0 ++ List.replicate 20 0 := by
  unfold putB zeroB
  rw [List.take_zero, List.nil_append, List.drop_replicate, List.append_assoc, List.replicate_append_replicate]
  congr 2
  omega
theorem putB_mid (a b seg c : List UInt8) (j : Nat) (hj : a.length = j) (hs : seg.length = b.length) : putB (a ++ (b ++ c)) j seg = a ++ (seg ++ c) := by
  unfold putB
  subst hj
  rw [List.take_left, hs, List.append_assoc, ← List.drop_drop, List.drop_left, List.drop_left]
theorem entry_made (x : File) (n : Nat) (hn : x.name.data.toList.length ≤ 12) :
    (let b1 := putB (putB zeroB 0 x.name.data.toList) 12 [hi2 x.data.length, lo2 x.data.length]; if 0 < x.data.length then putB b1 14 [hi2 n, lo2 n] else b1) = entryB x n := by
  obtain ⟨s, hs⟩ : ∃ s, s = x.name.data.toList := ⟨_, rfl⟩
  obtain ⟨m, hm⟩ : ∃ m, m = x.data.length := ⟨_, rfl⟩
  rw [← hs] at hn
  have h12 : (s ++ List.replicate 12 0).take 12 = s ++ List.replicate (12 - s.length) (0 : UInt8) := by
    rw [List.take_append, List.take_of_length_le hn, List.take_replicate, Nat.min_eq_left (by omega)]
  have hb1 : putB (putB zeroB 0 s) 12 [hi2 m, lo2 m] = (s ++ List.replicate (12 - s.length) 0) ++ ([hi2 m, lo2 m] ++ List.replicate 18 0) := by
    rw [putB_zero s hn, show (List.replicate 20 (0 : UInt8)) = [0, 0] ++ List.replicate 18 0 from rfl]
    exact putB_mid _ _ _ _ 12 (by simp; omega) rfl
  have hb2 : putB ((s ++ List.replicate (12 - s.length) 0) ++ ([hi2 m, lo2 m] ++ List.replicate 18 0)) 14 [hi2 n, lo2 n] = ((s ++ List.replicate (12 - s.length) 0) ++ [hi2 m, lo2 m]) ++ ([hi2 n, lo2 n] ++ List.replicate 16 0) := by
    rw [← List.append_assoc, show (List.replicate 18 (0 : UInt8)) = [0, 0] ++ List.replicate 16 0 from rfl]
    exact putB_mid _ _ _ _ 14 (by simp; omega) rfl
  unfold entryB
  rw [← hs, ← hm, h12]
  show (if 0 < m then putB (putB (putB zeroB 0 s) 12 [hi2 m, lo2 m]) 14 [hi2 n, lo2 n] else putB (putB zeroB 0 s) 12 [hi2 m, lo2 m]) = _
  rw [hb1]
  by_cases h0 : 0 < m
  · rw [if_pos h0, if_pos h0, hb2]
    simp only [List.append_assoc]
  · rw [if_neg h0, if_neg h0]
    simp only [List.append_assoc, show (List.replicate 18 (0 : UInt8)) = [0, 0] ++ List.replicate 16 0 from rfl]
theorem outTo_gt (l : List File) (k : Nat) (hk : k < l.length) : gt (outTo l k) (1 + k) = zeroB := by
  have hl : k ≤ (tableB l).length := by simp [tableB]; omega
  unfold outTo gt
  simp only [List.getD_eq_getElem?_getD, List.cons_append]
  rw [Nat.add_comm 1 k, List.getElem?_cons_succ, List.append_assoc, List.getElem?_append_right (by simp; omega)]
  rw [List.length_take, Nat.min_eq_left hl, Nat.sub_self, List.getElem?_append_left (by simp; omega)]
  rw [List.getElem?_replicate, if_pos (by omega)]
  rfl
theorem outTo_set (l : List File) (k : Nat) (hk : k < l.length) (e : List UInt8) (he : e = gt (tableB l) k) : (outTo l k).set (1 + k) e ++ dataB (gt l k) = outTo l (k + 1) := by
  have hl : k < (tableB l).length := by simp [tableB]; omega
  have h1 : ((tableB l).take k ++ List.replicate (l.length - k) zeroB).set k e = (tableB l).take (k + 1) ++ List.replicate (l.length - (k + 1)) zeroB := by
    rw [List.set_append_right _ _ (by simp; omega), List.length_take, Nat.min_eq_left (by omega), Nat.sub_self, show l.length - k = (l.length - (k + 1)) + 1 by omega, List.replicate_succ, List.set_cons_zero, List.take_add_one, gt_some _ _ hl, ← he]
    simp
  unfold outTo
  rw [List.cons_append, Nat.add_comm 1 k, List.set_cons_succ, List.set_append_left _ _ (by simp; omega), h1, List.take_add_one (l := l), gt_some l k hk]
  simp
theorem outTo_step (l : List File) (k : Nat) (hk : k < l.length) (hr : (gt l k).name.data.toList.length ≤ 12) (x : File) (hx : x = gt l k) (n : Nat) (hn : n = (outTo l k).length) (o o1 o2 : List (List UInt8))
    (ho : o = (outTo l k).set (1 + k) (putB (gt (outTo l k) (1 + k)) 0 x.name.data.toList)) (ho1 : o1 = o.set (1 + k) (putB (gt o (1 + k)) 12 [hi2 x.data.length, lo2 x.data.length]))
    (ho2 : o2 = if 0 < x.data.length then o1.set (1 + k) (putB (gt o1 (1 + k)) 14 [hi2 n, lo2 n]) else o1) : o2 ++ dataB x = outTo l (k + 1) := by
  have hL : 1 + k < (outTo l k).length := by rw [outTo_len l k (by omega)]; omega
  have hn2 : n = 1 + l.length + blocksTo l k := by rw [hn, outTo_len l k (by omega)]
  have e := entry_made x n (by rw [hx]; exact hr)
  have e0 : gt (tableB l) k = entryB x n := by
    rw [gt_eq _ _ (by simp [tableB]; omega)]
    simp [tableB, hn2, hx]
  have h1 : o1 = (outTo l k).set (1 + k) (putB (putB zeroB 0 x.name.data.toList) 12 [hi2 x.data.length, lo2 x.data.length]) := by
    rw [ho1, ho, gt_set _ _ _ hL, List.set_set, outTo_gt l k hk]
  have h2 : o2 = (outTo l k).set (1 + k) (entryB x n) := by
    rw [ho2, ← e, h1, gt_set _ _ _ hL, List.set_set]
    by_cases h0 : 0 < x.data.length
    · simp only [if_pos h0]
    · simp only [if_neg h0]
  rw [h2, hx]
  rw [hx] at e0
  exact outTo_set l k hk _ e0.symm
theorem dataB_take (x : File) (q : Nat) (hq : q < manyN x.data.length) : (dataB x).take (q + 1) = (dataB x).take q ++ [pad (chunk x.data q)] := by
  rw [List.take_add_one, gt_some _ _ (by simpa [dataB] using hq), gt_eq _ _ (by simpa [dataB] using hq)]
  simp [dataB]
theorem heap_setCells (b : Nat) (t : TypeId) : ∀ (vs : List Value) (o : Nat) (W : World) (cs : List Value), W.heap[b]? = some (.cells cs.toArray t (0, 0)) → o + vs.length ≤ cs.length → (W.setCells b o vs).heap[b]? = some (.cells (cs.take o ++ vs ++ cs.drop (o + vs.length)).toArray t (0, 0))
  | [], o, W, cs, h, _ => by simpa [World.setCells] using h
  | v :: vs, o, W, cs, h, hl => by
    have h1 := blk_set h o v
    simp only [List.setIfInBounds_toArray] at h1
    have hl' : o + 1 + vs.length ≤ (cs.set o v).length := by simp at hl ⊢; omega
    have := heap_setCells b t vs (o + 1) _ _ h1 hl'
    simp only [World.setCells]
    rw [this]
    have ho : o < cs.length := by simp at hl; omega
    congr 3
    apply List.ext_getElem?
    intro i
    simp only [List.length_cons] at hl
    simp only [List.getElem?_append, List.length_append, List.length_take, List.getElem?_take, List.getElem?_drop, List.length_set, List.getElem?_set, List.length_cons, List.getElem?_cons]
    grind
theorem setCells_size (b : Nat) : ∀ (vs : List Value) (o : Nat) (W : World), (W.setCells b o vs).heap.size = W.heap.size
  | [], _, _ => rfl
  | v :: vs, o, W => by
    simp only [World.setCells]
    rw [setCells_size b vs (o + 1)]
    simp [World.setCell]
theorem below_setCells {w : World} {B b : Nat} (hb : B ≤ b) : ∀ (vs : List Value) (o : Nat) (W : World), Below B w W → Below B w (W.setCells b o vs)
  | [], _, _, h => h
  | v :: vs, o, W, h => by
    simp only [World.setCells]
    exact below_setCells hb vs (o + 1) _ (h.setCell hb _)
theorem pad_eq (seg : List UInt8) (h : seg.length ≤ 32) : pad seg = seg ++ List.replicate (32 - seg.length) 0 := by
  unfold pad
  rw [List.take_append, List.take_of_length_le h, List.take_replicate, Nat.min_eq_left (by omega)]
theorem pad_put (seg : List UInt8) (h : seg.length ≤ 32) : (bytesV zeroB).take 0 ++ bytesV seg ++ (bytesV zeroB).drop (0 + (bytesV seg).length) = bytesV (pad seg) := by
  rw [pad_eq seg h]
  unfold bytesV zeroB
  simp only [List.take_zero, List.nil_append, List.map_append, List.map_replicate, List.drop_replicate, List.length_map, Nat.zero_add]
/-- copy(x[:], part) into the block that was made last. -/
theorem copy_new (W : World) (seg : List UInt8) (hl : seg.length ≤ 32) (hp : 0 < seg.length) (A : Option Addr) (c : Nat) (hs : byte.C W A seg.length seg) (ty : TypeId) :
    ∃ W2, (Builtin.copy_ #[54, 54] ty #[.slice (some ⟨W.heap.size, 0, none⟩) 32 32, .slice A seg.length c]).run Tryd.prog (W.alloc (.cells (bytesV zeroB).toArray 37)) = .ok (goInt seg.length) W2 ∧
      W2.heap[W.heap.size]? = some (.cells (bytesV (pad seg)).toArray 37 (0, 0)) ∧ Below W.heap.size W W2 := by
  have hs' := Kd.C_below hs (below_alloc (Below.refl _ _) (.cells (bytesV zeroB).toArray 37))
  obtain ⟨a, rfl, _⟩ := byte_at hs' hp
  have hsz : (Tryd.prog.info? 5).map (·.size) = some 1 := by kernel_rfl
  have hz : (bytesV zeroB).length = 32 := by simp [bytesV_len, zeroB]
  have hnew := blk_new W (.cells (bytesV zeroB).toArray 37)
  have hcell : ∀ q, q < 32 → ((W.alloc (.cells (bytesV zeroB).toArray 37)).cell? ⟨W.heap.size, q, none⟩).isSome = true := fun q hq => by
    rw [blk_cell hnew q]
    simp [hz, hq]
  have hr := run_copy_cells (P := Tryd.prog) (W.alloc (.cells (bytesV zeroB).toArray 37)) 54 54 ty 5 W.heap.size 0 32 32 a seg.length c (bytesV seg) Tryd.underlying54 hsz (by rw [bytesV_len]; exact (Nat.min_eq_left hl).symm)
    (fun q v hv => by
      have hq : q < seg.length := by have := (List.getElem?_eq_some_iff.1 hv).1; rwa [bytesV_len] at this
      obtain ⟨a', e, hc⟩ := byte_at hs' hq
      cases e
      rw [hc]
      simp [bytesV, gt_some seg q hq] at hv
      rw [← hv])
    (fun q hq => by rw [Nat.zero_add]; exact hcell q (by rw [bytesV_len] at hq; omega)) (fun q hq => by rw [Nat.zero_add]; exact World.frozen?_alloc_at _ _ _ _ rfl) (bytesV_one seg)
  rw [bytesV_len] at hr
  refine ⟨_, hr, ?_, below_setCells (Nat.le_refl _) _ _ _ (below_alloc (Below.refl _ _) _)⟩
  rw [heap_setCells _ _ _ _ _ _ hnew (by rw [bytesV_len, hz]; omega), pad_put seg hl]
end Go.Proofs.YtdobjbdkfammbaaDoor
