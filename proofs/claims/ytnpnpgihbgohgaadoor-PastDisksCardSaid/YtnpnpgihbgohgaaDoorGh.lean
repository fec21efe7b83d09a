/-
  Chapter 49, plain: files are the same just if their disks are.
-/
import Derived.Test.YtnpnpgihbgohgaaDoorGb
import Derived.Deep.RegionLaw
/-
  Chapter 49, the document's answer: whether a file is right, whether files may stand together; files as the document's.
-/
namespace Go.Proofs.YtnpnpgihbgohgaaDoor
open Go.RowKit Go.Proofs.YtnpnpgihbgohgaaDoorW.PrintWords Go.Proofs.YtnpnpgihbgohgaaDoorW.PrintLast Go.Proofs.YtnpnpgihbgohgaaDoorW.PrintMore
set_option linter.unusedVariables false
set_option linter.unusedSimpArgs false

theorem names_beq (s t : ByteArray) : (s.toList == t.toList) = decide (s.data.toList = t.data.toList) := by
  rw [ByteArray.toList_eq, ByteArray.toList_eq, Bool.eq_iff_iff]
  simp
end Go.Proofs.YtnpnpgihbgohgaaDoor
/-
  Chapter 49: files as the document's (Plain).
-/
namespace Go.Proofs.YtnpnpgihbgohgaaDoor
open Go.RowKit Go.Proofs.YtnpnpgihbgohgaaDoorW.PrintWords Go.Proofs.YtnpnpgihbgohgaaDoorW.PrintLast Go.Proofs.YtnpnpgihbgohgaaDoorW.PrintMore
set_option linter.unusedVariables false
set_option linter.unusedSimpArgs false

end Go.Proofs.YtnpnpgihbgohgaaDoor
/-
  Chapter 49: whether files are the same: fs.Same over slices.EqualFunc, the document's Same.
-/
namespace Go.Proofs.YtnpnpgihbgohgaaDoor
open Go.RowKit Go.Proofs.YtnpnpgihbgohgaaDoorW.PrintWords Go.Proofs.YtnpnpgihbgohgaaDoorW.PrintLast Go.Proofs.YtnpnpgihbgohgaaDoorW.PrintMore
set_option linter.unusedVariables false
set_option linter.unusedSimpArgs false

def sameFile (x y : File) : Bool := (x.name.toList == y.name.toList) && decide (x.data = y.data)
def allTo (a b : List File) (k : Nat) : Bool := (List.range k).all fun j => sameFile (gt a j) (gt b j)
theorem allTo_succ (a b : List File) (k : Nat) : allTo a b (k + 1) = (allTo a b k && sameFile (gt a k) (gt b k)) := by
  unfold allTo
  rw [List.range_succ, List.all_append]
  simp
theorem allTo_false {a b : List File} {j k : Nat} (h : sameFile (gt a j) (gt b j) = false) (hj : j < k) : allTo a b k = false := by
  unfold allTo
  rw [Bool.eq_false_iff]
  intro ha
  have := List.all_eq_true.1 ha j (List.mem_range.2 hj)
  rw [h] at this
  cases this
def sameB (a b : List File) : Bool := decide (a.length = b.length) && allTo a b a.length
end Go.Proofs.YtnpnpgihbgohgaaDoor
namespace Go.Proofs.YtnpnpgihbgohgaaDoor
open Go.RowKit Go.Proofs.YtnpnpgihbgohgaaDoorW.PrintWords Go.Proofs.YtnpnpgihbgohgaaDoorW.PrintLast Go.Proofs.YtnpnpgihbgohgaaDoorW.PrintMore
set_option linter.unusedVariables false
set_option linter.unusedSimpArgs false

theorem sameFile_iff (x y : File) : sameFile x y = true ↔ nmL x = nmL y ∧ x.data = y.data := by
  unfold sameFile nmL
  rw [names_beq]
  simp
theorem sameB_iff (a b : List File) : sameB a b = true ↔ a.length = b.length ∧ ∀ k, k < a.length → nmL (gt a k) = nmL (gt b k) ∧ (gt a k).data = (gt b k).data := by
  unfold sameB allTo
  simp only [Bool.and_eq_true, decide_eq_true_eq, List.all_eq_true, List.mem_range, sameFile_iff]
theorem sameB_refl (a : List File) : sameB a a = true := (sameB_iff a a).2 ⟨rfl, fun _ _ => ⟨rfl, rfl⟩⟩
theorem name_ext {s t : ByteArray} (h : s.data.toList = t.data.toList) : s = t := by
  obtain ⟨⟨x⟩⟩ := s
  obtain ⟨⟨y⟩⟩ := t
  simp at h
  rw [h]
theorem sameB_eq {a b : List File} (h : sameB a b = true) : a = b := by
  obtain ⟨hl, he⟩ := (sameB_iff a b).1 h
  apply List.ext_getElem hl
  intro k h1 h2
  obtain ⟨e1, e2⟩ := he k h1
  rw [gt_eq a k h1, gt_eq b k h2] at e1 e2
  cases hx : a[k]
  cases hy : b[k]
  rw [hx, hy] at e1 e2
  simp only [nmL] at e1
  rw [name_ext e1]
  simpa using e2
/-! ### names -/
theorem okTo_all {s : ByteArray} {n : Nat} (h : okTo s n = true) (j : Nat) (hj : j < n) : okC (bt s (j : Int)) = true := by
  unfold okTo at h
  exact List.all_eq_true.1 h j (List.mem_range.2 hj)
theorem named_nz {s : ByteArray} (h : namedB s = true) : ∀ x ∈ s.data.toList, x ≠ 0 := by
  unfold namedB at h
  simp only [Bool.and_eq_true] at h
  intro x hx h0
  obtain ⟨j, hj, rfl⟩ := List.getElem_of_mem hx
  have hj' : j < s.size := by rw [Lib.size_eq]; exact hj
  have := okTo_all h.1.1 j hj'
  have e := bt_at s (j : Int) (by simpa using hj')
  rw [← e] at this
  have e2 : s[(j : Int).toNat]'(by simpa using hj') = s.data.toList[j] := by simp; rfl
  rw [e2, h0] at this
  exact absurd this (by decide)
def pad12 (s : List UInt8) : List UInt8 := (s ++ List.replicate 12 0).take 12
theorem pad12_eq (s : List UInt8) (h : s.length ≤ 12) : pad12 s = s ++ List.replicate (12 - s.length) 0 := by
  unfold pad12
  rw [List.take_append, List.take_of_length_le h, List.take_replicate, Nat.min_eq_left (by omega)]
theorem pad12_tw (s : List UInt8) (h : s.length ≤ 12) (hz : ∀ x ∈ s, x ≠ 0) : (pad12 s).takeWhile (fun x => x != 0) = s := by
  rw [pad12_eq s h, List.takeWhile_append_of_pos (by simpa using hz)]
  cases 12 - s.length with
  | zero => simp
  | succ n => simp [List.replicate_succ]
theorem pad12_inj {s t : List UInt8} (h1 : s.length ≤ 12) (h2 : t.length ≤ 12) (hs : ∀ x ∈ s, x ≠ 0) (ht : ∀ x ∈ t, x ≠ 0) (h : pad12 s = pad12 t) : s = t := by
  rw [← pad12_tw s h1 hs, ← pad12_tw t h2 ht, h]
theorem hilo_inj {n m : Nat} (hn : n ≤ 65535) (hm : m ≤ 65535) (h1 : hi2 n = hi2 m) (h2 : lo2 n = lo2 m) : n = m := by
  have e1 := congrArg UInt8.toNat h1
  have e2 := congrArg UInt8.toNat h2
  simp only [hi2, lo2, UInt8.toNat_ofNat'] at e1 e2
  omega
theorem entry_parts (x : File) (a : Nat) : (entryB x a).take 12 = pad12 (nmL x) ∧ (entryB x a)[12]? = some (hi2 x.data.length) ∧ (entryB x a)[13]? = some (lo2 x.data.length) := by
  have hl : (pad12 (nmL x)).length = 12 := by simp [pad12]
  have e : entryB x a = pad12 (nmL x) ++ ([hi2 x.data.length, lo2 x.data.length] ++ ((if 0 < x.data.length then [hi2 a, lo2 a] else [0, 0]) ++ List.replicate 16 0)) := by
    unfold entryB pad12 nmL
    simp only [List.append_assoc]
  rw [e]
  refine ⟨by rw [← hl, List.take_left], ?_, ?_⟩
  · rw [List.getElem?_append_right (by omega), hl]; rfl
  · rw [List.getElem?_append_right (by omega), hl]; rfl
/-! ### data -/
theorem dataB_gt (x : File) (j : Nat) (hj : j < x.data.length) : gt (gt (dataB x) (j / 32)) (j % 32) = gt x.data j := by
  have hq : j / 32 < manyN x.data.length := by unfold manyN; omega
  have e : gt (dataB x) (j / 32) = pad (chunk x.data (j / 32)) := by
    rw [gt_eq _ _ (by simpa [dataB] using hq)]
    simp [dataB]
  have hc : j % 32 < (chunk x.data (j / 32)).length := by rw [chunk_len]; omega
  rw [e, pad_eq _ (by rw [chunk_len]; omega)]
  have : gt (chunk x.data (j / 32) ++ List.replicate (32 - (chunk x.data (j / 32)).length) 0) (j % 32) = gt (chunk x.data (j / 32)) (j % 32) := by
    unfold gt
    simp only [List.getD_eq_getElem?_getD]
    rw [List.getElem?_append_left hc]
  rw [this, chunk_gt _ _ _ hc]
  congr 1
  omega
theorem dataB_inj {x y : File} (hl : x.data.length = y.data.length) (h : dataB x = dataB y) : x.data = y.data := by
  apply List.ext_getElem hl
  intro j h1 h2
  rw [← gt_eq x.data j h1, ← gt_eq y.data j h2, ← dataB_gt x j h1, ← dataB_gt y j h2, h]
theorem flatten_inj {α : Type} : ∀ {L M : List (List α)}, L.length = M.length → (∀ k : Nat, (L[k]?.map List.length) = (M[k]?.map List.length)) → L.flatten = M.flatten → L = M
  | [], [], _, _, _ => rfl
  | [], _ :: _, h, _, _ => by simp at h
  | _ :: _, [], h, _, _ => by simp at h
  | x :: L, y :: M, h, hk, hf => by
    have h0 := hk 0
    simp at h0
    simp only [List.flatten_cons] at hf
    obtain ⟨e1, e2⟩ := List.append_inj hf h0
    rw [e1, flatten_inj (by simpa using h) (fun k => by simpa using hk (k + 1)) e2]
theorem makeE_zero {l : List File} (h : makeE l = 0) : l.length ≤ 8 ∧ togB l = true ∧ makeV l = makeB l := by
  unfold makeE at h
  by_cases h8 : 8 < l.length
  · rw [if_pos h8] at h; cases h
  · rw [if_neg h8] at h
    cases ht : togB l
    · rw [ht] at h; cases h
    · exact ⟨by omega, rfl, by unfold makeV; rw [if_neg h8, ht]; rfl⟩
theorem tog_named {l : List File} (h : togB l = true) (k : Nat) (hk : k < l.length) : namedB (gt l k).name = true := by
  have := togTo_right h k hk
  unfold rightB at this
  simp only [Bool.and_eq_true] at this
  exact this.1
theorem makeB_inj {a b : List File} (ha : togB a = true) (hb : togB b = true) (ha8 : a.length ≤ 8) (hb8 : b.length ≤ 8) (h : makeB a = makeB b) : sameB a b = true := by
  unfold makeB at h
  rw [List.cons_append, List.cons_append, List.cons.injEq] at h
  obtain ⟨hh, ht⟩ := h
  have hlen : a.length = b.length := by
    have := congrArg (fun l => l[5]?) hh
    simp only [headB, magicB] at this
    simp at this
    have e := congrArg UInt8.toNat this
    simp only [UInt8.toNat_ofNat'] at e
    omega
  obtain ⟨hT, hD⟩ := List.append_inj ht (by simp [tableB, hlen])
  have hent : ∀ k, k < a.length → entryB (gt a k) (1 + a.length + blocksTo a k) = entryB (gt b k) (1 + b.length + blocksTo b k) := fun k hk => by
    have := congrArg (fun l => l[k]?) hT
    simpa [tableB, hk, show k < b.length by omega] using this
  have hname : ∀ k, k < a.length → nmL (gt a k) = nmL (gt b k) ∧ (gt a k).data.length = (gt b k).data.length := fun k hk => by
    obtain ⟨p1, p2, p3⟩ := entry_parts (gt a k) (1 + a.length + blocksTo a k)
    obtain ⟨q1, q2, q3⟩ := entry_parts (gt b k) (1 + b.length + blocksTo b k)
    rw [hent k hk] at p1 p2 p3
    have ra := tog_right ha k hk
    have rb := tog_right hb k (by omega)
    have la : (nmL (gt a k)).length ≤ 12 := by unfold nmL; rw [← Lib.size_eq]; exact ra.1
    have lb : (nmL (gt b k)).length ≤ 12 := by unfold nmL; rw [← Lib.size_eq]; exact rb.1
    refine ⟨pad12_inj la lb (named_nz (tog_named ha k hk)) (named_nz (tog_named hb k (by omega))) (p1.symm.trans q1), ?_⟩
    exact hilo_inj (by omega) (by omega) (Option.some.inj (p2.symm.trans q2)) (Option.some.inj (p3.symm.trans q3))
  have hdat : a.map dataB = b.map dataB := by
    refine flatten_inj (by simpa using hlen) (fun k => ?_) hD
    by_cases hk : k < a.length
    · have hkb : k < b.length := by omega
      have e := (hname k hk).2
      rw [gt_eq a k hk, gt_eq b k hkb] at e
      simp [hk, hkb, dataB, e]
    · rw [List.getElem?_eq_none (by simp; omega), List.getElem?_eq_none (by simp; omega)]
  rw [sameB_iff]
  refine ⟨hlen, fun k hk => ⟨(hname k hk).1, dataB_inj (hname k hk).2 ?_⟩⟩
  have := congrArg (fun l => l[k]?) hdat
  have hkb : k < b.length := by omega
  simp [hk, hkb] at this
  rw [gt_eq a k hk, gt_eq b k hkb]
  exact this
end Go.Proofs.YtnpnpgihbgohgaaDoor
