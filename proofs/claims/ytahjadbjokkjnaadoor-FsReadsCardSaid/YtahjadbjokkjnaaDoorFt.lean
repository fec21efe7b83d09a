/-
  Chapter 49: blocks compared in a statement that draws its order; the disk of two lists of the same names and lengths; FsTable, walked.
-/
import Derived.Test.YtahjadbjokkjnaaDoorFs8
namespace Go.Proofs.YtahjadbjokkjnaaDoor
open Go.RowKit Go.Proofs.YtahjadbjokkjnaaDoorW.PrintWords Go.Proofs.YtahjadbjokkjnaaDoorW.PrintLast Go.Proofs.YtahjadbjokkjnaaDoorW.PrintMore
set_option linter.unusedVariables false
set_option linter.unusedSimpArgs false

theorem load_block_quiet {ops : Array Oper} {rest : List Oper} {op : Oper} {a : Act} {w : World} {Q : Act → Prop} (hw : Region.wanted op (yielded ops a.tmps) = true) (x : Operand) (ho : op.op = .load 40 x)
    (p : Addr) (hx : a.eval x = .pointer (some p)) (xs : List UInt8) (hl : xs.length = 32) (hc : ∀ j u, (bytesV xs)[j]? = some u → w.cell? (p.add j) = some u)
    (h : wpQuiet Tryd.prog ops (fun w' => ∃ n, w' = w.drewN n) Q rest (a.put op.dst (.agg (bytesV xs).toArray))) : wpQuiet Tryd.prog ops (fun w' => ∃ n, w' = w.drewN n) Q (op :: rest) a :=
  wpQuiet_step fun K hK => by
    rw [if_pos hw]
    refine ⟨_, fun w' hw' => ?_, hK _ h⟩
    obtain ⟨n, rfl⟩ := hw'
    have hc' : ∀ j u, (bytesV xs)[j]? = some u → (w.drewN n).cell? (p.add j) = some u := fun j u hu => hc j u hu
    unfold Oper.quietAt execOp
    simp only [ho, hx, Instr.loadAt, Instr.sureAddr, Sem.run_bind, Sem.run_pure, Result.andThen_ok, run_load_block p xs hl hc']
    exact ⟨rfl, rfl⟩
theorem byteR_cell {e base g n cap : Nat} {W : World} {ok : Nat → Prop} {xs : List UInt8} (h : byte.R e W base ok (.slice (some ⟨g, 0, none⟩) n cap) xs) (i : Nat) (hi : i < n) : W.cell? ⟨g, i, none⟩ = some (.int .u8 ((gt xs i).toNat : Int)) ∧ W.frozen? ⟨g, i, none⟩ = false := by
  obtain ⟨rfl, _, _⟩ := readsS h
  have := Kd.R_cell default h (i : Int) (by omega) (by omega)
  simpa [rdOf, gt] using this
theorem byteR_put {e base g n cap : Nat} {W : World} {ok : Nat → Prop} {xs : List UInt8} (h : byte.R e W base ok (.slice (some ⟨g, 0, none⟩) n cap) xs) (i : Nat) (x : UInt8) : byte.R e (W.setCell ⟨g, i, none⟩ (.int .u8 (x.toNat : Int))) base ok (.slice (some ⟨g, 0, none⟩) n cap) (xs.set i x) := by
  obtain ⟨rfl, _, _⟩ := readsS h
  exact (Kd.R_put h (i : Int) x).1
theorem R_formV {α : Type} {d : Kd α} {e base n c : Nat} {W : World} {ok : Nat → Prop} {A : Option Addr} {xs : List α} (h : d.R e W base ok (.slice A n c) xs) (hn : 0 < n) : ∃ g, A = some ⟨g, 0, none⟩ ∧ base ≤ g ∧ g < W.heap.size := by
  obtain ⟨A', c', he, _, _⟩ := Kd.R_reads h
  cases he
  obtain ⟨g, cap, he, h1, h2, _⟩ := Kd.R_form h hn
  cases he
  exact ⟨g, rfl, h1, h2⟩
theorem readsS' {α : Type} {d : Kd α} {e : Nat} {w : World} {base n c : Nat} {ok : Nat → Prop} {A : Option Addr} {xs : List α} (h : d.R e w base ok (.slice A n c) xs) : d.C w A xs.length xs := by
  obtain ⟨A', c', he, hl, hC⟩ := Kd.R_reads h
  cases he
  exact hC
/-- n bytes, the first k of them written. -/
def stg (x : UInt8) (n k : Nat) : List UInt8 := List.replicate k x ++ List.replicate (n - k) 0
theorem stg_zero (x : UInt8) (n : Nat) : stg x n 0 = List.replicate n 0 := by simp [stg]
theorem stg_full (x : UInt8) (n : Nat) : stg x n n = List.replicate n x := by simp [stg]
theorem stg_set (x : UInt8) (n k : Nat) (h : k < n) : (stg x n k).set k x = stg x n (k + 1) := by
  unfold stg
  rw [List.set_append_right _ _ (by simp), List.length_replicate, Nat.sub_self, show n - k = (n - (k + 1)) + 1 by omega, List.replicate_succ, List.set_cons_zero, List.replicate_succ']
  simp
/-! ### the plain law -/
def sameFace (x y : File) : Prop := x.name = y.name ∧ x.data.length = y.data.length
theorem right_face {x y : File} (h : sameFace x y) : rightB x = rightB y := by unfold rightB; rw [h.1, h.2]
theorem togTo_face {l m : List File} (hl : l.length = m.length) (h : ∀ k, k < l.length → sameFace (gt l k) (gt m k)) : ∀ k, k ≤ l.length → togTo l k = togTo m k ∧ (l.take k).map nmL = (m.take k).map nmL := by
  intro k
  induction k with
  | zero => intro _; exact ⟨rfl, rfl⟩
  | succ k ih =>
    intro hk
    obtain ⟨h1, h2⟩ := ih (by omega)
    have hf := h k (by omega)
    have hn : nmL (gt l k) = nmL (gt m k) := by unfold nmL; rw [hf.1]
    refine ⟨?_, ?_⟩
    · unfold togTo
      rw [h1, h2, right_face hf, hn]
    · rw [List.take_add_one, List.take_add_one, gt_some l k (by omega), gt_some m k (by omega), List.map_append, List.map_append, h2]
      simp [hn]
theorem blocksTo_face {l m : List File} (hl : l.length = m.length) (h : ∀ k, k < l.length → sameFace (gt l k) (gt m k)) : ∀ k, k ≤ l.length → blocksTo l k = blocksTo m k := by
  intro k
  induction k with
  | zero => intro _; rfl
  | succ k ih =>
    intro hk
    have h1 := ih (by omega)
    unfold blocksTo at h1 ⊢
    rw [List.take_add_one, List.take_add_one, gt_some l k (by omega), gt_some m k (by omega), List.map_append, List.map_append, List.sum_append, List.sum_append, h1]
    simp [(h k (by omega)).2]
theorem table_face {l m : List File} (hl : l.length = m.length) (h : ∀ k, k < l.length → sameFace (gt l k) (gt m k)) : tableB l = tableB m := by
  unfold tableB
  rw [← hl]
  apply List.map_congr_left
  intro i hi
  have hi' : i < l.length := List.mem_range.1 hi
  have hf := h i hi'
  rw [blocksTo_face hl h i (by omega)]
  unfold entryB
  rw [hf.1, hf.2]
theorem makeB_len (l : List File) : (makeB l).length = 1 + l.length + blocksTo l l.length := by
  have := outTo_len l l.length (Nat.le_refl _)
  rw [outTo_full] at this
  unfold makeB
  simpa using this
/-- Two lists of the same names and lengths: the disks have one length, and one head and table. -/
theorem make_face {l m : List File} (hl : l.length = m.length) (h : ∀ k, k < l.length → sameFace (gt l k) (gt m k)) :
    makeE l = makeE m ∧ (makeV l).length = (makeV m).length ∧ ∀ i, i ≤ l.length → gt (makeV l) i = gt (makeV m) i := by
  have ht : togB l = togB m := by unfold togB; rw [← hl]; exact (togTo_face hl h l.length (Nat.le_refl _)).1
  have hT := table_face hl h
  unfold makeE makeV
  rw [← ht, ← hl]
  refine ⟨rfl, ?_, ?_⟩
  · by_cases h8 : 8 < l.length
    · simp only [if_pos h8]
    · simp only [if_neg h8]
      cases togB l
      · rfl
      · simp only [if_true]
        rw [makeB_len, makeB_len, ← hl, blocksTo_face hl h _ (Nat.le_refl _)]
  · intro i hi
    by_cases h8 : 8 < l.length
    · simp only [if_pos h8]
    · simp only [if_neg h8]
      cases togB l
      · rfl
      · simp only [if_true]
        have hlen : ∀ q : List File, q.length = l.length → ∀ t, tableB q = t → gt (makeB q) i = gt (headB magicB l.length (sumT t) :: t) i := by
          intro q hq t hqt
          unfold makeB gt
          rw [hqt, hq]
          simp only [List.getD_eq_getElem?_getD]
          rw [List.cons_append]
          congr 1
          rcases i with _ | i
          · rfl
          · rw [List.getElem?_cons_succ, List.getElem?_cons_succ, List.getElem?_append_left (by rw [← hqt]; simp [tableB]; omega)]
        rw [hlen l rfl _ rfl, hlen m hl.symm _ hT.symm]
end Go.Proofs.YtahjadbjokkjnaaDoor
