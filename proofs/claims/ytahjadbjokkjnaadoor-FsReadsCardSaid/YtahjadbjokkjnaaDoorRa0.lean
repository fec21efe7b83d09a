/-
  Chapter 49, FsReads: the law's map of how often each block was asked for.
-/
import Derived.Test.YtahjadbjokkjnaaDoorRr3
import Derived.Maps.OwnSet
import Derived.Maps.Views
import Derived.Maps.Range
namespace Go.Proofs.YtahjadbjokkjnaaDoor
open Go.RowKit Go.Proofs.YtahjadbjokkjnaaDoorW.PrintWords Go.Proofs.YtahjadbjokkjnaaDoorW.PrintLast Go.Proofs.YtahjadbjokkjnaaDoorW.PrintMore
set_option linter.unusedVariables false
set_option linter.unusedSimpArgs false

theorem zero_int (w : World) : (zeroValue 3).run Tryd.prog w = .ok (.int .i64 0) w := by kernel_rfl
theorem key_int (n : Nat) (hn : n ≤ 1000) : keyOf Tryd.prog 3 (.int .i64 (n : Int)) = some (.int .i64 (n : Int)) := Maps.keyOf_int_mk Tryd.underlying3 (by
  simp [Lit.wf, IntKind.min, IntKind.max, IntKind.bits, IntKind.signed]
  try omega)
/-- A map that holds the first n numbers, each with 1. -/
def CntD (D : DataW Unit) (n : Nat) : Prop := (∀ kl, Maps.has D kl = true → ∃ i : Nat, i < n ∧ kl = .int .i64 (i : Int)) ∧ ∀ i : Nat, i < n → ∀ z, D.atKey (.int .i64 (i : Int)) z = .lit (.int .i64 1)
def Cnt (w : World) (b n : Nat) : Prop := ∃ D : DataW Unit, w.ownsMap Tryd.prog 3 (plainElem Tryd.prog 3) b n D ∧ CntD D n
theorem Cnt.made (w : World) : Cnt (w.alloc (.map #[] 0)) w.heap.size 0 :=
  ⟨.map [], World.ownsMap_made w _ _ _, fun kl h => by simp [Maps.has] at h, fun i h => absurd h (Nat.not_lt_zero i)⟩
theorem Cnt.below {w w1 : World} {b n N : Nat} (h : Cnt w b n) (hbn : b < N) (hb : Below N w w1) : Cnt w1 b n := by
  obtain ⟨D, ho, hD⟩ := h
  have hlt := ho.lt
  obtain ⟨es, clock, hbk, F, hs, hDe⟩ := ho
  exact ⟨D, ⟨es, clock, (hb.block b hbn).trans hbk, F, hs, hDe⟩, hD⟩
/-- One more block is asked for. -/
theorem Cnt.put {w : World} {b n : Nat} (h : Cnt w b n) (hn : n ≤ 1000) :
    (Instr.lookup 44 (.map (some b)) (.int .i64 (n : Int)) false).run Tryd.prog w = .ok (.int .i64 0) w ∧
    ∃ w', (Instr.mapUpdate 44 (.map (some b)) (.int .i64 (n : Int)) (.int .i64 1)).run Tryd.prog w = .ok () w' ∧ Cnt w' b (n + 1) ∧ w.grownBy w' (some b) := by
  obtain ⟨D, ho, hh, hA⟩ := h
  have hno : Maps.has D (.int .i64 (n : Int)) = false := by
    cases hq : Maps.has D (.int .i64 (n : Int))
    · rfl
    · obtain ⟨i, hi, e⟩ := hh _ hq
      injection e with _ e
      omega
  obtain ⟨c, hrun, hat, _⟩ := ho.lookup_int (Maps.int_keyed Tryd.underlying3) Tryd.underlying44 Tryd.underlying3 (zero_int w) (key_int n hn)
  rw [Maps.atKey_of_not_has hno] at hat
  have hc : c = 0 := by injection hat with e; injection e with _ e; exact e.symm
  subst hc
  obtain ⟨w', h1, h2, h3⟩ := ho.update (Maps.int_keyed Tryd.underlying3) Tryd.underlying44 (by unfold maxLen; omega) (key_int n hn) (plainElem_int (H := Unit) Tryd.underlying3 (a := 1) (by decide))
  refine ⟨hrun, w', h1, ⟨_, h2, fun kl hk => ?_, fun i hi z => ?_⟩, h3⟩
  · by_cases he : kl = .int .i64 (n : Int)
    · exact ⟨n, by omega, he⟩
    · rw [Maps.has_put_other he] at hk
      obtain ⟨i, hi, e⟩ := hh _ hk
      exact ⟨i, by omega, e⟩
  · by_cases he : i = n
    · subst he
      exact Maps.atKey_put_same ho.isMap (by first | trivial | exact ⟨_, rfl⟩ | constructor) _ _
    · rw [Maps.atKey_put_other (fun e => he (by injection e with _ e; omega))]
      exact hA i (by omega) z
end Go.Proofs.YtahjadbjokkjnaaDoor
