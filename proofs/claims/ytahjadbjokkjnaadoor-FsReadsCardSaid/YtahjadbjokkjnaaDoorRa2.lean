/-
  Chapter 49, FsReads: what is read where only the map has turned; the range over the map, one step.
-/
import Derived.Test.YtahjadbjokkjnaaDoorRa1
namespace Go.Proofs.YtahjadbjokkjnaaDoor
open Go.RowKit Go.Proofs.YtahjadbjokkjnaaDoorW.PrintWords Go.Proofs.YtahjadbjokkjnaaDoorW.PrintLast Go.Proofs.YtahjadbjokkjnaaDoorW.PrintMore
set_option linter.unusedVariables false
set_option linter.unusedSimpArgs false

theorem byteC_map {w0 W : World} {mb n : Nat} (hm : Cnt w0 mb n) (hg : w0.grownBy W (some mb)) {A : Option Addr} {k : Nat} {xs : List UInt8} (h : byte.C w0 A k xs) : byte.C W A k xs := by
  obtain ⟨h1, h2, h3⟩ := h
  refine ⟨h1, h2, fun hn => ?_⟩
  obtain ⟨ad, e, hc⟩ := h3 hn
  refine ⟨ad, e, fun j p hj => ?_⟩
  obtain ⟨cs, hk, hl, hcell⟩ := hc j p hj
  exact ⟨cs, hk, hl, fun i u hu => map_cell hm hg (hcell i u hu)⟩
theorem blockC_map {w0 W : World} {mb n : Nat} (hm : Cnt w0 mb n) (hg : w0.grownBy W (some mb)) {A : Option Addr} {k : Nat} {xs : List (List UInt8)} (h : kBlock.C w0 A k xs) : kBlock.C W A k xs := by
  obtain ⟨h1, h2, h3⟩ := h
  refine ⟨h1, h2, fun hn => ?_⟩
  obtain ⟨ad, e, hc⟩ := h3 hn
  refine ⟨ad, e, fun j p hj => ?_⟩
  obtain ⟨cs, hk, hl, hcell⟩ := hc j p hj
  exact ⟨cs, hk, kBlock.K_of_M (block_KM (W := W) (base := 0) (ok := fun _ => True) hl), fun i u hu => map_cell hm hg (hcell i u hu)⟩
theorem key_inv {v : Value} {i : Nat} (h : keyOf Tryd.prog 3 v = some (.int .i64 (i : Int))) : v = .int .i64 (i : Int) := by
  have hk := Tryd.underlying3
  cases v <;> simp [keyOf, hk, mapKey] at h
  obtain ⟨⟨rfl, _⟩, e⟩ := h
  rw [e]
/-- One step of the range over the map. -/
theorem cnt_next {W : World} {b r m : Nat} {D : DataW Unit} {left : Lit → Bool} {cnt : Nat} {N : Nat} (h : W.ranges Tryd.prog 3 (plainElem Tryd.prog 3) b r N D left cnt) (hD : CntD D m) (hsub : ∀ kl, left kl = true → Maps.has D kl = true) (ty : TypeId) :
    (Instr.next (.pointer (some ⟨r, 0, none⟩)) false ty).run Tryd.prog W = .ok (.tuple #[.bool false]) W ∨
    ∃ (i : Nat) (w' : World) (cnt' : Nat) (left' : Lit → Bool), i < m ∧ (Instr.next (.pointer (some ⟨r, 0, none⟩)) false ty).run Tryd.prog W = .ok (.tuple #[.bool true, .int .i64 (i : Int), .int .i64 1]) w' ∧
      w'.ranges Tryd.prog 3 (plainElem Tryd.prog 3) b r N D left' cnt' ∧ (∀ kl, left' kl = true → Maps.has D kl = true) ∧ cnt' < cnt ∧ W.grownBy w' (some r) ∧
      (Instr.entry (.pointer (some ⟨r, 0, none⟩))).run Tryd.prog w' = .ok (.tuple #[.int .i64 (i : Int), .int .i64 1]) w' := by
  rcases h.next (Maps.int_keyed Tryd.underlying3) ty with ⟨_, _, hrun⟩ | ⟨key, v, kl, y, w', cnt', hkey, hleft, hv, hat, hrun, hr, hc, hg, _, hent⟩
  · exact .inl hrun
  · obtain ⟨i, hi, rfl⟩ := hD.1 kl (hsub kl hleft)
    obtain rfl := key_inv hkey
    obtain ⟨a, rfl, hy, _⟩ := plainElem_int_inv Tryd.underlying3 hv
    have h1 := hat (.lit (.int .i64 0))
    rw [hD.2 i hi, hy] at h1
    have ha : a = 1 := by injection h1 with e; injection e with _ e; exact e.symm
    subst ha
    exact .inr ⟨i, w', cnt', _, hi, hrun, hr, fun kl hk => hsub kl (by simp only [Bool.and_eq_true] at hk; exact hk.1), hc, hg, hent⟩
/-- The range begins. -/
theorem cnt_range {W : World} {b m : Nat} (h : Cnt W b m) :
    ∃ (D : DataW Unit) (left : Lit → Bool) (cnt : Nat) (w' : World), CntD D m ∧ (Instr.range 44 (.map (some b))).run Tryd.prog W = .ok (.pointer (some ⟨W.heap.size, 0, none⟩)) w' ∧
      w'.ranges Tryd.prog 3 (plainElem Tryd.prog 3) b W.heap.size m D left cnt ∧ (∀ kl, left kl = true → Maps.has D kl = true) ∧ W.grownBy w' none := by
  obtain ⟨D, ho, hD⟩ := h
  obtain ⟨w', h1, h2, h3, _⟩ := ho.range (Maps.int_keyed Tryd.underlying3) Tryd.underlying44
  exact ⟨D, _, _, w', hD, h1, h2, fun _ h => h, h3⟩
end Go.Proofs.YtahjadbjokkjnaaDoor
