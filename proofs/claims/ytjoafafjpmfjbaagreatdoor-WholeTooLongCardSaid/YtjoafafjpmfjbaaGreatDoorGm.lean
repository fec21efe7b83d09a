/-
  WholeTooLong: the variable caltok.units; a time's minutes.
-/
import Derived.Test.YtjoafafjpmfjbaaGreatDoorGl
import Derived.Maps.OwnSet
import Derived.Maps.Views
import Derived.Maps.Range
import Derived.Maps.RangeWalk
namespace Go.Proofs.YtjoafafjpmfjbaaGreatDoor
open Go.RowKit Go.Shelf Go.Proofs.YtjoafafjpmfjbaaGreatDoorW.PrintWords Go.Proofs.YtjoafafjpmfjbaaGreatDoorW.PrintLast Go.Proofs.YtjoafafjpmfjbaaGreatDoorW.PrintMore
set_option linter.unusedVariables false
set_option linter.unusedSimpArgs false

/-- The variable: a map that tells of 'h' and of 'd'. -/
def UnitsAt (W : World) (b : Nat) : Prop := W.cell? ⟨0, 0, none⟩ = some (.map (some b)) ∧ b < W.heap.size ∧ ∀ W' : World, W'.heap[b]? = W.heap[b]? →
  (Instr.lookup 139 (.map (some b)) (.int .u8 104) true).run Tryz.prog W' = .ok (.tuple #[.int .i64 60, .bool true]) W' ∧ (Instr.lookup 139 (.map (some b)) (.int .u8 100) true).run Tryz.prog W' = .ok (.tuple #[.int .i64 1440, .bool true]) W'
theorem UnitsAt.below {W W' : World} {b : Nat} (h : UnitsAt W b) (hb : Below W.heap.size W W') : UnitsAt W' b := by
  have e := hb.block b h.2.1
  exact ⟨cell_old hb h.1, Nat.lt_of_lt_of_le h.2.1 hb.size, fun W2 h2 => h.2.2 W2 (h2.trans e)⟩
/-- What '1h', '1d' are. -/
def timB (c : UInt8) : ByteArray := ⟨#[49, c]⟩
set_option maxHeartbeats 800000 in
set_option maxHeartbeats 800000 in
set_option maxRecDepth 20000 in
theorem min_1h (b : Nat) (w : World) (h : UnitsAt w b) : Calls Tryz.prog 54 #[.string ⟨#[49, 104]⟩] w fun e w' => e = .returned (.tuple #[.int .i64 60, .bool true]) ∧ Below w.heap.size w w' := by
  have h0 := h.1
  have h1 := fun n => (h.2.2 (w.drewN n) rfl).1
  have hw1 : IntKind.i64.wrap 1 = 1 := by decide
  have hw2 : IntKind.i64.wrap 60 = 60 := by decide
  have hw3 : IntKind.u8.wrap 1 = 1 := by decide
  have g0 : (((⟨#[49, 104]⟩ : ByteArray)[0]'(by decide)).toNat : Int) = 49 := rfl
  have g1 : (((⟨#[49, 104]⟩ : ByteArray)[1]'(by decide)).toNat : Int) = 104 := rfl
  have HD := Aside0.mk (digit_any 49)
  rw [show digB 49 = true by decide] at HD
  clear h
  go_enter Tryz.func54, Tryz.ntmps54
  go_upto_region 3 with fail
  go_quiet (fail)
  go_wp2_with fail
  go_loopg [6, 7] 2 (fun gk v6 v7 wr => wr = w.drewN nq ∧ ((gk = 2 ∧ v6 = .int .i64 0 ∧ v7 = .int .i64 0) ∨ (gk = 1 ∧ v6 = .int .i64 1 ∧ v7 = .int .i64 1)))
  case atStart => exact ⟨rfl, .inl ⟨rfl, rfl, rfl⟩⟩
  case round =>
    obtain ⟨rfl, (⟨rfl, rfl, rfl⟩ | ⟨rfl, rfl, rfl⟩)⟩ := hrel
    · go_wp2_with (go_at_call 52; refine (HD.out _).mono ?_; rintro e w1 ⟨rfl, rfl⟩)
      go_roundg 1
      case measure => omega
      case rel => exact ⟨rfl, .inr ⟨rfl, rfl, rfl⟩⟩
    · go_wp2_with fail
      go_ret2
      exact ⟨rfl, pw_below_drewN (Below.refl _ _) _⟩
set_option maxHeartbeats 800000 in
set_option maxRecDepth 20000 in
theorem min_1d (b : Nat) (w : World) (h : UnitsAt w b) : Calls Tryz.prog 54 #[.string ⟨#[49, 100]⟩] w fun e w' => e = .returned (.tuple #[.int .i64 1440, .bool true]) ∧ Below w.heap.size w w' := by
  have h0 := h.1
  have h1 := fun n => (h.2.2 (w.drewN n) rfl).2
  have hw1 : IntKind.i64.wrap 1 = 1 := by decide
  have hw2 : IntKind.i64.wrap 1440 = 1440 := by decide
  have hw3 : IntKind.u8.wrap 1 = 1 := by decide
  have g0 : (((⟨#[49, 100]⟩ : ByteArray)[0]'(by decide)).toNat : Int) = 49 := rfl
  have g1 : (((⟨#[49, 100]⟩ : ByteArray)[1]'(by decide)).toNat : Int) = 100 := rfl
  have HD := Aside0.mk (digit_any 49)
  rw [show digB 49 = true by decide] at HD
  clear h
  go_enter Tryz.func54, Tryz.ntmps54
  go_upto_region 3 with fail
  go_quiet (fail)
  go_wp2_with fail
  go_loopg [6, 7] 2 (fun gk v6 v7 wr => wr = w.drewN nq ∧ ((gk = 2 ∧ v6 = .int .i64 0 ∧ v7 = .int .i64 0) ∨ (gk = 1 ∧ v6 = .int .i64 1 ∧ v7 = .int .i64 1)))
  case atStart => exact ⟨rfl, .inl ⟨rfl, rfl, rfl⟩⟩
  case round =>
    obtain ⟨rfl, (⟨rfl, rfl, rfl⟩ | ⟨rfl, rfl, rfl⟩)⟩ := hrel
    · go_wp2_with (go_at_call 52; refine (HD.out _).mono ?_; rintro e w1 ⟨rfl, rfl⟩)
      go_roundg 1
      case measure => omega
      case rel => exact ⟨rfl, .inr ⟨rfl, rfl, rfl⟩⟩
    · go_wp2_with fail
      go_ret2
      exact ⟨rfl, pw_below_drewN (Below.refl _ _) _⟩
end Go.Proofs.YtjoafafjpmfjbaaGreatDoor
