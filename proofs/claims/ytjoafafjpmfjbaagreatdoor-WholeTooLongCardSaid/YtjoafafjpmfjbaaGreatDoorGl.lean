/-
  WholeTooLong: letters, digits; how many bytes at a string's beginning are of a kind.
-/
import Derived.Test.YtjoafafjpmfjbaaGreatDoorGk
import Derived.Lib.Strings
import Derived.Lib.Slices
import Derived.Lib.Small
import Derived.Lib.Walk
namespace Go.Proofs.YtjoafafjpmfjbaaGreatDoor
open Go.RowKit Go.Shelf Go.Proofs.YtjoafafjpmfjbaaGreatDoorW.PrintWords Go.Proofs.YtjoafafjpmfjbaaGreatDoorW.PrintLast Go.Proofs.YtjoafafjpmfjbaaGreatDoorW.PrintMore
set_option linter.unusedVariables false
set_option linter.unusedSimpArgs false

def letB (c : Int) : Bool := decide (97 ≤ c) && decide (c ≤ 122)
def digB (c : Int) : Bool := decide (48 ≤ c) && decide (c ≤ 57)
def alnB (c : Int) : Bool := digB c || letB c
theorem letter_any (c : Int) (w : World) : Calls Tryz.prog 50 #[.int .u8 c] w fun e w' => e = .returned (.bool (letB c)) ∧ w = w' := by
  unfold letB
  by_cases h1 : 97 ≤ c
  · rw [decide_eq_true h1, Bool.true_and]
    have i1 : c ≥ 97 := h1
    by_cases h2 : c ≤ 122
    · rw [decide_eq_true h2]
      go_enter Tryz.func50, Tryz.ntmps50
      go_wp2_with fail
      go_ret
      exact ⟨rfl, rfl⟩
    · rw [decide_eq_false h2]
      go_enter Tryz.func50, Tryz.ntmps50
      go_wp2_with fail
      go_ret
      exact ⟨rfl, rfl⟩
  · rw [decide_eq_false h1, Bool.false_and]
    have i1 : ¬ (c ≥ 97) := h1
    go_enter Tryz.func50, Tryz.ntmps50
    go_wp2_with fail
    go_ret
    exact ⟨rfl, rfl⟩
theorem digit_any (c : Int) (w : World) : Calls Tryz.prog 52 #[.int .u8 c] w fun e w' => e = .returned (.bool (digB c)) ∧ w = w' := by
  unfold digB
  by_cases h1 : 48 ≤ c
  · rw [decide_eq_true h1, Bool.true_and]
    have i1 : c ≥ 48 := h1
    by_cases h2 : c ≤ 57
    · rw [decide_eq_true h2]
      go_enter Tryz.func52, Tryz.ntmps52
      go_wp2_with fail
      go_ret
      exact ⟨rfl, rfl⟩
    · rw [decide_eq_false h2]
      go_enter Tryz.func52, Tryz.ntmps52
      go_wp2_with fail
      go_ret
      exact ⟨rfl, rfl⟩
  · rw [decide_eq_false h1, Bool.false_and]
    have i1 : ¬ (c ≥ 48) := h1
    go_enter Tryz.func52, Tryz.ntmps52
    go_wp2_with fail
    go_ret
    exact ⟨rfl, rfl⟩
theorem aln_any (c : Int) (w : World) : Calls Tryz.prog 53 #[.int .u8 c] w fun e w' => e = .returned (.bool (alnB c)) ∧ w = w' := by
  have HD := Aside0.mk (digit_any c)
  have HL := Aside0.mk (letter_any c)
  unfold alnB
  obtain ⟨d, hd⟩ : ∃ d, d = digB c := ⟨_, rfl⟩
  obtain ⟨l, hl⟩ : ∃ l, l = letB c := ⟨_, rfl⟩
  rw [← hd] at HD ⊢
  rw [← hl] at HL ⊢
  clear hd hl
  cases d
  · go_enter Tryz.func53, Tryz.ntmps53
    go_wp2_with (first | (go_at_call 52; refine (HD.out _).mono ?_; rintro e w1 ⟨rfl, rfl⟩) | (go_at_call 50; refine (HL.out _).mono ?_; rintro e w1 ⟨rfl, rfl⟩))
    go_ret
    exact ⟨rfl, rfl⟩
  · go_enter Tryz.func53, Tryz.ntmps53
    go_wp2_with (first | (go_at_call 52; refine (HD.out _).mono ?_; rintro e w1 ⟨rfl, rfl⟩) | (go_at_call 50; refine (HL.out _).mono ?_; rintro e w1 ⟨rfl, rfl⟩))
    go_ret
    exact ⟨rfl, rfl⟩
theorem front_any (fid : FuncId) (p : Int → Bool) (hen : ∀ args w, (callFunc fid args).run Tryz.prog w = .ok (.enter fid args) w) (hf : ∀ c W, Calls Tryz.prog fid #[.int .u8 c] W fun e w' => e = .returned (.bool (p c)) ∧ W = w')
    (s : ByteArray) (n : Nat) (hs : s.size ≤ 1000000) (hn : n ≤ s.size) (hall : ∀ i : Nat, i < n → p (bt s (i : Int)) = true) (hend : n < s.size → p (bt s (n : Int)) = false) (w : World) :
    Calls Tryz.prog 51 #[.string s, .func (.func fid) #[] #[]] w fun e w' => e = .returned (.int .i64 n) ∧ w = w' := by
  have HALL := Aside0.mk hall
  have HEND := Aside0.mk hend
  have HF := Aside0.mk hf
  clear hall hend hf
  go_enter Tryz.func51, Tryz.ntmps51
  go_wp2_with fail
  go_loopg [5] n (fun gk i wr => ∃ k : Nat, k ≤ n ∧ Aside0 (gk = n - k) ∧ i = .int .i64 k ∧ wr = w)
  case atStart => exact ⟨0, Nat.zero_le _, ⟨rfl⟩, rfl, rfl⟩
  case round =>
    obtain ⟨k, hk, HGK, rfl, rfl⟩ := hrel
    by_cases hlt : k < n
    · have i1 : (k : Int) < (s.size : Int) := by omega
      obtain ⟨ch, hc⟩ : ∃ ch, bt s (k : Int) = ch := ⟨_, rfl⟩
      have hx : ∀ h : k < s.size, ((s[k]'h).toNat : Int) = ch := fun h => by have := bt_at s (k : Int) (by simpa using h); rw [← hc, ← this]; rfl
      have hp := HALL.out k hlt
      rw [hc] at hp
      have HP := Aside0.mk hp
      clear hc hp
      go_wp2_with (with_reducible refine (HF.out _ _).mono ?_; rw [HP.out]; rintro e w1 ⟨rfl, rfl⟩)
      go_roundg (n - (k + 1))
      case measure => have := HGK.out; omega
      case rel => exact ⟨k + 1, by omega, ⟨rfl⟩, by go_num, rfl⟩
    · obtain rfl : k = n := by omega
      by_cases hs2 : k < s.size
      · have i1 : (k : Int) < (s.size : Int) := by omega
        obtain ⟨ch, hc⟩ : ∃ ch, bt s (k : Int) = ch := ⟨_, rfl⟩
        have hx : ∀ h : k < s.size, ((s[k]'h).toNat : Int) = ch := fun h => by have := bt_at s (k : Int) (by simpa using h); rw [← hc, ← this]; rfl
        have hp := HEND.out hs2
        rw [hc] at hp
        have HP := Aside0.mk hp
        clear hc hp
        go_wp2_with (with_reducible refine (HF.out _ _).mono ?_; rw [HP.out]; rintro e w1 ⟨rfl, rfl⟩)
        go_ret
        exact ⟨rfl, rfl⟩
      · have i1 : ¬ (k : Int) < (s.size : Int) := by omega
        go_wp2_with fail
        go_ret
        exact ⟨rfl, rfl⟩
end Go.Proofs.YtjoafafjpmfjbaaGreatDoor
