/-
  Chapter 51: a new file is no disaster; a storm of names is seen. Plain.
-/
import Derived.Test.YtoglbbonfjnmpaaDoorPj
namespace Go.Proofs.YtoglbbonfjnmpaaDoor
open Go.RowKit Go.Proofs.YtoglbbonfjnmpaaDoorW.PrintWords Go.Proofs.YtoglbbonfjnmpaaDoorW.PrintLast Go.Proofs.YtoglbbonfjnmpaaDoorW.PrintMore
set_option linter.unusedVariables false
set_option linter.unusedSimpArgs false

theorem pfx_self (s : ByteArray) : pfxB s s = true := by
  unfold pfxB
  exact decide_eq_true ⟨Nat.le_refl _, ByteArray.extract_zero_size⟩
theorem look_some_name {l : List File} {nm : ByteArray} {f : File} (h : look49 l nm = some f) : ∃ k, k < l.length ∧ f = gt l k ∧ (gt l k).name = nm := by
  obtain ⟨k, hk, rfl⟩ := look_mem h
  exact ⟨k, hk, rfl, by rw [name_of_look h]⟩
theorem look_app (l : List File) (x : File) (nm : ByteArray) (h : x.name ≠ nm) : look49 (l ++ [x]) nm = look49 l nm := by
  rw [look_dec, look_dec, List.find?_append]
  have : List.find? (fun f => decide (f.name = nm)) [x] = none := by simp [h]
  rw [this]
  simp
theorem lkTo_all (before now : List File) (right : Bool) : lkTo before now right now.length = now.foldl (lkStep before) ⟨!right, 0, 0⟩ := by
  unfold lkTo
  rw [List.take_length]
theorem new_ren (before now : List File) (x : File) (h : ∀ k, k < before.length → pfxB x.name (gt before k).name = false) : renN before (now ++ [x]) = renN before now := by
  have key : ∀ k, k ≤ before.length → renTo before (now ++ [x]) k = renTo before now k := by
    intro k
    induction k with
    | zero => intro _; rfl
    | succ k ih =>
      intro hk
      have hp := h k (by omega)
      have hne : x.name ≠ (gt before k).name := fun e => by rw [← e, pfx_self] at hp; cases hp
      have h1 : renOne before (now ++ [x]) (gt before k) = renOne before now (gt before k) := by
        unfold renOne
        have ha : hasB (now ++ [x]) (gt before k).name = hasB now (gt before k).name := by rw [has_look, has_look, look_app now x _ hne]
        rw [ha, List.any_append]
        have hb : [x].any (newB before (gt before k).name) = false := by
          simp only [List.any_cons, List.any_nil, Bool.or_false]
          unfold newB
          rw [hp]
          rfl
        rw [hb, Bool.or_false]
      unfold renTo
      rw [ih (by omega), h1]
  exact key before.length (Nat.le_refl _)
theorem new_look (before now : List File) (x : File) (right : Bool) (h : ∀ k, k < before.length → pfxB x.name (gt before k).name = false) : lookB before (now ++ [x]) right = lookB before now right := by
  have hn : look49 before x.name = none := by
    cases hl : look49 before x.name with
    | none => rfl
    | some f =>
      obtain ⟨k, hk, _, hkn⟩ := look_some_name hl
      have := h k hk
      rw [hkn, pfx_self] at this
      cases this
  have hlk : lkTo before (now ++ [x]) right (now ++ [x]).length = lkTo before now right now.length := by
    rw [lkTo_all, lkTo_all, List.foldl_append]
    show lkStep before _ x = _
    unfold lkStep
    rw [hn]
  unfold lookB
  rw [hlk, new_ren before now x h]
/-! ### a storm of names -/
def sfxF (sx : ByteArray) (f : File) : File := ⟨f.name ++ sx, f.data⟩
theorem pfx_app (a b : ByteArray) : pfxB (a ++ b) a = true := by
  unfold pfxB
  refine decide_eq_true ⟨by rw [ByteArray.size_append]; omega, ?_⟩
  exact ByteArray.extract_append_eq_left rfl
theorem gt_map {α β : Type} [Inhabited α] [Inhabited β] (f : α → β) (l : List α) (k : Nat) (hk : k < l.length) : gt (l.map f) k = f (gt l k) := by
  rw [gt_eq (l.map f) k (by simpa using hk), gt_eq l k hk]
  simp
theorem has_false {l : List File} {nm : ByteArray} (h : ∀ k, k < l.length → (gt l k).name ≠ nm) : hasB l nm = false := by
  rw [has_look]
  cases hl : look49 l nm with
  | none => rfl
  | some f =>
    obtain ⟨k, hk, _, hkn⟩ := look_some_name hl
    exact absurd hkn (h k hk)
theorem storm_ren (l : List File) (sx : ByteArray) (h : ∀ i k, i < l.length → k < l.length → (gt l k).name ≠ (gt l i).name ++ sx) : renN l (l.map (sfxF sx)) = l.length := by
  have key : ∀ k, k ≤ l.length → renTo l (l.map (sfxF sx)) k = k := by
    intro k
    induction k with
    | zero => intro _; rfl
    | succ k ih =>
      intro hk
      have h1 : hasB (l.map (sfxF sx)) (gt l k).name = false := has_false (fun i hi => by
        have hi' : i < l.length := by simpa using hi
        rw [gt_map _ l i hi']
        exact fun e => h i k hi' (by omega) e.symm)
      have h2 : (l.map (sfxF sx)).any (newB l (gt l k).name) = true := by
        refine any_take_last (k := k) (by rw [List.length_map]; omega) ?_
        rw [gt_map _ l k (by omega)]
        unfold newB
        show (pfxB ((gt l k).name ++ sx) (gt l k).name && !hasB l ((gt l k).name ++ sx)) = true
        rw [pfx_app, has_false (fun i hi => h k i (by omega) hi)]
        rfl
      unfold renTo renOne
      rw [ih (by omega), h1, h2]
      rfl
  exact key l.length (Nat.le_refl _)
theorem storm_look (l : List File) (sx : ByteArray) (h2 : 2 ≤ l.length) (h : ∀ i k, i < l.length → k < l.length → (gt l k).name ≠ (gt l i).name ++ sx) : (lookB l (l.map (sfxF sx)) true).c = true := by
  unfold lookB
  show halfB (renN l (l.map (sfxF sx))) l.length 2 = true
  rw [storm_ren l sx h]
  unfold halfB
  rw [decide_eq_true h2, decide_eq_true (by omega)]
  rfl
end Go.Proofs.YtoglbbonfjnmpaaDoor
