/-
  Chapter 50, plain laws of the history: no program in sight but the specifications of the walks.
-/
import Derived.Test.YtjogpfijkhhloaaAwake
namespace Go.Proofs.Ytjogpfijkhhloaa
open Go.RowKit Go.Proofs.YtjogpfijkhhloaaW.PrintWords Go.Proofs.YtjogpfijkhhloaaW.PrintLast Go.Proofs.YtjogpfijkhhloaaW.PrintMore
set_option linter.unusedVariables false
set_option linter.unusedSimpArgs false

theorem look_at {l : List Seen} (hS : Small l) {k : Nat} (hk : k < l.length) : look l (gt l k).moment = some (gt l k) :=
  find_first _ l k hk (by simp) (fun j hj => by simpa using hS.apart k hk j hj)
theorem gt_map {α β : Type} [Inhabited α] [Inhabited β] (f : α → β) (l : List α) (k : Nat) (hk : k < l.length) : gt (l.map f) k = f (gt l k) := by
  rw [gt_eq _ _ (by simpa using hk), gt_eq _ _ hk]; simp
theorem ofSpec_at {l : List Seen} (hS : Small l) (nm : ByteArray) {k : Nat} (hk : k < l.length) : ofSpec (tells l) nm ((l.map Seen.moment).take (k + 1)) =
    ofStep (fun _ => (filesOf (some (gt l k)), (gt l k).told)) nm (ofSpec (tells l) nm ((l.map Seen.moment).take k)) (gt l k).moment := by
  rw [ofSpec_succ _ _ _ _ (by simpa using hk), gt_map _ _ _ hk]
  unfold ofStep tells
  rw [look_at hS hk]
  rfl
/-- A name that no file bears. -/
theorem look49_none (o : Option Seen) (nm : ByteArray) (h1 : (nm.toList == [97]) = false) (h2 : (nm.toList == [98]) = false) : look49 (filesOf o) nm = none := by
  have e1 : nmA.toList = [97] := by simp [nmA]
  have e2 : nmB.toList = [98] := by simp [nmB]
  have h1' : ¬ nm.toList = [97] := by simpa using h1
  have h2' : ¬ nm.toList = [98] := by simpa using h2
  unfold look49
  rw [List.find?_eq_none]
  intro x hx
  have hx' : x.name = nmA ∨ x.name = nmB := by
    cases o with
    | none => simp [filesOf] at hx
    | some s =>
      unfold filesOf at hx
      simp only at hx
      split at hx
      · simp only [List.mem_cons, List.not_mem_nil, or_false] at hx
        rcases hx with rfl | rfl
        · exact .inr rfl
        · exact .inl rfl
      · simp only [List.mem_cons, List.not_mem_nil, or_false] at hx
        subst hx
        exact .inr rfl
  rcases hx' with e | e
  · rw [e, e1]; simp only [beq_iff_eq]; exact fun h => h1' h.symm
  · rw [e, e2]; simp only [beq_iff_eq]; exact fun h => h2' h.symm
theorem any_take_succ (l : List Seen) (k : Nat) (hk : k < l.length) : (l.take (k + 1)).any Seen.told = ((l.take k).any Seen.told || (gt l k).told) := by
  rw [List.take_add_one, gt_some l k hk]
  simp
theorem none_to {l : List Seen} (hS : Small l) (nm : ByteArray) (h1 : (nm.toList == [97]) = false) (h2 : (nm.toList == [98]) = false) (k : Nat) (hk : k ≤ l.length) :
    ((l.take k).any Seen.told = false ∧ ofSpec (tells l) nm ((l.map Seen.moment).take k) = []) ∨ ((l.take k).any Seen.told = true ∧ ∃ m, ofSpec (tells l) nm ((l.map Seen.moment).take k) = [⟨m, false, []⟩]) := by
  induction k with
  | zero => left; simp [ofSpec]
  | succ k ih =>
    have hv : versOf (filesOf (some (gt l k))) nm (gt l k).moment = ⟨(gt l k).moment, false, []⟩ := by simp [versOf, look49_none _ nm h1 h2]
    rw [any_take_succ l k (by omega), ofSpec_at hS nm (by omega)]
    rcases ih (by omega) with ⟨e1, e2⟩ | ⟨e1, m, e2⟩
    · rw [e1, e2]
      cases ht : (gt l k).told
      · left; simp [ofStep, ht]
      · right
        refine ⟨rfl, (gt l k).moment, ?_⟩
        simp [ofStep, ht, hv]
    · right
      rw [e1, e2]
      refine ⟨rfl, m, ?_⟩
      cases ht : (gt l k).told <;> simp [ofStep, ht, hv, alikeV]
theorem none_all {l : List Seen} (hS : Small l) (nm : ByteArray) (h1 : (nm.toList == [97]) = false) (h2 : (nm.toList == [98]) = false) :
    (l.any Seen.told = false ∧ ofSpec (tells l) nm (l.map Seen.moment) = []) ∨ (l.any Seen.told = true ∧ ∃ m, ofSpec (tells l) nm (l.map Seen.moment) = [⟨m, false, []⟩]) := by
  have := none_to hS nm h1 h2 l.length (Nat.le_refl _)
  rwa [List.take_length, List.take_of_length_le (by simp)] at this
theorem changed_n (A : Option Addr) (n : Nat) (l : List Vers) (hn : l.length = n) (c : Nat) (L : List Int) (hL : (l.drop 1).map Vers.from_ = L) (w : World) (h : kVers.C w A l.length l) (hl : l.length ≤ 1000000000) :
    Calls Try.prog 19 #[.slice A n c] w fun e w' => ∃ B c', e = .returned (.slice B L.length c') ∧ (Kd.int .u64).C w' B L.length L ∧ Below w.heap.size w w' := by
  subst hn
  refine (changed_any A l c L hL w h hl).mono ?_
  rintro e w' ⟨v, rfl, ho, hb⟩
  obtain ⟨B, c', rfl⟩ := Kd.R_slice ho
  exact ⟨B, c', rfl, readsI ho, hb⟩
end Go.Proofs.Ytjogpfijkhhloaa
