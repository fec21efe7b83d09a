/-
  Chapter 49: a file found by its name, with what is known of its list.
-/
import Derived.Test.YtahjadbjokkjnaaDoorLb
import Derived.Test.YtahjadbjokkjnaaDoorFind
namespace Go.Proofs.YtahjadbjokkjnaaDoor
open Go.RowKit Go.Proofs.YtahjadbjokkjnaaDoorW.PrintWords Go.Proofs.YtahjadbjokkjnaaDoorW.PrintLast Go.Proofs.YtahjadbjokkjnaaDoorW.PrintMore
set_option linter.unusedVariables false
set_option linter.unusedSimpArgs false

theorem tog_apart {l : List File} (h : togB l = true) {i j : Nat} (hj : j < i) (hi : i < l.length) : nmL (gt l j) ≠ nmL (gt l i) := by
  have h1 := togTo_le (k := i + 1) h (by omega)
  unfold togTo at h1
  simp only [Bool.and_eq_true, Bool.not_eq_true', decide_eq_false_iff_not] at h1
  intro he
  apply h1.2.2
  rw [List.mem_reverse, List.mem_map]
  refine ⟨gt l j, ?_, he⟩
  rw [gt_eq l j (by omega)]
  have : (l.take i)[j]'(by rw [List.length_take]; omega) = l[j]'(by omega) := List.getElem_take
  rw [← this]
  exact List.getElem_mem _
theorem look_self {l : List File} (h : togB l = true) (i : Nat) (hi : i < l.length) : look49 l (gt l i).name = some (gt l i) := by
  unfold look49
  rw [List.find?_eq_some_iff_getElem]
  refine ⟨by simp, i, hi, (gt_eq l i hi).symm, fun j hj => ?_⟩
  rw [← gt_eq l j (by omega), names_beq]
  have := tog_apart h hj hi
  rw [Bool.not_eq_true', decide_eq_false_iff_not]
  exact this
def noSuch : ByteArray := ⟨#[110, 111, 32, 115, 117, 99, 104, 32, 110, 97, 109, 101]⟩
theorem noSuch_not : namedB noSuch = false := by decide
theorem look_none {l : List File} (h : togB l = true) : look49 l noSuch = none := by
  unfold look49
  rw [List.find?_eq_none]
  intro x hx he
  obtain ⟨i, hi, rfl⟩ := List.getElem_of_mem hx
  rw [names_beq, decide_eq_true_eq] at he
  have h1 := tog_named h i hi
  rw [gt_eq l i hi, name_ext he, noSuch_not] at h1
  cases h1
theorem find_hit (A : Option Addr) (l : List File) (N c : Nat) (hN : l.length = N) (ht : togB l = true) (w : World) (h : kFile.C w A N l) (i : Nat) (hi : i < N) (x : File) (hx : gt l i = x) :
    Calls Tryd.prog 27 #[.slice A N c, .string x.name] w fun e w' => ∃ Av cv, e = .returned (.tuple #[.agg #[.string x.name, .slice Av x.data.length cv], .bool true]) ∧ byte.C w' Av x.data.length x.data ∧ Below w.heap.size w w' := by
  subst hN hx
  refine (find_any A l c (gt l i).name w h (fun k hk => by have := (tog_right ht k hk).2; omega)).mono fun e w' hp => ?_
  rcases hp with ⟨h1, _⟩ | ⟨x, v, h1, he, hr, hb⟩
  · rw [look_self ht i hi] at h1; cases h1
  · rw [look_self ht i hi] at h1
    cases h1
    obtain ⟨Av, cv, rfl⟩ := Kd.R_slice hr
    exact ⟨Av, cv, he, readsS' hr, hb⟩
theorem find_miss (A : Option Addr) (l : List File) (N c : Nat) (hN : l.length = N) (ht : togB l = true) (w : World) (h : kFile.C w A N l) :
    Calls Tryd.prog 27 #[.slice A N c, .string noSuch] w fun e w' => e = .returned (.tuple #[.agg #[.string ⟨#[]⟩, .slice none 0 0], .bool false]) ∧ Below w.heap.size w w' := by
  subst hN
  refine (find_any A l c noSuch w h (fun k hk => by have := (tog_right ht k hk).2; omega)).mono fun e w' hp => ?_
  rcases hp with ⟨_, he, hb⟩ | ⟨x, v, h1, _⟩
  · exact ⟨he, hb⟩
  · rw [look_none ht] at h1; cases h1
theorem kBlock_KM {w : World} {base : Nat} {ok : Nat → Prop} (x : List UInt8) (cs : List Value) (h : kBlock.K w x cs) : kBlock.M w base ok x cs := by
  obtain ⟨h1, h2⟩ := Kd.arr_cells h
  rw [encs_bytes] at h2
  rw [h2]
  exact kBlock_M w base ok h1
end Go.Proofs.YtahjadbjokkjnaaDoor
