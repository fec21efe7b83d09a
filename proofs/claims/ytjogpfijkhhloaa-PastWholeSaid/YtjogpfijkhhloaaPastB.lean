/-
  Chapter 50: the files that the law tells of a moment; a file found by its name.
-/
import Derived.Test.YtjogpfijkhhloaaPastA
import Derived.RegionTactic
import Derived.BigRegion
namespace Go.Proofs.Ytjogpfijkhhloaa
open Go.RowKit Go.Proofs.YtjogpfijkhhloaaW.PrintWords Go.Proofs.YtjogpfijkhhloaaW.PrintLast Go.Proofs.YtjogpfijkhhloaaW.PrintMore
set_option linter.unusedVariables false

theorem World.heap_new_drew (w : World) (o : Obj) : (w.alloc o).drew.heap[w.heap.size]? = some o := blk_new w o
theorem reps_one {α : Type} {R : α → List Value → Prop} {x : α} {c : List Value} (h : R x c) : Reps R c.length [x] c :=
  ⟨by simp, fun j p hj => by
    rcases j with _ | j
    · obtain rfl : x = p := by simpa using hj
      simpa using h
    · simp at hj⟩
theorem reps_two {α : Type} {R : α → List Value → Prop} {x y : α} {c d : List Value} (h : R x c) (h2 : R y d) (hl : d.length = c.length := by rfl) : Reps R c.length [x, y] (c ++ d) :=
  ⟨by simp [hl]; omega, fun j p hj => by
    rcases j with _ | _ | j
    · obtain rfl : x = p := by simpa using hj
      simpa using h
    · obtain rfl : y = p := by simpa using hj
      simpa [← hl] using h2
    · simp at hj⟩
def nmA : ByteArray := ⟨#[97]⟩
def nmB : ByteArray := ⟨#[98]⟩
def look (l : List Seen) (m : Int) : Option Seen := l.find? (fun x => x.moment == m)
def filesOf : Option Seen → List File
  | none => []
  | some s => if s.there then [⟨nmB, []⟩, ⟨nmA, s.data⟩] else [⟨nmB, s.data⟩]
def toldOf : Option Seen → Bool
  | none => false
  | some s => s.told
theorem find_none_to {α : Type} [Inhabited α] (p : α → Bool) (l : List α) (h : ∀ j, j < l.length → p (gt l j) = false) : l.find? p = none := by
  rw [List.find?_eq_none]
  intro x hx
  obtain ⟨j, hj, rfl⟩ := List.getElem_of_mem hx
  have := h j hj
  rw [gt_eq l j hj] at this
  simp [this]
theorem find_first {α : Type} [Inhabited α] (p : α → Bool) (l : List α) (k : Nat) (hk : k < l.length) (hp : p (gt l k) = true) (h : ∀ j, j < k → p (gt l j) = false) : l.find? p = some (gt l k) := by
  rw [gt_eq l k hk] at hp ⊢
  rw [List.find?_eq_some_iff_getElem]
  refine ⟨hp, k, hk, rfl, fun j hj => ?_⟩
  have := h j hj
  rw [gt_eq l j (by omega)] at this
  simp [this]

def At1Post (l : List Seen) (m : Int) (w : World) (e : Ending) (w' : World) : Prop :=
  ∃ B c', e = .returned (.tuple #[.slice B (filesOf (look l m)).length c', .bool (toldOf (look l m))]) ∧ kFile.C w' B (filesOf (look l m)).length (filesOf (look l m)) ∧ (filesOf (look l m)).length ≤ c' ∧ Below w.heap.size w w'
theorem cell_alloc_any {w : World} {a : Addr} {v : Value} (h : w.cell? a = some v) (o : Obj) : (w.alloc o).cell? a = some v := pw_cell_below (below_alloc (Below.refl _ _) o) h

set_option maxHeartbeats 800000 in
theorem at1_any (g : Nat) (A : Option Addr) (l : List Seen) (c : Nat) (m : Int) (w : World) (hg : w.heap[g]? = some (.cells #[.slice A l.length c] 22 (0, 0))) (h : kSeen.C w A l.length l) :
    Calls Try.prog 27 #[.int .u64 m, .pointer (some ⟨g, 0, none⟩)] w (At1Post l m w) := by
  have hmx := Kd.C_max h
  have hp : w.cell? ⟨g, 0, none⟩ = some (.slice A l.length c) := by rw [blk_cell hg]; rfl
  have hp' := cell_alloc_any hp
  clear hg
  go_enter Try.func27, Try.ntmps27
  go_wp2
  go_loop [5] (fun i => ∃ k : Nat, k ≤ l.length ∧ i = .int .i64 k ∧ Aside0 (∀ j, j < k → ((gt l j).moment == m) = false)) (fun i => l.length - (intOf i).toNat)
  case atStart => exact ⟨0, Nat.zero_le _, rfl, ⟨fun _ h => absurd h (by omega)⟩⟩
  case round =>
    obtain ⟨k, hk, rfl, HN⟩ := hrel
    by_cases hlt : k < l.length
    · obtain ⟨ad, A3, c3, rfl, g0, g1, g2, g3, hc3, hd⟩ := seen_at h hlt
      by_cases he : (gt l k).moment = m
      · have he' : ((gt l k).moment != m) = false := by simp [he]
        have hf : look l m = some (gt l k) := find_first _ _ k hlt (by simp [he]) HN.out
        have HF := Aside0.mk hf
        have HD := Aside0.mk hd
        have g0' := cell_alloc_any g0
        have g1' := cell_alloc_any g1
        have g2' := cell_alloc_any g2
        have g3' := cell_alloc_any g3
        clear hf hd he
        by_cases ht : (gt l k).there = true
        · go_wp2
          go_region
          go_wp2
          go_ret2
          have hF : filesOf (look l m) = [⟨nmB, []⟩, ⟨nmA, (gt l k).data⟩] := by rw [HF.out]; simp [filesOf, ht]
          have hT : toldOf (look l m) = (gt l k).told := by rw [HF.out]; rfl
          refine ⟨some ⟨w.heap.size, 0, none⟩, 2, ?_, ?_, ?_, (below_alloc (Below.refl _ _) _).drew⟩ <;> rw [hF]
          · rw [hT]; rfl
          · refine C_block (t := 51) (fr := (0, 0)) (World.heap_new_drew _ _) ?_ (by simp)
            exact reps_two (kFile_mk _ ⟨nmB, []⟩ (Nat.le_refl _) (Kd.C_nil _ _)) (kFile_mk _ ⟨nmA, (gt l k).data⟩ hc3 (Kd.C_below HD.out (below_alloc (Below.refl _ _) _).drew))
          · exact Nat.le_refl _
        · have ht' : (gt l k).there = false := by simpa using ht
          clear ht
          go_wp2
          go_region
          go_wp2
          go_ret2
          have hF : filesOf (look l m) = [⟨nmB, (gt l k).data⟩] := by rw [HF.out]; simp [filesOf, ht']
          have hT : toldOf (look l m) = (gt l k).told := by rw [HF.out]; rfl
          refine ⟨some ⟨w.heap.size, 0, none⟩, 1, ?_, ?_, ?_, (below_alloc (Below.refl _ _) _).drew⟩ <;> rw [hF]
          · rw [hT]; rfl
          · refine C_block (t := 51) (fr := (0, 0)) (World.heap_new_drew _ _) ?_ (by simp)
            exact reps_one (kFile_mk _ ⟨nmB, (gt l k).data⟩ hc3 (Kd.C_below HD.out (below_alloc (Below.refl _ _) _).drew))
          · exact Nat.le_refl _
      · have he' : ((gt l k).moment != m) = true := by simpa using he
        go_wp2
        go_round
        case rel => exact ⟨k + 1, by omega, by go_num, ⟨fun j hj => if hq : j = k then by rw [hq]; simpa using he else HN.out j (by omega)⟩⟩
        case measure => simp [intOf]; omega
    · go_wp2
      go_ret2
      have hf : look l m = none := find_none_to _ _ (fun j hj => HN.out j (by omega))
      refine ⟨none, 0, ?_, ?_, ?_, Below.refl _ _⟩ <;> rw [hf]
      · rfl
      · exact Kd.C_nil _ _
      · exact Nat.le_refl _

/-- What 'at' hands back: the closure over its boxed list. -/
def atFn (g : Nat) : Value := .func (.func 27) #[] #[.pointer (some ⟨g, 0, none⟩)]
theorem at_any (v : Value) (w : World) (hv : v.oneCell' = true) :
    Calls Try.prog 15 #[v] w fun e w' => e = .returned (atFn w.heap.size) ∧ w.alloc (.cells #[v] 22) = w' := by
  go_enter Try.func15, Try.ntmps15
  go_wp2
  go_ret
  exact ⟨rfl, rfl⟩
end Go.Proofs.Ytjogpfijkhhloaa
