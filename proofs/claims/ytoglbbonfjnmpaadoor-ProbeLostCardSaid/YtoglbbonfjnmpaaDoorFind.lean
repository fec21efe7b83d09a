/-
  A file found by its name: fs.Find over slices.IndexFunc and slices.Clone.
-/
import Derived.Test.YtoglbbonfjnmpaaDoorBytes
import Derived.RegionTactic
import Derived.BigRegion
import Derived.Deep.RegionWith
namespace Go.Proofs.YtoglbbonfjnmpaaDoor
open Go.RowKit Go.Proofs.YtoglbbonfjnmpaaDoorW.PrintWords Go.Proofs.YtoglbbonfjnmpaaDoorW.PrintLast Go.Proofs.YtoglbbonfjnmpaaDoorW.PrintMore
set_option linter.unusedVariables false
set_option linter.unusedSimpArgs false

theorem find1_any (nm s : ByteArray) (v : Value) (hv : v.oneCell' = true) (g : Nat) (w : World) (hg : w.heap[g]? = some (.cells #[.string nm] 9 (0, 0))) :
    Calls Tryd.prog 56 #[.agg #[.string s, v], .pointer (some ⟨g, 0, none⟩)] w fun e w' => e = .returned (.bool (s.toList == nm.toList)) ∧ Below w.heap.size w w' := by
  have hp : w.cell? ⟨g, 0, none⟩ = some (.string nm) := by rw [blk_cell hg]; rfl
  have hp' := pw_cell_below (below_alloc (Below.refl _ _) (.cells #[.string s, v] 52)) hp
  clear hg
  go_enter Tryd.func56, Tryd.ntmps56
  go_wp2
  go_ret
  exact ⟨rfl, below_alloc (Below.refl _ _) _⟩

def findFn (g : Nat) : Value := .func (.func 56) #[] #[.pointer (some ⟨g, 0, none⟩)]
/-- Where the first file of a name lies; -1. -/
def idxOf (l : List File) (nm : ByteArray) : Int := match l.findIdx? (fun f => f.name.toList == nm.toList) with | some k => k | none => -1
theorem idx_first (l : List File) (nm : ByteArray) (k : Nat) (hk : k < l.length) (hp : ((gt l k).name.toList == nm.toList) = true) (h : ∀ j, j < k → ((gt l j).name.toList == nm.toList) = false) : idxOf l nm = k := by
  have : l.findIdx? (fun f => f.name.toList == nm.toList) = some k := by
    rw [List.findIdx?_eq_some_iff_getElem]
    refine ⟨hk, by rw [gt_eq l k hk] at hp; exact hp, fun j hj => ?_⟩
    have := h j hj
    rw [gt_eq l j (by omega)] at this
    simp [this]
  simp [idxOf, this]
theorem idx_none (l : List File) (nm : ByteArray) (h : ∀ j, j < l.length → ((gt l j).name.toList == nm.toList) = false) : idxOf l nm = -1 := by
  have : l.findIdx? (fun f => f.name.toList == nm.toList) = none := by
    rw [List.findIdx?_eq_none_iff]
    intro x hx
    obtain ⟨j, hj, rfl⟩ := List.getElem_of_mem hx
    have := h j hj
    rwa [gt_eq l j hj] at this
  simp [idxOf, this]

set_option maxHeartbeats 800000 in
theorem index_any (A : Option Addr) (l : List File) (c : Nat) (nm : ByteArray) (g : Nat) (w : World) (hg : w.heap[g]? = some (.cells #[.string nm] 9 (0, 0))) (h : kFile.C w A l.length l) :
    Calls Tryd.prog 54 #[.slice A l.length c, findFn g] w fun e w' => e = .returned (.int .i64 (idxOf l nm)) ∧ Below w.heap.size w w' := by
  have hmx := Kd.C_max h
  have HG := Aside0.mk hg
  clear hg
  unfold findFn
  go_enter Tryd.func54, Tryd.ntmps54
  go_wp2
  go_loopw [8] (fun i wr => ∃ k : Nat, k ≤ l.length ∧ i = .int .i64 k ∧ Aside0 (∀ j, j < k → ((gt l j).name.toList == nm.toList) = false) ∧ Aside0 (Below w.heap.size w wr)) (fun i _ => l.length - (intOf i).toNat)
  case atStart => exact ⟨0, Nat.zero_le _, rfl, ⟨fun _ h => absurd h (by omega)⟩, ⟨Below.refl _ _⟩⟩
  case round =>
    obtain ⟨k, hk, rfl, HN, HB⟩ := hrel
    by_cases hlt : k < l.length
    · obtain ⟨ad, A1, c1, rfl, g0, g1, hc1, hd⟩ := file_at h hlt
      replace g0 := cell_old HB.out g0
      replace g1 := cell_old HB.out g1
      clear hd
      cases he : ((gt l k).name.toList == nm.toList)
      · have HE := Aside0.mk he
        go_wp2_with (go_at_call 56; refine (find1_any nm (gt l k).name _ rfl g _ (blk_below HG.out HB.out)).mono ?_; rw [he]; clear he; rintro e w1 ⟨rfl, hb⟩; have HB1 := Aside0.mk (below_step HB.out hb); clear hb)
        go_roundw
        case rel => exact ⟨k + 1, by omega, by go_num, ⟨fun j hj => if hq : j = k then by rw [hq]; exact HE.out else HN.out j (by omega)⟩, HB1⟩
        case measure => simp [intOf]; omega
      · have HE := Aside0.mk he
        go_wp2_with (go_at_call 56; refine (find1_any nm (gt l k).name _ rfl g _ (blk_below HG.out HB.out)).mono ?_; rw [he]; clear he; rintro e w1 ⟨rfl, hb⟩; have HB1 := Aside0.mk (below_step HB.out hb); clear hb)
        go_ret
        exact ⟨by rw [idx_first l nm k hlt HE.out HN.out]; rfl, HB1.out⟩
    · go_wp2
      go_ret
      exact ⟨by rw [idx_none l nm (fun j hj => HN.out j (by omega))]; rfl, HB.out⟩

def look49 (l : List File) (nm : ByteArray) : Option File := l.find? (fun f => f.name.toList == nm.toList)
def FindPost (l : List File) (nm : ByteArray) (w : World) (e : Ending) (w' : World) : Prop :=
  (look49 l nm = none ∧ e = .returned (.tuple #[.agg #[.string ⟨#[]⟩, .slice none 0 0], .bool false]) ∧ Below w.heap.size w w') ∨
  ∃ x v, look49 l nm = some x ∧ e = .returned (.tuple #[.agg #[.string nm, v], .bool true]) ∧ byte.R 5 w' w.heap.size (fun _ => True) v x.data ∧ Below w.heap.size w w'
theorem idx_cases (l : List File) (nm : ByteArray) : (idxOf l nm = -1 ∧ look49 l nm = none) ∨ ∃ k, k < l.length ∧ idxOf l nm = (k : Int) ∧ look49 l nm = some (gt l k) := by
  unfold idxOf look49
  cases h : l.findIdx? (fun f => f.name.toList == nm.toList) with
  | none =>
    left
    rw [List.findIdx?_eq_none_iff] at h
    exact ⟨rfl, List.find?_eq_none.mpr (fun x hx => by simp [h x hx])⟩
  | some k =>
    right
    rw [List.findIdx?_eq_some_iff_getElem] at h
    obtain ⟨hk, hp, hn⟩ := h
    refine ⟨k, hk, rfl, ?_⟩
    rw [gt_eq l k hk, List.find?_eq_some_iff_getElem]
    exact ⟨hp, k, hk, rfl, fun j hj => by simpa using hn j hj⟩

theorem blk_new2 (w : World) (o o' : Obj) : ((w.alloc o).alloc o').heap[w.heap.size + 1]? = some o' := by
  have := blk_new (w.alloc o) o'
  simpa using this
set_option maxHeartbeats 1600000 in
theorem find_any (A : Option Addr) (l : List File) (c : Nat) (nm : ByteArray) (w : World) (h : kFile.C w A l.length l) (hl : ∀ k, k < l.length → (gt l k).data.length ≤ 140737488355328) :
    Calls Tryd.prog 37 #[.slice A l.length c, .string nm] w (FindPost l nm w) := by
  have hmx := Kd.C_max h
  rcases idx_cases l nm with ⟨hi, hf⟩ | ⟨k, hk, hi, hf⟩
  · have HF := Aside0.mk hf
    have HI := Aside0.mk hi
    clear hf hi
    go_enter Tryd.func37, Tryd.ntmps37
    go_wp2_with (go_at_call 54; refine (index_any A l c nm w.heap.size _ (blk_alloc (blk_new w _) _) (Kd.C_below h (below_alloc (below_alloc (Below.refl _ _) _) _))).mono ?_; rw [HI.out]; rintro e w1 ⟨rfl, hb⟩; have b1 := Aside0.mk (blk_below (blk_alloc (blk_new w (.cells #[.string nm] 9)) _) hb); have b2 := Aside0.mk (blk_below (blk_new2 w _ _) hb); have HB1 := Aside0.mk (below_step (below_alloc (below_alloc (Below.refl _ _) _) _) hb); have r0 := (blk_cell b2.out 0); have r1 := (blk_cell b2.out 1); have f0 := blk_frozen b2.out 0; have f1 := blk_frozen b2.out 1; simp only [List.getElem?_toArray, List.getElem?_cons_zero, List.getElem?_cons_succ] at r0 r1; clear hb)
    have b3 := blk_set (blk_set b2.out 0 (.string ⟨#[]⟩)) 1 (.slice none 0 0)
    have q0 := blk_cell b3 0
    have q1 := blk_cell b3 1
    simp at q0 q1
    refine bodyPost_ret (v := .tuple #[.agg #[.string ⟨#[]⟩, .slice none 0 0], .bool false]) (by simp [results, Tryd.results37, go_sem, q0, q1]) rfl ?_
    exact .inl ⟨HF.out, rfl, (HB1.out.setCell (Nat.le_succ _) _).setCell (Nat.le_succ _) _⟩
  · have HF := Aside0.mk hf
    have HI := Aside0.mk hi
    have hlk := hl k hk
    clear hf hi hl
    go_enter Tryd.func37, Tryd.ntmps37
    go_wp2_with (go_at_call 54; refine (index_any A l c nm w.heap.size _ (blk_alloc (blk_new w _) _) (Kd.C_below h (below_alloc (below_alloc (Below.refl _ _) _) _))).mono ?_; rw [HI.out]; rintro e w1 ⟨rfl, hb⟩; have b1 := Aside0.mk (blk_below (blk_alloc (blk_new w (.cells #[.string nm] 9)) _) hb); have b2 := Aside0.mk (blk_below (blk_new2 w _ _) hb); have HB1 := Aside0.mk (below_step (below_alloc (below_alloc (Below.refl _ _) _) _) hb); clear hb)
    have H1 := Aside0.mk (Kd.C_below h HB1.out)
    obtain ⟨ad, A1, c1, rfl, g0, g1, hc1, hd⟩ := file_at H1.out hk
    have r0 := blk_cell b1.out 0
    simp only [List.getElem?_toArray, List.getElem?_cons_zero] at r0
    have HD := Aside0.mk hd
    have r0' := pw_cell_below (pw_below_drewN (Below.refl w1.heap.size w1) 1) r0
    clear hd g0
    go_region_with (go_at_call 57; refine (sclone A1 (gt l k).data c1 _ (Kd.C_drew HD.out) hc1 hlk).mono ?_; rintro e w2 ⟨v, rfl, ho, hb⟩; obtain ⟨Av, cv, rfl⟩ := Kd.R_slice ho; have HO := Aside0.mk ho; have HB2 := Aside0.mk hb; have e2 := Aside0.mk (blk_below (w := w1.drew) b2.out hb); have k0 := blk_cell e2.out 0; have k1 := blk_cell e2.out 1; have f0 := blk_frozen e2.out 0; have f1 := blk_frozen e2.out 1; simp only [List.getElem?_toArray, List.getElem?_cons_zero, List.getElem?_cons_succ] at k0 k1; have r0w := pw_cell_below (w := w1.drew) hb r0; clear ho hb)
    all_goals
      go_wp2
      have e3 := blk_set (blk_set e2.out 0 (.string nm)) 1 (.slice Av (gt l k).data.length cv)
      have q0 := blk_cell e3 0
      have q1 := blk_cell e3 1
      simp at q0 q1
      refine bodyPost_ret (v := .tuple #[.agg #[.string nm, .slice Av (gt l k).data.length cv], .bool true]) (by simp [results, Tryd.results37, go_sem, q0, q1]) rfl ?_
      refine .inr ⟨gt l k, .slice Av (gt l k).data.length cv, HF.out, rfl, ?_, ((below_step (below_drew1 HB1.out) HB2.out).setCell (Nat.le_succ _) _).setCell (Nat.le_succ _) _⟩
      refine Kd.R_lower (Kd.R_set (Kd.R_set HO.out e2.out ?_ 0 _) (blk_set e2.out 0 _) ?_ 1 _) HB1.out.size
      · intro q hq; simp [byte, Kd.scalar] at hq; subst hq; decide
      · intro q hq; simp [byte, Kd.scalar] at hq; subst hq; decide
end Go.Proofs.YtoglbbonfjnmpaaDoor
