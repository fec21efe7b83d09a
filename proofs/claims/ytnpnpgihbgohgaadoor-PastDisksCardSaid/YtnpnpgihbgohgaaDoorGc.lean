/-
  A file found by its name: fs.Find over slices.IndexFunc and slices.Clone.
-/
import Derived.Test.YtnpnpgihbgohgaaDoorGa
import Derived.RegionTactic
import Derived.BigRegion
import Derived.Deep.RegionWith
/-
  Chapter 50, the small functions: the moments of what was seen, whether there is too much of it, which versions change something.
-/
namespace Go.Proofs.YtnpnpgihbgohgaaDoor
open Go.RowKit Go.Proofs.YtnpnpgihbgohgaaDoorW.PrintWords Go.Proofs.YtnpnpgihbgohgaaDoorW.PrintLast Go.Proofs.YtnpnpgihbgohgaaDoorW.PrintMore
set_option linter.unusedVariables false
set_option linter.unusedSimpArgs false

theorem info_u64 : (Tryd.prog.info? 28).map (fun i => (i.zero, i.size, i.bytes)) = some (some (.int .u64 0), 1, 8) := by kernel_rfl
theorem map_take_succ {α β : Type} [Inhabited α] (f : α → β) (l : List α) (k : Nat) (h : k < l.length) : (l.take (k + 1)).map f = (l.take k).map f ++ [f (gt l k)] := by
  rw [List.take_add_one, gt_some l k h]
  simp

theorem drop_take_succ {α β : Type} [Inhabited α] (f : α → β) (l : List α) (k : Nat) (h : k < l.length) (h0 : 0 < k) : ((l.take (k + 1)).drop 1).map f = ((l.take k).drop 1).map f ++ [f (gt l k)] := by
  rw [List.take_add_one, gt_some l k h, List.drop_append_of_le_length (by simp; omega)]
  simp
set_option maxHeartbeats 400000 in
theorem moments_any (A : Option Addr) (l : List Seen) (c : Nat) (L : List Int) (hL : l.map Seen.moment = L) (w : World) (h : kSeen.C w A l.length l) (hl : l.length ≤ 1000000000) :
    Calls Tryd.prog 6 #[.slice A l.length c] w fun e w' => ∃ v, e = .returned v ∧ (Kd.int .u64).R 28 w' w.heap.size (fun _ => True) v L ∧ Below w.heap.size w w' := by
  subst hL
  go_enter Tryd.func6, Tryd.ntmps6
  go_wp2
  go_loopw [3, 4] (fun v i wr => ∃ k : Nat, k ≤ l.length ∧ i = .int .i64 k ∧ Aside0 ((Kd.int .u64).R 28 wr w.heap.size (fun _ => True) v ((l.take k).map Seen.moment)) ∧ Aside0 (Below w.heap.size w wr)) (fun _ i _ => l.length - (intOf i).toNat)
  case atStart => exact ⟨0, Nat.zero_le _, rfl, ⟨Kd.R_nil _ _ _ _ _⟩, ⟨Below.refl _ _⟩⟩
  case round =>
    obtain ⟨k, hk, rfl, HO, HB⟩ := hrel
    by_cases hlt : k < l.length
    · obtain ⟨ad, A3, c3, rfl, g0, g1, g2, g3, hc3, hd⟩ := seen_at h hlt
      replace g0 := cell_old HB.out g0
      clear g1 g2 g3 hc3 hd
      go_wp2_with ((with_reducible refine gate_builtin (b := .append) (xs := #[.tmp 11, .tmp 17]) rfl ?_); at_builtin; refine Kd.R_append (Kd.int .u64) (w0 := w) w.heap.size rfl (.tmp 11) (.tmp 17) 26 28 (.int .u64 0) 8 rfl Tryd.underlying26 info_u64 rfl (by first | decide | exact Nat.succ_pos _) (by omega) _ ((l.take k).map Seen.moment) (gt l k).moment [.int .u64 (gt l k).moment] (fun _ => True) (fun _ => False) rfl ?aX1 ?aP1 (fun _ hk => hk.elim) ?aF1 ?aO1 ?aB1 ?aS1 ?aL1 ?_; (case aX1 => first | rfl | (go_simp; done) | (simp [go_sem]; done)); (case aP1 => exact rfl); (case aB1 => exact HB.out); (case aF1 => exact (fun _ _ => trivial)); (case aO1 => exact HO.out); (case aS1 => exact (HB.out).size); (case aL1 => (simp; omega)); intro v1 w1 ho1 hb1 hg1 hat1; have HO1 := Aside0.mk ho1; have HB1 := Aside0.mk hb1; clear ho1 hb1 hg1 hat1)
      go_roundw
      case rel => exact ⟨k + 1, by omega, by go_num, ⟨by rw [map_take_succ _ _ _ hlt]; exact HO1.out⟩, HB1⟩
      case measure => simp [intOf]; omega
    · go_wp2
      go_ret
      exact ⟨_, rfl, by have := HO.out; rwa [List.take_of_length_le (by omega)] at this, HB.out⟩

set_option maxHeartbeats 400000 in
theorem changed_any (A : Option Addr) (l : List Vers) (c : Nat) (L : List Int) (hL : (l.drop 1).map Vers.from_ = L) (w : World) (h : kVers.C w A l.length l) (hl : l.length ≤ 1000000000) :
    Calls Tryd.prog 15 #[.slice A l.length c] w fun e w' => ∃ v, e = .returned v ∧ (Kd.int .u64).R 28 w' w.heap.size (fun _ => True) v L ∧ Below w.heap.size w w' := by
  subst hL
  go_enter Tryd.func15, Tryd.ntmps15
  go_wp2
  go_loopw [3, 8] (fun v i wr => ∃ k : Nat, k ≤ l.length ∧ i = .int .i64 k ∧ Aside0 ((Kd.int .u64).R 28 wr w.heap.size (fun _ => True) v (((l.take k).drop 1).map Vers.from_)) ∧ Aside0 (Below w.heap.size w wr)) (fun _ i _ => l.length - (intOf i).toNat)
  case atStart => exact ⟨0, Nat.zero_le _, rfl, ⟨Kd.R_nil _ _ _ _ _⟩, ⟨Below.refl _ _⟩⟩
  case round =>
    obtain ⟨k, hk, rfl, HO, HB⟩ := hrel
    by_cases hlt : k < l.length
    · obtain ⟨ad, A2, c2, rfl, g0, g1, g2, hc2, hd⟩ := vers_at h hlt
      replace g0 := cell_old HB.out g0
      replace g1 := cell_old HB.out g1
      replace g2 := cell_old HB.out g2
      clear hc2 hd
      by_cases h0 : 0 < k
      · go_wp2_with ((with_reducible refine gate_builtin (b := .append) (xs := #[.tmp 15, .tmp 18]) rfl ?_); at_builtin; refine Kd.R_append (Kd.int .u64) (w0 := w) w.heap.size rfl (.tmp 15) (.tmp 18) 26 28 (.int .u64 0) 8 rfl Tryd.underlying26 info_u64 rfl (by first | decide | exact Nat.succ_pos _) (by omega) _ (((l.take k).drop 1).map Vers.from_) (gt l k).from_ [.int .u64 (gt l k).from_] (fun _ => True) (fun _ => False) rfl ?aX1 ?aP1 (fun _ hk => hk.elim) ?aF1 ?aO1 ?aB1 ?aS1 ?aL1 ?_; (case aX1 => first | rfl | (go_simp; done) | (simp [go_sem]; done)); (case aP1 => exact rfl); (case aB1 => exact (below_alloc HB.out _)); (case aF1 => exact (fun _ _ => trivial)); (case aO1 => exact (Kd.R_alloc HO.out _)); (case aS1 => exact ((below_alloc HB.out _)).size); (case aL1 => (simp; omega)); intro v1 w1 ho1 hb1 hg1 hat1; have HO1 := Aside0.mk ho1; have HB1 := Aside0.mk hb1; clear ho1 hb1 hg1 hat1)
        go_roundw
        case rel => exact ⟨k + 1, by omega, by go_num, ⟨by rw [drop_take_succ _ _ _ hlt h0]; exact HO1.out⟩, HB1⟩
        case measure => simp [intOf]; omega
      · go_wp2
        go_roundw
        case rel =>
          obtain rfl : k = 0 := by omega
          exact ⟨1, by omega, by go_num, ⟨by have := Kd.R_alloc HO.out (.cells #[.int .u64 (gt l 0).from_, .bool (gt l 0).there, .slice A2 (gt l 0).data.length c2] 47); simpa [List.drop_take] using this⟩, ⟨below_alloc HB.out _⟩⟩
        case measure => simp [intOf]; omega
    · go_wp2
      go_ret
      exact ⟨_, rfl, by have := HO.out; rwa [List.take_of_length_le (by omega)] at this, HB.out⟩

/-- Few enough things were seen, each short, at moments that differ. -/
structure Small (l : List Seen) : Prop where
  few : l.length ≤ 30
  short : ∀ i, i < l.length → (gt l i).data.length ≤ 256
  apart : ∀ i, i < l.length → ∀ k, k < i → (gt l k).moment ≠ (gt l i).moment
open Classical in
noncomputable def greatB (l : List Seen) : Bool := decide (¬ Small l)
theorem greatB_true {l : List Seen} (h : ¬ Small l) : greatB l = true := by simp [greatB, h]
theorem greatB_false {l : List Seen} (h : Small l) : greatB l = false := by simp [greatB, h]
theorem small_of {l : List Seen} (h : greatB l = false) : Small l := Classical.byContradiction fun hn => by rw [greatB_true hn] at h; cases h
def GreatPost (l : List Seen) (w : World) (e : Ending) (w' : World) : Prop := e = .returned (.bool (greatB l)) ∧ ∃ n, w' = w.drewN n
structure SmallTo (l : List Seen) (i : Nat) : Prop where
  short : ∀ j, j < i → (gt l j).data.length ≤ 256
  apart : ∀ j, j < i → ∀ k, k < j → (gt l k).moment ≠ (gt l j).moment
set_option maxHeartbeats 800000 in
theorem great_any (A : Option Addr) (l : List Seen) (c : Nat) (w : World) (h : kSeen.C w A l.length l) :
    Calls Tryd.prog 5 #[.slice A l.length c] w (GreatPost l w) := by
  have hmx := Kd.C_max h
  go_enter Tryd.func5, Tryd.ntmps5
  by_cases h30 : l.length ≤ 30
  · go_wp2
    go_loopw [3] (fun i wr => ∃ k : Nat, k ≤ l.length ∧ i = .int .i64 k ∧ SmallTo l k ∧ ∃ n, wr = w.drewN n) (fun i _ => l.length - (intOf i).toNat)
    case atStart => exact ⟨0, Nat.zero_le _, rfl, ⟨fun _ h => absurd h (by omega), fun _ h => absurd h (by omega)⟩, 0, rfl⟩
    case round =>
      obtain ⟨k, hk, rfl, hS, n, rfl⟩ := hrel
      by_cases hlt : k < l.length
      · obtain ⟨ad, A3, c3, rfl, g0, g1, g2, g3, hc3, hd⟩ := seen_at h hlt
        by_cases hsh : (gt l k).data.length ≤ 256
        · go_wp2
          go_loopw [4] (fun i wr => ∃ j : Nat, j ≤ k ∧ i = .int .i64 j ∧ Aside0 (∀ q, q < j → (gt l q).moment ≠ (gt l k).moment) ∧ ∃ n, wr = w.drewN n) (fun i _ => k - (intOf i).toNat)
          case atStart => exact ⟨0, Nat.zero_le _, rfl, ⟨fun _ h => absurd h (by omega)⟩, n, rfl⟩
          case round =>
            obtain ⟨j, hj, rfl, hN, n2, rfl⟩ := hrel
            by_cases hjk : j < k
            · obtain ⟨ad', A4, c4, e4, f0, f1, f2, f3, hc4, hd4⟩ := seen_at h (show j < l.length by omega)
              cases e4
              by_cases he : (gt l j).moment = (gt l k).moment
              · have he' : ((gt l j).moment == (gt l k).moment) = true := beq_iff_eq.mpr he
                go_wp2
                go_quiet (fail)
                go_wp2
                go_ret
                exact ⟨by rw [greatB_true (fun hs => hs.apart k hlt j hjk he)]; rfl, _, by first | rfl | exact World.drewN_drewN ..⟩
              · have he' : ((gt l j).moment == (gt l k).moment) = false := beq_eq_false_iff_ne.mpr he
                go_wp2
                go_quiet (fail)
                go_wp2
                go_roundw
                case rel => exact ⟨j + 1, by omega, by go_num, ⟨fun q hq => if hqj : q = j then hqj ▸ he else hN.out q (by omega)⟩, _, by first | rfl | exact World.drewN_drewN ..⟩
                case measure => simp [intOf]; omega
            · obtain rfl : j = k := by omega
              go_wp2
              go_roundw
              case rel => exact ⟨j + 1, by omega, by go_num, ⟨fun q hq => if hqj : q = j then hqj ▸ hsh else hS.short q (by omega), fun q hq p hp => if hqj : q = j then by subst hqj; exact hN.out p hp else hS.apart q (by omega) p hp⟩, n2, rfl⟩
              case measure => simp [intOf]; omega
        · go_wp2
          go_ret
          exact ⟨by rw [greatB_true (fun hs => hsh (hs.short k hlt))]; rfl, n, rfl⟩
      · obtain rfl : k = l.length := by omega
        go_wp2
        go_ret
        exact ⟨by rw [greatB_false ⟨h30, hS.short, hS.apart⟩]; rfl, n, rfl⟩
  · go_wp2
    go_ret
    exact ⟨by rw [greatB_true (fun hs => h30 hs.few)]; rfl, 0, rfl⟩
end Go.Proofs.YtnpnpgihbgohgaaDoor
/-
  Chapter 50: the files that the law tells of a moment; a file found by its name.
-/
namespace Go.Proofs.YtnpnpgihbgohgaaDoor
open Go.RowKit Go.Proofs.YtnpnpgihbgohgaaDoorW.PrintWords Go.Proofs.YtnpnpgihbgohgaaDoorW.PrintLast Go.Proofs.YtnpnpgihbgohgaaDoorW.PrintMore
set_option linter.unusedVariables false
set_option linter.unusedSimpArgs false

theorem World.heap_new_drew (w : World) (o : Obj) : (w.alloc o).drew.heap[w.heap.size]? = some o := blk_new w o
theorem reps_one {α : Type} {R : α → List Value → Prop} {x : α} {c : List Value} (h : R x c) : Reps R c.length [x] c :=
  ⟨by simp, fun j p hj => by
    rcases j with _ | j
    · obtain rfl : x = p := by simpa using hj
      simpa using h
    · simp at hj⟩
theorem reps_two {α : Type} {R : α → List Value → Prop} {x y : α} {c d : List Value} (h : R x c) (h2 : R y d) (hl : d.length = c.length := by rfl) : Reps R c.length [x, y] (c ++ d) :=
  ⟨by simp [hl]; omega, fun j p hj => by
    rcases j with _ | _ | j
    · obtain rfl : x = p := by simpa using hj
      simpa using h
    · obtain rfl : y = p := by simpa using hj
      simpa [← hl] using h2
    · simp at hj⟩
def nmA : ByteArray := ⟨#[97]⟩
def nmB : ByteArray := ⟨#[98]⟩
def look (l : List Seen) (m : Int) : Option Seen := l.find? (fun x => x.moment == m)
def filesOf : Option Seen → List File
  | none => []
  | some s => if s.there then [⟨nmB, []⟩, ⟨nmA, s.data⟩] else [⟨nmB, s.data⟩]
def toldOf : Option Seen → Bool
  | none => false
  | some s => s.told
theorem find_none_to {α : Type} [Inhabited α] (p : α → Bool) (l : List α) (h : ∀ j, j < l.length → p (gt l j) = false) : l.find? p = none := by
  rw [List.find?_eq_none]
  intro x hx
  obtain ⟨j, hj, rfl⟩ := List.getElem_of_mem hx
  have := h j hj
  rw [gt_eq l j hj] at this
  simp [this]
theorem find_first {α : Type} [Inhabited α] (p : α → Bool) (l : List α) (k : Nat) (hk : k < l.length) (hp : p (gt l k) = true) (h : ∀ j, j < k → p (gt l j) = false) : l.find? p = some (gt l k) := by
  rw [gt_eq l k hk] at hp ⊢
  rw [List.find?_eq_some_iff_getElem]
  refine ⟨hp, k, hk, rfl, fun j hj => ?_⟩
  have := h j hj
  rw [gt_eq l j (by omega)] at this
  simp [this]

def At1Post (l : List Seen) (m : Int) (w : World) (e : Ending) (w' : World) : Prop :=
  ∃ B c', e = .returned (.tuple #[.slice B (filesOf (look l m)).length c', .bool (toldOf (look l m))]) ∧ kFile.C w' B (filesOf (look l m)).length (filesOf (look l m)) ∧ (filesOf (look l m)).length ≤ c' ∧ Below w.heap.size w w'
theorem cell_alloc_any {w : World} {a : Addr} {v : Value} (h : w.cell? a = some v) (o : Obj) : (w.alloc o).cell? a = some v := pw_cell_below (below_alloc (Below.refl _ _) o) h

set_option maxHeartbeats 800000 in
theorem at1_any (g : Nat) (A : Option Addr) (l : List Seen) (c : Nat) (m : Int) (w : World) (hg : w.heap[g]? = some (.cells #[.slice A l.length c] 22 (0, 0))) (h : kSeen.C w A l.length l) :
    Calls Tryd.prog 16 #[.int .u64 m, .pointer (some ⟨g, 0, none⟩)] w (At1Post l m w) := by
  have hmx := Kd.C_max h
  have hp : w.cell? ⟨g, 0, none⟩ = some (.slice A l.length c) := by rw [blk_cell hg]; rfl
  have hp' := cell_alloc_any hp
  clear hg
  go_enter Tryd.func16, Tryd.ntmps16
  go_wp2
  go_loop [5] (fun i => ∃ k : Nat, k ≤ l.length ∧ i = .int .i64 k ∧ Aside0 (∀ j, j < k → ((gt l j).moment == m) = false)) (fun i => l.length - (intOf i).toNat)
  case atStart => exact ⟨0, Nat.zero_le _, rfl, ⟨fun _ h => absurd h (by omega)⟩⟩
  case round =>
    obtain ⟨k, hk, rfl, HN⟩ := hrel
    by_cases hlt : k < l.length
    · obtain ⟨ad, A3, c3, rfl, g0, g1, g2, g3, hc3, hd⟩ := seen_at h hlt
      by_cases he : (gt l k).moment = m
      · have he' : ((gt l k).moment != m) = false := by simp [he]
        have hf : look l m = some (gt l k) := find_first _ _ k hlt (by simp [he]) HN.out
        have HF := Aside0.mk hf
        have HD := Aside0.mk hd
        have g0' := cell_alloc_any g0
        have g1' := cell_alloc_any g1
        have g2' := cell_alloc_any g2
        have g3' := cell_alloc_any g3
        clear hf hd he
        by_cases ht : (gt l k).there = true
        · go_wp2
          go_region
          go_wp2
          go_ret2
          have hF : filesOf (look l m) = [⟨nmB, []⟩, ⟨nmA, (gt l k).data⟩] := by rw [HF.out]; simp [filesOf, ht]
          have hT : toldOf (look l m) = (gt l k).told := by rw [HF.out]; rfl
          refine ⟨some ⟨w.heap.size, 0, none⟩, 2, ?_, ?_, ?_, (below_alloc (Below.refl _ _) _).drew⟩ <;> rw [hF]
          · rw [hT]; rfl
          · refine C_block (t := 54) (fr := (0, 0)) (World.heap_new_drew _ _) ?_ (by simp)
            exact reps_two (kFile_mk _ ⟨nmB, []⟩ (Nat.le_refl _) (Kd.C_nil _ _)) (kFile_mk _ ⟨nmA, (gt l k).data⟩ hc3 (Kd.C_below HD.out (below_alloc (Below.refl _ _) _).drew))
          · exact Nat.le_refl _
        · have ht' : (gt l k).there = false := by simpa using ht
          clear ht
          go_wp2
          go_region
          go_wp2
          go_ret2
          have hF : filesOf (look l m) = [⟨nmB, (gt l k).data⟩] := by rw [HF.out]; simp [filesOf, ht']
          have hT : toldOf (look l m) = (gt l k).told := by rw [HF.out]; rfl
          refine ⟨some ⟨w.heap.size, 0, none⟩, 1, ?_, ?_, ?_, (below_alloc (Below.refl _ _) _).drew⟩ <;> rw [hF]
          · rw [hT]; rfl
          · refine C_block (t := 54) (fr := (0, 0)) (World.heap_new_drew _ _) ?_ (by simp)
            exact reps_one (kFile_mk _ ⟨nmB, (gt l k).data⟩ hc3 (Kd.C_below HD.out (below_alloc (Below.refl _ _) _).drew))
          · exact Nat.le_refl _
      · have he' : ((gt l k).moment != m) = true := by simpa using he
        go_wp2
        go_round
        case rel => exact ⟨k + 1, by omega, by go_num, ⟨fun j hj => if hq : j = k then by rw [hq]; simpa using he else HN.out j (by omega)⟩⟩
        case measure => simp [intOf]; omega
    · go_wp2
      go_ret2
      have hf : look l m = none := find_none_to _ _ (fun j hj => HN.out j (by omega))
      refine ⟨none, 0, ?_, ?_, ?_, Below.refl _ _⟩ <;> rw [hf]
      · rfl
      · exact Kd.C_nil _ _
      · exact Nat.le_refl _

/-- What 'at' hands back: the closure over its boxed list. -/
def atFn (g : Nat) : Value := .func (.func 16) #[] #[.pointer (some ⟨g, 0, none⟩)]
theorem at_any (v : Value) (w : World) (hv : v.oneCell' = true) :
    Calls Tryd.prog 7 #[v] w fun e w' => e = .returned (atFn w.heap.size) ∧ w.alloc (.cells #[v] 22) = w' := by
  go_enter Tryd.func7, Tryd.ntmps7
  go_wp2
  go_ret
  exact ⟨rfl, rfl⟩
end Go.Proofs.YtnpnpgihbgohgaaDoor
namespace Go.Proofs.YtnpnpgihbgohgaaDoor
open Go.RowKit Go.Proofs.YtnpnpgihbgohgaaDoorW.PrintWords Go.Proofs.YtnpnpgihbgohgaaDoorW.PrintLast Go.Proofs.YtnpnpgihbgohgaaDoorW.PrintMore
set_option linter.unusedVariables false
set_option linter.unusedSimpArgs false

theorem find1_any (nm s : ByteArray) (v : Value) (hv : v.oneCell' = true) (g : Nat) (w : World) (hg : w.heap[g]? = some (.cells #[.string nm] 9 (0, 0))) :
    Calls Tryd.prog 37 #[.agg #[.string s, v], .pointer (some ⟨g, 0, none⟩)] w fun e w' => e = .returned (.bool (s.toList == nm.toList)) ∧ Below w.heap.size w w' := by
  have hp : w.cell? ⟨g, 0, none⟩ = some (.string nm) := by rw [blk_cell hg]; rfl
  have hp' := pw_cell_below (below_alloc (Below.refl _ _) (.cells #[.string s, v] 54)) hp
  clear hg
  go_enter Tryd.func37, Tryd.ntmps37
  go_wp2
  go_ret
  exact ⟨rfl, below_alloc (Below.refl _ _) _⟩

def findFn (g : Nat) : Value := .func (.func 37) #[] #[.pointer (some ⟨g, 0, none⟩)]
/-- Where the first file of a name lies; -1. -/
def idxOf (l : List File) (nm : ByteArray) : Int := match l.findIdx? (fun f => f.name.toList == nm.toList) with | some k => k | none => -1
theorem idx_first (l : List File) (nm : ByteArray) (k : Nat) (hk : k < l.length) (hp : ((gt l k).name.toList == nm.toList) = true) (h : ∀ j, j < k → ((gt l j).name.toList == nm.toList) = false) : idxOf l nm = k := by
  have : l.findIdx? (fun f => f.name.toList == nm.toList) = some k := by
    rw [List.findIdx?_eq_some_iff_getElem]
    refine ⟨hk, by rw [gt_eq l k hk] at hp; exact hp, fun j hj => ?_⟩
    have := h j hj
    rw [gt_eq l j (by omega)] at this
    simp [this]
  simp [idxOf, this]
theorem idx_none (l : List File) (nm : ByteArray) (h : ∀ j, j < l.length → ((gt l j).name.toList == nm.toList) = false) : idxOf l nm = -1 := by
  have : l.findIdx? (fun f => f.name.toList == nm.toList) = none := by
    rw [List.findIdx?_eq_none_iff]
    intro x hx
    obtain ⟨j, hj, rfl⟩ := List.getElem_of_mem hx
    have := h j hj
    rwa [gt_eq l j hj] at this
  simp [idxOf, this]

set_option maxHeartbeats 800000 in
theorem index_any (A : Option Addr) (l : List File) (c : Nat) (nm : ByteArray) (g : Nat) (w : World) (hg : w.heap[g]? = some (.cells #[.string nm] 9 (0, 0))) (h : kFile.C w A l.length l) :
    Calls Tryd.prog 36 #[.slice A l.length c, findFn g] w fun e w' => e = .returned (.int .i64 (idxOf l nm)) ∧ Below w.heap.size w w' := by
  have hmx := Kd.C_max h
  have HG := Aside0.mk hg
  clear hg
  unfold findFn
  go_enter Tryd.func36, Tryd.ntmps36
  go_wp2
  go_loopw [8] (fun i wr => ∃ k : Nat, k ≤ l.length ∧ i = .int .i64 k ∧ Aside0 (∀ j, j < k → ((gt l j).name.toList == nm.toList) = false) ∧ Aside0 (Below w.heap.size w wr)) (fun i _ => l.length - (intOf i).toNat)
  case atStart => exact ⟨0, Nat.zero_le _, rfl, ⟨fun _ h => absurd h (by omega)⟩, ⟨Below.refl _ _⟩⟩
  case round =>
    obtain ⟨k, hk, rfl, HN, HB⟩ := hrel
    by_cases hlt : k < l.length
    · obtain ⟨ad, A1, c1, rfl, g0, g1, hc1, hd⟩ := file_at h hlt
      replace g0 := cell_old HB.out g0
      replace g1 := cell_old HB.out g1
      clear hd
      cases he : ((gt l k).name.toList == nm.toList)
      · have HE := Aside0.mk he
        go_wp2_with (go_at_call 37; refine (find1_any nm (gt l k).name _ rfl g _ (blk_below HG.out HB.out)).mono ?_; rw [he]; clear he; rintro e w1 ⟨rfl, hb⟩; have HB1 := Aside0.mk (below_step HB.out hb); clear hb)
        go_roundw
        case rel => exact ⟨k + 1, by omega, by go_num, ⟨fun j hj => if hq : j = k then by rw [hq]; exact HE.out else HN.out j (by omega)⟩, HB1⟩
        case measure => simp [intOf]; omega
      · have HE := Aside0.mk he
        go_wp2_with (go_at_call 37; refine (find1_any nm (gt l k).name _ rfl g _ (blk_below HG.out HB.out)).mono ?_; rw [he]; clear he; rintro e w1 ⟨rfl, hb⟩; have HB1 := Aside0.mk (below_step HB.out hb); clear hb)
        go_ret
        exact ⟨by rw [idx_first l nm k hlt HE.out HN.out]; rfl, HB1.out⟩
    · go_wp2
      go_ret
      exact ⟨by rw [idx_none l nm (fun j hj => HN.out j (by omega))]; rfl, HB.out⟩

def look49 (l : List File) (nm : ByteArray) : Option File := l.find? (fun f => f.name.toList == nm.toList)
def FindPost (l : List File) (nm : ByteArray) (w : World) (e : Ending) (w' : World) : Prop :=
  (look49 l nm = none ∧ e = .returned (.tuple #[.agg #[.string ⟨#[]⟩, .slice none 0 0], .bool false]) ∧ Below w.heap.size w w') ∨
  ∃ x v, look49 l nm = some x ∧ e = .returned (.tuple #[.agg #[.string nm, v], .bool true]) ∧ byte.R 5 w' w.heap.size (fun _ => True) v x.data ∧ Below w.heap.size w w'
theorem idx_cases (l : List File) (nm : ByteArray) : (idxOf l nm = -1 ∧ look49 l nm = none) ∨ ∃ k, k < l.length ∧ idxOf l nm = (k : Int) ∧ look49 l nm = some (gt l k) := by
  unfold idxOf look49
  cases h : l.findIdx? (fun f => f.name.toList == nm.toList) with
  | none =>
    left
    rw [List.findIdx?_eq_none_iff] at h
    exact ⟨rfl, List.find?_eq_none.mpr (fun x hx => by simp [h x hx])⟩
  | some k =>
    right
    rw [List.findIdx?_eq_some_iff_getElem] at h
    obtain ⟨hk, hp, hn⟩ := h
    refine ⟨k, hk, rfl, ?_⟩
    rw [gt_eq l k hk, List.find?_eq_some_iff_getElem]
    exact ⟨hp, k, hk, rfl, fun j hj => by simpa using hn j hj⟩

theorem blk_new2 (w : World) (o o' : Obj) : ((w.alloc o).alloc o').heap[w.heap.size + 1]? = some o' := by
  have := blk_new (w.alloc o) o'
  simpa using this
set_option maxHeartbeats 1600000 in
theorem find_any (A : Option Addr) (l : List File) (c : Nat) (nm : ByteArray) (w : World) (h : kFile.C w A l.length l) (hl : ∀ k, k < l.length → (gt l k).data.length ≤ 140737488355328) :
    Calls Tryd.prog 28 #[.slice A l.length c, .string nm] w (FindPost l nm w) := by
  have hmx := Kd.C_max h
  rcases idx_cases l nm with ⟨hi, hf⟩ | ⟨k, hk, hi, hf⟩
  · have HF := Aside0.mk hf
    have HI := Aside0.mk hi
    clear hf hi
    go_enter Tryd.func28, Tryd.ntmps28
    go_wp2_with (go_at_call 36; refine (index_any A l c nm w.heap.size _ (blk_alloc (blk_new w _) _) (Kd.C_below h (below_alloc (below_alloc (Below.refl _ _) _) _))).mono ?_; rw [HI.out]; rintro e w1 ⟨rfl, hb⟩; have b1 := Aside0.mk (blk_below (blk_alloc (blk_new w (.cells #[.string nm] 9)) _) hb); have b2 := Aside0.mk (blk_below (blk_new2 w _ _) hb); have HB1 := Aside0.mk (below_step (below_alloc (below_alloc (Below.refl _ _) _) _) hb); have r0 := (blk_cell b2.out 0); have r1 := (blk_cell b2.out 1); have f0 := blk_frozen b2.out 0; have f1 := blk_frozen b2.out 1; simp only [List.getElem?_toArray, List.getElem?_cons_zero, List.getElem?_cons_succ] at r0 r1; clear hb)
    have b3 := blk_set (blk_set b2.out 0 (.string ⟨#[]⟩)) 1 (.slice none 0 0)
    have q0 := blk_cell b3 0
    have q1 := blk_cell b3 1
    simp at q0 q1
    refine bodyPost_ret (v := .tuple #[.agg #[.string ⟨#[]⟩, .slice none 0 0], .bool false]) (by simp [results, Tryd.results28, go_sem, q0, q1]) rfl ?_
    exact .inl ⟨HF.out, rfl, (HB1.out.setCell (Nat.le_succ _) _).setCell (Nat.le_succ _) _⟩
  · have HF := Aside0.mk hf
    have HI := Aside0.mk hi
    have hlk := hl k hk
    clear hf hi hl
    go_enter Tryd.func28, Tryd.ntmps28
    go_wp2_with (go_at_call 36; refine (index_any A l c nm w.heap.size _ (blk_alloc (blk_new w _) _) (Kd.C_below h (below_alloc (below_alloc (Below.refl _ _) _) _))).mono ?_; rw [HI.out]; rintro e w1 ⟨rfl, hb⟩; have b1 := Aside0.mk (blk_below (blk_alloc (blk_new w (.cells #[.string nm] 9)) _) hb); have b2 := Aside0.mk (blk_below (blk_new2 w _ _) hb); have HB1 := Aside0.mk (below_step (below_alloc (below_alloc (Below.refl _ _) _) _) hb); clear hb)
    have H1 := Aside0.mk (Kd.C_below h HB1.out)
    obtain ⟨ad, A1, c1, rfl, g0, g1, hc1, hd⟩ := file_at H1.out hk
    have r0 := blk_cell b1.out 0
    simp only [List.getElem?_toArray, List.getElem?_cons_zero] at r0
    have HD := Aside0.mk hd
    have r0' := pw_cell_below (pw_below_drewN (Below.refl w1.heap.size w1) 1) r0
    clear hd g0
    go_region_with (go_at_call 38; refine (sclone A1 (gt l k).data c1 _ (Kd.C_drew HD.out) hc1 hlk).mono ?_; rintro e w2 ⟨v, rfl, ho, hb⟩; obtain ⟨Av, cv, rfl⟩ := Kd.R_slice ho; have HO := Aside0.mk ho; have HB2 := Aside0.mk hb; have e2 := Aside0.mk (blk_below (w := w1.drew) b2.out hb); have k0 := blk_cell e2.out 0; have k1 := blk_cell e2.out 1; have f0 := blk_frozen e2.out 0; have f1 := blk_frozen e2.out 1; simp only [List.getElem?_toArray, List.getElem?_cons_zero, List.getElem?_cons_succ] at k0 k1; have r0w := pw_cell_below (w := w1.drew) hb r0; clear ho hb)
    all_goals
      go_wp2
      have e3 := blk_set (blk_set e2.out 0 (.string nm)) 1 (.slice Av (gt l k).data.length cv)
      have q0 := blk_cell e3 0
      have q1 := blk_cell e3 1
      simp at q0 q1
      refine bodyPost_ret (v := .tuple #[.agg #[.string nm, .slice Av (gt l k).data.length cv], .bool true]) (by simp [results, Tryd.results28, go_sem, q0, q1]) rfl ?_
      refine .inr ⟨gt l k, .slice Av (gt l k).data.length cv, HF.out, rfl, ?_, ((below_step (below_drew1 HB1.out) HB2.out).setCell (Nat.le_succ _) _).setCell (Nat.le_succ _) _⟩
      refine Kd.R_lower (Kd.R_set (Kd.R_set HO.out e2.out ?_ 0 _) (blk_set e2.out 0 _) ?_ 1 _) HB1.out.size
      · intro q hq; simp [byte, Kd.scalar] at hq; subst hq; decide
      · intro q hq; simp [byte, Kd.scalar] at hq; subst hq; decide
end Go.Proofs.YtnpnpgihbgohgaaDoor
