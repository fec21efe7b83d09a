/-
  Chapter 50: past.Last over the closures that the laws hand it.
-/
import Derived.Test.YtjogpfijkhhloaaAwake
namespace Go.Proofs.Ytjogpfijkhhloaa
open Go.RowKit Go.Proofs.YtjogpfijkhhloaaW.PrintWords Go.Proofs.YtjogpfijkhhloaaW.PrintLast Go.Proofs.YtjogpfijkhhloaaW.PrintMore
set_option linter.unusedVariables false
set_option linter.unusedSimpArgs false

/-- The first byte is this one. -/
def firstIs (b : UInt8) (xs : List UInt8) : Bool := match xs with | [] => false | x :: _ => x == b
theorem firstIs_nil (b : UInt8) (xs : List UInt8) (h : xs.length = 0) : firstIs b xs = false := by
  rw [List.eq_nil_of_length_eq_zero h]; rfl
theorem firstIs_at (b : UInt8) (xs : List UInt8) (h : 0 < xs.length) : firstIs b xs = (((gt xs 0).toNat : Int) == (b.toNat : Int)) := by
  cases xs with
  | nil => simp at h
  | cons x xs =>
    show (x == b) = ((x.toNat : Int) == (b.toNat : Int))
    rw [Bool.eq_iff_iff]
    simp only [beq_iff_eq]
    exact ⟨fun h => by rw [h], fun h => byte_inj h⟩
def lastSpec (p : List UInt8 → Bool) (l : List Vers) : Option Vers := l.reverse.find? (fun v => v.there && p v.data)
theorem find_none_of {α : Type} (p : α → Bool) (l : List α) (h : ∀ x ∈ l, p x = false) : l.find? p = none := by
  rw [List.find?_eq_none]
  intro x hx
  simp [h x hx]
theorem lastSpec_some (p : List UInt8 → Bool) (l : List Vers) (k : Nat) (hk : k < l.length) (hp : ((gt l k).there && p (gt l k).data) = true) (h : ∀ j, k < j → j < l.length → ((gt l j).there && p (gt l j).data) = false) : lastSpec p l = some (gt l k) := by
  have hs : l = l.take k ++ gt l k :: l.drop (k + 1) := by
    rw [gt_eq l k hk]
    exact (List.take_append_drop k l).symm.trans (by rw [List.drop_eq_getElem_cons hk])
  unfold lastSpec
  rw [hs, List.reverse_append, List.reverse_cons, List.append_assoc, List.find?_append, find_none_of _ (List.drop (k + 1) l).reverse]
  · simp only [List.singleton_append, List.find?_cons, ← hs, hp, Option.none_or]
  · intro x hx
    rw [List.mem_reverse] at hx
    obtain ⟨j, hj, rfl⟩ := List.getElem_of_mem hx
    have hj' : k + 1 + j < l.length := by simp at hj; omega
    have := h (k + 1 + j) (by omega) hj'
    rw [gt_eq l _ hj'] at this
    simpa using this
theorem lastSpec_none (p : List UInt8 → Bool) (l : List Vers) (h : ∀ j, j < l.length → ((gt l j).there && p (gt l j).data) = false) : lastSpec p l = none := by
  unfold lastSpec
  refine find_none_of _ _ (fun x hx => ?_)
  rw [List.mem_reverse] at hx
  obtain ⟨j, hj, rfl⟩ := List.getElem_of_mem hx
  have := h j hj
  rwa [gt_eq l j hj] at this

set_option maxHeartbeats 800000 in
theorem first1_any (A : Option Addr) (xs : List UInt8) (c : Nat) (b : UInt8) (g : Nat) (w : World) (h : byte.C w A xs.length xs) (hg : w.cell? ⟨g, 0, none⟩ = some (.int .u8 (b.toNat : Int))) :
    Calls Try.prog 20 #[.slice A xs.length c, .pointer (some ⟨g, 0, none⟩)] w fun e w' => e = .returned (.bool (firstIs b xs)) ∧ ∃ n, w' = w.drewN n := by
  rcases Nat.eq_zero_or_pos xs.length with h0 | h0
  · have hz : decide ((0 : Int) < (xs.length : Int)) = false := by simp [h0]
    have hz2 : decide (0 < xs.length) = false := by simp [h0]
    have HF := Aside0.mk (firstIs_nil b xs h0)
    clear h0
    go_enter Try.func20, Try.ntmps20
    go_wp2
    go_quiet (fail)
    go_wp2
    go_ret
    exact ⟨by rw [HF.out]; rfl, _, rfl⟩
  · obtain ⟨ad, rfl, g0⟩ := byte_at h h0
    have HF := Aside0.mk (firstIs_at b xs h0)
    rw [addr0] at g0
    have hz : (0 : Int) < (xs.length : Int) := by omega
    go_enter Try.func20, Try.ntmps20
    go_wp2
    go_quiet (fail)
    go_wp2
    go_ret
    exact ⟨by rw [HF.out]; rfl, _, rfl⟩
set_option maxHeartbeats 800000 in
theorem first2_any (A : Option Addr) (xs : List UInt8) (c : Nat) (b : UInt8) (g : Nat) (w : World) (h : byte.C w A xs.length xs) (hg : w.cell? ⟨g, 0, none⟩ = some (.int .u8 (b.toNat : Int))) :
    Calls Try.prog 23 #[.slice A xs.length c, .pointer (some ⟨g, 0, none⟩)] w fun e w' => e = .returned (.bool (firstIs b xs)) ∧ ∃ n, w' = w.drewN n := by
  rcases Nat.eq_zero_or_pos xs.length with h0 | h0
  · have hz : decide ((0 : Int) < (xs.length : Int)) = false := by simp [h0]
    have hz2 : decide (0 < xs.length) = false := by simp [h0]
    have HF := Aside0.mk (firstIs_nil b xs h0)
    clear h0
    go_enter Try.func23, Try.ntmps23
    go_wp2
    go_quiet (fail)
    go_wp2
    go_ret
    exact ⟨by rw [HF.out]; rfl, _, rfl⟩
  · obtain ⟨ad, rfl, g0⟩ := byte_at h h0
    have HF := Aside0.mk (firstIs_at b xs h0)
    rw [addr0] at g0
    have hz : (0 : Int) < (xs.length : Int) := by omega
    go_enter Try.func23, Try.ntmps23
    go_wp2
    go_quiet (fail)
    go_wp2
    go_ret
    exact ⟨by rw [HF.out]; rfl, _, rfl⟩
def anyData (xs : List UInt8) : Bool := true
theorem always_any (A : Option Addr) (xs : List UInt8) (c : Nat) (w : World) (h : byte.C w A xs.length xs) (hg : True) : Calls Try.prog 22 #[.slice A xs.length c] w fun e w' => e = .returned (.bool (anyData xs)) ∧ ∃ n, w' = w.drewN n := by
  go_enter Try.func22, Try.ntmps22
  go_wp2
  go_ret
  exact ⟨rfl, 0, rfl⟩

def lastN (o : Option Vers) : Int := match o with | some v => v.from_ | none => 0
theorem eql_fn44 (f : Fn) (a b : Array Value) (w : World) : (binOp .eql 44 (.func f a b) .nilFunc).run Try.prog w = .ok (.bool false) w := by
  kernel_rfl
theorem eql_nil44 (w : World) : (binOp .eql 44 .nilFunc .nilFunc).run Try.prog w = .ok (.bool true) w := by
  kernel_rfl
theorem last_nil (v : Value) (w : World) : Calls Try.prog 21 #[v, .nilFunc] w fun e w' => e = .returned (.tuple #[.int .u64 0, .bool false]) ∧ w = w' := by
  have q := eql_nil44
  go_enter Try.func21, Try.ntmps21
  go_wp2
  go_ret2
  exact ⟨rfl, rfl⟩
set_option maxHeartbeats 1600000 in
theorem last1_any (A : Option Addr) (l : List Vers) (c : Nat) (b : UInt8) (g : Nat) (o : Option Vers) (w : World) (ho : lastSpec (firstIs b) l = o) (h : kVers.C w A l.length l) (hd : ∀ k, k < l.length → (gt l k).data.length ≤ 140737488355328) (hg : w.cell? ⟨g, 0, none⟩ = some (.int .u8 (b.toNat : Int))) :
    Calls Try.prog 21 #[.slice A l.length c, .func (.func 20) #[] #[.pointer (some ⟨g, 0, none⟩)]] w fun e w' => e = .returned (.tuple #[.int .u64 (lastN o), .bool o.isSome]) ∧ Below w.heap.size w w' := by
  subst ho
  have hmx := Kd.C_max h
  have HG := Aside0.mk hg
  have HD := Aside0.mk hd
  clear hg hd
  have q := eql_fn44 (.func 20) #[] #[.pointer (some ⟨g, 0, none⟩)]
  go_enter Try.func21, Try.ntmps21
  go_wp2
  go_loopw [6] (fun i wr => ∃ (i' : Int) (k : Nat), i = .int .i64 i' ∧ i' + 1 = k ∧ k ≤ l.length ∧ Aside0 (∀ j, k ≤ j → j < l.length → ((gt l j).there && (firstIs b) (gt l j).data) = false) ∧ Aside0 (Below w.heap.size w wr)) (fun i _ => (intOf i + 1).toNat)
  case atStart => exact ⟨_, l.length, rfl, by omega, Nat.le_refl _, ⟨fun j h1 h2 => absurd h2 (by omega)⟩, ⟨Below.refl _ _⟩⟩
  case round =>
    obtain ⟨i', k, rfl, hik, hk, HN, HB⟩ := hrel
    rcases Nat.eq_zero_or_pos k with h0 | h0
    · have hlt : ¬ (0 : Int) ≤ i' := by omega
      have hn : Aside0 (lastSpec (firstIs b) l = none) := ⟨lastSpec_none _ _ (fun j hj => HN.out j (by omega) hj)⟩
      go_wp2
      go_ret2
      exact ⟨by rw [hn.out]; rfl, HB.out⟩
    · obtain ⟨n, rfl⟩ : ∃ n, k = n + 1 := ⟨k - 1, by omega⟩
      obtain rfl : i' = (n : Int) := by omega
      clear hik
      obtain ⟨x, hx⟩ : ∃ x, x = gt l n := ⟨_, rfl⟩
      obtain ⟨ad, Ac0, cc0, rfl, g0, g1, g2, hc0, hd0⟩ := vers_at h (show n < l.length by omega)
      rw [← hx] at g0 g1 g2 hc0 hd0
      replace g0 := cell_old HB.out g0
      replace g1 := cell_old HB.out g1
      replace g2 := cell_old HB.out g2
      have HD0 := Aside0.mk (Kd.C_below hd0 HB.out)
      have hdx : x.data.length ≤ 140737488355328 := by rw [hx]; exact HD.out n (by omega)
      have HX := Aside0.mk hx
      clear hd0 hx
      cases ht : x.there
      · go_wp2
        go_roundw
        case rel => exact ⟨(n : Int) - 1, n, by go_num, by omega, by omega, ⟨fun j h1 h2 => if hj : j = n then by rw [hj, ← HX.out, ht]; rfl else HN.out j (by omega) h2⟩, HB⟩
        case measure => simp [intOf] <;> omega
      · obtain ⟨pv, hp⟩ : ∃ pv, (firstIs b) x.data = pv := ⟨_, rfl⟩
        have HP := Aside0.mk hp
        clear hp
        cases pv
        all_goals
          go_wp2_with (first | (go_at_call 25; refine (bclone Ac0 x.data cc0 wr HD0.out hc0 hdx).mono ?_; rintro e w3 ⟨v3, rfl, ho3, hb3⟩; obtain ⟨Ac, cc, rfl⟩ := Kd.R_slice ho3; have HC3 := Aside0.mk (readsS ho3).2.2; have HB3 := Aside0.mk (below_step HB.out hb3); have g3 := cell_old hb3 g0; clear ho3 hb3) | (go_at_call 20; refine (first1_any Ac x.data cc b g w3 HC3.out (cell_old HB3.out HG.out)).mono ?_; rw [HP.out]; rintro e w4 ⟨rfl, n4, hw4⟩; have HB4 : Aside0 (Below w.heap.size w w4) := ⟨by rw [hw4]; exact pw_below_drewN HB3.out _⟩; have g5 : w4.cell? (ad.add (n * 3)) = some (.int .u64 x.from_) := (by rw [hw4]; exact g3); clear hw4))
        · go_roundw
          case rel => exact ⟨(n : Int) - 1, n, by go_num, by omega, by omega, ⟨fun j h1 h2 => if hj : j = n then by rw [hj, ← HX.out, ht, HP.out]; rfl else HN.out j (by omega) h2⟩, HB4⟩
          case measure => simp [intOf] <;> omega
        · go_ret2
          exact ⟨by rw [lastSpec_some _ l n (by omega) (by rw [← HX.out, ht, HP.out]; rfl) (fun j h1 h2 => HN.out j (by omega) h2), ← HX.out]; rfl, HB4.out⟩
set_option maxHeartbeats 1600000 in
theorem last2_any (A : Option Addr) (l : List Vers) (c : Nat) (b : UInt8) (g : Nat) (o : Option Vers) (w : World) (ho : lastSpec (firstIs b) l = o) (h : kVers.C w A l.length l) (hd : ∀ k, k < l.length → (gt l k).data.length ≤ 140737488355328) (hg : w.cell? ⟨g, 0, none⟩ = some (.int .u8 (b.toNat : Int))) :
    Calls Try.prog 21 #[.slice A l.length c, .func (.func 23) #[] #[.pointer (some ⟨g, 0, none⟩)]] w fun e w' => e = .returned (.tuple #[.int .u64 (lastN o), .bool o.isSome]) ∧ Below w.heap.size w w' := by
  subst ho
  have hmx := Kd.C_max h
  have HG := Aside0.mk hg
  have HD := Aside0.mk hd
  clear hg hd
  have q := eql_fn44 (.func 23) #[] #[.pointer (some ⟨g, 0, none⟩)]
  go_enter Try.func21, Try.ntmps21
  go_wp2
  go_loopw [6] (fun i wr => ∃ (i' : Int) (k : Nat), i = .int .i64 i' ∧ i' + 1 = k ∧ k ≤ l.length ∧ Aside0 (∀ j, k ≤ j → j < l.length → ((gt l j).there && (firstIs b) (gt l j).data) = false) ∧ Aside0 (Below w.heap.size w wr)) (fun i _ => (intOf i + 1).toNat)
  case atStart => exact ⟨_, l.length, rfl, by omega, Nat.le_refl _, ⟨fun j h1 h2 => absurd h2 (by omega)⟩, ⟨Below.refl _ _⟩⟩
  case round =>
    obtain ⟨i', k, rfl, hik, hk, HN, HB⟩ := hrel
    rcases Nat.eq_zero_or_pos k with h0 | h0
    · have hlt : ¬ (0 : Int) ≤ i' := by omega
      have hn : Aside0 (lastSpec (firstIs b) l = none) := ⟨lastSpec_none _ _ (fun j hj => HN.out j (by omega) hj)⟩
      go_wp2
      go_ret2
      exact ⟨by rw [hn.out]; rfl, HB.out⟩
    · obtain ⟨n, rfl⟩ : ∃ n, k = n + 1 := ⟨k - 1, by omega⟩
      obtain rfl : i' = (n : Int) := by omega
      clear hik
      obtain ⟨x, hx⟩ : ∃ x, x = gt l n := ⟨_, rfl⟩
      obtain ⟨ad, Ac0, cc0, rfl, g0, g1, g2, hc0, hd0⟩ := vers_at h (show n < l.length by omega)
      rw [← hx] at g0 g1 g2 hc0 hd0
      replace g0 := cell_old HB.out g0
      replace g1 := cell_old HB.out g1
      replace g2 := cell_old HB.out g2
      have HD0 := Aside0.mk (Kd.C_below hd0 HB.out)
      have hdx : x.data.length ≤ 140737488355328 := by rw [hx]; exact HD.out n (by omega)
      have HX := Aside0.mk hx
      clear hd0 hx
      cases ht : x.there
      · go_wp2
        go_roundw
        case rel => exact ⟨(n : Int) - 1, n, by go_num, by omega, by omega, ⟨fun j h1 h2 => if hj : j = n then by rw [hj, ← HX.out, ht]; rfl else HN.out j (by omega) h2⟩, HB⟩
        case measure => simp [intOf] <;> omega
      · obtain ⟨pv, hp⟩ : ∃ pv, (firstIs b) x.data = pv := ⟨_, rfl⟩
        have HP := Aside0.mk hp
        clear hp
        cases pv
        all_goals
          go_wp2_with (first | (go_at_call 25; refine (bclone Ac0 x.data cc0 wr HD0.out hc0 hdx).mono ?_; rintro e w3 ⟨v3, rfl, ho3, hb3⟩; obtain ⟨Ac, cc, rfl⟩ := Kd.R_slice ho3; have HC3 := Aside0.mk (readsS ho3).2.2; have HB3 := Aside0.mk (below_step HB.out hb3); have g3 := cell_old hb3 g0; clear ho3 hb3) | (go_at_call 23; refine (first2_any Ac x.data cc b g w3 HC3.out (cell_old HB3.out HG.out)).mono ?_; rw [HP.out]; rintro e w4 ⟨rfl, n4, hw4⟩; have HB4 : Aside0 (Below w.heap.size w w4) := ⟨by rw [hw4]; exact pw_below_drewN HB3.out _⟩; have g5 : w4.cell? (ad.add (n * 3)) = some (.int .u64 x.from_) := (by rw [hw4]; exact g3); clear hw4))
        · go_roundw
          case rel => exact ⟨(n : Int) - 1, n, by go_num, by omega, by omega, ⟨fun j h1 h2 => if hj : j = n then by rw [hj, ← HX.out, ht, HP.out]; rfl else HN.out j (by omega) h2⟩, HB4⟩
          case measure => simp [intOf] <;> omega
        · go_ret2
          exact ⟨by rw [lastSpec_some _ l n (by omega) (by rw [← HX.out, ht, HP.out]; rfl) (fun j h1 h2 => HN.out j (by omega) h2), ← HX.out]; rfl, HB4.out⟩
set_option maxHeartbeats 1600000 in
theorem last3_any (A : Option Addr) (l : List Vers) (c : Nat) (b : UInt8) (g : Nat) (o : Option Vers) (w : World) (ho : lastSpec anyData l = o) (h : kVers.C w A l.length l) (hd : ∀ k, k < l.length → (gt l k).data.length ≤ 140737488355328) (hg : True) :
    Calls Try.prog 21 #[.slice A l.length c, .func (.func 22) #[] #[]] w fun e w' => e = .returned (.tuple #[.int .u64 (lastN o), .bool o.isSome]) ∧ Below w.heap.size w w' := by
  subst ho
  have hmx := Kd.C_max h
  have HG := Aside0.mk hg
  have HD := Aside0.mk hd
  clear hg hd
  have q := eql_fn44 (.func 22) #[] #[]
  go_enter Try.func21, Try.ntmps21
  go_wp2
  go_loopw [6] (fun i wr => ∃ (i' : Int) (k : Nat), i = .int .i64 i' ∧ i' + 1 = k ∧ k ≤ l.length ∧ Aside0 (∀ j, k ≤ j → j < l.length → ((gt l j).there && anyData (gt l j).data) = false) ∧ Aside0 (Below w.heap.size w wr)) (fun i _ => (intOf i + 1).toNat)
  case atStart => exact ⟨_, l.length, rfl, by omega, Nat.le_refl _, ⟨fun j h1 h2 => absurd h2 (by omega)⟩, ⟨Below.refl _ _⟩⟩
  case round =>
    obtain ⟨i', k, rfl, hik, hk, HN, HB⟩ := hrel
    rcases Nat.eq_zero_or_pos k with h0 | h0
    · have hlt : ¬ (0 : Int) ≤ i' := by omega
      have hn : Aside0 (lastSpec anyData l = none) := ⟨lastSpec_none _ _ (fun j hj => HN.out j (by omega) hj)⟩
      go_wp2
      go_ret2
      exact ⟨by rw [hn.out]; rfl, HB.out⟩
    · obtain ⟨n, rfl⟩ : ∃ n, k = n + 1 := ⟨k - 1, by omega⟩
      obtain rfl : i' = (n : Int) := by omega
      clear hik
      obtain ⟨x, hx⟩ : ∃ x, x = gt l n := ⟨_, rfl⟩
      obtain ⟨ad, Ac0, cc0, rfl, g0, g1, g2, hc0, hd0⟩ := vers_at h (show n < l.length by omega)
      rw [← hx] at g0 g1 g2 hc0 hd0
      replace g0 := cell_old HB.out g0
      replace g1 := cell_old HB.out g1
      replace g2 := cell_old HB.out g2
      have HD0 := Aside0.mk (Kd.C_below hd0 HB.out)
      have hdx : x.data.length ≤ 140737488355328 := by rw [hx]; exact HD.out n (by omega)
      have HX := Aside0.mk hx
      clear hd0 hx
      cases ht : x.there
      · go_wp2
        go_roundw
        case rel => exact ⟨(n : Int) - 1, n, by go_num, by omega, by omega, ⟨fun j h1 h2 => if hj : j = n then by rw [hj, ← HX.out, ht]; rfl else HN.out j (by omega) h2⟩, HB⟩
        case measure => simp [intOf] <;> omega
      · obtain ⟨pv, hp⟩ : ∃ pv, anyData x.data = pv := ⟨_, rfl⟩
        have HP := Aside0.mk hp
        clear hp
        cases pv
        all_goals
          go_wp2_with (first | (go_at_call 25; refine (bclone Ac0 x.data cc0 wr HD0.out hc0 hdx).mono ?_; rintro e w3 ⟨v3, rfl, ho3, hb3⟩; obtain ⟨Ac, cc, rfl⟩ := Kd.R_slice ho3; have HC3 := Aside0.mk (readsS ho3).2.2; have HB3 := Aside0.mk (below_step HB.out hb3); have g3 := cell_old hb3 g0; clear ho3 hb3) | (go_at_call 22; refine (always_any Ac x.data cc w3 HC3.out HG.out).mono ?_; rw [HP.out]; rintro e w4 ⟨rfl, n4, hw4⟩; have HB4 : Aside0 (Below w.heap.size w w4) := ⟨by rw [hw4]; exact pw_below_drewN HB3.out _⟩; have g5 : w4.cell? (ad.add (n * 3)) = some (.int .u64 x.from_) := (by rw [hw4]; exact g3); clear hw4))
        · go_roundw
          case rel => exact ⟨(n : Int) - 1, n, by go_num, by omega, by omega, ⟨fun j h1 h2 => if hj : j = n then by rw [hj, ← HX.out, ht, HP.out]; rfl else HN.out j (by omega) h2⟩, HB4⟩
          case measure => simp [intOf] <;> omega
        · go_ret2
          exact ⟨by rw [lastSpec_some _ l n (by omega) (by rw [← HX.out, ht, HP.out]; rfl) (fun j h1 h2 => HN.out j (by omega) h2), ← HX.out]; rfl, HB4.out⟩
end Go.Proofs.Ytjogpfijkhhloaa
