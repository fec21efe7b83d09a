/-
  Chapter 51, how many different bytes there are: the program's map, the document's two loops.
-/
import Derived.Test.YtoglbbonfjnmpaaDoorFind
import Derived.Test.YtoglbbonfjnmpaaDoorFs1
import Derived.Maps.OwnSet
import Derived.Maps.Views
namespace Go.Proofs.YtoglbbonfjnmpaaDoor
open Go.RowKit Go.Proofs.YtoglbbonfjnmpaaDoorW.PrintWords Go.Proofs.YtoglbbonfjnmpaaDoorW.PrintLast Go.Proofs.YtoglbbonfjnmpaaDoorW.PrintMore
set_option linter.unusedVariables false
set_option linter.unusedSimpArgs false

/-! ### the different bytes of a list -/
def disStep (acc : List UInt8) (x : UInt8) : List UInt8 := if x ∈ acc then acc else x :: acc
def dis (xs : List UInt8) : List UInt8 := xs.foldl disStep []
def spreadN (xs : List UInt8) : Nat := (dis xs).length
theorem dis_step (xs : List UInt8) (k : Nat) (hk : k < xs.length) : dis (xs.take (k + 1)) = disStep (dis (xs.take k)) (gt xs k) := by
  unfold dis
  rw [List.take_add_one, gt_some xs k hk, List.foldl_append]
  rfl
theorem mem_disFold (xs : List UInt8) : ∀ (acc : List UInt8) (x : UInt8), x ∈ xs.foldl disStep acc ↔ x ∈ acc ∨ x ∈ xs := by
  induction xs with
  | nil => intro acc x; simp
  | cons y xs ih =>
    intro acc x
    rw [List.foldl_cons, ih]
    unfold disStep
    split
    · constructor
      · rintro (h | h)
        · exact .inl h
        · exact .inr (List.mem_cons_of_mem _ h)
      · rintro (h | h)
        · exact .inl h
        · rcases List.mem_cons.1 h with rfl | h
          · exact .inl (by assumption)
          · exact .inr h
    · simp only [List.mem_cons]
      constructor
      · rintro ((h | h) | h)
        · exact .inr (.inl h)
        · exact .inl h
        · exact .inr (.inr h)
      · rintro (h | h | h)
        · exact .inl (.inr h)
        · exact .inl (.inl h)
        · exact .inr h
theorem mem_dis (xs : List UInt8) (x : UInt8) : x ∈ dis xs ↔ x ∈ xs := by
  unfold dis
  rw [mem_disFold]
  simp
theorem nodup_disFold (xs : List UInt8) : ∀ acc : List UInt8, acc.Nodup → (xs.foldl disStep acc).Nodup := by
  induction xs with
  | nil => intro acc h; exact h
  | cons y xs ih =>
    intro acc h
    rw [List.foldl_cons]
    refine ih _ ?_
    unfold disStep
    split
    · exact h
    · exact List.nodup_cons.2 ⟨by assumption, h⟩
theorem nodup_dis (xs : List UInt8) : (dis xs).Nodup := nodup_disFold xs [] List.nodup_nil
theorem dis_le (xs : List UInt8) (k : Nat) : (dis (xs.take k)).length ≤ k := by
  induction k with
  | zero => simp [dis]
  | succ k ih =>
    by_cases hk : k < xs.length
    · rw [dis_step xs k hk]
      unfold disStep
      split
      · omega
      · simp; omega
    · rw [List.take_of_length_le (by omega), ← List.take_of_length_le (l := xs) (i := k) (by omega)]
      omega
theorem mem_dis_take (xs : List UInt8) (k : Nat) : gt xs k ∈ dis (xs.take k) ↔ ∃ j, j < k ∧ j < xs.length ∧ gt xs j = gt xs k := by
  rw [mem_dis, List.mem_take_iff_getElem]
  constructor
  · rintro ⟨j, hj, e⟩
    exact ⟨j, by omega, by omega, by rw [gt_eq xs j (by omega), e]⟩
  · rintro ⟨j, h1, h2, e⟩
    exact ⟨j, by omega, by rw [← e, gt_eq xs j h2]⟩
/-- A map of the call's own that holds just these bytes. -/
def Bts (w : World) (b n : Nat) (L : List UInt8) : Prop := ∃ D : DataW Unit, w.ownsMap Tryd.prog 5 (plainElem Tryd.prog 4) b n D ∧ Maps.size D = L.length ∧
  ∀ x : UInt8, Maps.has D (.int .u8 (x.toNat : Int)) = decide (x ∈ L)
theorem Bts.made (w : World) : Bts (w.alloc (.map #[] 0)) w.heap.size 0 [] :=
  ⟨.map [], World.ownsMap_made w _ _ _, rfl, fun x => by rfl⟩
theorem Bts.below {w w1 : World} {b n : Nat} {L : List UInt8} (h : Bts w b n L) (hb : Below w.heap.size w w1) : Bts w1 b n L := by
  obtain ⟨D, ho, hD⟩ := h
  have hlt := ho.lt
  obtain ⟨es, clock, hbk, F, hs, hDe⟩ := ho
  exact ⟨D, ⟨es, clock, (hb.block b hlt).trans hbk, F, hs, hDe⟩, hD⟩
theorem key_byte (x : UInt8) : keyOf Tryd.prog 5 (.int .u8 (x.toNat : Int)) = some (.int .u8 (x.toNat : Int)) := Maps.keyOf_int_mk Tryd.underlying5 (by
  have := x.toNat_lt
  simp [Lit.wf, IntKind.min, IntKind.max, IntKind.bits, IntKind.signed]
  try omega)
theorem Bts.put {w : World} {b n : Nat} {L : List UInt8} (h : Bts w b n L) (x : UInt8) (hn : n < maxLen) :
    ∃ w', (Instr.mapUpdate 64 (.map (some b)) (.int .u8 (x.toNat : Int)) (.bool true)).run Tryd.prog w = .ok () w' ∧ Bts w' b (n + 1) (disStep L x) ∧ w.grownBy w' (some b) := by
  obtain ⟨D, ho, hsz, hD⟩ := h
  obtain ⟨w', h1, h2, h3⟩ := ho.update (Maps.int_keyed Tryd.underlying5) Tryd.underlying64 hn (key_byte x) (plainElem_bool Tryd.underlying4 true)
  refine ⟨w', h1, ⟨_, h2, ?_, fun y => ?_⟩, h3⟩
  · rw [Maps.size_put (ho.tidy (Maps.int_keyed Tryd.underlying5)), hD x, hsz]
    unfold disStep
    by_cases hx : x ∈ L
    · simp [hx]
    · simp [hx]
  · have hm : y ∈ disStep L x ↔ y = x ∨ y ∈ L := by
      unfold disStep
      split
      · constructor
        · exact .inr
        · rintro (rfl | h)
          · assumption
          · exact h
      · simp
    by_cases he : y = x
    · subst he
      rw [Maps.has_put_same ho.isMap (by first | trivial | exact ⟨_, rfl⟩ | constructor)]
      simp [hm]
    · rw [Maps.has_put_other (fun e => he (byte_inj (by injection e))), hD y]
      simp [hm, he]
theorem Bts.len {w : World} {b n : Nat} {L : List UInt8} (h : Bts w b n L) (ty : TypeId) : (Builtin.len_ #[64] ty #[.map (some b)]).run Tryd.prog w = .ok (.int .i64 (L.length : Int)) w := by
  obtain ⟨D, ho, hsz, hD⟩ := h
  rw [ho.len Tryd.underlying64 ty, hsz]
set_option maxHeartbeats 800000 in
theorem spread_any (A : Option Addr) (xs : List UInt8) (c : Nat) (r : Nat) (hr : spreadN xs = r) (w : World) (h : byte.C w A xs.length xs) (hl : xs.length ≤ 1000000) :
    Calls Tryd.prog 15 #[.slice A xs.length c] w fun e w' => e = .returned (.int .i64 (r : Int)) ∧ Below w.heap.size w w' := by
  have hmm := @run_makeMap Tryd.prog
  have HR := Aside0.mk hr
  clear hr
  go_enter Tryd.func15, Tryd.ntmps15
  go_wp2
  go_loopw [9, 5] (fun i _ wr => ∃ k : Nat, k ≤ xs.length ∧ i = .int .i64 k ∧ Aside0 (Bts wr w.heap.size k (dis (xs.take k))) ∧ Aside0 (Below w.heap.size w wr)) (fun i _ _ => xs.length - (intOf i).toNat)
  case atStart => exact ⟨0, Nat.zero_le _, rfl, ⟨Bts.made w⟩, ⟨below_alloc (Below.refl _ _) _⟩⟩
  case round =>
    obtain ⟨k, hk, rfl, HN, HB⟩ := hrel
    by_cases hlt : k < xs.length
    · obtain ⟨ad, rfl, g0⟩ := byte_at (Kd.C_below h HB.out) hlt
      obtain ⟨w2, hup, hN2, hg2⟩ := HN.out.put (gt xs k) (by simp [maxLen]; omega)
      rw [← dis_step xs k hlt] at hN2
      have HN2 := Aside0.mk hN2
      have HB2 : Aside0 (Below w.heap.size w w2) := ⟨pw_below_grown HB.out (some w.heap.size) HB.out.size hg2 (fun k e => by cases e; exact Nat.le_refl _)⟩
      clear hN2 hg2
      go_wp2
      go_roundw
      case rel => exact ⟨k + 1, by omega, by go_num, HN2, HB2⟩
      case measure => simp [intOf]; omega
    · have hle := fun ty => HN.out.len ty
      have HE : Aside0 ((dis (xs.take k)).length = r) := ⟨by rw [List.take_of_length_le (by omega)]; exact HR.out⟩
      go_wp2
      go_ret
      exact ⟨by rw [HE.out]; rfl, HB.out⟩
/-- Some one of the first j bytes is the k-th one. -/
def seenTo (xs : List UInt8) (k : Nat) : Nat → Bool
  | 0 => false
  | j + 1 => seenTo xs k j || (gt xs j == gt xs k)
theorem seenTo_iff (xs : List UInt8) (k j : Nat) : seenTo xs k j = true ↔ ∃ i, i < j ∧ gt xs i = gt xs k := by
  induction j with
  | zero => simp [seenTo]
  | succ j ih =>
    unfold seenTo
    rw [Bool.or_eq_true, ih, beq_iff_eq]
    constructor
    · rintro (⟨i, h1, h2⟩ | h)
      · exact ⟨i, by omega, h2⟩
      · exact ⟨j, by omega, h⟩
    · rintro ⟨i, h1, h2⟩
      by_cases he : i = j
      · subst he; exact .inr h2
      · exact .inl ⟨i, by omega, h2⟩
theorem dis_len (xs : List UInt8) (k : Nat) (hk : k < xs.length) : (dis (xs.take (k + 1))).length = (dis (xs.take k)).length + (if seenTo xs k k then 0 else 1) := by
  rw [dis_step xs k hk]
  unfold disStep
  have : gt xs k ∈ dis (xs.take k) ↔ seenTo xs k k = true := by
    rw [mem_dis_take, seenTo_iff]
    constructor
    · rintro ⟨j, h1, _, h3⟩; exact ⟨j, h1, h3⟩
    · rintro ⟨j, h1, h3⟩; exact ⟨j, h1, by omega, h3⟩
  by_cases hm : gt xs k ∈ dis (xs.take k)
  · rw [if_pos hm, if_pos (this.1 hm)]
    rfl
  · rw [if_neg hm, if_neg (fun h => hm (this.2 h))]
    simp
theorem drewN_step {w wr : World} (h : ∃ q, wr = w.drewN q) (n : Nat) : ∃ q, wr.drewN n = w.drewN q := by
  obtain ⟨q, rfl⟩ := h
  exact ⟨_, World.drewN_drewN ..⟩
theorem drew_sum {w w' : World} {a b : Nat} (h : ∃ m, w' = (w.drewN (a + b)).drewN m) : ∃ n, w' = w.drewN (a + n) := by
  obtain ⟨m, rfl⟩ := h
  exact ⟨b + m, by rw [World.drewN_drewN, Nat.add_assoc]⟩
theorem C_drewE {α : Type} {d : Kd α} {w wr : World} {A : Option Addr} {n : Nat} {xs : List α} (h : d.C w A n xs) (hw : ∃ q, wr = w.drewN q) : d.C wr A n xs := by
  obtain ⟨q, rfl⟩ := hw
  exact Kd.C_drewN h q
set_option maxHeartbeats 1600000 in
theorem rspread_any (A : Option Addr) (xs : List UInt8) (c : Nat) (r : Nat) (hr : spreadN xs = r) (w : World) (h : byte.C w A xs.length xs) (hl : xs.length ≤ 1000000) :
    Calls Tryd.prog 16 #[.slice A xs.length c] w fun e w' => e = .returned (.int .i64 (r : Int)) ∧ ∃ q, w' = w.drewN q := by
  have HR := Aside0.mk hr
  have HH := Aside0.mk h
  clear hr h
  go_enter Tryd.func16, Tryd.ntmps16
  go_wp2
  go_loopg [3, 4, 5, 6] xs.length (fun gk v3 i _ _ wr => ∃ k : Nat, k ≤ xs.length ∧ Aside0 (gk = xs.length - k) ∧ i = .int .i64 k ∧ ∃ n : Nat, v3 = .int .i64 n ∧ n ≤ k ∧ Aside0 (n = (dis (xs.take k)).length) ∧ Aside0 (∃ q, wr = w.drewN q))
  case atStart => exact ⟨0, Nat.zero_le _, ⟨rfl⟩, rfl, 0, rfl, Nat.le_refl _, ⟨rfl⟩, ⟨0, rfl⟩⟩
  case round =>
    obtain ⟨k, hk, HGK, rfl, n, rfl, hnk, HN, HW⟩ := hrel
    by_cases hlt : k < xs.length
    · have HLK := Aside0.mk hlt
      have hlt' : (k : Int) < (xs.length : Int) := by omega
      have HDL := Aside0.mk (dis_len xs k hlt)
      go_wp2
      go_loopg [6, 5] k (fun gj i v5 wz => ∃ j : Nat, j ≤ k ∧ Aside0 (gj = k - j) ∧ i = .int .i64 j ∧ (∃ b, v5 = .bool b ∧ Aside0 (b = !seenTo xs k j)) ∧ Aside0 (∃ q, wz = w.drewN q))
      case atStart => exact ⟨0, Nat.zero_le _, ⟨rfl⟩, rfl, ⟨true, rfl, ⟨rfl⟩⟩, HW⟩
      case round =>
        obtain ⟨j, hj, HGJ, rfl, ⟨b, rfl, HBB⟩, HWz⟩ := hrel
        by_cases hjt : j < k
        · obtain ⟨ad, rfl, g0⟩ := byte_at (C_drewE HH.out HWz.out) (show j < xs.length by omega)
          obtain ⟨_, e, g1⟩ := byte_at (C_drewE HH.out HWz.out) (show k < xs.length by omega)
          cases e
          have hjl : (j : Int) < (xs.length : Int) := by omega
          have HSS : Aside0 (seenTo xs k (j + 1) = (seenTo xs k j || (gt xs j == gt xs k))) := ⟨rfl⟩
          by_cases he : gt xs j = gt xs k
          · have he' : (((gt xs j).toNat : Int) == ((gt xs k).toNat : Int)) = true := by rw [he]; simp
            have HE := Aside0.mk he
            clear he
            go_wp2_with fail
            go_quiet (fail)
            go_wp2_with fail
            go_roundg (k - (j + 1))
            case measure => have := HGJ.out; omega
            case rel => exact ⟨j + 1, by omega, ⟨rfl⟩, by go_num, ⟨_, rfl, ⟨by rw [HSS.out, HE.out]; simp⟩⟩, ⟨drewN_step HWz.out _⟩⟩
          · have he' : (((gt xs j).toNat : Int) == ((gt xs k).toNat : Int)) = false := by simpa using fun h => he (byte_inj h)
            have HE := Aside0.mk he
            clear he
            go_wp2_with fail
            go_quiet (fail)
            go_wp2_with fail
            go_roundg (k - (j + 1))
            case measure => have := HGJ.out; omega
            case rel => exact ⟨j + 1, by omega, ⟨rfl⟩, by go_num, ⟨_, rfl, ⟨by rw [HSS.out, HBB.out]; simp [HE.out]⟩⟩, ⟨drewN_step HWz.out _⟩⟩
        · have hjk : j = k := by omega
          rw [hjk] at HBB
          clear hjk
          cases b
          · have HS : Aside0 (seenTo xs k k = true) := ⟨by have := HBB.out; simpa using this.symm⟩
            go_wp2_with fail
            go_roundg (xs.length - (k + 1))
            case measure => have := HGK.out; omega
            case rel => exact ⟨k + 1, by omega, ⟨rfl⟩, by go_num, n, rfl, by omega, ⟨by rw [HDL.out, HS.out, ← HN.out]; rfl⟩, HWz⟩
          · have HS : Aside0 (seenTo xs k k = false) := ⟨by have := HBB.out; simpa using this.symm⟩
            go_wp2_with fail
            go_roundg (xs.length - (k + 1))
            case measure => have := HGK.out; omega
            case rel => exact ⟨k + 1, by omega, ⟨rfl⟩, by go_num, n + 1, by go_num, by omega, ⟨by rw [HDL.out, HS.out, ← HN.out]; rfl⟩, HWz⟩
    · have HE : Aside0 (n = r) := ⟨by rw [HN.out, ← HR.out, List.take_of_length_le (by omega)]; rfl⟩
      go_wp2
      go_ret
      exact ⟨by rw [HE.out]; rfl, HW.out⟩
def wildB (xs : List UInt8) : Bool := decide (16 ≤ xs.length) && decide (3 * min xs.length 64 ≤ 4 * spreadN xs)
theorem spread_le (xs : List UInt8) : spreadN xs ≤ xs.length := by
  have := dis_le xs xs.length
  rwa [List.take_length] at this
set_option maxHeartbeats 800000 in
theorem wild_any (A : Option Addr) (xs : List UInt8) (c : Nat) (r : Bool) (hr : wildB xs = r) (w : World) (h : byte.C w A xs.length xs) (hl : xs.length ≤ 1000000) :
    Calls Tryd.prog 17 #[.slice A xs.length c] w fun e w' => e = .returned (.bool r) ∧ Below w.heap.size w w' := by
  obtain ⟨s, hs⟩ : ∃ s, spreadN xs = s := ⟨_, rfl⟩
  have hsl : s ≤ xs.length := by rw [← hs]; exact spread_le xs
  have HC := Aside0.mk (spread_any A xs c s hs w h hl)
  have HR : Aside0 ((decide (16 ≤ xs.length) && decide (3 * min xs.length 64 ≤ 4 * s)) = r) := ⟨by rw [← hs]; exact hr⟩
  clear hr hs h
  obtain ⟨n, hn⟩ : ∃ n, n = xs.length := ⟨_, rfl⟩
  rw [← hn] at HC HR hl hsl ⊢
  clear hn
  have HB0 := Below.refl w.heap.size w
  go_enter Tryd.func17, Tryd.ntmps17
  by_cases h16 : 16 ≤ n
  · have h16' : (16 : Int) ≤ (n : Int) := by omega
    go_wp2_with (go_at_call 15; refine HC.out.mono ?_; rintro e w1 ⟨rfl, hb⟩; have HB := Aside0.mk hb; clear hb)
    all_goals
      go_ret
      exact ⟨ret_bool (by rw [← HR.out, decide_eq_true h16, Bool.true_and]; exact decide_eq_decide.mpr (by omega)), HB.out⟩
  · go_wp2_with fail
    go_ret
    exact ⟨ret_bool (by rw [← HR.out, decide_eq_false h16]; rfl), HB0⟩
set_option maxHeartbeats 800000 in
theorem rwild_any (A : Option Addr) (xs : List UInt8) (c : Nat) (r : Bool) (hr : wildB xs = r) (w : World) (h : byte.C w A xs.length xs) (hl : xs.length ≤ 1000000) :
    Calls Tryd.prog 18 #[.slice A xs.length c] w fun e w' => e = .returned (.bool r) ∧ ∃ q, w' = w.drewN q := by
  obtain ⟨s, hs⟩ : ∃ s, spreadN xs = s := ⟨_, rfl⟩
  have hsl : s ≤ xs.length := by rw [← hs]; exact spread_le xs
  have HC := Aside0.mk (rspread_any A xs c s hs w h hl)
  have HR : Aside0 ((decide (16 ≤ xs.length) && decide (3 * min xs.length 64 ≤ 4 * s)) = r) := ⟨by rw [← hs]; exact hr⟩
  clear hr hs h
  obtain ⟨n, hn⟩ : ∃ n, n = xs.length := ⟨_, rfl⟩
  rw [← hn] at HC HR hl hsl ⊢
  clear hn
  go_enter Tryd.func18, Tryd.ntmps18
  by_cases h16 : 16 ≤ n
  · have h16' : (16 : Int) ≤ (n : Int) := by omega
    by_cases h64 : 64 < n
    all_goals
      go_wp2_with (go_at_call 16; refine HC.out.mono ?_; rintro e w1 ⟨rfl, hb⟩; have HB := Aside0.mk hb; clear hb)
      go_ret
      exact ⟨ret_bool (by rw [← HR.out, decide_eq_true h16, Bool.true_and]; exact decide_eq_decide.mpr (by omega)), HB.out⟩
  · have h64 : ¬ (64 : Int) < (n : Int) := by omega
    go_wp2_with fail
    go_ret
    exact ⟨ret_bool (by rw [← HR.out, decide_eq_false h16]; rfl), 0, rfl⟩
end Go.Proofs.YtoglbbonfjnmpaaDoor
