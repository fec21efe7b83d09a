/-
  Chapter 51: whether a block begins with a good magic number.
-/
import Derived.Test.YtoglbbonfjnmpaaDoorPh
import Derived.Laws.Cover3
namespace Go.Proofs.YtoglbbonfjnmpaaDoor
open Go.RowKit Go.Proofs.YtoglbbonfjnmpaaDoorW.PrintWords Go.Proofs.YtoglbbonfjnmpaaDoorW.PrintLast Go.Proofs.YtoglbbonfjnmpaaDoorW.PrintMore
set_option linter.unusedVariables false
set_option linter.unusedSimpArgs false

theorem info_four : (Tryd.prog.info? 67).map (·.size) = some 4 := by kernel_rfl
theorem run_load4 {w : World} (p : Addr) (xs : List UInt8) (hl : xs.length = 4) (hc : ∀ j u, (bytesV xs)[j]? = some u → w.cell? (p.add j) = some u) : (loadVar 67 p).run Tryd.prog w = .ok (.agg (bytesV xs).toArray) w := by
  have hl2 : (loadCells p (bytesV xs).length).run Tryd.prog w = .ok (bytesV xs).toArray w := run_loadCells_list (P := Tryd.prog) w p (bytesV xs) hc
  have hlen : (bytesV xs).length = 4 := by simp [bytesV, hl]
  have hagg : (isAgg 67).run Tryd.prog w = .ok true w := by
    unfold isAgg
    rw [Sem.run_bind, run_underlying Tryd.underlying67 w]
    simp
  rw [hlen] at hl2
  cases hq : Tryd.prog.info? 67 with
  | none => have := info_four; simp [hq] at this
  | some i =>
    have hs : i.size = 4 := by have := info_four; simpa [hq] using this
    simp [loadVar, Sem.run_bind, hagg, sizeOf, typeInfo, hq, hs, hl2]
theorem load4 {ops : Array Oper} {rest : List Oper} {op : Oper} {a : Act} {w : World} {Q : Exit → Act → World → Prop} (hgd : op.guard = none) (x : Operand) (ho : op.op = .load 67 x)
    (p : Addr) (hx : a.eval x = .pointer (some p)) (xs : List UInt8) (hl : xs.length = 4) (hc : ∀ j u, (bytesV xs)[j]? = some u → w.cell? (p.add j) = some u)
    (h : wpList Tryd.prog ops Q rest (a.put op.dst (.agg (bytesV xs).toArray)) w) : wpList Tryd.prog ops Q (op :: rest) a w := by
  refine wpList_plain hgd fun _ hK => ?_
  unfold Oper.wp execOp
  simp only [ho, hx, Instr.loadAt, Instr.sureAddr, Sem.run_bind, Sem.run_pure, Result.andThen_ok, run_load4 p xs hl hc]
  exact hK _ _ h
theorem load4_quiet {ops : Array Oper} {rest : List Oper} {op : Oper} {a : Act} {w : World} {Q : Act → Prop} (hw : Region.wanted op (yielded ops a.tmps) = true) (x : Operand) (ho : op.op = .load 67 x)
    (p : Addr) (hx : a.eval x = .pointer (some p)) (xs : List UInt8) (hl : xs.length = 4) (hc : ∀ j u, (bytesV xs)[j]? = some u → w.cell? (p.add j) = some u)
    (h : wpQuiet Tryd.prog ops (fun w' => ∃ n, w' = w.drewN n) Q rest (a.put op.dst (.agg (bytesV xs).toArray))) : wpQuiet Tryd.prog ops (fun w' => ∃ n, w' = w.drewN n) Q (op :: rest) a :=
  wpQuiet_step fun K hK => by
    rw [if_pos hw]
    refine ⟨_, fun w' hw' => ?_, hK _ h⟩
    obtain ⟨n, rfl⟩ := hw'
    have hc' : ∀ j u, (bytesV xs)[j]? = some u → (w.drewN n).cell? (p.add j) = some u := fun j u hu => hc j u hu
    unfold Oper.quietAt execOp
    simp only [ho, hx, Instr.loadAt, Instr.sureAddr, Sem.run_bind, Sem.run_pure, Result.andThen_ok, run_load4 p xs hl hc']
    exact ⟨rfl, rfl⟩
theorem eq_all4 (xs ys : List UInt8) (hx : xs.length = 4) (hy : ys.length = 4) : decide (xs = ys) = (List.range' 0 4).all fun i => gt xs i == gt ys i := by
  rw [Bool.eq_iff_iff]
  simp only [decide_eq_true_eq, List.all_eq_true, List.mem_range'_1, beq_iff_eq]
  constructor
  · rintro rfl i _; rfl
  · intro h
    apply List.ext_getElem (by omega)
    intro i h1 h2
    have := h i (by omega)
    rwa [gt_eq _ _ h1, gt_eq _ _ h2] at this
theorem eqA_four (d : Nat) (xs ys : List UInt8) (hx : xs.length = 4) (hy : ys.length = 4) (w : World) : (Op.equalIn (d + 1 + 1) 67 (.agg (bytesV xs).toArray) (.agg (bytesV ys).toArray)).run Tryd.prog w = .ok (decide (xs = ys)) w := by
  have hsz : (sizeOf 5).run Tryd.prog w = .ok 1 w := by
    cases hq : Tryd.prog.info? 5 with
    | none => have := info_byte; simp [hq] at this
    | some i =>
      have : i.size = 1 := by have := info_byte; simp [hq] at this; exact this.2.1
      simp [sizeOf, typeInfo, Sem.run_bind, hq, this]
  rw [Op.equalIn, eq_all4 xs ys hx hy]
  simp only [Sem.run_bind, run_underlying Tryd.underlying67 w, Result.andThen_ok, hsz]
  rw [Std.Legacy.Range.forIn_eq_forIn_range']
  have key : ∀ i ∈ List.range' 0 4, i < 4 := by
    intro i hi
    have := List.mem_range'_1.1 hi
    omega
  show ((Sem.run Tryd.prog (forIn (List.range' 0 4) _ _) w).andThen _) = _
  generalize List.range' 0 4 = L at key
  induction L with
  | nil => simp
  | cons i L ih =>
    have hi := key i (by simp)
    have ih' := ih (fun j hj => key j (by simp [hj]))
    simp only [List.forIn_cons, Sem.run_bind, Nat.mul_one, part_bytes xs i (by omega), part_bytes ys i (by omega), Result.andThen_ok, run_equalIn_int w d 5 .u8 .u8 _ _ Tryd.underlying5]
    have e : (((gt xs i).toNat : Int) == ((gt ys i).toNat : Int)) = (gt xs i == gt ys i) := by
      rw [Bool.eq_iff_iff]
      simp only [beq_iff_eq]
      exact ⟨byte_inj, fun h => by rw [h]⟩
    rw [e]
    cases hb : (gt xs i == gt ys i)
    · simp [hb]
    · simp only [List.all_cons, hb, Bool.true_and]
      simpa using ih'
theorem eql_four (xs ys : List UInt8) (hx : xs.length = 4) (hy : ys.length = 4) (b : Bool) (hb : decide (xs = ys) = b) (w : World) : (Op.equalIn 10000 67 (.agg (bytesV xs).toArray) (.agg (bytesV ys).toArray)).run Tryd.prog w = .ok b w := by
  subst hb
  exact eqA_four 9998 xs ys hx hy w
theorem row4_cells {w : World} (h : NumAt w) (k : Nat) (hk : k < 4) : ∀ j u, (bytesV (magicK k))[j]? = some u → w.cell? ((⟨0, k * 4, none⟩ : Addr).add j) = some u := fun j u hu => by
  have hl : (magicK k).length = 4 := magicK_len k
  have hj : j < 4 := by have := (List.getElem?_eq_some_iff.1 hu).1; simpa [bytesV, hl] using this
  obtain ⟨ad, e, h0⟩ := byte_at (num_row h k hk) (k := j) hj
  cases e
  have : u = .int .u8 ((gt (magicK k) j).toNat : Int) := by
    simp [bytesV, gt_some (magicK k) j (by omega)] at hu
    exact hu.symm
  rw [this]
  exact h0
theorem box4_cells {W : World} {g : Nat} {t : TypeId} {xs : List UInt8} (h : W.heap[g]? = some (.cells (bytesV xs).toArray t (0, 0))) : ∀ j u, (bytesV xs)[j]? = some u → W.cell? ((⟨g, 0, none⟩ : Addr).add j) = some u := fun j u hu => by
  rw [add_plain, blk_cell h]
  simpa using hu
/-- Is it one of the good beginnings? -/
def goodB (M : List UInt8) : Bool := (List.range 4).any fun k => decide (M = magicK k)
theorem good_hit {M : List UInt8} {k : Nat} (hk : k < 4) (h : M = magicK k) : goodB M = true := by
  unfold goodB
  rw [List.any_eq_true]
  exact ⟨k, List.mem_range.2 hk, decide_eq_true h⟩
theorem good_miss {M : List UInt8} (h : ∀ j, j < 4 → M ≠ magicK j) : goodB M = false := by
  unfold goodB
  rw [List.any_eq_false]
  intro k hk
  simp [h k (List.mem_range.1 hk)]
set_option maxHeartbeats 1600000 in
theorem idx4_any (M : List UInt8) (hM : M.length = 4) (r : Bool) (hr : goodB M = r) (w : World) (h : NumAt w) :
    Calls Tryd.prog 53 #[.slice (some ⟨0, 0, none⟩) 4 4, .agg (bytesV M).toArray] w fun e w' => (∃ i : Int, e = .returned (.int .i64 i) ∧ decide (0 ≤ i) = r) ∧ Below w.heap.size w w' := by
  have HR := Aside0.mk hr
  have HB := Aside0.mk (below_alloc (Below.refl w.heap.size w) (.cells (bytesV M).toArray 67))
  have HX := Aside0.mk (blk_new w (.cells (bytesV M).toArray 67))
  have HNM := Aside0.mk (Kd.C_below h HB.out)
  clear hr h
  go_enter Tryd.func53, Tryd.ntmps53
  go_wp2
  go_loopg [8, 5] 4 (fun gk i _ wr => ∃ k : Nat, k ≤ 4 ∧ Aside0 (gk = 4 - k) ∧ i = .int .i64 k ∧ Aside0 (∀ j, j < k → M ≠ magicK j) ∧ ∃ q, wr = (w.alloc (.cells (bytesV M).toArray 67)).drewN q)
  case atStart => exact ⟨0, by omega, ⟨rfl⟩, rfl, ⟨fun _ h => absurd h (by omega)⟩, 0, rfl⟩
  case round =>
    obtain ⟨k, hk, HGK, rfl, HN, q, rfl⟩ := hrel
    by_cases hlt : k < 4
    · have hlt' : (k : Int) < 4 := by omega
      obtain ⟨b, hb⟩ : ∃ b, decide (M = magicK k) = b := ⟨_, rfl⟩
      have he : ∀ w, (Op.equalIn 10000 67 (.agg (bytesV M).toArray) (.agg (bytesV (magicK k)).toArray)).run Tryd.prog w = .ok b w := eql_four M (magicK k) hM (magicK_len k) b hb
      have HBB := Aside0.mk hb
      have HLT := Aside0.mk hlt
      clear hb
      go_wp2_with fail
      (refine wp_region_quiet_lit (by kernel_rfl) (by kernel_rfl) ?_)
      repeat (first | (refine load4_quiet rfl _ rfl ⟨w.heap.size, 0, none⟩ rfl M hM (box4_cells (blk_drewN HX.out q)) ?_; dsimp only [Act.put]; simp only [List.setIfInBounds_toArray, List.set_cons_succ, List.set_cons_zero]) | (refine load4_quiet rfl _ rfl ⟨0, k * 4, none⟩ rfl (magicK k) (magicK_len k) (row4_cells (Kd.C_drewN HNM.out q) k HLT.out) ?_; dsimp only [Act.put]; simp only [List.setIfInBounds_toArray, List.set_cons_succ, List.set_cons_zero]) | go_big_quiet_step (fail))
      refine wpQuiet_nil ?_
      intro _ hw'
      obtain ⟨nq, hw''⟩ := hw'
      subst hw''
      cases b
      · go_wp2_with fail
        go_roundg (4 - (k + 1))
        case measure => have := HGK.out; omega
        case rel => exact ⟨k + 1, by omega, ⟨rfl⟩, by go_num, ⟨fun j hj => if hq : j = k then by rw [hq]; exact of_decide_eq_false HBB.out else HN.out j (by omega)⟩, _, by first | rfl | exact World.drewN_drewN ..⟩
      · go_wp2_with fail
        go_ret
        exact ⟨⟨_, rfl, by rw [← HR.out, good_hit HLT.out (of_decide_eq_true HBB.out)]; simp⟩, by first | exact pw_below_drewN HB.out _ | exact pw_below_drewN (pw_below_drewN HB.out _) _⟩
    · have HF : Aside0 (r = false) := ⟨by rw [← HR.out]; exact good_miss (fun j hj => HN.out j (by omega))⟩
      have hlt' : ¬ (k : Int) < 4 := by omega
      go_wp2_with fail
      go_ret
      exact ⟨⟨-1, rfl, by rw [HF.out]; rfl⟩, pw_below_drewN HB.out _⟩
theorem contains4_any (M : List UInt8) (hM : M.length = 4) (r : Bool) (hr : goodB M = r) (w : World) (h : NumAt w) :
    Calls Tryd.prog 31 #[.slice (some ⟨0, 0, none⟩) 4 4, .agg (bytesV M).toArray] w fun e w' => e = .returned (.bool r) ∧ Below w.heap.size w w' := by
  have HB := Aside0.mk (below_alloc (Below.refl w.heap.size w) (.cells (bytesV M).toArray 67))
  have HX := Aside0.mk (blk_new w (.cells (bytesV M).toArray 67))
  have HC := Aside0.mk (idx4_any M hM r hr _ (Kd.C_below h HB.out))
  clear hr h
  go_enter Tryd.func31, Tryd.ntmps31
  go_wp2_with (first | ((with_reducible refine gate_dst (N := 6) rfl ?_); refine load4 rfl _ rfl ⟨w.heap.size, 0, none⟩ rfl M hM (box4_cells HX.out) ?_) | (go_at_call 53; refine HC.out.mono ?_; rintro e w1 ⟨⟨i, rfl, hi⟩, hb⟩; have HB1 := Aside0.mk (below_step HB.out hb); have HI := Aside0.mk hi; clear hb hi))
  go_ret
  exact ⟨ret_bool HI.out, HB1.out⟩
/-- The first four bytes of a block. -/
def front4 (b : List UInt8) : List UInt8 := [gt b 0, gt b 1, gt b 2, gt b 3]
theorem bytes_cell (b : List UInt8) (i : Nat) (hi : i < b.length) : (bytesV b).toArray[i]? = some (.int .u8 ((gt b i).toNat : Int)) := by
  simp [bytesV, gt_some b i hi]
set_option maxRecDepth 8000 in
set_option maxHeartbeats 1600000 in
theorem pmagic_any (b : List UInt8) (hb : b.length = 32) (r : Bool) (hr : goodB (front4 b) = r) (w : World) (h : NumAt w) :
    Calls Tryd.prog 19 #[.agg (bytesV b).toArray] w fun e w' => e = .returned (.bool r) ∧ Below w.heap.size w w' := by
  have HB := Aside0.mk (below_alloc (Below.refl w.heap.size w) (.cells (bytesV b).toArray 24))
  have hx := blk_new w (.cells (bytesV b).toArray 24)
  have z0 := blk_cell hx 0
  have z1 := blk_cell hx 1
  have z2 := blk_cell hx 2
  have z3 := blk_cell hx 3
  rw [bytes_cell b 0 (by omega)] at z0
  rw [bytes_cell b 1 (by omega)] at z1
  rw [bytes_cell b 2 (by omega)] at z2
  rw [bytes_cell b 3 (by omega)] at z3
  have HN := Aside0.mk (Kd.C_drew (Kd.C_below h HB.out))
  have HR := Aside0.mk hr
  have harr : ∀ w g, (Instr.arrayAt 67 (.slice (some ⟨g, 0, none⟩) 4 32)).run Tryd.prog w = .ok (.pointer (some ⟨g, 0, none⟩)) w := fun w g => run_arrayAt w 67 5 4 _ 4 32 Tryd.underlying67 (Nat.le_refl _)
  clear hx hr h
  go_enter Tryd.func19, Tryd.ntmps19
  go_wp2_with fail
  go_region_with (go_at_call 31; refine (contains4_any (front4 b) rfl r HR.out _ HN.out).mono ?_; rintro e w1 ⟨rfl, hb1⟩; have HB1 := Aside0.mk (below_step (below_drew1 HB.out) hb1); clear hb1)
  all_goals
    go_wp2_with fail
    go_ret
    exact ⟨rfl, HB1.out⟩
end Go.Proofs.YtoglbbonfjnmpaaDoor
