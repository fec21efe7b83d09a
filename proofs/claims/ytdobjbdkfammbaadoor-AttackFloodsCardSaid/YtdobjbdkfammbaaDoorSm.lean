/-
  Chapter 55: the law's comparison of deeds: deeds that are as the document's are told so.
-/
import Derived.Test.YtdobjbdkfammbaaDoorAw
import Derived.Test.YtdobjbdkfammbaaDoorRf1
import Derived.Test.YtdobjbdkfammbaaDoorWEqStruct
namespace Go.Proofs.YtdobjbdkfammbaaDoor
open Go.RowKit Go.Shelf Go.Proofs.YtdobjbdkfammbaaDoorW.PrintWords Go.Proofs.YtdobjbdkfammbaaDoorW.PrintLast Go.Proofs.YtdobjbdkfammbaaDoorW.PrintMore
set_option linter.unusedVariables false
set_option linter.unusedSimpArgs false

theorem part_agg {t : TypeId} {n : Nat} (w : World) (hagg : (isAgg t).run Tryd.prog w = .ok true w) (hi : (Tryd.prog.info? t).map (·.size) = some n) (cs : Array Value) (off : Nat) : (part t cs off).run Tryd.prog w = .ok (.agg (cs.extract off (off + n))) w := by
  cases hq : Tryd.prog.info? t with
  | none => simp [hq] at hi
  | some i =>
    have hs : i.size = n := by simpa [hq] using hi
    simp [part, Sem.run_bind, hagg, sizeOf, typeInfo, hq, hs]
theorem agg_block (w : World) : (isAgg 37).run Tryd.prog w = .ok true w := by
  unfold isAgg
  rw [Sem.run_bind, run_underlying Tryd.underlying37 w]
  simp
theorem agg_place (w : World) : (isAgg 35).run Tryd.prog w = .ok true w := by
  unfold isAgg
  rw [Sem.run_bind, run_underlying Tryd.underlying35 w]
  simp
theorem info_place : (Tryd.prog.info? 35).map (·.size) = some 3 := by kernel_rfl
theorem part_place (w : World) (y : Wr) : (part 35 (wrV y).toArray 0).run Tryd.prog w = .ok (.agg #[.int .i64 0, .int .i64 y.vol, .int .i64 y.blk]) w := by
  rw [part_agg w (agg_place w) info_place]
  simp [wrV]
theorem part_data (w : World) (y : Wr) (hl : y.data.length = 32) : (part 37 (wrV y).toArray 3).run Tryd.prog w = .ok (.agg (bytesV y.data).toArray) w := by
  rw [part_agg w (agg_block w) info_block]
  have : (wrV y).toArray.extract 3 (3 + 32) = (bytesV y.data).toArray := by
    simp [wrV]
    rw [List.take_of_length_le (by simp [bytesV, hl])]
  rw [this]
set_option maxRecDepth 4000 in
theorem eq_place (d : Nat) (w : World) (a b : Int) : (Op.equalIn (d + 1 + 1) 35 (.agg #[.int .i64 0, .int .i64 a, .int .i64 b]) (.agg #[.int .i64 0, .int .i64 a, .int .i64 b])).run Tryd.prog w = .ok true w := by
  refine eqA_of Tryd.underlying35 (by kernel_rfl) ?_
  have h : true = (((0 : Int) == 0) && ((a == a) && (b == b))) := by simp
  rw [h]
  clear h
  refine eqf_cons (by rfl) (by go_simp; rfl) (by go_simp; rfl) (by go_simp) ?_
  refine eqf_cons (by rfl) (by go_simp; rfl) (by go_simp; rfl) (by go_simp) ?_
  exact eqf_last (by rfl) (by go_simp; rfl) (by go_simp; rfl) (by go_simp)
theorem eq_wr (y : Wr) (hl : y.data.length = 32) (w : World) : (Op.equalIn 10000 39 (.agg (wrV y).toArray) (.agg (wrV y).toArray)).run Tryd.prog w = .ok true w := by
  refine eqA_of (d := 9999) Tryd.underlying39 (by kernel_rfl) ?_
  refine eqf_cons (r := true) (s := true) (by rfl) (part_place w y) (part_place w y) (eq_place 9997 w _ _) ?_
  refine eqf_last (by rfl) (part_data w y hl) (part_data w y hl) ?_
  have := eqA_block 9997 y.data y.data hl hl w
  simpa using this
theorem load_write_quiet {ops : Array Oper} {rest : List Oper} {op : Oper} {a : Act} {w : World} {Q : Act → Prop} (hw : Region.wanted op (yielded ops a.tmps) = true) (x : Operand) (ho : op.op = .load 39 x)
    (p : Addr) (hx : a.eval x = .pointer (some p)) (y : Wr) (hl : y.data.length = 32) (hc : ∀ j u, (wrV y)[j]? = some u → w.cell? (p.add j) = some u)
    (h : wpQuiet Tryd.prog ops (fun w' => ∃ n, w' = w.drewN n) Q rest (a.put op.dst (.agg (wrV y).toArray))) : wpQuiet Tryd.prog ops (fun w' => ∃ n, w' = w.drewN n) Q (op :: rest) a :=
  wpQuiet_step fun K hK => by
    rw [if_pos hw]
    refine ⟨_, fun w' hw' => ?_, hK _ h⟩
    obtain ⟨n, rfl⟩ := hw'
    have hc' : ∀ j u, (wrV y)[j]? = some u → (w.drewN n).cell? (p.add j) = some u := fun j u hu => hc j u hu
    unfold Oper.quietAt execOp
    simp only [ho, hx, Instr.loadAt, Instr.sureAddr, Sem.run_bind, Sem.run_pure, Result.andThen_ok, run_load_write p y hl hc']
    exact ⟨rfl, rfl⟩
/-- A deed of the document, as the program has it. -/
def ddOf (x : Rd) : Dd := ⟨if x.ws = [] then 2 else 1, x.ws, x.min⟩
set_option maxRecDepth 4000 in
set_option maxHeartbeats 3200000 in
theorem same55 (A B : Option Addr) (n c1 c2 : Nat) (xs : List Dd) (ys : List Rd) (w : World) (h1 : kDd.C w A n xs) (h2 : kRd.C w B n ys) (hs : ∀ k, k < n → gt xs k = ddOf (gt ys k)) (hn : n ≤ 1000000) :
    Calls Tryd.prog 13 #[.slice A n c1, .slice B n c2] w fun e w' => e = .returned (.int .i64 1) ∧ Below w.heap.size w w' := by
  have H1 := Aside0.mk h1
  have H2 := Aside0.mk h2
  have HS := Aside0.mk hs
  clear h1 h2 hs
  go_enter Tryd.func13, Tryd.ntmps13
  go_wp2_with fail
  go_loopg [16, 5, 6, 7, 8] n (fun gk i _ _ _ _ wr => ∃ k : Nat, k ≤ n ∧ Aside0 (gk = n - k) ∧ i = .int .i64 k ∧ Aside0 (Below w.heap.size w wr))
  case atStart => exact ⟨0, Nat.zero_le _, ⟨rfl⟩, rfl, ⟨Below.refl _ _⟩⟩
  case round =>
    obtain ⟨k, hk, HGK, rfl, HB⟩ := hrel
    by_cases hlt : k < n
    · have hkn : (k : Int) < (n : Int) := by omega
      obtain ⟨ad, A1, d1, rfl, g0, g1, g2, hl1, hC1⟩ := dd_at (Kd.C_below H1.out HB.out) hlt
      obtain ⟨bd, A2, d2, rfl, r0, r1, hl2, hC2⟩ := rd_at (Kd.C_below H2.out HB.out) hlt
      have hxy := HS.out k hlt
      obtain ⟨y, hy⟩ : ∃ y, y = gt ys k := ⟨_, rfl⟩
      rw [hxy, ← hy] at g0 g1 g2 hl1 hC1
      rw [← hy] at r0 r1 hl2 hC2
      unfold ddOf at g0 g1 g2 hl1 hC1
      simp only at g0 g1 g2 hl1 hC1
      have hmx := Kd.C_max hC1
      obtain ⟨m, hm⟩ : ∃ m, m = y.ws.length := ⟨_, rfl⟩
      obtain ⟨ws, hws⟩ : ∃ ws, ws = y.ws := ⟨_, rfl⟩
      obtain ⟨mn, hmn⟩ : ∃ mn, mn = y.min := ⟨_, rfl⟩
      rw [← hm] at g1 r0 hl1 hl2 hC1 hC2 hmx
      rw [← hws] at g0 hC1 hC2
      rw [← hmn] at g2 r1
      have HC1 := Aside0.mk hC1
      have HC2 := Aside0.mk hC2
      have hwl : ws.length = m := by rw [hws, hm]
      clear hxy hy hm hmn hC1 hC2 hws
      have HWL := Aside0.mk hwl
      obtain ⟨kd, hkd⟩ : ∃ kd : Int, kd = if ws = [] then 2 else 1 := ⟨_, rfl⟩
      rw [← hkd] at g0
      have HKD := Aside0.mk hkd
      clear hwl hkd
      go_upto_region 6 with fail
      obtain ⟨W1, hW1⟩ : ∃ W1, wr.alloc (.cells #[.int .i64 kd, .slice A1 m d1, .int .i64 mn] 33) = W1 := ⟨_, rfl⟩
      have hb1 : Below wr.heap.size wr W1 := by rw [← hW1]; exact below_alloc (Below.refl _ _) _
      have hbx : W1.heap[wr.heap.size]? = some (.cells #[.int .i64 kd, .slice A1 m d1, .int .i64 mn] 33 (0, 0)) := by rw [← hW1]; exact blk_new wr _
      have z0 := blk_cell hbx 0
      have z1 := blk_cell hbx 1
      have z2 := blk_cell hbx 2
      simp only [List.getElem?_toArray, List.getElem?_cons_zero, List.getElem?_cons_succ] at z0 z1 z2
      replace r0 := cell_old hb1 r0
      replace r1 := cell_old hb1 r1
      have HB1 := Aside0.mk (below_step HB.out hb1)
      replace HC1 := Aside0.mk (Kd.C_below HC1.out hb1)
      replace HC2 := Aside0.mk (Kd.C_below HC2.out hb1)
      obtain ⟨Bd, hBd⟩ : ∃ Bd, Bd = wr.heap.size := ⟨_, rfl⟩
      rw [hW1]
      rw [← hBd] at z0 z1 z2 ⊢
      clear hW1 hb1 hbx hBd g0 g1 g2
      by_cases h0 : m = 0
      · subst h0
        have hk2 : kd = 2 := by rw [HKD.out, if_pos (List.eq_nil_of_length_eq_zero HWL.out)]
        subst hk2
        go_wp2_with fail
        go_quiet (fail)
        go_wp2_with fail
        obtain ⟨W3, hW3⟩ : ∃ W3, W1.drewN nq = W3 := ⟨_, rfl⟩
        have HB3 : Aside0 (Below w.heap.size w W3) := ⟨by rw [← hW3]; exact pw_below_drewN HB1.out _⟩
        rw [hW3]
        clear hW3
        go_loopg [57, 8] 1 (fun gj i _ wz => i = .int .i64 (0 : Nat) ∧ Aside0 (Below w.heap.size w wz))
        case atStart => exact ⟨rfl, HB3⟩
        case round =>
          obtain ⟨rfl, HBz⟩ := hrel
          go_wp2_with fail
          go_roundg (n - (k + 1))
          case measure => have := HGK.out; omega
          case rel => exact ⟨k + 1, by omega, ⟨rfl⟩, by go_num, HBz⟩
      · have hk1 : kd = 1 := by rw [HKD.out, if_neg (fun e => h0 (by rw [← HWL.out, e]; rfl))]
        have hm0 : ((m : Int) == 0) = false := by simpa using h0
        subst hk1
        go_wp2_with fail
        go_quiet (fail)
        go_wp2_with fail
        obtain ⟨W3, hW3⟩ : ∃ W3, W1.drewN nq = W3 := ⟨_, rfl⟩
        have HB3 : Aside0 (Below W1.heap.size W1 W3) := ⟨by rw [← hW3]; exact pw_below_drewN (Below.refl _ _) _⟩
        rw [hW3]
        have Z1 := Aside0.mk z1
        have R0 := Aside0.mk r0
        clear hW3 z0 z1 z2 r0 r1 hm0
        go_loopg [57, 8] m (fun gj i _ wz => ∃ j : Nat, j ≤ m ∧ Aside0 (gj = m - j) ∧ i = .int .i64 j ∧ Aside0 (Below W1.heap.size W1 wz))
        case atStart => exact ⟨0, Nat.zero_le _, ⟨rfl⟩, rfl, HB3⟩
        case round =>
          obtain ⟨j, hj, HGJ, rfl, HBz⟩ := hrel
          by_cases hjt : j < m
          · have hjm : (j : Int) < (m : Int) := by omega
            obtain ⟨a1, rfl, hy32, hca⟩ := wr_at (Kd.C_below HC1.out HBz.out) hjt
            obtain ⟨a2, rfl, _, hcb⟩ := wr_at (Kd.C_below HC2.out HBz.out) hjt
            obtain ⟨y, hy⟩ : ∃ y, y = gt ws j := ⟨_, rfl⟩
            rw [← hy] at hy32 hca hcb
            have z1 := cell_old HBz.out Z1.out
            have r0 := cell_old HBz.out R0.out
            have HY1 := Aside0.mk hca
            have HY2 := Aside0.mk hcb
            have he := eq_wr y hy32
            clear hy hca hcb
            go_wp2_with fail
            (refine wp_region_quiet_lit (by kernel_rfl) (by kernel_rfl) ?_)
            repeat (first | (refine load_write_quiet rfl _ rfl (a1.add (j * 35)) rfl y hy32 HY1.out ?_; dsimp only [Act.put]; simp only [List.setIfInBounds_toArray, List.set_cons_succ, List.set_cons_zero]) | (refine load_write_quiet rfl _ rfl (a2.add (j * 35)) rfl y hy32 HY2.out ?_; dsimp only [Act.put]; simp only [List.setIfInBounds_toArray, List.set_cons_succ, List.set_cons_zero]) | go_big_quiet_step (fail))
            refine wpQuiet_nil ?_
            intro _ hw'
            obtain ⟨nq, hw''⟩ := hw'
            subst hw''
            go_wp2_with fail
            go_roundg (m - (j + 1))
            case measure => have := HGJ.out; omega
            case rel => exact ⟨j + 1, by omega, ⟨rfl⟩, by go_num, ⟨pw_below_drewN HBz.out _⟩⟩
          · have hjm : ¬ (j : Int) < (m : Int) := by omega
            go_wp2_with fail
            go_roundg (n - (k + 1))
            case measure => have := HGK.out; omega
            case rel => exact ⟨k + 1, by omega, ⟨rfl⟩, by go_num, ⟨below_step HB1.out HBz.out⟩⟩
    · go_wp2_with fail
      go_ret
      exact ⟨rfl, HB.out⟩
end Go.Proofs.YtdobjbdkfammbaaDoor
