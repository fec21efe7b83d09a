/-
  Chapter 49, the small functions of fs: whether a name may be, whether a file is right.
-/
import Derived.Test.YtdobjbdkfammbaaDoorBytes
import Derived.Test.YtdobjbdkfammbaaDoorWArr
import Derived.Deep.MidRow
import Derived.Deep.WholeRow
import Derived.Deep.Slices
import Derived.Great.BuildSlice
namespace Go.Proofs.YtdobjbdkfammbaaDoor
open Go.RowKit Go.Proofs.YtdobjbdkfammbaaDoorW.PrintWords Go.Proofs.YtdobjbdkfammbaaDoorW.PrintLast Go.Proofs.YtdobjbdkfammbaaDoorW.PrintMore
set_option linter.unusedVariables false
set_option linter.unusedSimpArgs false

/-- A byte that a name may hold. -/
def okC (c : Int) : Bool := c == 46 || (decide (97 ≤ c) && decide (c ≤ 122)) || (decide (48 ≤ c) && decide (c ≤ 57))
def okTo (s : ByteArray) (k : Nat) : Bool := (List.range k).all (fun j => okC (bt s (j : Int)))
theorem okTo_succ (s : ByteArray) (k : Nat) : okTo s (k + 1) = (okTo s k && okC (bt s (k : Int))) := by
  unfold okTo
  rw [List.range_succ, List.all_append]
  simp
theorem okTo_false {s : ByteArray} {j k : Nat} (h : okC (bt s (j : Int)) = false) (hj : j < k) : okTo s k = false := by
  unfold okTo
  rw [Bool.eq_false_iff]
  intro ha
  have := List.all_eq_true.1 ha j (List.mem_range.2 hj)
  rw [h] at this
  cases this
def namedB (s : ByteArray) : Bool := okTo s s.size && decide (1 ≤ s.size) && decide (s.size ≤ 12)
set_option maxHeartbeats 1600000 in
theorem named_any (s : ByteArray) (w : World) (hs : s.size ≤ 9223372036854775807) : Calls Tryd.prog 87 #[.string s] w fun e w' => e = .returned (.bool (namedB s)) ∧ ∃ n, w' = w.drewN n := by
  go_enter Tryd.func87, Tryd.ntmps87
  go_wp2
  go_loopw [3] (fun i wr => ∃ k : Nat, k ≤ s.size ∧ i = .int .i64 k ∧ Aside0 (okTo s k = true) ∧ ∃ n, wr = w.drewN n) (fun i _ => s.size - (intOf i).toNat)
  case atStart => exact ⟨0, Nat.zero_le _, rfl, ⟨rfl⟩, 0, rfl⟩
  case round =>
    obtain ⟨k, hk, rfl, HK, n, rfl⟩ := hrel
    by_cases hlt : k < s.size
    · obtain ⟨c, hc⟩ : ∃ c, bt s (k : Int) = c := ⟨_, rfl⟩
      have hx : ∀ h : k < s.size, ((s[k]'h).toNat : Int) = c := fun h => by have := bt_at s (k : Int) (by simpa using h); rw [← hc, ← this]; rfl
      have HC := Aside0.mk hc
      cases hok : okC c
      · have HBAD : Aside0 (namedB s = false) := ⟨by unfold namedB; rw [okTo_false (by rw [hc]; exact hok) hlt]; rfl⟩
        have c46 : (c == 46) = false := by unfold okC at hok; cases h : (c == 46) <;> simp_all
        have c46' : (c != 46) = true := by simpa using c46
        have hor : (c < 97 ∧ c < 48) ∨ (c < 97 ∧ ¬ c < 48 ∧ 57 < c) ∨ (¬ c < 97 ∧ 122 < c ∧ ¬ c < 48 ∧ 57 < c) := by
          unfold okC at hok
          simp only [Bool.or_eq_false_iff, Bool.and_eq_false_iff, decide_eq_false_iff_not] at hok
          omega
        clear hok hc
        rcases hor with ⟨h1, h2⟩ | ⟨h1, h2, h3⟩ | ⟨h1, h2, h3, h4⟩
        · (go_wp2; go_ret; exact ⟨by rw [HBAD.out]; rfl, n, rfl⟩)
        · (go_wp2; go_ret; exact ⟨by rw [HBAD.out]; rfl, n, rfl⟩)
        · (go_wp2; go_ret; exact ⟨by rw [HBAD.out]; rfl, n, rfl⟩)
      · have HOK : Aside0 ((true && okC (bt s (k : Int))) = true) := ⟨by rw [hc, hok]; rfl⟩
        have hor : c = 46 ∨ (c ≠ 46 ∧ ¬ c < 97 ∧ ¬ 122 < c) ∨ (c ≠ 46 ∧ c < 97 ∧ ¬ c < 48 ∧ ¬ 57 < c) := by
          unfold okC at hok
          simp only [Bool.or_eq_true, Bool.and_eq_true, decide_eq_true_eq, beq_iff_eq] at hok
          omega
        clear hok hc
        rcases hor with h1 | ⟨h1, h2, h3⟩ | ⟨h1, h2, h3, h4⟩
        · subst h1
          (go_wp2; go_roundw; (case rel => exact ⟨k + 1, by omega, by go_num, ⟨by rw [okTo_succ, HK.out]; exact HOK.out⟩, _, rfl⟩); (case measure => (simp [intOf]; omega)))
        · have c46 : (c == 46) = false := beq_eq_false_iff_ne.mpr h1
          have c46' : (c != 46) = true := by simpa using h1
          (go_wp2; go_roundw; (case rel => exact ⟨k + 1, by omega, by go_num, ⟨by rw [okTo_succ, HK.out]; exact HOK.out⟩, _, rfl⟩); (case measure => (simp [intOf]; omega)))
        · have c46 : (c == 46) = false := beq_eq_false_iff_ne.mpr h1
          have c46' : (c != 46) = true := by simpa using h1
          (go_wp2; go_roundw; (case rel => exact ⟨k + 1, by omega, by go_num, ⟨by rw [okTo_succ, HK.out]; exact HOK.out⟩, _, rfl⟩); (case measure => (simp [intOf]; omega)))
    · have hks : k = s.size := by omega
      have HN : Aside0 (namedB s = (decide (1 ≤ s.size) && decide (s.size ≤ 12))) := ⟨by unfold namedB; rw [← hks, HK.out]; simp⟩
      clear hks
      by_cases h1 : 1 ≤ s.size
      · have h2 : (1 : Int) ≤ (s.size : Int) := by omega
        go_wp2
        go_ret
        exact ⟨ret_bool (by rw [HN.out]; simp only [h1, decide_true, Bool.true_and]; exact decide_eq_decide.mpr (by omega)), n, rfl⟩
      · have h2 : ¬ (1 : Int) ≤ (s.size : Int) := by omega
        go_wp2
        go_ret
        exact ⟨ret_bool (by rw [HN.out]; simp [h1]), n, rfl⟩
/-- A file that is right. -/
def rightB (x : File) : Bool := namedB x.name && decide (x.data.length ≤ 256)
set_option maxHeartbeats 400000 in
theorem right_any (s : ByteArray) (A : Option Addr) (xs : List UInt8) (c : Nat) (r : Bool) (hr : (namedB s && decide (xs.length ≤ 256)) = r) (w : World) (hs : s.size ≤ 9223372036854775807) :
    Calls Tryd.prog 76 #[.agg #[.string s, .slice A xs.length c]] w fun e w' => e = .returned (.bool r) ∧ Below w.heap.size w w' := by
  subst hr
  cases hb : namedB s
  all_goals
    have HB := Aside0.mk hb
    clear hb
    go_enter Tryd.func76, Tryd.ntmps76
    go_wp2_with (go_at_call 87; refine (named_any s _ hs).mono ?_; rw [HB.out]; rintro e w1 ⟨rfl, n, hw1⟩; have HB1 : Aside0 (Below w.heap.size w w1) := ⟨by rw [hw1]; exact pw_below_drewN (below_alloc (Below.refl _ _) _) _⟩; have z1 : w1.cell? ⟨w.heap.size, 1, none⟩ = some (.slice A xs.length c) := (by rw [hw1]; exact blk_cell (blk_new w (.cells #[.string s, .slice A xs.length c] 56)) 1); clear hw1)
    go_ret
    exact ⟨ret_bool (by first | rfl | (simp only [Bool.true_and]; exact decide_eq_decide.mpr (by omega))), HB1.out⟩
theorem many_any (n : Nat) (w : World) (hn : n ≤ 1000000000) : Calls Tryd.prog 67 #[.int .i64 n] w fun e w' => e = .returned (.int .i64 ((n + 31) / 32 : Nat)) ∧ w = w' := by
  have i0 : IntKind.i64.wrap ((n : Int) + 32) = (n : Int) + 32 := IntWalk.i64_in _ (by omega)
  have i1 : IntKind.i64.wrap ((n : Int) + 32 - 1) = (n : Int) + 31 := by rw [show (n : Int) + 32 - 1 = (n : Int) + 31 by omega]; exact IntWalk.i64_in _ (by omega)
  have i2 : IntKind.i64.wrap ((n : Int) + 31) = (n : Int) + 31 := IntWalk.i64_in _ (by omega)
  have i3 : ((n : Int) + 31).tdiv 32 = (((n + 31) / 32 : Nat) : Int) := by rw [show (n : Int) + 31 = ((n + 31 : Nat) : Int) by omega]; exact (Int.ofNat_tdiv _ _).symm
  have i4 : IntKind.i64.wrap (((n + 31) / 32 : Nat) : Int) = (((n + 31) / 32 : Nat) : Int) := IntWalk.i64_in _ (by omega)
  go_enter Tryd.func67, Tryd.ntmps67
  go_wp2
  go_ret
  exact ⟨rfl, rfl⟩
/-! ### numbers as two bytes -/
def hi2 (n : Nat) : UInt8 := UInt8.ofNat (n / 256)
def lo2 (n : Nat) : UInt8 := UInt8.ofNat (n % 256)
def stage2 (n : Nat) : Nat → List UInt8 | 0 => [0, 0] | 1 => [hi2 n, 0] | _ => [hi2 n, lo2 n]
set_option maxHeartbeats 1600000 in
theorem put2_any (n : Nat) (w : World) (hn : n ≤ 65535) : Calls Tryd.prog 57 #[.int .u64 n, .int .i64 2] w fun e w' => ∃ v, e = .returned v ∧ byte.R 5 w' w.heap.size (fun _ => True) v [hi2 n, lo2 n] ∧ Below w.heap.size w w' := by
  have HB := Aside0.mk (Below.refl w.heap.size w)
  go_enter Tryd.func57, Tryd.ntmps57
  go_wp2_with (first | ((with_reducible refine gate_dst (N := 14) rfl ?_); refine Kd.R_make byte (w0 := w) w.heap.size 5 rfl (N := 14) rfl 54 _ _ rfl 2 rfl rfl Tryd.underlying54 (.int .u8 0) 1 info_byte rfl (by decide) (by omega) (0 : UInt8) (ok := fun _ => True) (okp := fun _ => True) rfl (fun _ hk => hk) trivial (by omega) (by decide) HB.out (Nat.le_refl _) ?_; intro v1 w1 ho hb hg hnew; clear hg hnew; obtain ⟨g, cap, rfl, hgb, hgl, cs0, hcs0⟩ := Kd.R_form ho (by simp); have HO := Aside0.mk ho; have HB1 := Aside0.mk hb; clear ho hb))
  go_loopw [17, 6] (fun i _ wr => ∃ k : Nat, k ≤ 2 ∧ i = .int .i64 k ∧ Aside0 (byte.R 5 wr w.heap.size (fun _ => True) (.slice (some ⟨g, 0, none⟩) 2 cap) (stage2 n k)) ∧ Aside0 (Below w.heap.size w wr)) (fun i _ _ => 2 - (intOf i).toNat)
  case atStart => exact ⟨0, by omega, rfl, HO, HB1⟩
  case round =>
    obtain ⟨k, hk, rfl, HR, HBr⟩ := hrel
    have hv0 : (n : Int) / 256 = ((hi2 n).toNat : Int) := by simp [hi2]; omega
    have hv1 : (n : Int) % 256 = ((lo2 n).toNat : Int) := by simp [lo2]
    have HV := Aside0.mk (And.intro hv0 hv1)
    clear hv0 hv1
    rcases (show k = 0 ∨ k = 1 ∨ k = 2 by omega) with rfl | rfl | rfl
    · obtain ⟨r0, r1⟩ := Kd.R_cell (g := g) (cap := cap) (0 : UInt8) HR.out 0 (by decide) (by simp [stage2])
      simp [stage2, rdOf] at r0 r1
      go_wp2
      go_roundw
      case rel =>
        have hp := (Kd.R_put (g := g) (cap := cap) HR.out 0 (hi2 n)).1
        refine ⟨1, by omega, rfl, ⟨?_⟩, ⟨HBr.out.setCell hgb _⟩⟩
        rw [HV.out.1]
        exact hp
      case measure => decide
    · obtain ⟨r0, r1⟩ := Kd.R_cell (g := g) (cap := cap) (0 : UInt8) HR.out 1 (by decide) (by simp [stage2])
      simp [stage2, rdOf] at r0 r1
      go_wp2
      go_roundw
      case rel =>
        have hp := (Kd.R_put (g := g) (cap := cap) HR.out 1 (lo2 n)).1
        refine ⟨2, by omega, rfl, ⟨?_⟩, ⟨HBr.out.setCell hgb _⟩⟩
        rw [HV.out.2]
        exact hp
      case measure => decide
    · go_wp2
      go_ret
      exact ⟨_, rfl, HR.out, HBr.out⟩
theorem u64_join (x y : Int) (hx0 : 0 ≤ x) (hx : x < 256) (hy0 : 0 ≤ y) (hy : y < 256) : bits .or .u64 (x * 256) y = x * 256 + y :=
  bits_join .u64 16 (by decide) (fun n h0 h1 => IntWalk.u64_in _ (by omega)) 8 (x * 256) y (by omega) (by omega) (by omega) hy0 (by omega) (by omega)
theorem u64_join0 (y : Int) (hy0 : 0 ≤ y) (hy : y < 256) : bits .or .u64 0 y = y := by
  have := u64_join 0 y (by omega) (by omega) hy0 hy
  simpa using this
set_option maxHeartbeats 1600000 in
theorem get2_any (A : Option Addr) (x y : UInt8) (c : Nat) (w : World) (h : byte.C w A 2 [x, y]) : Calls Tryd.prog 65 #[.slice A 2 c] w fun e w' => e = .returned (.tuple #[.int .u64 ((x.toNat : Int) * 256 + y.toNat), .bool true]) ∧ w = w' := by
  obtain ⟨ad, rfl, g0⟩ := byte_at h (k := 0) (by omega)
  obtain ⟨_, e1, g1⟩ := byte_at h (k := 1) (by omega)
  cases e1
  simp [gt, Addr.add] at g0 g1
  have hx := x.toNat_lt
  have hy := y.toNat_lt
  go_enter Tryd.func65, Tryd.ntmps65
  go_wp2
  go_loopw [17, 4, 6] (fun i v4 _ wr => wr = w ∧ ∃ k : Nat, k ≤ 2 ∧ i = .int .i64 k ∧ v4 = .int .u64 (match k with | 0 => 0 | 1 => (x.toNat : Int) | _ => (x.toNat : Int) * 256 + y.toNat)) (fun i _ _ _ => 2 - (intOf i).toNat)
  case atStart => exact ⟨rfl, 0, by omega, rfl, rfl⟩
  case round =>
    obtain ⟨rfl, k, hk, rfl, rfl⟩ := hrel
    rcases (show k = 0 ∨ k = 1 ∨ k = 2 by omega) with rfl | rfl | rfl
    · go_wp2
      go_roundw
      case rel => exact ⟨trivial, 1, by omega, rfl, by rw [u64_join0 _ (by omega) (by omega)]; rfl⟩
      case measure => decide
    · go_wp2
      go_roundw
      case rel => exact ⟨trivial, 2, by omega, rfl, by rw [u64_join _ _ (by omega) (by omega) (by omega) (by omega)]; rfl⟩
      case measure => decide
    · go_wp2
      go_ret2
      exact ⟨rfl, rfl⟩
/-! ### blocks -/
/-- A block: 32 bytes, by value. -/
def kBlock : Kd (List UInt8) := Kd.arr 32 byte (by decide)
def bytesV (xs : List UInt8) : List Value := xs.map (fun x => Value.int .u8 (x.toNat : Int))
theorem encs_bytes (xs : List UInt8) : encs (fun x : UInt8 => Value.int .u8 (x.toNat : Int)) xs = bytesV xs := by
  simp [encs, bytesV]
theorem block_at {w : World} {A : Option Addr} {n : Nat} {xs : List (List UInt8)} (h : kBlock.C w A n xs) {k : Nat} (hk : k < n) :
    ∃ ad, A = some ad ∧ (gt xs k).length = 32 ∧ ∀ j u, (bytesV (gt xs k))[j]? = some u → w.cell? ((ad.add (k * 32)).add j) = some u := by
  obtain ⟨ad, cs, e, hK, hc0⟩ := C_at h hk
  have hc : ∀ j u, cs[j]? = some u → w.cell? (ad.add (k * 32 + j)) = some u := hc0
  obtain ⟨h1, h2⟩ := Kd.arr_cells hK
  rw [encs_bytes] at h2
  subst h2
  refine ⟨ad, e, h1, fun j u hu => ?_⟩
  rw [Deep.add_add]
  exact hc j u hu
theorem info_block : (Tryd.prog.info? 37).map (·.size) = some 32 := by kernel_rfl
/-- A whole block is read, wherever it lies. -/
theorem run_load_block {w : World} (p : Addr) (xs : List UInt8) (hl : xs.length = 32) (hc : ∀ j u, (bytesV xs)[j]? = some u → w.cell? (p.add j) = some u) : (loadVar 37 p).run Tryd.prog w = .ok (.agg (bytesV xs).toArray) w := by
  have hl2 : (loadCells p (bytesV xs).length).run Tryd.prog w = .ok (bytesV xs).toArray w := run_loadCells_list (P := Tryd.prog) w p (bytesV xs) hc
  have hlen : (bytesV xs).length = 32 := by simp [bytesV, hl]
  have hagg : (isAgg 37).run Tryd.prog w = .ok true w := by
    unfold isAgg
    rw [Sem.run_bind, run_underlying Tryd.underlying37 w]
    simp
  rw [hlen] at hl2
  cases hq : Tryd.prog.info? 37 with
  | none => have := info_block; simp [hq] at this
  | some i =>
    have hs : i.size = 32 := by have := info_block; simpa [hq] using this
    simp [loadVar, Sem.run_bind, hagg, sizeOf, typeInfo, hq, hs, hl2]
theorem load_block {ops : Array Oper} {rest : List Oper} {op : Oper} {a : Act} {w : World} {Q : Exit → Act → World → Prop} (hgd : op.guard = none) (x : Operand) (ho : op.op = .load 37 x)
    (p : Addr) (hx : a.eval x = .pointer (some p)) (xs : List UInt8) (hl : xs.length = 32) (hc : ∀ j u, (bytesV xs)[j]? = some u → w.cell? (p.add j) = some u)
    (h : wpList Tryd.prog ops Q rest (a.put op.dst (.agg (bytesV xs).toArray)) w) : wpList Tryd.prog ops Q (op :: rest) a w := by
  refine wpList_plain hgd fun _ hK => ?_
  unfold Oper.wp execOp
  simp only [ho, hx, Instr.loadAt, Instr.sureAddr, Sem.run_bind, Sem.run_pure, Result.andThen_ok, run_load_block p xs hl hc]
  exact hK _ _ h
theorem wpList_on {P : Program} {ops : Array Oper} {rest : List Oper} {o : Oper} {a : Act} {w : World} {Q : Exit → Act → World → Prop} (hw : Region.wanted o (yielded ops a.tmps) = true)
    (h : ∀ K : Act → World → Prop, (∀ a w, wpList P ops Q rest a w → K a w) → o.wp P a w K Q) : wpList P ops Q (o :: rest) a w :=
  wpList_step fun K hK => by simp only [hw, if_true]; exact h K hK
/-- .. where the operation is guarded, and runs. -/
theorem load_block_on {ops : Array Oper} {rest : List Oper} {op : Oper} {a : Act} {w : World} {Q : Exit → Act → World → Prop} (hw : Region.wanted op (yielded ops a.tmps) = true) (x : Operand) (ho : op.op = .load 37 x)
    (p : Addr) (hx : a.eval x = .pointer (some p)) (xs : List UInt8) (hl : xs.length = 32) (hc : ∀ j u, (bytesV xs)[j]? = some u → w.cell? (p.add j) = some u)
    (h : wpList Tryd.prog ops Q rest (a.put op.dst (.agg (bytesV xs).toArray)) w) : wpList Tryd.prog ops Q (op :: rest) a w := by
  refine wpList_on hw fun _ hK => ?_
  unfold Oper.wp execOp
  simp only [ho, hx, Instr.loadAt, Instr.sureAddr, Sem.run_bind, Sem.run_pure, Result.andThen_ok, run_load_block p xs hl hc]
  exact hK _ _ h
theorem build_on {P : Program} {ops : Array Oper} {rest : List Oper} {o : Oper} {a : Act} {w : World} {Q : Exit → Act → World → Prop} (hw : Region.wanted o (yielded ops a.tmps) = true) (t : TypeId) (parts : Array (Nat × Operand)) (ho : o.op = .build t parts)
    (cells : Array Value) (hf : P.built t (parts.map fun (i, x) => (i, a.eval x)).toList = some cells)
    (h : wpList P ops Q rest (a.put o.dst (.agg cells)) w) : wpList P ops Q (o :: rest) a w := by
  refine wpList_on hw fun _ hK => ?_
  unfold Oper.wp execOp
  simp only [ho, Sem.run_bind, run_build w t _ _ hf, Result.andThen_ok]
  exact hK _ _ h
theorem bytesV_one (xs : List UInt8) : ∀ v ∈ bytesV xs, v.oneCell' = true := by
  intro v hv
  simp only [bytesV, List.mem_map] at hv
  obtain ⟨x, _, rfl⟩ := hv
  rfl
theorem info_blockS (n : Nat) (h : n = 32) : (Tryd.prog.info? 37).map (·.size) = some n := by rw [h]; exact info_block
/-- A whole block is written into the box that was made last. -/
theorem store_block_new {ops : Array Oper} {rest : List Oper} {op : Oper} {a : Act} {W : World} {Q : Exit → Act → World → Prop} (hgd : op.guard = none) (x y : Operand) (ho : op.op = .store 37 x y)
    (c0 : Array Value) (hc0 : c0.size = 32) (hx : a.eval x = .pointer (some ⟨W.heap.size, 0, none⟩)) (xs : List UInt8) (hl : xs.length = 32) (hy : a.eval y = .agg (bytesV xs).toArray)
    (h : wpList Tryd.prog ops Q rest (a.put op.dst undef) (W.alloc (.cells (bytesV xs).toArray 37))) : wpList Tryd.prog ops Q (op :: rest) a (W.alloc (.cells c0 37)) := by
  have hs : (bytesV xs).toArray.size = 32 := by simp [bytesV, hl]
  have hr := run_storeAt_new (P := Tryd.prog) W 37 c0 (bytesV xs).toArray (info_blockS _ hs) (by rw [hc0, hs]) (all_oneCell_toArray (bytesV_one xs))
  refine wpList_plain hgd fun _ hK => ?_
  unfold Oper.wp execOp
  simp only [ho, hx, hy, Sem.run_bind, Sem.run_pure, hr, Result.andThen_ok]
  exact hK _ _ h
theorem info_blockP : (Tryd.prog.info? 37).map (fun i => (i.size, i.zero.isSome)) = some (32, true) := by kernel_rfl
/-- A slice literal of one block, made. -/
theorem build_block {ops : Array Oper} {rest : List Oper} {op : Oper} {a : Act} {W : World} {Q : Exit → Act → World → Prop} (hgd : op.guard = none) (x : Operand) (ho : op.op = .buildSlice 80 1 #[(0, x)])
    (xs : List UInt8) (hl : xs.length = 32) (hx : a.eval x = .agg (bytesV xs).toArray) (h : wpList Tryd.prog ops Q rest (a.put op.dst (.slice (some ⟨W.heap.size, 0, none⟩) 1 1)) (W.alloc (.cells (bytesV xs).toArray 37))) : wpList Tryd.prog ops Q (op :: rest) a W := by
  cases hq : Tryd.prog.info? 37 with
  | none => have := info_blockP; simp [hq] at this
  | some i =>
    have hi : i.size = 32 ∧ i.zero.isSome = true := by have := info_blockP; simpa [hq] using this
    obtain ⟨z, hz⟩ := Option.isSome_iff_exists.1 hi.2
    have hb : (bytesV xs).toArray.size = 32 := by simp [bytesV, hl]
    refine wpList_buildSlice hgd 80 37 1 _ ho (bytesV xs).toArray i z Tryd.underlying80 hq hz (by omega) (by omega) ?_ h
    have := Great.fill_whole (s := 32) (by omega) [Value.agg (bytesV xs).toArray] ((Array.range (1 * i.size)).map (z.cells[· % z.cells.size]!)) (by intro v hv; simp only [List.mem_singleton] at hv; subst hv; exact hb) (by simp [hi.1])
    simp only [hi.1] at this ⊢
    simpa [hx, Value.cells] using this
theorem part_bytes (xs : List UInt8) (i : Nat) (hi : i < xs.length) (w : World) : (part 5 (bytesV xs).toArray i).run Tryd.prog w = .ok (.int .u8 ((gt xs i).toNat : Int)) w := by
  have hagg : (isAgg 5).run Tryd.prog w = .ok false w := by
    unfold isAgg
    rw [Sem.run_bind, run_underlying Tryd.underlying5 w]
    simp
  have hget : (bytesV xs)[i]? = some (.int .u8 ((gt xs i).toNat : Int)) := by simp [bytesV, gt_some xs i hi]
  simp [part, Sem.run_bind, hagg, hget]
theorem eq_all (xs ys : List UInt8) (hx : xs.length = 32) (hy : ys.length = 32) : decide (xs = ys) = (List.range' 0 32).all fun i => gt xs i == gt ys i := by
  rw [Bool.eq_iff_iff]
  simp only [decide_eq_true_eq, List.all_eq_true, List.mem_range'_1, beq_iff_eq]
  constructor
  · rintro rfl i _; rfl
  · intro h
    apply List.ext_getElem (by omega)
    intro i h1 h2
    have := h i (by omega)
    rwa [gt_eq _ _ h1, gt_eq _ _ h2] at this
theorem eqA_block (d : Nat) (xs ys : List UInt8) (hx : xs.length = 32) (hy : ys.length = 32) (w : World) : (Op.equalIn (d + 1 + 1) 37 (.agg (bytesV xs).toArray) (.agg (bytesV ys).toArray)).run Tryd.prog w = .ok (decide (xs = ys)) w := by
  have hsz : (sizeOf 5).run Tryd.prog w = .ok 1 w := by
    cases hq : Tryd.prog.info? 5 with
    | none => have := info_byte; simp [hq] at this
    | some i =>
      have : i.size = 1 := by have := info_byte; simp [hq] at this; exact this.2.1
      simp [sizeOf, typeInfo, Sem.run_bind, hq, this]
  rw [Op.equalIn, eq_all xs ys hx hy]
  simp only [Sem.run_bind, run_underlying Tryd.underlying37 w, Result.andThen_ok, hsz]
  rw [Std.Legacy.Range.forIn_eq_forIn_range']
  have key : ∀ i ∈ List.range' 0 32, i < 32 := by
    intro i hi
    have := List.mem_range'_1.1 hi
    omega
  show ((Sem.run Tryd.prog (forIn (List.range' 0 32) _ _) w).andThen _) = _
  generalize List.range' 0 32 = L at key
  induction L with
  | nil => simp
  | cons i L ih =>
    have hi := key i (by simp)
    have ih' := ih (fun j hj => key j (by simp [hj]))
    simp only [List.forIn_cons, Sem.run_bind, Nat.mul_one, part_bytes xs i (by omega), part_bytes ys i (by omega), Result.andThen_ok, run_equalIn_int w d 5 .u8 .u8 _ _ Tryd.underlying5]
    have e : (((gt xs i).toNat : Int) == ((gt ys i).toNat : Int)) = (gt xs i == gt ys i) := by
      rw [Bool.eq_iff_iff]
      simp only [beq_iff_eq]
      exact ⟨byte_inj, fun h => by rw [h]⟩
    rw [e]
    cases hb : (gt xs i == gt ys i)
    · simp [hb]
    · simp only [List.all_cons, hb, Bool.true_and]
      simpa using ih'
theorem eql_block (xs ys : List UInt8) (hx : xs.length = 32) (hy : ys.length = 32) (b : Bool) (hb : decide (xs = ys) = b) (w : World) : (Op.equalIn 10000 37 (.agg (bytesV xs).toArray) (.agg (bytesV ys).toArray)).run Tryd.prog w = .ok b w := by
  subst hb
  exact eqA_block 9998 xs ys hx hy w
theorem block_cells {W : World} {g : Nat} {xs : List UInt8} (h : W.heap[g]? = some (.cells (bytesV xs).toArray 37 (0, 0))) : ∀ j u, (bytesV xs)[j]? = some u → W.cell? ((⟨g, 0, none⟩ : Addr).add j) = some u := fun j u hu => by
  rw [add_plain, blk_cell h]
  simpa using hu
def sumStep (n : Nat) (x : UInt8) : Nat := (31 * n + x.toNat) % 65536
def sumB (n : Nat) (xs : List UInt8) : Nat := xs.foldl sumStep n
def sumT (t : List (List UInt8)) : Nat := t.foldl sumB 1
theorem sumB_le (n : Nat) (xs : List UInt8) (h : n ≤ 65535) : sumB n xs ≤ 65535 := by
  induction xs generalizing n with
  | nil => exact h
  | cons x xs ih => exact ih _ (by unfold sumStep; omega)
theorem sumT_le (t : List (List UInt8)) : sumT t ≤ 65535 := by
  have : ∀ (t : List (List UInt8)) n, n ≤ 65535 → t.foldl sumB n ≤ 65535 := by
    intro t
    induction t with
    | nil => exact fun n h => h
    | cons x xs ih => exact fun n h => ih _ (sumB_le _ _ h)
  exact this t 1 (by decide)
theorem sumT_succ (l : List (List UInt8)) (k : Nat) (hk : k < l.length) : sumT (l.take (k + 1)) = sumB (sumT (l.take k)) (gt l k) := by
  unfold sumT
  rw [List.take_add_one, gt_some l k hk, List.foldl_append]
  rfl
theorem sumB_succ (n : Nat) (xs : List UInt8) (j : Nat) (hj : j < xs.length) : sumB n (xs.take (j + 1)) = sumStep (sumB n (xs.take j)) (gt xs j) := by
  unfold sumB
  rw [List.take_add_one, gt_some xs j hj, List.foldl_append]
  rfl
theorem index_block (w : World) (xs : List UInt8) (j : Nat) (hl : xs.length = 32) (hj : j < 32) : (Instr.index 37 (.agg (bytesV xs).toArray) (.int .i64 (j : Int))).run Tryd.prog w = .ok (.int .u8 ((gt xs j).toNat : Int)) w := by
  have hu := run_underlying Tryd.underlying37 w
  have hagg : (isAgg 5).run Tryd.prog w = .ok false w := by
    unfold isAgg
    rw [Sem.run_bind, run_underlying Tryd.underlying5 w]
    simp
  have hsz : (sizeOf 5).run Tryd.prog w = .ok 1 w := by
    cases hq : Tryd.prog.info? 5 with
    | none => have := info_byte; simp [hq] at this
    | some i =>
      have : i.size = 1 := by have := info_byte; simp [hq] at this; exact this.2.1
      simp [sizeOf, typeInfo, Sem.run_bind, hq, this]
  have hget : (bytesV xs)[j]? = some (.int .u8 ((gt xs j).toNat : Int)) := by
    simp [bytesV, gt_some xs j (by omega)]
  have hb : (0 : Int) ≤ (j : Int) ∧ (j : Int) < 32 := by omega
  have hb2 : ¬ 32 ≤ j := by omega
  simp [Instr.index, asIntOf, Sem.run_bind, hu, hb, part, hagg, hsz, hget, hb2]
set_option maxHeartbeats 1600000 in
theorem sum_any (A : Option Addr) (l : List (List UInt8)) (c : Nat) (w : World) (h : kBlock.C w A l.length l) :
    Calls Tryd.prog 60 #[.slice A l.length c] w fun e w' => e = .returned (.int .u64 (sumT l)) ∧ Below w.heap.size w w' := by
  have hmx := Kd.C_max h
  go_enter Tryd.func60, Tryd.ntmps60
  go_wp2
  go_loopw [10, 3] (fun i v3 wr => ∃ k : Nat, k ≤ l.length ∧ i = .int .i64 k ∧ v3 = .int .u64 (sumT (l.take k)) ∧ Aside0 (Below w.heap.size w wr)) (fun i _ _ => l.length - (intOf i).toNat)
  case atStart => exact ⟨0, Nat.zero_le _, rfl, rfl, ⟨Below.refl _ _⟩⟩
  case round =>
    obtain ⟨k, hk, rfl, rfl, HB⟩ := hrel
    by_cases hlt : k < l.length
    · obtain ⟨ad, rfl, hl32, hc⟩ := block_at h hlt
      have HC : Aside0 (∀ j u, (bytesV (gt l k))[j]? = some u → wr.cell? ((ad.add (k * 32)).add j) = some u) := ⟨fun j u hu => cell_old HB.out (hc j u hu)⟩
      clear hc
      obtain ⟨xs, hxs⟩ : ∃ xs, xs = gt l k := ⟨_, rfl⟩
      rw [← hxs] at HC hl32
      have HXS := Aside0.mk hxs
      clear hxs
      go_wp2_with (first | ((with_reducible refine gate_dst (N := 13) rfl ?_); refine load_block rfl _ rfl (ad.add (k * 32)) rfl xs hl32 HC.out ?_) | ((with_reducible refine gate_store (t := 37) (p := 5) rfl ?_); refine store_block_new rfl (.tmp 5) (.tmp 13) rfl _ rfl rfl xs hl32 rfl ?_; obtain ⟨W1, hW1⟩ : ∃ W1, wr.alloc (.cells (bytesV xs).toArray 37) = W1 := ⟨_, rfl⟩; have HX1 : Aside0 (W1.heap[wr.heap.size]? = some (.cells (bytesV xs).toArray 37 (0, 0))) := ⟨by rw [← hW1]; exact blk_new wr _⟩; have HB1 : Aside0 (Below w.heap.size w W1) := ⟨by rw [← hW1]; exact below_alloc HB.out _⟩; rw [hW1]; clear hW1) | ((with_reducible refine gate_dst (N := 14) rfl ?_); refine load_block rfl _ rfl ⟨wr.heap.size, 0, none⟩ rfl xs hl32 (block_cells HX1.out) ?_))
      obtain ⟨s0, hs0⟩ : ∃ s0, sumT (l.take k) = s0 := ⟨_, rfl⟩
      have hs0l : s0 ≤ 65535 := by rw [← hs0]; exact sumT_le _
      rw [hs0]
      have HS0 : Aside0 (sumT (l.take (k + 1)) = sumB s0 xs) := ⟨by rw [← hs0, HXS.out]; exact sumT_succ l k hlt⟩
      clear hs0
      go_loopw [15, 7, 3] (fun i _ v3 wz => wz = W1 ∧ ∃ j : Nat, j ≤ 32 ∧ i = .int .i64 j ∧ v3 = .int .u64 (sumB s0 (xs.take j))) (fun i _ _ _ => 32 - (intOf i).toNat)
      case atStart => exact ⟨rfl, 0, by omega, rfl, rfl⟩
      case round =>
        obtain ⟨rfl, j, hj, rfl, rfl⟩ := hrel
        by_cases hjt : j < 32
        · obtain ⟨n, hn⟩ : ∃ n, sumB s0 (xs.take j) = n := ⟨_, rfl⟩
          have hnl : n ≤ 65535 := by rw [← hn]; exact sumB_le _ _ hs0l
          have HN : Aside0 (sumB s0 (xs.take (j + 1)) = sumStep n (gt xs j)) := ⟨by rw [← hn]; exact sumB_succ _ _ _ (by omega)⟩
          rw [hn]
          clear hn
          have hx8 := (gt xs j).toNat_lt
          have hidx : ∀ w, (Instr.index 37 (.agg (bytesV xs).toArray) (.int .i64 (j : Int))).run Tryd.prog w = .ok (.int .u8 ((gt xs j).toNat : Int)) w := fun w => index_block w xs j hl32 hjt
          go_wp2
          go_roundw
          case rel => exact ⟨trivial, j + 1, by omega, by go_num, by rw [HN.out]; unfold sumStep; congr 1⟩
          case measure => simp [intOf]; omega
        · have hjx : j = 32 := by omega
          have hxj : xs.take j = xs := List.take_of_length_le (by omega)
          rw [hxj]
          go_wp2
          go_roundw
          case rel => exact ⟨k + 1, by omega, by go_num, by rw [HS0.out], HB1⟩
          case measure => simp [intOf]; omega
    · have htk : l.take k = l := List.take_of_length_le (by omega)
      rw [htk]
      go_wp2
      go_ret
      exact ⟨rfl, HB.out⟩
end Go.Proofs.YtdobjbdkfammbaaDoor
