/-
  Chapter 55: attack.rows, its first part: the writes of a disk; the parts that slices.Chunk hands out.
-/
import Derived.Test.YtdobjbdkfammbaaDoorSh
import Derived.RangeFuncNested
import Derived.RangeFuncBox
namespace Go.Proofs.YtdobjbdkfammbaaDoor
open Go.RowKit Go.Shelf Go.Proofs.YtdobjbdkfammbaaDoorW.PrintWords Go.Proofs.YtdobjbdkfammbaaDoorW.PrintLast Go.Proofs.YtdobjbdkfammbaaDoorW.PrintMore
set_option linter.unusedVariables false
set_option linter.unusedSimpArgs false
attribute [local go_sem] Oper.semAt_some max2_int min2_int max_two min_two

/-- The writes of a disk. -/
def wrs (vol : Int) (B : List (List UInt8)) : List Wr := (List.range B.length).map (fun i : Nat => ⟨vol, (i : Int), gt B i⟩)
theorem wrs_len (vol : Int) (B : List (List UInt8)) : (wrs vol B).length = B.length := by simp [wrs]
theorem wrs_gt (vol : Int) (B : List (List UInt8)) (k : Nat) (hk : k < B.length) : gt (wrs vol B) k = ⟨vol, (k : Int), gt B k⟩ := by
  rw [gt_eq _ _ (by rw [wrs_len]; exact hk)]
  simp [wrs]
theorem wrs_succ (vol : Int) (B : List (List UInt8)) (k : Nat) (hk : k < B.length) : (wrs vol B).take (k + 1) = (wrs vol B).take k ++ [⟨vol, (k : Int), gt B k⟩] := by
  rw [List.take_add_one, gt_some _ _ (by rw [wrs_len]; exact hk), wrs_gt vol B k hk]
  rfl
/-- A list in parts of eight. -/
def cut8 {α : Type} (l : List α) : List (List α) := (List.range ((l.length + 7) / 8)).map (fun k => (l.drop (8 * k)).take 8)
theorem cut8_len {α : Type} (l : List α) : (cut8 l).length = (l.length + 7) / 8 := by simp [cut8]
/-- The deeds by which a disk is written. -/
def rowsD (vol : Int) (B : List (List UInt8)) : List Dd := (cut8 (wrs vol B)).map (fun c => ⟨1, c, 0⟩)
theorem rowsD_len (vol : Int) (B : List (List UInt8)) : (rowsD vol B).length = (B.length + 7) / 8 := by simp [rowsD, cut8_len, wrs_len]
/-! ### the parts that slices.Chunk hands out -/
def partW (ad : Addr) (n k : Nat) : Part := (some (ad.add (8 * k * 35)), min 8 (n - 8 * k))
def partsW (ad : Addr) (n k : Nat) : List Part := (List.range k).map (partW ad n)
theorem partsW_succ (ad : Addr) (n k : Nat) : partsW ad n (k + 1) = partsW ad n k ++ [partW ad n k] := by
  unfold partsW
  rw [List.range_succ, List.map_append]
  rfl
def KpC (B1 B2 : Nat) (W W' : World) : Prop := W'.heap[B1]? = W.heap[B1]? ∧ W'.heap[B2]? = W.heap[B2]?
theorem info_wrsz : (Tryd.prog.info? 39).map (·.size) = some 35 := by kernel_rfl
set_option maxRecDepth 100000 in
set_option maxHeartbeats 1000000 in
theorem chunkW_stops (F : Fence) (n : Nat) (h10 : F.fn 79) (hro : F.round = none) (hn : 1 ≤ n) (B1 B2 : Nat) (ad : Addr) (m c : Nat) (hmc : m ≤ c) (hm : m ≤ 1000000000) (w : World) (hB1 : B1 < w.heap.size) (hB2 : B2 < w.heap.size)
    (hb1 : w.heap[B1]? = some (.cells #[.slice (some ad) m c] 31 (0, 0))) (hb2 : w.heap[B2]? = some (.cells #[.int .i64 8] 3 (0, 0))) :
    SeqStopsK F n Tryd.prog 79 #[.pointer (some ⟨B1, 0, none⟩), .pointer (some ⟨B2, 0, none⟩)] (fun p => #[encP p]) (KpC B1 B2) (fun ss => ss = partsW ad m ((m + 7) / 8)) (fun _ => True) ((m + 7) / 8) w := by
  intro l J Jx W hW hJ hJx hY h0
  refine callsIn_of_wp Tryd.func79 rfl h10 ?_ hro
  simp only [Tryd.ntmps79, List.size_toArray, List.length_cons, List.length_nil, Nat.reduceAdd, Nat.reduceSub, Array.replicate_succ, Array.replicate_zero, List.push_toArray, List.append_toArray, List.nil_append, List.cons_append]
  gi_wp2
  gi_loopw [4] (fun i wr => ∃ k : Nat, k ≤ (m + 7) / 8 ∧ i = .int .i64 (8 * k : Nat) ∧ J (partsW ad m k) wr ∧ KpC B1 B2 W wr) (fun i _ => m + 8 - (intOf i).toNat)
  case atStart => exact ⟨0, Nat.zero_le _, rfl, h0, rfl, rfl⟩
  case round =>
    obtain ⟨k, hk, rfl, hJk, hKk⟩ := hrel
    have hb1' := (hKk.1.trans (hW.block B1 hB1)).trans hb1
    have hb2' := (hKk.2.trans (hW.block B2 hB2)).trans hb2
    have c1 := (cell_of_box hb1').1
    have c2 := (cell_of_box hb2').1
    by_cases hlt : 8 * k < m
    · have i0 : (0 : Int) ≤ 8 * (k : Int) := by omega
      have i1 : 8 * (k : Int) ≤ (m : Int) := by omega
      have i2 : (m : Int) ≤ (c : Int) := by omega
      have i3 : (8 * (k : Int)).toNat = 8 * k := by omega
      have i4 : (0 : Int) ≤ (m : Int) := by omega
      gi_wp2
      (refine wpIn_region_quiet_lit hro (by kernel_rfl) (by kernel_rfl) ?_; repeat (gi_big_quiet_step (fail)))
      obtain ⟨pn, hpn⟩ : ∃ pn, pn = min 8 (m - 8 * k) := ⟨_, rfl⟩
      have hmin : (if ((m - 8 * k : Nat) : Int) < 8 then ((m - 8 * k : Nat) : Int) else 8) = (pn : Int) := by split <;> omega
      rw [hmin]
      refine wpQuietIn_nil ?_
      intro _ hw'
      obtain ⟨nq, hw''⟩ := hw'
      subst hw''
      have hJ2 : J (partsW ad m k) (wr.drewN nq) := hJ _ _ _ none hJk (grown_of_below (pw_below_drewN (Below.refl _ _) _) none) (fun r e => by cases e)
      obtain ⟨fn, tmps, assign, body, hy, hR⟩ := hY _ (partW ad m k) (wr.drewN nq) hJ2 (by simp [partsW]; omega)
      have hpe : #[encP (partW ad m k)] = #[.slice (some (ad.add (8 * k * 35))) pn pn] := by simp [encP, partW, hpn]
      rw [hpe] at hy
      have i5 : 8 * (k : Int) + (pn : Int) ≤ (c : Int) := by omega
      have i6 : 8 * (k : Int) ≤ 8 * (k : Int) + (pn : Int) := by omega
      have i7 : IntKind.i64.wrap (8 * (k : Int) + (pn : Int)) = 8 * (k : Int) + (pn : Int) := IntWalk.i64_in _ (by omega)
      have i8 : (8 * (k : Int) + (pn : Int)).toNat = 8 * k + pn := by omega
      have i9 : 8 * k + pn - 8 * k = pn := by omega
      have i10 : 0 < pn := by omega
      have i11 : ¬ pn = 0 := by omega
      have i12 : (0 : Int) < (pn : Int) := by omega
      have hstep : m + 8 - 8 * (k + 1) < m + 8 - 8 * k := by omega
      clear hmin hpn
      gi_wp2
      refine hR.mono ?_
      rintro e W3 (⟨rfl, hJ3, hk3⟩ | ⟨rfl, hx⟩)
      · have e1 := (cell_of_box (hk3.1.trans hb1')).1
        have e2 := (cell_of_box (hk3.2.trans hb2')).1
        rw [← partsW_succ] at hJ3
        gi_wp2
        go_roundw
        case rel => exact ⟨k + 1, by omega, (by go_num), hJ3, hk3.1.trans hKk.1, hk3.2.trans hKk.2⟩
        case measure => simp [intOf]; omega
      · gi_wp2
        exact bodyPost_ret (results_none rfl _ _ _) rfl ⟨⟨_, rfl⟩, .inr ⟨_, trivial, hx⟩⟩
    · have hke : k = (m + 7) / 8 := by omega
      gi_wp2
      go_end0
      exact ⟨⟨_, rfl⟩, .inl ⟨_, by rw [hke], hJk⟩⟩
theorem chunkW_any (v : Value) (w : World) (hv : v.oneCell' = true) :
    Calls Tryd.prog 61 #[v, .int .i64 8] w fun e w' => e = .returned (.func (.func 79) #[] #[.pointer (some ⟨w.heap.size, 0, none⟩), .pointer (some ⟨w.heap.size + 1, 0, none⟩)]) ∧
      (w.alloc (.cells #[v] 31)).alloc (.cells #[.int .i64 8] 3) = w' := by
  go_enter Tryd.func61, Tryd.ntmps61
  go_wp2
  go_ret
  exact ⟨rfl, rfl⟩
end Go.Proofs.YtdobjbdkfammbaaDoor
