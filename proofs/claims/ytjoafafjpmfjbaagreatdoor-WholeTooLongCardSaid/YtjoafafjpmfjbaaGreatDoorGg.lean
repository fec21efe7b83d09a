/-
  WholeTooLong: all moments of a table, one after the other.
-/
import Derived.Test.YtjoafafjpmfjbaaGreatDoorGf
namespace Go.Proofs.YtjoafafjpmfjbaaGreatDoor
open Go.RowKit Go.Shelf Go.Proofs.YtjoafafjpmfjbaaGreatDoorW.PrintWords Go.Proofs.YtjoafafjpmfjbaaGreatDoorW.PrintLast Go.Proofs.YtjoafafjpmfjbaaGreatDoorW.PrintMore
set_option linter.unusedVariables false
set_option linter.unusedSimpArgs false
attribute [local go_sem] Oper.semAt_some

theorem kItem_KM {w : World} {base : Nat} {ok : Nat → Prop} {x : It} {cs : List Value} (h : kItem.K w x cs) : kItem.M w base ok x cs := by
  rw [kItem_open h]
  exact kItem_mk w base ok x
theorem repsI_nil (R : It → List Value → Prop) : Reps R 3 [] [] := ⟨rfl, fun j p h => by simp at h⟩
theorem lit_items (W : World) (base : Nat) (h : base ≤ W.heap.size) : kItem.R 62 (W.alloc (.cells #[] 62)) base (fun _ => True) (.slice (some ⟨W.heap.size, 0, none⟩) 0 0) [] := ⟨fun _ _ => trivial, OwnRow.lit W base (inner := []) (repsI_nil _) h (by simp)⟩
set_option maxHeartbeats 800000 in
theorem iclone (A : Option Addr) (l : List It) (n c : Nat) (hn : l.length = n) (w : World) (h1 : kItem.C w A n l) (hl : n ≤ 1000) :
    Calls Tryz.prog 49 #[.slice A n c] w fun e w' => ∃ A' c', e = .returned (.slice A' n c') ∧ kItem.C w' A' n l ∧ (1 ≤ n → ∃ q cells, A' = some ⟨q, 0, none⟩ ∧ w'.heap[q]? = some (.cells cells 62 (0, 0))) ∧ Below w.heap.size w w' := by
  have q : ∀ (w : World) (a : Option Addr) (n c n' c' : Nat), (binOp .eql 58 (.slice a n c) (.slice none n' c')).run Tryz.prog w = .ok (.bool a.isNone) w := fun w a n c n' c' => Lib.run_eql_slice_nil w _ _ a n c n' c' Tryz.underlying58
  rcases A with _ | ad
  · have h0 : n = 0 := by
      rcases n with _ | n
      · rfl
      · obtain ⟨ad, _, e, _⟩ := C_at h1 (k := 0) (by omega)
        cases e
    subst h0
    have hl0 : l = [] := List.length_eq_zero_iff.1 hn
    subst hl0
    go_enter Tryz.func49, Tryz.ntmps49
    go_wp2
    go_ret
    exact ⟨none, 0, rfl, Kd.C_nil _ _, fun h => absurd h (by omega), Below.refl _ _⟩
  · have HB := Aside0.mk (Below.refl w.heap.size w)
    have H1 := Aside0.mk h1
    have HN := Aside0.mk hn
    clear h1 hn
    go_enter Tryz.func49, Tryz.ntmps49
    go_wp2_with ((with_reducible refine gate_builtin (b := .append) (xs := #[.tmp 5, .tmp 6]) rfl ?_); at_builtin; refine Kd.R_append_rows kItem (Rr := kItem.K w) (w0 := w) w.heap.size rfl (.tmp 5) (.tmp 6) 58 62 (.agg #[.int .u64 0, .int .i64 0, .bool false]) 24 rfl Tryz.underlying58 info_item rfl (Nat.succ_pos _) (by omega) (.slice (some ⟨w.heap.size, 0, none⟩) 0 0) [] l (some ad) n c (fun _ => True) (fun _ => False) rfl rfl (lit_items w w.heap.size (Nat.le_refl _)) (ReadsRow.imp_ H1.out (below_alloc (Below.refl _ _) _) (fun _ _ hp => hp)) (fun _ _ hx => kItem_KM hx) (fun _ hk => hk.elim) (fun _ _ => trivial) (below_alloc (Below.refl _ _) _) (below_alloc (Below.refl _ _) _).size (by simp; omega) ?_; intro v2 w2 ho hb hg hat; rw [List.nil_append] at ho; obtain ⟨A2, c2, rfl⟩ : ∃ A c, v2 = .slice A n c := (by obtain ⟨A, c, e⟩ := Kd.R_slice ho; exact ⟨A, c, by rw [e, HN.out]⟩); have HO2 := Aside0.mk ho; have HB2 := Aside0.mk hb; clear ho hb hg hat)
    go_ret
    have h2 := Kd.R_reads' HO2.out
    refine ⟨A2, c2, rfl, ?_, fun h => ?_, HB2.out⟩
    · have := h2.2.2
      rwa [← h2.1] at this
    · obtain ⟨q, cap, e, _, _, cells, hc⟩ := Kd.R_form HO2.out (by rw [HN.out]; exact h)
      cases e
      exact ⟨q, cells, rfl, hc⟩
theorem tabAll_any (g : Nat) (w : World) : Calls Tryz.prog 24 #[.pointer (some ⟨g, 0, none⟩)] w fun e w' => e = .returned (.func (.func 48) #[] #[.pointer (some ⟨w.heap.size, 0, none⟩)]) ∧ w.alloc (.cells #[.pointer (some ⟨g, 0, none⟩)] 25) = w' := by
  go_enter Tryz.func24, Tryz.ntmps24
  go_wp2_with fail
  go_ret
  exact ⟨rfl, rfl⟩
/-- What a round keeps: the blocks of moments. -/
def KpI (W W' : World) : Prop := ∀ (k : Nat) (cs : Array Value), W.heap[k]? = some (Obj.cells cs 62 (0, 0)) → W'.heap[k]? = some (Obj.cells cs 62 (0, 0))
set_option maxRecDepth 100000 in
set_option maxHeartbeats 1600000 in
theorem tabAll_stops (g : Nat) (ms : List Int) (A : Option Addr) (n c : Nat) (N : Nat) (hN : 2 ≤ N) (B : Nat) (w : World) (hB : B < w.heap.size) (hb1 : w.heap[B]? = some (.cells #[.pointer (some ⟨g, 0, none⟩)] 25 (0, 0))) (h : TabAt w g ms A n c) :
    SeqStopsK Fence.wide N Tryz.prog 48 #[.pointer (some ⟨B, 0, none⟩)] (fun x : Fin n => #[.int .u64 ((x.val : Int) + 1), .int .i64 (gt ms x.val)]) KpI (fun ss => ss.map Fin.val = List.range n) (fun _ => True) n w := by
  intro l J Jx W hW hJ hJx hY h0
  have hT := h.below hW
  have c1 := (cell_of1 ((hW.block B hB).trans hb1)).1
  have c2 := (cell_of1 hT.box).1
  have hn1000 := hT.few
  have HCL := Aside0.mk (iclone A (items ms) n c (by rw [items_len]; exact hT.len) W hT.row hT.few)
  refine callsIn_of_wp Tryz.func48 rfl trivial ?_ rfl
  simp only [Tryz.ntmps48, List.size_toArray, List.length_cons, List.length_nil, Nat.reduceAdd, Nat.reduceSub, Array.replicate_succ, Array.replicate_zero, List.push_toArray, List.append_toArray, List.nil_append, List.cons_append]
  gi_wp2_with (refine ⟨trivial, fun _ => (by omega), ?_⟩; refine (callsIn_wide.2 HCL.out).mono ?_; rintro e w2 ⟨A2, cc2, rfl, hC, hq, hb⟩; have HC2 := Aside0.mk hC; have HQ2 := Aside0.mk hq; have HB2 := Aside0.mk hb; clear hC hq hb)
  have hJ2 : J [] w2 := hJ _ _ _ none h0 (grown_of_below HB2.out none) (fun r e => by cases e)
  have HIT : Aside0 (1 ≤ n → ∃ q cells, A2 = some ⟨q, 0, none⟩ ∧ w2.heap[q]? = some (.cells cells 62 (0, 0)) ∧ ∀ k, k < n → cells[k * 3]? = some (.int .u64 ((k : Int) + 1)) ∧ cells[k * 3 + 1]? = some (.int .i64 (gt ms k)) ∧ cells[k * 3 + 2]? = some (.bool false)) := ⟨fun h1 => by
    obtain ⟨q, cells, e, hc⟩ := HQ2.out h1
    refine ⟨q, cells, e, hc, fun k hk => ?_⟩
    obtain ⟨ad, e2, q0, q1, q2⟩ := item_at HC2.out hk
    rw [e] at e2
    cases e2
    rw [items_gt ms k (by rw [hT.len]; exact hk)] at q0 q1 q2
    rw [Go.Proofs.YtjoafafjpmfjbaaGreatDoorW.PrintWords.add_plain] at q0 q1 q2
    exact ⟨(blk_cell hc (k * 3)).symm.trans q0, (blk_cell hc (k * 3 + 1)).symm.trans q1, (blk_cell hc (k * 3 + 2)).symm.trans q2⟩⟩
  clear HCL HC2 HQ2
  gi_loopw [13] (fun i wr => ∃ (k : Nat) (pre : List (Fin n)), k ≤ n ∧ i = .int .i64 (k : Nat) ∧ pre.map Fin.val = List.range k ∧ J pre wr ∧ KpI w2 wr) (fun i _ => n - (intOf i).toNat)
  case atStart => exact ⟨0, [], Nat.zero_le _, rfl, rfl, hJ2, fun _ _ h => h⟩
  case round =>
    obtain ⟨k, pre, hk, rfl, hpre, hJk, hKk⟩ := hrel
    have hpl : pre.length = k := by have := congrArg List.length hpre; simpa using this
    by_cases hlt : k < n
    · have i1 : (k : Int) < (n : Int) := by omega
      obtain ⟨q, cells, rfl, hc, hat⟩ := HIT.out (by omega)
      obtain ⟨e0, e1, e2⟩ := hat k hlt
      have hc' := hKk _ _ hc
      have q0 := (blk_cell hc' (k * 3)).trans e0
      have q1 := (blk_cell hc' (k * 3 + 1)).trans e1
      have q2 := (blk_cell hc' (k * 3 + 2)).trans e2
      have HHK := Aside0.mk hKk
      clear hc hat e0 e1 e2 hc' hKk
      have hJ3 : J pre (wr.alloc (.cells #[.int .u64 ((k : Int) + 1), .int .i64 (gt ms k), .bool false] 62)) := hJ _ _ _ none hJk (grown_of_below (below_alloc (Below.refl _ _) _) none) (fun r e => by cases e)
      obtain ⟨fn, tmps, assign, body, hy, hR⟩ := hY _ ⟨k, hlt⟩ _ hJ3 (by omega)
      gi_wp2
      refine ⟨fun _ => (by omega), hR.mono ?_⟩
      rintro e W3 (⟨rfl, hJ4, hk3⟩ | ⟨rfl, hx⟩)
      · gi_wp2
        go_roundw
        case rel => exact ⟨k + 1, pre ++ [⟨k, hlt⟩], by omega, by go_num, by rw [List.map_append, hpre, List.range_succ]; rfl, hJ4, fun q cs hq => hk3 q cs (blk_alloc (HHK.out q cs hq) _)⟩
        case measure => simp [intOf]; omega
      · gi_wp2
        exact bodyPost_ret (results_none rfl _ _ _) rfl ⟨⟨_, rfl⟩, .inr ⟨_, trivial, hx⟩⟩
    · have i1 : ¬ (k : Int) < (n : Int) := by omega
      gi_wp2
      go_end0
      exact ⟨⟨_, rfl⟩, .inl ⟨pre, by rw [hpre, show n = k by omega], hJk⟩⟩
end Go.Proofs.YtjoafafjpmfjbaaGreatDoor
