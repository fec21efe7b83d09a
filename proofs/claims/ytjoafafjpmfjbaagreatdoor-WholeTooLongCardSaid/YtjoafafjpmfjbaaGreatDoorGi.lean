/-
  WholeTooLong: rules are compiled.
-/
import Derived.Test.YtjoafafjpmfjbaaGreatDoorGh
import Derived.Laws.EntriesVeiled
namespace Go.Proofs.YtjoafafjpmfjbaaGreatDoor
open Go.RowKit Go.Shelf Go.Proofs.YtjoafafjpmfjbaaGreatDoorW.PrintWords Go.Proofs.YtjoafafjpmfjbaaGreatDoorW.PrintLast Go.Proofs.YtjoafafjpmfjbaaGreatDoorW.PrintMore
set_option linter.unusedVariables false
set_option linter.unusedSimpArgs false

/-- The rules that keep. -/
def keepers (l : List Ru) : List Ru := l.filter (fun x => !(x.kind == 4))
def nevStep (s : Int × Bool) (x : Ru) : Int × Bool := if x.kind = 4 then (if s.2 = false ∨ x.fr < s.1 then (x.fr, true) else s) else s
/-- The least For of the Never rules. -/
def nevOf (l : List Ru) : Int × Bool := l.foldl nevStep (0, false)
theorem keepers_succ (l : List Ru) (k : Nat) (hk : k < l.length) : keepers (l.take (k + 1)) = if (gt l k).kind = 4 then keepers (l.take k) else keepers (l.take k) ++ [gt l k] := by
  unfold keepers
  rw [List.take_add_one, gt_some _ _ hk, List.filter_append]
  by_cases h : (gt l k).kind = 4 <;> simp [h]
theorem nevOf_succ (l : List Ru) (k : Nat) (hk : k < l.length) : nevOf (l.take (k + 1)) = nevStep (nevOf (l.take k)) (gt l k) := by
  unfold nevOf
  rw [List.take_add_one, gt_some _ _ hk, List.foldl_append]
  rfl
theorem nevStep_ne (s : Int × Bool) (x : Ru) (h : ¬ x.kind = 4) : nevStep s x = s := by unfold nevStep; rw [if_neg h]
theorem keep_ty : ∀ q, q ∈ 92 :: kKeep.E → q ≠ 28 := fun q hq e => by
  have : q ∈ [92, 41] := hq
  rw [e] at this
  exact absurd this (by decide)
theorem keepers_len (l : List Ru) : (keepers l).length ≤ l.length := List.length_filter_le _ _
theorem info_keep : (Tryz.prog.info? 92).map (fun i => (i.zero, i.size, i.bytes)) = some (some (.agg #[.nilFunc, .int .i64 0]), kKeep.sz, 16) := by kernel_rfl
theorem keep_z : (Value.agg #[.nilFunc, .int .i64 0]).cells.size = kKeep.sz := rfl
theorem keep_pos : 0 < kKeep.sz := by decide
theorem info_autoS : (Tryz.prog.info? 28).map (·.size) = some 3 := by kernel_rfl
/-- What a compiler answers. -/
def CompPost (xs : List Ru) (n : Nat) (w : World) (e : Ending) (w' : World) : Prop :=
  Below w.heap.size w w' ∧ ((∃ er : Int, er ≠ 0 ∧ e = .returned (.tuple #[.agg #[.slice none 0 0, .int .i64 0, .bool false], .int .i64 er]) ∧ (16 < n ∨ ∃ x ∈ xs, rightB x = false)) ∨
    (n ≤ 16 ∧ (∀ x ∈ xs, rightB x = true) ∧ ∃ A' c', e = .returned (.tuple #[.agg #[.slice A' (keepers xs).length c', .int .i64 (nevOf xs).1, .bool (nevOf xs).2], .int .i64 0]) ∧ kKeep.R 92 w' w.heap.size (fun _ => True) (.slice A' (keepers xs).length c') (keepers xs)))
set_option maxRecDepth 20000 in
set_option maxHeartbeats 3200000 in
theorem comp_any (A : Option Addr) (n c : Nat) (xs : List Ru) (hn : xs.length = n) (w : World) (h : kRu.C w A n xs) :
    Calls Tryz.prog 12 #[.slice A n c] w (CompPost xs n w) := by
  have H := Aside0.mk h
  have HN := Aside0.mk hn
  have hm : n ≤ 9223372036854775807 := h.2.1
  clear h hn
  by_cases h16 : n ≤ 16
  · have i1 : ¬ ((n : Int) > 16) := by omega
    go_enter Tryz.func12, Tryz.ntmps12
    go_upto_region 5 with fail
    obtain ⟨W0, hW0⟩ : ∃ W0, (w.alloc (.cells #[.slice none 0 0, .int .i64 0, .bool false] 28)).alloc (.cells #[.slice none 0 0, .int .i64 0, .bool false] 28) = W0 := ⟨_, rfl⟩
    have e0 := World.size_alloc w (.cells #[.slice none 0 0, .int .i64 0, .bool false] 28)
    have b2 := blk_alloc (blk_new w (.cells #[.slice none 0 0, .int .i64 0, .bool false] 28)) (.cells #[.slice none 0 0, .int .i64 0, .bool false] 28)
    have b4 := blk_new (w.alloc (.cells #[.slice none 0 0, .int .i64 0, .bool false] 28)) (.cells #[.slice none 0 0, .int .i64 0, .bool false] 28)
    have hB0 := below_alloc (below_alloc (Below.refl w.heap.size w) (.cells #[.slice none 0 0, .int .i64 0, .bool false] 28)) (.cells #[.slice none 0 0, .int .i64 0, .bool false] 28)
    rw [e0] at b4
    rw [hW0] at b2 b4 hB0
    rw [hW0]
    have HB0 := Aside0.mk hB0
    have HX2 := Aside0.mk b2
    have HX4 := Aside0.mk b4
    clear e0 b2 b4 hB0 hW0
    go_loopg [14] n (fun gk i wr => ∃ k : Nat, k ≤ n ∧ Aside0 (gk = n - k) ∧ i = .int .i64 k ∧ Aside0 (∀ x ∈ xs.take k, rightB x = true) ∧ Aside0 (wr.heap[w.heap.size]? = some (.cells #[.slice none 0 0, .int .i64 0, .bool false] 28 (0, 0))) ∧ ∃ v : Value, Aside0 (wr.heap[w.heap.size + 1]? = some (.cells #[v, .int .i64 (nevOf (xs.take k)).1, .bool (nevOf (xs.take k)).2] 28 (0, 0))) ∧ Aside0 (kKeep.R 92 wr w.heap.size (fun _ => True) v (keepers (xs.take k))) ∧ Aside0 (Below w.heap.size w wr))
    case atStart => exact ⟨0, Nat.zero_le _, ⟨rfl⟩, rfl, ⟨fun x hx => by simp at hx⟩, HX2, .slice none 0 0, HX4, ⟨Kd.R_nil _ _ _ _ _⟩, HB0⟩
    case round =>
      obtain ⟨k, hk, HGK, rfl, HRT, HX2, v, HX4, HR, HB⟩ := hrel
      by_cases hlt : k < n
      · have j1 : (k : Int) < (n : Int) := by omega
        obtain ⟨ad, rfl, q0, q1, q2⟩ := ru_at (Kd.C_below H.out HB.out) hlt
        have hks := keepers_succ xs k (by rw [HN.out]; exact hlt)
        have hns := nevOf_succ xs k (by rw [HN.out]; exact hlt)
        have hrt : ∀ b, rightB (gt xs k) = b → b = true → ∀ x ∈ xs.take (k + 1), rightB x = true := by
          intro b hb hbt x hx
          rw [List.take_add_one, gt_some _ _ (by rw [HN.out]; exact hlt), List.mem_append] at hx
          rcases hx with hx | hx
          · exact HRT.out x hx
          · simp only [Option.toList_some, List.mem_singleton] at hx
            rw [hx, hb, hbt]
        obtain ⟨x, hx⟩ : ∃ x, x = gt xs k := ⟨_, rfl⟩
        rw [← hx] at q0 q1 q2 hks hns hrt
        have HRI := Aside0.mk (fun W => right_any x W)
        have HKS := Aside0.mk hks
        have HNS := Aside0.mk hns
        have HRTS := Aside0.mk hrt
        obtain ⟨nk, hnk⟩ : ∃ nk, nk = nevOf (xs.take k) := ⟨_, rfl⟩
        rw [← hnk] at HX4 HNS
        have HXM : Aside0 (x ∈ xs) := ⟨by rw [hx]; exact gtX_mem (by rw [HN.out]; exact hlt)⟩
        obtain ⟨xk, xl, xf⟩ := x
        have hxk := HKS.out
        dsimp only at q0 q1 q2 HRI
        clear hx hks hns hrt hnk hxk
        cases hb : rightB ⟨xk, xl, xf⟩
        · rw [hb] at HRI
          go_wp2_with (go_at_call 29; with_reducible refine (HRI.out _).mono ?_; rintro e w1 ⟨rfl, hbb⟩; have HB1 := Aside0.mk (below_step (below_alloc HB.out (.cells #[.int .i64 xk, .int .i64 xl, .int .i64 xf] 41)) hbb); have HX21 := Aside0.mk (blk_below (blk_alloc HX2.out (.cells #[.int .i64 xk, .int .i64 xl, .int .i64 xf] 41)) hbb); clear hbb; (have bx := HX21.out; have d0 := blk_cell bx 0; have d1 := blk_cell bx 1; have d2 := blk_cell bx 2; simp only [List.getElem?_toArray, List.getElem?_cons_zero, List.getElem?_cons_succ] at d0 d1 d2; have f0 := blk_frozen bx 0; have f1 := blk_frozen bx 1; have f2 := blk_frozen bx 2; clear bx))
          refine bodyPost_ret (results_ct rfl _ _ w.heap.size 28 #[.slice none 0 0, .int .i64 0, .bool false] (0, 0) _ rfl (blk_put (blk_put (blk_put HX21.out 0 _ rfl) 1 _ rfl) 2 _ rfl) Tryz.underlying28 rfl info_autoS) rfl ?_
          exact ⟨((HB1.out.setCell (p := ⟨w.heap.size, 0, none⟩) (Nat.le_refl _) _).setCell (p := ⟨w.heap.size, 1, none⟩) (Nat.le_refl _) _).setCell (p := ⟨w.heap.size, 2, none⟩) (Nat.le_refl _) _, .inl ⟨3, by decide, rfl, .inr ⟨_, HXM.out, hb⟩⟩⟩
        · rw [hb] at HRI
          have hk4 : xk = 1 ∨ xk = 2 ∨ xk = 3 ∨ xk = 4 := by
            unfold rightB at hb
            dsimp only at hb
            split at hb
            · rename_i h; rcases h with h | h <;> simp [h]
            · split at hb
              · rename_i h; rcases h with h | h <;> simp [h]
              · cases hb
          have HRTT := Aside0.mk (HRTS.out _ hb rfl)
          clear hb
          rcases hk4 with rfl | rfl | rfl | rfl
          · (have hks := HKS.out; rw [if_neg (show ¬ (1 : Int) = 4 by decide)] at hks; have HKK := Aside0.mk hks; have HNN := Aside0.mk (HNS.out.trans (nevStep_ne nk _ (show ¬ (1 : Int) = 4 by decide))); clear hks; go_wp2_with (first | (go_at_call 29; with_reducible refine (HRI.out _).mono ?_; rintro e w1 ⟨rfl, hbb⟩; have HBB := Aside0.mk hbb; have hb1 := (below_step (below_alloc HB.out (.cells #[.int .i64 1, .int .i64 xl, .int .i64 xf] 41)) hbb); have HB1 := Aside0.mk hb1; have HXR := Aside0.mk (blk_below (blk_new wr (.cells #[.int .i64 1, .int .i64 xl, .int .i64 xf] 41)) hbb); have hsz := hbb.size; rw [World.size_alloc] at hsz; have HSZ := Aside0.mk hsz; clear hsz hb1; (have bx := HXR.out; have d0 := blk_cell bx 0; have d1 := blk_cell bx 1; have d2 := blk_cell bx 2; simp only [List.getElem?_toArray, List.getElem?_cons_zero, List.getElem?_cons_succ] at d0 d1 d2; have f0 := blk_frozen bx 0; have f1 := blk_frozen bx 1; have f2 := blk_frozen bx 2; clear bx); have a0 := cell_old (below_alloc (Below.refl w1.heap.size w1) (.cells #[.nilFunc, .int .i64 xf] 92)) d0; have a2 := cell_old (below_alloc (Below.refl w1.heap.size w1) (.cells #[.nilFunc, .int .i64 xf] 92)) d2; have HX21 := Aside0.mk (blk_below (blk_alloc HX2.out (.cells #[.int .i64 1, .int .i64 xl, .int .i64 xf] 41)) hbb); have HX41 := Aside0.mk (blk_below (blk_alloc HX4.out (.cells #[.int .i64 1, .int .i64 xl, .int .i64 xf] 41)) hbb); have bx := blk_alloc HX41.out (.cells #[(.func (.func 30) #[] #[]), .int .i64 xf] 92); have c0 := blk_cell bx 0; simp only [List.getElem?_toArray, List.getElem?_cons_zero, List.getElem?_cons_succ] at c0; clear bx hbb) | ((with_reducible refine gate_builtin (b := .append) (xs := #[.tmp 53, .tmp 55]) rfl ?_); at_builtin; refine Kd.R_append kKeep (w0 := w) w.heap.size rfl (.tmp 53) (.tmp 55) 26 92 (.agg #[.nilFunc, .int .i64 0]) 16 rfl Tryz.underlying26 info_keep keep_z keep_pos (by omega) v (keepers (xs.take k)) ⟨1, xl, xf⟩ [(.func (.func 30) #[] #[]), .int .i64 xf] (fun _ => True) (fun j => j = wr.heap.size) rfl ?hx ?mk ?okp (fun _ _ => trivial) ?own ?below ?size ?len ?_; (case hx => rw [World.size_alloc]; first | done | rfl); (case mk => exact ⟨wr.heap.size, rfl, blk_alloc HXR.out _, HB.out.size, rfl⟩); (case okp => exact (fun j hj => ⟨trivial, fun e => by have := Kd.R_lt HR.out j e.symm; omega⟩)); (case own => exact Kd.R_alloc (Kd.R_below (Kd.R_alloc HR.out _) HBB.out) _); (case below => exact below_alloc HB1.out _); (case size => exact (below_alloc HB1.out _).size); (case len => have := keepers_len (xs.take k); have := List.length_take_le k xs; omega); intro v2 w2 ho hb hg hat; obtain ⟨A2, N2, c2, rfl⟩ : ∃ A N c, v2 = .slice A N c := (by obtain ⟨A, c, e⟩ := Kd.R_slice ho; exact ⟨A, _, c, e⟩); have hne := Kd.R_alloc (Kd.R_below (Kd.R_alloc HR.out (.cells #[.int .i64 1, .int .i64 xl, .int .i64 xf] 41)) HBB.out) (.cells #[(.func (.func 30) #[] #[]), .int .i64 xf] 92); have hx4 := blk_grown (blk_alloc HX41.out (.cells #[(.func (.func 30) #[] #[]), .int .i64 xf] 92)) hg (Kd.R_ne hne (blk_alloc HX41.out (.cells #[(.func (.func 30) #[] #[]), .int .i64 xf] 92)) (by decide)); have hx2 := blk_grown (blk_alloc HX21.out (.cells #[(.func (.func 30) #[] #[]), .int .i64 xf] 92)) hg (Kd.R_ne hne (blk_alloc HX21.out (.cells #[(.func (.func 30) #[] #[]), .int .i64 xf] 92)) (by decide)); have HX42 := Aside0.mk hx4; have HX22 := Aside0.mk hx2; have s0 := blk_cell hx4 0; simp only [List.getElem?_toArray, List.getElem?_cons_zero, List.getElem?_cons_succ] at s0; have g0 := blk_frozen hx4 0; have HR2 := Aside0.mk ho; have HB2 := Aside0.mk hb; clear ho hb hg hat hne hx4 hx2)); go_roundg (n - (k + 1)); (case measure => have := HGK.out; omega); (case rel => refine ⟨k + 1, by omega, ⟨rfl⟩, by go_num, HRTT, ⟨blk_far HX22.out (p := ⟨w.heap.size + 1, 0, none⟩) (by simp) _⟩, .slice A2 N2 c2, ⟨?_⟩, ⟨?_⟩, ⟨HB2.out.setCell (p := ⟨w.heap.size + 1, 0, none⟩) (Nat.le_succ _) _⟩⟩; (rw [HNN.out]; exact blk_put HX42.out 0 _ rfl); (rw [HKK.out]; exact Kd.R_set HR2.out HX42.out keep_ty 0 _)))
          · (have hks := HKS.out; rw [if_neg (show ¬ (2 : Int) = 4 by decide)] at hks; have HKK := Aside0.mk hks; have HNN := Aside0.mk (HNS.out.trans (nevStep_ne nk _ (show ¬ (2 : Int) = 4 by decide))); clear hks; go_wp2_with (first | (go_at_call 29; with_reducible refine (HRI.out _).mono ?_; rintro e w1 ⟨rfl, hbb⟩; have HBB := Aside0.mk hbb; have hb1 := (below_step (below_alloc HB.out (.cells #[.int .i64 2, .int .i64 xl, .int .i64 xf] 41)) hbb); have HB1 := Aside0.mk hb1; have HXR := Aside0.mk (blk_below (blk_new wr (.cells #[.int .i64 2, .int .i64 xl, .int .i64 xf] 41)) hbb); have hsz := hbb.size; rw [World.size_alloc] at hsz; have HSZ := Aside0.mk hsz; clear hsz hb1; (have bx := HXR.out; have d0 := blk_cell bx 0; have d1 := blk_cell bx 1; have d2 := blk_cell bx 2; simp only [List.getElem?_toArray, List.getElem?_cons_zero, List.getElem?_cons_succ] at d0 d1 d2; have f0 := blk_frozen bx 0; have f1 := blk_frozen bx 1; have f2 := blk_frozen bx 2; clear bx); have a0 := cell_old (below_alloc (Below.refl w1.heap.size w1) (.cells #[.nilFunc, .int .i64 xf] 92)) d0; have a2 := cell_old (below_alloc (Below.refl w1.heap.size w1) (.cells #[.nilFunc, .int .i64 xf] 92)) d2; have HX21 := Aside0.mk (blk_below (blk_alloc HX2.out (.cells #[.int .i64 2, .int .i64 xl, .int .i64 xf] 41)) hbb); have HX41 := Aside0.mk (blk_below (blk_alloc HX4.out (.cells #[.int .i64 2, .int .i64 xl, .int .i64 xf] 41)) hbb); have bx := blk_alloc HX41.out (.cells #[(.func (.func 31) #[] #[.pointer (some ⟨wr.heap.size, 0, none⟩)]), .int .i64 xf] 92); have c0 := blk_cell bx 0; simp only [List.getElem?_toArray, List.getElem?_cons_zero, List.getElem?_cons_succ] at c0; clear bx hbb) | ((with_reducible refine gate_builtin (b := .append) (xs := #[.tmp 53, .tmp 55]) rfl ?_); at_builtin; refine Kd.R_append kKeep (w0 := w) w.heap.size rfl (.tmp 53) (.tmp 55) 26 92 (.agg #[.nilFunc, .int .i64 0]) 16 rfl Tryz.underlying26 info_keep keep_z keep_pos (by omega) v (keepers (xs.take k)) ⟨2, xl, xf⟩ [(.func (.func 31) #[] #[.pointer (some ⟨wr.heap.size, 0, none⟩)]), .int .i64 xf] (fun _ => True) (fun j => j = wr.heap.size) rfl ?hx ?mk ?okp (fun _ _ => trivial) ?own ?below ?size ?len ?_; (case hx => rw [World.size_alloc]; first | done | rfl); (case mk => exact ⟨wr.heap.size, rfl, blk_alloc HXR.out _, HB.out.size, rfl⟩); (case okp => exact (fun j hj => ⟨trivial, fun e => by have := Kd.R_lt HR.out j e.symm; omega⟩)); (case own => exact Kd.R_alloc (Kd.R_below (Kd.R_alloc HR.out _) HBB.out) _); (case below => exact below_alloc HB1.out _); (case size => exact (below_alloc HB1.out _).size); (case len => have := keepers_len (xs.take k); have := List.length_take_le k xs; omega); intro v2 w2 ho hb hg hat; obtain ⟨A2, N2, c2, rfl⟩ : ∃ A N c, v2 = .slice A N c := (by obtain ⟨A, c, e⟩ := Kd.R_slice ho; exact ⟨A, _, c, e⟩); have hne := Kd.R_alloc (Kd.R_below (Kd.R_alloc HR.out (.cells #[.int .i64 2, .int .i64 xl, .int .i64 xf] 41)) HBB.out) (.cells #[(.func (.func 31) #[] #[.pointer (some ⟨wr.heap.size, 0, none⟩)]), .int .i64 xf] 92); have hx4 := blk_grown (blk_alloc HX41.out (.cells #[(.func (.func 31) #[] #[.pointer (some ⟨wr.heap.size, 0, none⟩)]), .int .i64 xf] 92)) hg (Kd.R_ne hne (blk_alloc HX41.out (.cells #[(.func (.func 31) #[] #[.pointer (some ⟨wr.heap.size, 0, none⟩)]), .int .i64 xf] 92)) (by decide)); have hx2 := blk_grown (blk_alloc HX21.out (.cells #[(.func (.func 31) #[] #[.pointer (some ⟨wr.heap.size, 0, none⟩)]), .int .i64 xf] 92)) hg (Kd.R_ne hne (blk_alloc HX21.out (.cells #[(.func (.func 31) #[] #[.pointer (some ⟨wr.heap.size, 0, none⟩)]), .int .i64 xf] 92)) (by decide)); have HX42 := Aside0.mk hx4; have HX22 := Aside0.mk hx2; have s0 := blk_cell hx4 0; simp only [List.getElem?_toArray, List.getElem?_cons_zero, List.getElem?_cons_succ] at s0; have g0 := blk_frozen hx4 0; have HR2 := Aside0.mk ho; have HB2 := Aside0.mk hb; clear ho hb hg hat hne hx4 hx2)); go_roundg (n - (k + 1)); (case measure => have := HGK.out; omega); (case rel => refine ⟨k + 1, by omega, ⟨rfl⟩, by go_num, HRTT, ⟨blk_far HX22.out (p := ⟨w.heap.size + 1, 0, none⟩) (by simp) _⟩, .slice A2 N2 c2, ⟨?_⟩, ⟨?_⟩, ⟨HB2.out.setCell (p := ⟨w.heap.size + 1, 0, none⟩) (Nat.le_succ _) _⟩⟩; (rw [HNN.out]; exact blk_put HX42.out 0 _ rfl); (rw [HKK.out]; exact Kd.R_set HR2.out HX42.out keep_ty 0 _)))
          · (have hks := HKS.out; rw [if_neg (show ¬ (3 : Int) = 4 by decide)] at hks; have HKK := Aside0.mk hks; have HNN := Aside0.mk (HNS.out.trans (nevStep_ne nk _ (show ¬ (3 : Int) = 4 by decide))); clear hks; go_wp2_with (first | (go_at_call 29; with_reducible refine (HRI.out _).mono ?_; rintro e w1 ⟨rfl, hbb⟩; have HBB := Aside0.mk hbb; have hb1 := (below_step (below_alloc HB.out (.cells #[.int .i64 3, .int .i64 xl, .int .i64 xf] 41)) hbb); have HB1 := Aside0.mk hb1; have HXR := Aside0.mk (blk_below (blk_new wr (.cells #[.int .i64 3, .int .i64 xl, .int .i64 xf] 41)) hbb); have hsz := hbb.size; rw [World.size_alloc] at hsz; have HSZ := Aside0.mk hsz; clear hsz hb1; (have bx := HXR.out; have d0 := blk_cell bx 0; have d1 := blk_cell bx 1; have d2 := blk_cell bx 2; simp only [List.getElem?_toArray, List.getElem?_cons_zero, List.getElem?_cons_succ] at d0 d1 d2; have f0 := blk_frozen bx 0; have f1 := blk_frozen bx 1; have f2 := blk_frozen bx 2; clear bx); have a0 := cell_old (below_alloc (Below.refl w1.heap.size w1) (.cells #[.nilFunc, .int .i64 xf] 92)) d0; have a2 := cell_old (below_alloc (Below.refl w1.heap.size w1) (.cells #[.nilFunc, .int .i64 xf] 92)) d2; have HX21 := Aside0.mk (blk_below (blk_alloc HX2.out (.cells #[.int .i64 3, .int .i64 xl, .int .i64 xf] 41)) hbb); have HX41 := Aside0.mk (blk_below (blk_alloc HX4.out (.cells #[.int .i64 3, .int .i64 xl, .int .i64 xf] 41)) hbb); have bx := blk_alloc HX41.out (.cells #[(.func (.func 33) #[] #[.pointer (some ⟨wr.heap.size, 0, none⟩)]), .int .i64 xf] 92); have c0 := blk_cell bx 0; simp only [List.getElem?_toArray, List.getElem?_cons_zero, List.getElem?_cons_succ] at c0; clear bx hbb) | ((with_reducible refine gate_builtin (b := .append) (xs := #[.tmp 53, .tmp 55]) rfl ?_); at_builtin; refine Kd.R_append kKeep (w0 := w) w.heap.size rfl (.tmp 53) (.tmp 55) 26 92 (.agg #[.nilFunc, .int .i64 0]) 16 rfl Tryz.underlying26 info_keep keep_z keep_pos (by omega) v (keepers (xs.take k)) ⟨3, xl, xf⟩ [(.func (.func 33) #[] #[.pointer (some ⟨wr.heap.size, 0, none⟩)]), .int .i64 xf] (fun _ => True) (fun j => j = wr.heap.size) rfl ?hx ?mk ?okp (fun _ _ => trivial) ?own ?below ?size ?len ?_; (case hx => rw [World.size_alloc]; first | done | rfl); (case mk => exact ⟨wr.heap.size, rfl, blk_alloc HXR.out _, HB.out.size, rfl⟩); (case okp => exact (fun j hj => ⟨trivial, fun e => by have := Kd.R_lt HR.out j e.symm; omega⟩)); (case own => exact Kd.R_alloc (Kd.R_below (Kd.R_alloc HR.out _) HBB.out) _); (case below => exact below_alloc HB1.out _); (case size => exact (below_alloc HB1.out _).size); (case len => have := keepers_len (xs.take k); have := List.length_take_le k xs; omega); intro v2 w2 ho hb hg hat; obtain ⟨A2, N2, c2, rfl⟩ : ∃ A N c, v2 = .slice A N c := (by obtain ⟨A, c, e⟩ := Kd.R_slice ho; exact ⟨A, _, c, e⟩); have hne := Kd.R_alloc (Kd.R_below (Kd.R_alloc HR.out (.cells #[.int .i64 3, .int .i64 xl, .int .i64 xf] 41)) HBB.out) (.cells #[(.func (.func 33) #[] #[.pointer (some ⟨wr.heap.size, 0, none⟩)]), .int .i64 xf] 92); have hx4 := blk_grown (blk_alloc HX41.out (.cells #[(.func (.func 33) #[] #[.pointer (some ⟨wr.heap.size, 0, none⟩)]), .int .i64 xf] 92)) hg (Kd.R_ne hne (blk_alloc HX41.out (.cells #[(.func (.func 33) #[] #[.pointer (some ⟨wr.heap.size, 0, none⟩)]), .int .i64 xf] 92)) (by decide)); have hx2 := blk_grown (blk_alloc HX21.out (.cells #[(.func (.func 33) #[] #[.pointer (some ⟨wr.heap.size, 0, none⟩)]), .int .i64 xf] 92)) hg (Kd.R_ne hne (blk_alloc HX21.out (.cells #[(.func (.func 33) #[] #[.pointer (some ⟨wr.heap.size, 0, none⟩)]), .int .i64 xf] 92)) (by decide)); have HX42 := Aside0.mk hx4; have HX22 := Aside0.mk hx2; have s0 := blk_cell hx4 0; simp only [List.getElem?_toArray, List.getElem?_cons_zero, List.getElem?_cons_succ] at s0; have g0 := blk_frozen hx4 0; have HR2 := Aside0.mk ho; have HB2 := Aside0.mk hb; clear ho hb hg hat hne hx4 hx2)); go_roundg (n - (k + 1)); (case measure => have := HGK.out; omega); (case rel => refine ⟨k + 1, by omega, ⟨rfl⟩, by go_num, HRTT, ⟨blk_far HX22.out (p := ⟨w.heap.size + 1, 0, none⟩) (by simp) _⟩, .slice A2 N2 c2, ⟨?_⟩, ⟨?_⟩, ⟨HB2.out.setCell (p := ⟨w.heap.size + 1, 0, none⟩) (Nat.le_succ _) _⟩⟩; (rw [HNN.out]; exact blk_put HX42.out 0 _ rfl); (rw [HKK.out]; exact Kd.R_set HR2.out HX42.out keep_ty 0 _)))
          · have hks := HKS.out
            rw [if_pos rfl] at hks
            have HKK := Aside0.mk hks
            obtain ⟨nv, ns⟩ := nk
            have hnn := HNS.out
            unfold nevStep at hnn
            rw [if_pos rfl] at hnn
            dsimp only at hnn HX4
            clear hks
            cases ns
            · rw [if_pos (.inl rfl)] at hnn
              have HNN := Aside0.mk hnn
              clear hnn
              ((go_wp2_with (go_at_call 29; with_reducible refine (HRI.out _).mono ?_; rintro e w1 ⟨rfl, hbb⟩; have HBB := Aside0.mk hbb; have hb1 := (below_step (below_alloc HB.out (.cells #[.int .i64 4, .int .i64 xl, .int .i64 xf] 41)) hbb); have HB1 := Aside0.mk hb1; have HXR := Aside0.mk (blk_below (blk_new wr (.cells #[.int .i64 4, .int .i64 xl, .int .i64 xf] 41)) hbb); have hsz := hbb.size; rw [World.size_alloc] at hsz; have HSZ := Aside0.mk hsz; clear hsz hb1; (have bx := HXR.out; have d0 := blk_cell bx 0; have d1 := blk_cell bx 1; have d2 := blk_cell bx 2; simp only [List.getElem?_toArray, List.getElem?_cons_zero, List.getElem?_cons_succ] at d0 d1 d2; have f0 := blk_frozen bx 0; have f1 := blk_frozen bx 1; have f2 := blk_frozen bx 2; clear bx); have a0 := cell_old (below_alloc (Below.refl w1.heap.size w1) (.cells #[.nilFunc, .int .i64 xf] 92)) d0; have a2 := cell_old (below_alloc (Below.refl w1.heap.size w1) (.cells #[.nilFunc, .int .i64 xf] 92)) d2; clear d0 d1 f0 f1 f2; have HX22 := Aside0.mk (blk_alloc (blk_below (blk_alloc HX2.out (.cells #[.int .i64 4, .int .i64 xl, .int .i64 xf] 41)) hbb) (.cells #[.nilFunc, .int .i64 xf] 92)); have bx := (blk_alloc (blk_below (blk_alloc HX4.out (.cells #[.int .i64 4, .int .i64 xl, .int .i64 xf] 41)) hbb) (.cells #[.nilFunc, .int .i64 xf] 92)); have HX42 := Aside0.mk bx; have c1 := blk_cell bx 1; have c2 := blk_cell bx 2; simp only [List.getElem?_toArray, List.getElem?_cons_zero, List.getElem?_cons_succ] at c1 c2; have k1 := blk_frozen bx 1; have k2 := blk_frozen bx 2; have HR2 := Aside0.mk (Kd.R_alloc (Kd.R_below (Kd.R_alloc HR.out (.cells #[.int .i64 4, .int .i64 xl, .int .i64 xf] 41)) hbb) (.cells #[.nilFunc, .int .i64 xf] 92)); have HB2 := Aside0.mk (below_alloc HB1.out (.cells #[.nilFunc, .int .i64 xf] 92)); clear bx hbb)); go_roundg (n - (k + 1)); (case measure => have := HGK.out; omega); (case rel => refine ⟨k + 1, by omega, ⟨rfl⟩, by go_num, HRTT, ⟨blk_far (blk_far HX22.out (p := ⟨w.heap.size + 1, 1, none⟩) (by simp) _) (p := ⟨w.heap.size + 1, 2, none⟩) (by simp) _⟩, v, ⟨?_⟩, ⟨?_⟩, ⟨(HB2.out.setCell (p := ⟨w.heap.size + 1, 1, none⟩) (Nat.le_succ _) _).setCell (p := ⟨w.heap.size + 1, 2, none⟩) (Nat.le_succ _) _⟩⟩; (rw [HNN.out]; exact blk_put (blk_put HX42.out 1 _ rfl) 2 _ rfl); (rw [HKK.out]; exact Kd.R_set (Kd.R_set HR2.out HX42.out keep_ty 1 _) (blk_set HX42.out 1 _) keep_ty 2 _)))
            · by_cases hlt2 : xf < nv
              · rw [if_pos (.inr hlt2)] at hnn
                have HNN := Aside0.mk hnn
                clear hnn
                ((go_wp2_with (go_at_call 29; with_reducible refine (HRI.out _).mono ?_; rintro e w1 ⟨rfl, hbb⟩; have HBB := Aside0.mk hbb; have hb1 := (below_step (below_alloc HB.out (.cells #[.int .i64 4, .int .i64 xl, .int .i64 xf] 41)) hbb); have HB1 := Aside0.mk hb1; have HXR := Aside0.mk (blk_below (blk_new wr (.cells #[.int .i64 4, .int .i64 xl, .int .i64 xf] 41)) hbb); have hsz := hbb.size; rw [World.size_alloc] at hsz; have HSZ := Aside0.mk hsz; clear hsz hb1; (have bx := HXR.out; have d0 := blk_cell bx 0; have d1 := blk_cell bx 1; have d2 := blk_cell bx 2; simp only [List.getElem?_toArray, List.getElem?_cons_zero, List.getElem?_cons_succ] at d0 d1 d2; have f0 := blk_frozen bx 0; have f1 := blk_frozen bx 1; have f2 := blk_frozen bx 2; clear bx); have a0 := cell_old (below_alloc (Below.refl w1.heap.size w1) (.cells #[.nilFunc, .int .i64 xf] 92)) d0; have a2 := cell_old (below_alloc (Below.refl w1.heap.size w1) (.cells #[.nilFunc, .int .i64 xf] 92)) d2; clear d0 d1 f0 f1 f2; have HX22 := Aside0.mk (blk_alloc (blk_below (blk_alloc HX2.out (.cells #[.int .i64 4, .int .i64 xl, .int .i64 xf] 41)) hbb) (.cells #[.nilFunc, .int .i64 xf] 92)); have bx := (blk_alloc (blk_below (blk_alloc HX4.out (.cells #[.int .i64 4, .int .i64 xl, .int .i64 xf] 41)) hbb) (.cells #[.nilFunc, .int .i64 xf] 92)); have HX42 := Aside0.mk bx; have c1 := blk_cell bx 1; have c2 := blk_cell bx 2; simp only [List.getElem?_toArray, List.getElem?_cons_zero, List.getElem?_cons_succ] at c1 c2; have k1 := blk_frozen bx 1; have k2 := blk_frozen bx 2; have HR2 := Aside0.mk (Kd.R_alloc (Kd.R_below (Kd.R_alloc HR.out (.cells #[.int .i64 4, .int .i64 xl, .int .i64 xf] 41)) hbb) (.cells #[.nilFunc, .int .i64 xf] 92)); have HB2 := Aside0.mk (below_alloc HB1.out (.cells #[.nilFunc, .int .i64 xf] 92)); clear bx hbb)); go_roundg (n - (k + 1)); (case measure => have := HGK.out; omega); (case rel => refine ⟨k + 1, by omega, ⟨rfl⟩, by go_num, HRTT, ⟨blk_far (blk_far HX22.out (p := ⟨w.heap.size + 1, 1, none⟩) (by simp) _) (p := ⟨w.heap.size + 1, 2, none⟩) (by simp) _⟩, v, ⟨?_⟩, ⟨?_⟩, ⟨(HB2.out.setCell (p := ⟨w.heap.size + 1, 1, none⟩) (Nat.le_succ _) _).setCell (p := ⟨w.heap.size + 1, 2, none⟩) (Nat.le_succ _) _⟩⟩; (rw [HNN.out]; exact blk_put (blk_put HX42.out 1 _ rfl) 2 _ rfl); (rw [HKK.out]; exact Kd.R_set (Kd.R_set HR2.out HX42.out keep_ty 1 _) (blk_set HX42.out 1 _) keep_ty 2 _)))
              · rw [if_neg (by simp; omega)] at hnn
                have HNN := Aside0.mk hnn
                clear hnn
                (go_wp2_with (go_at_call 29; with_reducible refine (HRI.out _).mono ?_; rintro e w1 ⟨rfl, hbb⟩; have HBB := Aside0.mk hbb; have hb1 := (below_step (below_alloc HB.out (.cells #[.int .i64 4, .int .i64 xl, .int .i64 xf] 41)) hbb); have HB1 := Aside0.mk hb1; have HXR := Aside0.mk (blk_below (blk_new wr (.cells #[.int .i64 4, .int .i64 xl, .int .i64 xf] 41)) hbb); have hsz := hbb.size; rw [World.size_alloc] at hsz; have HSZ := Aside0.mk hsz; clear hsz hb1; (have bx := HXR.out; have d0 := blk_cell bx 0; have d1 := blk_cell bx 1; have d2 := blk_cell bx 2; simp only [List.getElem?_toArray, List.getElem?_cons_zero, List.getElem?_cons_succ] at d0 d1 d2; have f0 := blk_frozen bx 0; have f1 := blk_frozen bx 1; have f2 := blk_frozen bx 2; clear bx); have a0 := cell_old (below_alloc (Below.refl w1.heap.size w1) (.cells #[.nilFunc, .int .i64 xf] 92)) d0; have a2 := cell_old (below_alloc (Below.refl w1.heap.size w1) (.cells #[.nilFunc, .int .i64 xf] 92)) d2; clear d0 d1 f0 f1 f2; have HX22 := Aside0.mk (blk_alloc (blk_below (blk_alloc HX2.out (.cells #[.int .i64 4, .int .i64 xl, .int .i64 xf] 41)) hbb) (.cells #[.nilFunc, .int .i64 xf] 92)); have bx := (blk_alloc (blk_below (blk_alloc HX4.out (.cells #[.int .i64 4, .int .i64 xl, .int .i64 xf] 41)) hbb) (.cells #[.nilFunc, .int .i64 xf] 92)); have HX42 := Aside0.mk bx; have c1 := blk_cell bx 1; have c2 := blk_cell bx 2; simp only [List.getElem?_toArray, List.getElem?_cons_zero, List.getElem?_cons_succ] at c1 c2; have k1 := blk_frozen bx 1; have k2 := blk_frozen bx 2; have HR2 := Aside0.mk (Kd.R_alloc (Kd.R_below (Kd.R_alloc HR.out (.cells #[.int .i64 4, .int .i64 xl, .int .i64 xf] 41)) hbb) (.cells #[.nilFunc, .int .i64 xf] 92)); have HB2 := Aside0.mk (below_alloc HB1.out (.cells #[.nilFunc, .int .i64 xf] 92)); clear bx hbb))
                go_roundg (n - (k + 1))
                case measure => have := HGK.out; omega
                case rel => exact ⟨k + 1, by omega, ⟨rfl⟩, by go_num, HRTT, HX22, v, ⟨by rw [HNN.out]; exact HX42.out⟩, ⟨by rw [HKK.out]; exact HR2.out⟩, HB2⟩
      · have j1 : ¬ (k : Int) < (n : Int) := by omega
        have hfull : xs.take k = xs := List.take_of_length_le (by rw [HN.out]; omega)
        rw [hfull] at HRT HX4 HR
        obtain ⟨A2, cc2, rfl⟩ := Kd.R_slice HR.out
        obtain ⟨N, hN⟩ : ∃ N, N = (keepers xs).length := ⟨_, rfl⟩
        rw [← hN] at HX4 HR
        have HNK := Aside0.mk hN
        obtain ⟨nk, hnk⟩ : ∃ nk, nk = nevOf xs := ⟨_, rfl⟩
        rw [← hnk] at HX4
        have HNV := Aside0.mk hnk
        obtain ⟨nv, ns⟩ := nk
        dsimp only at HX4
        clear hfull hN hnk
        (have bx := HX2.out; have d0 := blk_cell bx 0; have d1 := blk_cell bx 1; have d2 := blk_cell bx 2; simp only [List.getElem?_toArray, List.getElem?_cons_zero, List.getElem?_cons_succ] at d0 d1 d2; have f0 := blk_frozen bx 0; have f1 := blk_frozen bx 1; have f2 := blk_frozen bx 2; clear bx)
        have bx := HX4.out
        have c0 := blk_cell bx 0
        have c1 := blk_cell bx 1
        have c2 := blk_cell bx 2
        simp only [List.getElem?_toArray, List.getElem?_cons_zero, List.getElem?_cons_succ] at c0 c1 c2
        clear bx
        go_wp2_with fail
        refine bodyPost_ret (results_ct rfl _ _ w.heap.size 28 #[.slice A2 N cc2, .int .i64 nv, .bool ns] (0, 0) _ rfl (blk_put (blk_put (blk_put HX2.out 0 _ rfl) 1 _ rfl) 2 _ rfl) Tryz.underlying28 rfl info_autoS) rfl ?_
        have hR := Kd.R_set (Kd.R_set (Kd.R_set HR.out HX2.out keep_ty 0 (.slice A2 N cc2)) (blk_set HX2.out 0 _) keep_ty 1 (.int .i64 nv)) (blk_set (blk_set HX2.out 0 _) 1 _) keep_ty 2 (.bool ns)
        refine ⟨((HB.out.setCell (p := ⟨w.heap.size, 0, none⟩) (Nat.le_refl _) _).setCell (p := ⟨w.heap.size, 1, none⟩) (Nat.le_refl _) _).setCell (p := ⟨w.heap.size, 2, none⟩) (Nat.le_refl _) _, .inr ⟨h16, HRT.out, A2, cc2, ?_, ?_⟩⟩
        · rw [← HNV.out, ← HNK.out]
          rfl
        · rw [← HNK.out]
          exact hR
  · have i1 : (n : Int) > 16 := by omega
    go_enter Tryz.func12, Tryz.ntmps12
    go_wp2_with fail
    have bx := blk_new w (.cells #[.slice none 0 0, .int .i64 0, .bool false] 28)
    refine bodyPost_ret (results_ct rfl _ _ w.heap.size 28 #[.slice none 0 0, .int .i64 0, .bool false] (0, 0) _ rfl bx Tryz.underlying28 rfl info_autoS) rfl ?_
    exact ⟨below_alloc (Below.refl _ _) _, .inl ⟨6, by decide, rfl, .inl (by omega)⟩⟩
end Go.Proofs.YtjoafafjpmfjbaaGreatDoor
