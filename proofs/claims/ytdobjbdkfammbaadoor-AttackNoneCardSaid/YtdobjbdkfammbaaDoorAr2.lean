/-
  Chapter 55: attack.rows, walked: the deeds by which a disk is written.
-/
import Derived.Test.YtdobjbdkfammbaaDoorAr1
namespace Go.Proofs.YtdobjbdkfammbaaDoor
open Go.RowKit Go.Shelf Go.Proofs.YtdobjbdkfammbaaDoorW.PrintWords Go.Proofs.YtdobjbdkfammbaaDoorW.PrintLast Go.Proofs.YtdobjbdkfammbaaDoorW.PrintMore
set_option linter.unusedVariables false
set_option linter.unusedSimpArgs false
attribute [local go_sem] Oper.semAt_some

theorem info_dd : (Tryd.prog.info? 33).map (fun i => (i.zero, i.size, i.bytes)) = some (some (.agg #[.int .i64 0, .slice none 0 0, .int .i64 0]), 3, 40) := by kernel_rfl
/-- A deed's cells. -/
def encD (p : Part) : List Value := [.int .i64 1, encP p, .int .i64 0]
theorem cells_own {β : Type} (g : Nat) (cs : Array Value) (t : TypeId) (fr : Nat × Nat) : Own (fun (_ : β) W => W.heap[g]? = some (.cells cs t fr)) := by
  rintro s X Y row h hg hrow
  refine (hg.block g (blk_lt h) (fun e => ?_)).trans h
  obtain ⟨o, ho, hc⟩ := hrow g e.symm
  rw [h] at ho; cases ho; cases hc
/-- What stands between two rounds of rows' loop over the parts. -/
def RwI (w : World) (g B1 B2 : Nat) (cg c1 c2 : Array Value) (pre : List Part) (W : World) : Prop :=
  (∃ v, Boxed W w.heap.size 25 v ∧ W.ownsRow w.heap.size 33 3 v pre.length ((pre.map encD).flatten) ∧ True) ∧
  ((W.heap[g]? = some (.cells cg 39 (0, 0)) ∧ W.heap[B1]? = some (.cells c1 31 (0, 0)) ∧ W.heap[B2]? = some (.cells c2 3 (0, 0))) ∧ Below w.heap.size w W)
theorem rwI_own (w : World) (g B1 B2 : Nat) (cg c1 c2 : Array Value) (N : Nat) (hN : w.heap.size ≤ N) : OwnFrom N (RwI w g B1 B2 cg c1 c2) :=
  OwnFrom.and (Own.from (holdsRow_own w.heap.size w.heap.size 25 33 3 (fun pre : List Part => pre.length) (fun pre => (pre.map encD).flatten) (fun _ _ => True)) N)
    (OwnFrom.and (OwnFrom.and (Own.from (cells_own g cg _ _) N) (OwnFrom.and (Own.from (cells_own B1 c1 _ _) N) (Own.from (cells_own B2 c2 _ _) N))) (ownFrom_below (Nat.le_refl _) hN))
theorem cells_new (W : World) (cs : List Value) (t : TypeId) : ∀ j u, cs[j]? = some u → (W.alloc (.cells cs.toArray t)).cell? ((⟨W.heap.size, 0, none⟩ : Addr).add j) = some u := fun j u hu => by
  rw [Go.Proofs.YtdobjbdkfammbaaDoorW.PrintWords.add_plain, blk_cell (blk_new W _)]
  simpa using hu
theorem encD_one (x : Part) : ∀ u ∈ encD x, u.oneCell' = true := by
  intro u hu
  simp only [encD, encP, List.mem_cons, List.not_mem_nil, or_false] at hu
  rcases hu with rfl | rfl | rfl <;> rfl
theorem kept_far {W w1 : World} {tmp : Obj} {v v' : Value} {base e size n g Bx : Nat} {xs : List Value} {cs : Array Value} {t : TypeId} (h : W.heap[g]? = some (.cells cs t (0, 0))) (hrow : W.ownsRow base e size v n xs) (ht : e ≠ t) (hgrow : (W.alloc tmp).grownBy w1 v.ownBlock) (hne : g ≠ Bx) :
    (w1.setCell ⟨Bx, 0, none⟩ v').heap[g]? = some (.cells cs t (0, 0)) :=
  blk_far (blk_grown (blk_alloc h tmp) hgrow (own_ne hrow h ht)) (p := ⟨Bx, 0, none⟩) hne _
theorem C_part {W : World} {ad : Addr} {L : List Wr} (h : kWr.C W (some ad) L.length L) (j : Nat) (hj : 8 * j ≤ L.length) : kWr.C W (some (ad.add (8 * j * 35))) ((L.drop (8 * j)).take 8).length ((L.drop (8 * j)).take 8) := by
  have h1 := Kd.C_drop h hj (Nat.le_succ L.length)
  rw [if_neg (by omega)] at h1
  have h2 := Kd.C_take h1 (m := min 8 (L.drop (8 * j)).length) (Nat.min_le_right _ _)
  rw [← List.take_eq_take_min] at h2
  exact h2
theorem flat3_get (ps : List Part) : ∀ j (p : Part), ps[j]? = some p → (((ps.map encD).flatten).drop (j * 3)).take 3 = encD p := by
  induction ps with
  | nil => intro j p h; simp at h
  | cons q ps ih =>
    intro j p h
    rcases j with _ | j
    · simp only [List.getElem?_cons_zero, Option.some.injEq] at h
      subst h
      simp [encD]
    · simp only [List.getElem?_cons_succ] at h
      rw [← ih j p h, List.map_cons, List.flatten_cons]
      show List.take 3 (List.drop ((j + 1) * 3) ([_, _, _] ++ _)) = _
      rw [Nat.succ_mul, Nat.add_comm, ← List.drop_drop]
      rfl
theorem flat3_len (ps : List Part) : ((ps.map encD).flatten).length = ps.length * 3 := by
  induction ps with
  | nil => rfl
  | cons q ps ih => rw [List.map_cons, List.flatten_cons, List.length_append, ih, List.length_cons, Nat.succ_mul, Nat.add_comm]; rfl
theorem rows_own {W : World} {base g : Nat} {v : Value} {L : List Wr} {cells : Array Value} (hrow : W.ownsRow base 33 3 v (partsW ⟨g, 0, none⟩ L.length ((L.length + 7) / 8)).length (((partsW ⟨g, 0, none⟩ L.length ((L.length + 7) / 8)).map encD).flatten)) (hC : kWr.C W (some ⟨g, 0, none⟩) L.length L) (hg : W.heap[g]? = some (.cells cells 39 (0, 0))) (hb : base ≤ g) :
    kDd.R 33 W base (fun _ => True) v ((cut8 L).map (fun c => ⟨1, c, 0⟩)) := by
  have hlen : (partsW ⟨g, 0, none⟩ L.length ((L.length + 7) / 8)).length = ((cut8 L).map (fun c => (⟨1, c, 0⟩ : Dd))).length := by simp [partsW, cut8]
  refine ⟨fun _ _ => trivial, _, by rw [hlen] at hrow; exact hrow, ?_, fun j p hj => ?_⟩
  · rw [flat3_len, hlen]; rfl
  · have hjl : j < (L.length + 7) / 8 := by have := (List.getElem?_eq_some_iff.1 hj).1; simpa [cut8] using this
    have hp : p = ⟨1, (L.drop (8 * j)).take 8, 0⟩ := by
      have := hj
      rw [List.getElem?_map] at this
      simp [cut8, hjl] at this
      exact this.symm
    have hq : (partsW ⟨g, 0, none⟩ L.length ((L.length + 7) / 8))[j]? = some (partW ⟨g, 0, none⟩ L.length j) := by simp [partsW, hjl]
    have h3 := flat3_get _ j _ hq
    show kDd.M W base _ p ((((partsW ⟨g, 0, none⟩ L.length ((L.length + 7) / 8)).map encD).flatten.drop (j * 3)).take 3)
    rw [h3, hp]
    have hl : ((L.drop (8 * j)).take 8).length = min 8 (L.length - 8 * j) := by simp
    have hC2 := C_part hC j (by omega)
    have hv : v.ownBlock ≠ some g := fun e => own_ne hrow hg (by decide) e.symm
    refine kDd_mk W base _ ⟨1, (L.drop (8 * j)).take 8, 0⟩ (A := some ((⟨g, 0, none⟩ : Addr).add (8 * j * 35))) hl (Nat.le_refl _) (by show kWr.C W _ (min 8 (L.length - 8 * j)) _; rw [← hl]; exact hC2) (fun ad e hp => ?_)
    cases e
    rw [add_block]
    exact ⟨⟨trivial, fun e => hv e.symm⟩, hb, blk_lt hg, cells, hg⟩
set_option maxRecDepth 100000 in
set_option maxHeartbeats 3200000 in
theorem rows_any (A : Option Addr) (B : List (List UInt8)) (c : Nat) (vol : Int) (w : World) (h : kBlock.C w A B.length B) (h1 : 1 ≤ B.length) (hl : B.length ≤ 1000) :
    Calls Tryd.prog 36 #[.slice A B.length c, .int .i64 vol] w fun e w' => ∃ v, e = .returned v ∧ kDd.R 33 w' w.heap.size (fun _ => True) v (rowsD vol B) ∧ Below w.heap.size w w' := by
  have hmx := Kd.C_max h
  have H := Aside0.mk h
  clear h
  refine (callsIn_wide (n := 6)).1 ?_
  refine callsIn_of_wp_marks Tryd.func36 rfl trivial ?_ rfl
  simp only [Tryd.ntmps36, List.size_toArray, List.length_cons, List.length_nil, Nat.reduceAdd, Nat.reduceSub, Array.replicate_succ, Array.replicate_zero, List.push_toArray, List.append_toArray, List.nil_append, List.cons_append]
  refine wpIn_wide.2 ?_
  go_wp2_with fail
  obtain ⟨W0, hW0⟩ : ∃ W0, w.alloc (.cells #[.slice none 0 0] 25) = W0 := ⟨_, rfl⟩
  have hs0 : W0.heap.size = w.heap.size + 1 := by rw [← hW0]; simp
  have HBX : Aside0 (Boxed W0 w.heap.size 25 (.slice none 0 0)) := ⟨by rw [← hW0]; exact Boxed.new w _ _⟩
  have HB0 : Aside0 (Below w.heap.size w W0) := ⟨by rw [← hW0]; exact below_alloc (Below.refl _ _) _⟩
  have HS0 := Aside0.mk hs0
  rw [hW0]
  clear hW0 hs0
  go_loopg [12, 6, 7, 8] B.length (fun gk i v6 _ _ wr => ∃ k : Nat, k ≤ B.length ∧ Aside0 (gk = B.length - k) ∧ i = .int .i64 k ∧ Aside0 (kWr.R 39 wr W0.heap.size (fun _ => True) v6 ((wrs vol B).take k)) ∧ Aside0 (Below W0.heap.size W0 wr))
  case atStart => exact ⟨0, Nat.zero_le _, ⟨rfl⟩, rfl, ⟨Kd.R_nil _ _ _ _ _⟩, ⟨Below.refl _ _⟩⟩
  case round =>
    obtain ⟨k, hk, HGK, rfl, HR, HB⟩ := hrel
    by_cases hlt : k < B.length
    · obtain ⟨ad, rfl, hl32, hc⟩ := block_at H.out hlt
      have hkl : (k : Int) < (B.length : Int) := by omega
      obtain ⟨xs, hxs⟩ : ∃ xs, xs = gt B k := ⟨_, rfl⟩
      rw [← hxs] at hl32 hc
      have HC : Aside0 (∀ j u, (bytesV xs)[j]? = some u → wr.cell? ((ad.add (k * 32)).add j) = some u) := ⟨fun j u hu => cell_old HB.out (cell_old HB0.out (hc j u hu))⟩
      have HX : Aside0 ((wrs vol B).take (k + 1) = (wrs vol B).take k ++ [⟨vol, (k : Int), xs⟩]) := ⟨by rw [wrs_succ vol B k hlt, hxs]⟩
      have HLEN : Aside0 ((((wrs vol B).take k).length + 1) * 56 ≤ 140737488355328) := ⟨by have : ((wrs vol B).take k).length ≤ k := List.length_take_le _ _; omega⟩
      have HBT := Aside0.mk (built_wr vol (k : Int) xs hl32)
      clear hc hxs
      go_wp2_with (first | ((with_reducible refine gate_dst (N := 16) rfl ?_); refine load_block rfl _ rfl (ad.add (k * 32)) rfl xs hl32 HC.out ?_) | ((with_reducible refine gate_store (t := 37) (p := 8) rfl ?_); refine store_block_new rfl (.tmp 8) (.tmp 16) rfl _ rfl rfl xs hl32 rfl ?_; obtain ⟨W1, hW1⟩ : ∃ W1, wr.alloc (.cells (bytesV xs).toArray 37) = W1 := ⟨_, rfl⟩; have HX1 : Aside0 (W1.heap[wr.heap.size]? = some (.cells (bytesV xs).toArray 37 (0, 0))) := ⟨by rw [← hW1]; exact blk_new wr _⟩; have HB1 : Aside0 (Below W0.heap.size W0 W1) := ⟨by rw [← hW1]; exact below_alloc HB.out _⟩; have HR1 : Aside0 (kWr.R 39 W1 W0.heap.size (fun _ => True) u6 ((wrs vol B).take k)) := ⟨by rw [← hW1]; exact Kd.R_alloc HR.out _⟩; rw [hW1]; clear hW1) | ((with_reducible refine gate_dst (N := 21) rfl ?_); refine load_block rfl _ rfl ⟨wr.heap.size, 0, none⟩ rfl xs hl32 (block_cells HX1.out) ?_) | ((with_reducible refine gate_dst (N := 22) rfl ?_); refine build_on rfl 39 _ rfl (wrV ⟨vol, (k : Int), xs⟩).toArray (Eq.trans (by kernel_rfl) HBT.out) ?_) | ((with_reducible refine gate_dst (N := 23) rfl ?_); refine build_write rfl (.tmp 22) rfl ⟨vol, (k : Int), xs⟩ hl32 rfl ?_) | ((with_reducible refine gate_builtin (b := .append) (xs := #[.tmp 17, .tmp 23]) rfl ?_); at_builtin; refine Kd.R_append kWr (w0 := W0) W0.heap.size rfl (.tmp 17) (.tmp 23) 31 39 zW 56 rfl Tryd.underlying31 info_wrZ rfl (by decide) (by omega) _ ((wrs vol B).take k) ⟨vol, (k : Int), xs⟩ (wrV ⟨vol, (k : Int), xs⟩) (fun _ => True) (fun _ => False) rfl rfl (kWr_mk _ _ _ _ hl32) (fun _ hk => hk.elim) (fun _ _ => trivial) HR1.out HB1.out HB1.out.size HLEN.out ?_; intro v9 w9 ho9 hb9 hg9 hat9; rw [← HX.out] at ho9; have HR9 := Aside0.mk ho9; have HB9 := Aside0.mk hb9; clear ho9 hb9 hg9 hat9))
      go_roundg (B.length - (k + 1))
      case measure => have := HGK.out; omega
      case rel => exact ⟨k + 1, by omega, ⟨rfl⟩, by go_num, HR9, HB9⟩
    · have hkl : ¬ (k : Int) < (B.length : Int) := by omega
      obtain ⟨L, hL⟩ : ∃ L, L = wrs vol B := ⟨_, rfl⟩
      have hLl : L.length = B.length := by rw [hL, wrs_len]
      have hR : kWr.R 39 wr W0.heap.size (fun _ => True) u6 L := by
        have := HR.out
        rwa [show k = B.length by omega, ← hL, List.take_of_length_le (by omega)] at this
      obtain ⟨g, cap, rfl, hg1, hg2, cells, hcells⟩ := Kd.R_form hR (by omega)
      rw [hLl] at hR
      have hmc := (Kd.R_reads' hR).2.1
      have HR2 := Aside0.mk hR
      have HCL := Aside0.mk hcells
      have HL := Aside0.mk hL
      have HLL := Aside0.mk hLl
      rw [hLl]
      clear hcells hR hL hLl HR
      go_wp2_with (first | (go_at_call 61; refine (chunkW_any _ _ rfl).mono ?_; rintro e w5 ⟨rfl, hw5⟩))
      refine (wpIn_wide (n := 6)).1 ?_
      obtain ⟨i0, hi, hz0, hz1, hz2⟩ := info_parts info_dd
      obtain ⟨W4, hW4⟩ : ∃ W4, wr.alloc (.cells #[.slice (some ⟨g, 0, none⟩) B.length cap] 31) = W4 := ⟨_, rfl⟩
      have hs4 : W4.heap.size = wr.heap.size + 1 := by rw [← hW4]; simp
      rw [hW4] at hw5
      have hb5 : Below wr.heap.size wr w5 := by rw [← hw5, ← hW4]; exact below_alloc (below_alloc (Below.refl _ _) _) _
      have hk1 : w5.heap[wr.heap.size]? = some (.cells #[.slice (some ⟨g, 0, none⟩) B.length cap] 31 (0, 0)) := by rw [← hw5]; exact blk_alloc (by rw [← hW4]; exact blk_new wr _) _
      have hk2 : w5.heap[wr.heap.size + 1]? = some (.cells #[.int .i64 8] 3 (0, 0)) := by rw [← hw5, ← hs4]; exact blk_new W4 _
      have hkg : w5.heap[g]? = some (.cells cells 39 (0, 0)) := blk_below HCL.out hb5
      have hbx : Boxed w5 w.heap.size 25 (.slice none 0 0) := blk_below (blk_below HBX.out HB.out) hb5
      have hB5 : Below w.heap.size w w5 := below_step (below_step HB0.out HB.out) hb5
      have hsz5 : wr.heap.size + 2 = w5.heap.size := by rw [← hw5]; simp [hs4]
      have hle0 := HB.out.size
      have hle1 := HS0.out
      clear hW4 hs4 hw5
      refine wpIn_rangeFunc_ownF rfl (by omega) (gf := 79) (lb := #[.pointer (some ⟨wr.heap.size, 0, none⟩), .pointer (some ⟨wr.heap.size + 1, 0, none⟩)]) rfl trivial (enters_of Tryd.func79 (by kernel_rfl) rfl) (chunkW_stops Fence.wide (6 - 1) trivial rfl (by omega) wr.heap.size (wr.heap.size + 1) ⟨g, 0, none⟩ B.length cap hmc (by omega) w5 (by omega) (by omega) hk1 hk2) (fun h1 h2 => ⟨h2.1.trans h1.1, h2.2.trans h1.2⟩) (fun W l o o' hl _ _ _ => ⟨World.putObj_heap_other (by omega), World.putObj_heap_other (by omega)⟩) (Below.refl _ _) (fun _ => rfl)
        (RwI w g wr.heap.size (wr.heap.size + 1) cells #[.slice (some ⟨g, 0, none⟩) B.length cap] #[.int .i64 8]) (fun _ _ _ => False) (rwI_own _ _ _ _ _ _ _ _ hB5.size) (fun _ _ _ _ _ h => h.elim)
        ⟨⟨_, hbx, own_nil _ _ _ _, trivial⟩, ⟨hkg, hk1, hk2⟩, hB5⟩
        (fun x => { tmps := #[.slice A B.length c, .int .i64 vol, undef, undef, .slice none 0 0, .pointer (some ⟨w.heap.size, 0, none⟩), .slice (some ⟨g, 0, none⟩) B.length cap, u7, u8, encP x, .slice A B.length c, .int .i64 B.length, .int .i64 k, .bool false, u14, u15, u16, u17, u18, u19, u20, u21, u22, u23, u24, u25, .slice (some ⟨g, 0, none⟩) B.length cap, .func (.func 79) #[] #[.pointer (some ⟨wr.heap.size, 0, none⟩), .pointer (some ⟨wr.heap.size + 1, 0, none⟩)], encP x, undef, undef, undef, undef, undef, undef], defers := [] }) ?assign ?body ?done ?stop
      case assign =>
        intro l x W K hK
        gi_wp2
        exact hK
      case body =>
        rintro l pre x W ⟨⟨v, hv, hrow, _⟩, ⟨hg, hB1, hB2⟩, hB⟩ hlen
        have hvc := hv.cell
        have hvf := hv.frozen
        have hex : encP x = .slice x.1 x.2 x.2 := rfl
        gi_wp2_with (gi_at_builtin; refine wpListIn_append_own _ rfl (.tmp 29) (.tmp 32) 25 rfl w.heap.size 33 i0 _ 3 40 Tryd.underlying25 hi hz0 hz1 hz2 rfl (by decide) _ _ _ rfl (hrow.alloc _) ⟨W.heap.size, 0, none⟩ 1 1 (encD x) rfl rfl (cells_new W (encD x) _) (encD_one x) (by simp only [maxLen]; omega) (by omega) (by have := hB.size; simp; omega) ?_; intro v' w1 hown' hgrow _; obtain ⟨g', cap', rfl⟩ := ownsRow_succ hown'; obtain ⟨hv1, hv2, hr2, hkk, hb2⟩ := hv.appended (by decide) hrow hB.size (Nat.le_refl _) hown' hgrow; have hc1 := hv1.cell; have hf1 := hv1.frozen)
        have q1 := kept_far (v' := .slice (some ⟨g', 0, none⟩) (pre.length + 1) cap') (Bx := w.heap.size) hg hrow (by decide) hgrow (by omega)
        have q2 := kept_far (v' := .slice (some ⟨g', 0, none⟩) (pre.length + 1) cap') (Bx := w.heap.size) hB1 hrow (by decide) hgrow (by omega)
        have q3 := kept_far (v' := .slice (some ⟨g', 0, none⟩) (pre.length + 1) cap') (Bx := w.heap.size) hB2 hrow (by decide) hgrow (by omega)
        refine ⟨hkk, ⟨q2.trans hB1.symm, q3.trans hB2.symm⟩, ⟨_, hv2, ?_, trivial⟩, ⟨q1, q2, q3⟩, hB.trans hb2⟩
        rw [List.length_append, List.map_append, List.flatten_append]
        simpa using hr2
      case done =>
        rintro D ps W hD rfl ⟨⟨v, hv, hrow, _⟩, ⟨hg, hB1, hB2⟩, hB⟩ hK
        have hvc := hv.cell
        go_wp2_with fail
        refine ⟨by simp, .inl ⟨_, _, rfl, run_takeDeferred hK, ?_⟩⟩
        refine ⟨_, results_tmp rfl _ _ _, v, rfl, ?_, hB.grown (grownBy_putObj' _ _ _) hB.size (fun k e => by cases e; omega)⟩
        have hg' : (W.putObj D (.deferred none)).heap[g]? = some (.cells cells 39 (0, 0)) := by
          rw [World.putObj_heap_other (fun e => by rw [e, hK] at hg; cases hg)]
          exact hg
        have hC := (Kd.R_reads' HR2.out).2.2
        have hC2 : kWr.C (W.putObj D (.deferred none)) (some ⟨g, 0, none⟩) L.length L := C_flat kWr_flat hC (hg'.trans HCL.out.symm)
        have hrow2 := ownsRow_putObj hrow (.deferred none) hK rfl
        rw [← HLL.out] at hrow2
        unfold rowsD
        rw [← HL.out]
        exact rows_own hrow2 hC2 hg' (by omega)
      case stop =>
        rintro D c pre W _ _ h _
        exact h.elim
end Go.Proofs.YtdobjbdkfammbaaDoor
