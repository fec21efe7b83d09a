/-
  WholeTooLong: is a rule right? does it keep?
-/
import Derived.Test.YtjoafafjpmfjbaaGreatDoorGg
import Derived.Maps.AppendAt
import Derived.Laws.EntriesVeiled
/-
  WholeTooLong: all moments that are promised.
-/
namespace Go.Proofs.YtjoafafjpmfjbaaGreatDoor
open Go.RowKit Go.Shelf Go.Proofs.YtjoafafjpmfjbaaGreatDoorW.PrintWords Go.Proofs.YtjoafafjpmfjbaaGreatDoorW.PrintLast Go.Proofs.YtjoafafjpmfjbaaGreatDoorW.PrintMore
set_option linter.unusedVariables false
set_option linter.unusedSimpArgs false
attribute [local go_sem] Oper.semAt_some

/-- The numbers of those that are promised. -/
def numsOf (b : Nat → Bool) (l : List Nat) : List Int := (l.filter b).map (fun p : Nat => (p : Int) + 1)
theorem numsOf_snoc (b : Nat → Bool) (l : List Nat) (x : Nat) : numsOf b (l ++ [x]) = if b x = true then numsOf b l ++ [(x : Int) + 1] else numsOf b l := by
  unfold numsOf
  rw [List.filter_append, List.map_append]
  cases h : b x <;> simp [h]
theorem numsOf_len (b : Nat → Bool) (l : List Nat) : (numsOf b l).length ≤ l.length := by
  unfold numsOf
  rw [List.length_map]
  exact List.length_filter_le _ _
theorem keepsO_below {W W' : World} (h : Below W.heap.size W W') : KeepsOthers W W' := ⟨h.size, fun k o hk _ => (h.block k (blk_lt hk)).trans hk⟩
theorem info_u64 : (Tryz.prog.info? 44).map (fun i => (i.zero, i.size, i.bytes)) = some (some (.int .u64 0), 1, 8) := by kernel_rfl
/-- What stands between two rounds. -/
def LaI (w : World) (cs : Array Value) (now : Int) (fv : Value) (b : Nat → Bool) {n : Nat} (pre : List (Fin n)) (W : World) : Prop :=
  (∃ v, Boxed W (w.heap.size + 1 + 1 + 1) 47 v ∧ W.ownsRow w.heap.size 44 1 v (numsOf b (pre.map Fin.val)).length ((numsOf b (pre.map Fin.val)).map (Value.int .u64)) ∧ True) ∧
  ((W.heap[w.heap.size]? = some (.cells cs 32 (0, 0)) ∧ Boxed W (w.heap.size + 1) 3 (.int .i64 now) ∧ Boxed W (w.heap.size + 1 + 1) 45 fv) ∧ Below w.heap.size w W)
theorem laI_own (w : World) (cs : Array Value) (now : Int) (fv : Value) (b : Nat → Bool) (n N : Nat) (hN : w.heap.size ≤ N) : OwnFrom N (LaI w cs now fv b (n := n)) :=
  OwnFrom.and (Own.from (holdsRow_own w.heap.size (w.heap.size + 1 + 1 + 1) 47 44 1 (fun pre : List (Fin n) => (numsOf b (pre.map Fin.val)).length) (fun pre => (numsOf b (pre.map Fin.val)).map (Value.int .u64)) (fun _ _ => True)) N)
    (OwnFrom.and (OwnFrom.and (Own.from (cellsF_own w.heap.size cs _ _) N) (OwnFrom.and (Own.from (boxed_own _ _ (fun _ => .int .i64 now)) N) (Own.from (boxed_own _ _ (fun _ => fv)) N))) (ownFrom_below (Nat.le_refl _) hN))
set_option maxRecDepth 100000 in
set_option maxHeartbeats 3200000 in
theorem all_any (g bk fo : Nat) (A : Option Addr) (nk ck : Nat) (ks : List Ru) (hks : ks.length = nk) (nv : Int) (ns : Bool) (hnv : 0 ≤ nv ∧ nv ≤ 1073741824) (hok : ∀ x ∈ ks, RuOk x ∧ x.kind ≤ 3) (h6 : nk ≤ 12)
    (ms : List Int) (TA : Option Addr) (n c : Nat) (hm : ∀ m ∈ ms, 0 ≤ m ∧ m ≤ 1073741824) (now : Int) (w : World) (h : LawAt w g bk fo A nk ks ms TA n c) :
    Calls Tryz.prog 10 #[lawV g bk fo A nk ck nv ns, .int .i64 now] w fun e w' => ∃ v, e = .returned v ∧ w'.ownsRow w.heap.size 44 1 v (numsOf (fun p => hasB ms n p nv ns ks now) (List.range n)).length ((numsOf (fun p => hasB ms n p nv ns ks now) (List.range n)).map (Value.int .u64)) ∧ Below w.heap.size w w' := by
  have HL := Aside0.mk h
  have HHAS := Aside0.mk (fun (W : World) (hb : Below w.heap.size w W) (p : Nat) (hp : p < n) => has_any g bk fo A nk ck ks hks nv ns hnv hok h6 ms TA n c p hp hm now W (h.below hb))
  have hn1000 := h.tab.few
  clear h hks hnv hok hm
  obtain ⟨b, hb⟩ : ∃ b : Nat → Bool, b = fun p => hasB ms n p nv ns ks now := ⟨_, rfl⟩
  have HBB := Aside0.mk (fun p : Nat => (congrFun hb p : b p = hasB ms n p nv ns ks now))
  rw [← hb]
  clear hb
  unfold lawV at *
  refine (callsIn_wide (n := 8)).1 ?_
  refine callsIn_of_wp_marks Tryz.func10 rfl trivial ?_ rfl
  simp only [Tryz.ntmps10, List.size_toArray, List.length_cons, List.length_nil, Nat.reduceAdd, Nat.reduceSub, Array.replicate_succ, Array.replicate_zero, List.push_toArray, List.append_toArray, List.nil_append, List.cons_append]
  refine wpIn_wide.2 ?_
  go_wp2_with ((go_at_call 24; refine (tabAll_any g _).mono ?_; rintro e w5 ⟨rfl, hw5⟩))
  refine (wpIn_wide (n := 8)).1 ?_
  have a1 := World.size_alloc w (.cells #[.pointer (some ⟨g, 0, none⟩), .slice A nk ck, .int .i64 nv, .bool ns, .pointer (some ⟨bk, 0, none⟩), .pointer (some ⟨fo, 0, none⟩)] 32)
  have a2 := World.size_alloc (w.alloc (.cells #[.pointer (some ⟨g, 0, none⟩), .slice A nk ck, .int .i64 nv, .bool ns, .pointer (some ⟨bk, 0, none⟩), .pointer (some ⟨fo, 0, none⟩)] 32)) (.cells #[.int .i64 now] 3)
  have a3 := World.size_alloc ((w.alloc (.cells #[.pointer (some ⟨g, 0, none⟩), .slice A nk ck, .int .i64 nv, .bool ns, .pointer (some ⟨bk, 0, none⟩), .pointer (some ⟨fo, 0, none⟩)] 32)).alloc (.cells #[.int .i64 now] 3)) (.cells #[(.func (.func 8) #[(.agg #[.pointer (some ⟨g, 0, none⟩), .slice A nk ck, .int .i64 nv, .bool ns, .pointer (some ⟨bk, 0, none⟩), .pointer (some ⟨fo, 0, none⟩)])] #[])] 45)
  have a4 := World.size_alloc (((w.alloc (.cells #[.pointer (some ⟨g, 0, none⟩), .slice A nk ck, .int .i64 nv, .bool ns, .pointer (some ⟨bk, 0, none⟩), .pointer (some ⟨fo, 0, none⟩)] 32)).alloc (.cells #[.int .i64 now] 3)).alloc (.cells #[(.func (.func 8) #[(.agg #[.pointer (some ⟨g, 0, none⟩), .slice A nk ck, .int .i64 nv, .bool ns, .pointer (some ⟨bk, 0, none⟩), .pointer (some ⟨fo, 0, none⟩)])] #[])] 45)) (.cells #[.slice none 0 0] 47)
  have a5 := World.size_alloc ((((w.alloc (.cells #[.pointer (some ⟨g, 0, none⟩), .slice A nk ck, .int .i64 nv, .bool ns, .pointer (some ⟨bk, 0, none⟩), .pointer (some ⟨fo, 0, none⟩)] 32)).alloc (.cells #[.int .i64 now] 3)).alloc (.cells #[(.func (.func 8) #[(.agg #[.pointer (some ⟨g, 0, none⟩), .slice A nk ck, .int .i64 nv, .bool ns, .pointer (some ⟨bk, 0, none⟩), .pointer (some ⟨fo, 0, none⟩)])] #[])] 45)).alloc (.cells #[.slice none 0 0] 47)) (.cells #[.pointer (some ⟨g, 0, none⟩)] 25)
  have b1 := blk_alloc (blk_alloc (blk_alloc (blk_alloc (blk_new w (.cells #[.pointer (some ⟨g, 0, none⟩), .slice A nk ck, .int .i64 nv, .bool ns, .pointer (some ⟨bk, 0, none⟩), .pointer (some ⟨fo, 0, none⟩)] 32)) (.cells #[.int .i64 now] 3)) (.cells #[(.func (.func 8) #[(.agg #[.pointer (some ⟨g, 0, none⟩), .slice A nk ck, .int .i64 nv, .bool ns, .pointer (some ⟨bk, 0, none⟩), .pointer (some ⟨fo, 0, none⟩)])] #[])] 45)) (.cells #[.slice none 0 0] 47)) (.cells #[.pointer (some ⟨g, 0, none⟩)] 25)
  have b2 := blk_alloc (blk_alloc (blk_alloc (blk_new (w.alloc (.cells #[.pointer (some ⟨g, 0, none⟩), .slice A nk ck, .int .i64 nv, .bool ns, .pointer (some ⟨bk, 0, none⟩), .pointer (some ⟨fo, 0, none⟩)] 32)) (.cells #[.int .i64 now] 3)) (.cells #[(.func (.func 8) #[(.agg #[.pointer (some ⟨g, 0, none⟩), .slice A nk ck, .int .i64 nv, .bool ns, .pointer (some ⟨bk, 0, none⟩), .pointer (some ⟨fo, 0, none⟩)])] #[])] 45)) (.cells #[.slice none 0 0] 47)) (.cells #[.pointer (some ⟨g, 0, none⟩)] 25)
  have b3 := blk_alloc (blk_alloc (blk_new ((w.alloc (.cells #[.pointer (some ⟨g, 0, none⟩), .slice A nk ck, .int .i64 nv, .bool ns, .pointer (some ⟨bk, 0, none⟩), .pointer (some ⟨fo, 0, none⟩)] 32)).alloc (.cells #[.int .i64 now] 3)) (.cells #[(.func (.func 8) #[(.agg #[.pointer (some ⟨g, 0, none⟩), .slice A nk ck, .int .i64 nv, .bool ns, .pointer (some ⟨bk, 0, none⟩), .pointer (some ⟨fo, 0, none⟩)])] #[])] 45)) (.cells #[.slice none 0 0] 47)) (.cells #[.pointer (some ⟨g, 0, none⟩)] 25)
  have b4 := blk_alloc (blk_new (((w.alloc (.cells #[.pointer (some ⟨g, 0, none⟩), .slice A nk ck, .int .i64 nv, .bool ns, .pointer (some ⟨bk, 0, none⟩), .pointer (some ⟨fo, 0, none⟩)] 32)).alloc (.cells #[.int .i64 now] 3)).alloc (.cells #[(.func (.func 8) #[(.agg #[.pointer (some ⟨g, 0, none⟩), .slice A nk ck, .int .i64 nv, .bool ns, .pointer (some ⟨bk, 0, none⟩), .pointer (some ⟨fo, 0, none⟩)])] #[])] 45)) (.cells #[.slice none 0 0] 47)) (.cells #[.pointer (some ⟨g, 0, none⟩)] 25)
  have b5 := blk_new ((((w.alloc (.cells #[.pointer (some ⟨g, 0, none⟩), .slice A nk ck, .int .i64 nv, .bool ns, .pointer (some ⟨bk, 0, none⟩), .pointer (some ⟨fo, 0, none⟩)] 32)).alloc (.cells #[.int .i64 now] 3)).alloc (.cells #[(.func (.func 8) #[(.agg #[.pointer (some ⟨g, 0, none⟩), .slice A nk ck, .int .i64 nv, .bool ns, .pointer (some ⟨bk, 0, none⟩), .pointer (some ⟨fo, 0, none⟩)])] #[])] 45)).alloc (.cells #[.slice none 0 0] 47)) (.cells #[.pointer (some ⟨g, 0, none⟩)] 25)
  have hB5 := below_alloc (below_alloc (below_alloc (below_alloc (below_alloc (Below.refl w.heap.size w) (.cells #[.pointer (some ⟨g, 0, none⟩), .slice A nk ck, .int .i64 nv, .bool ns, .pointer (some ⟨bk, 0, none⟩), .pointer (some ⟨fo, 0, none⟩)] 32)) (.cells #[.int .i64 now] 3)) (.cells #[(.func (.func 8) #[(.agg #[.pointer (some ⟨g, 0, none⟩), .slice A nk ck, .int .i64 nv, .bool ns, .pointer (some ⟨bk, 0, none⟩), .pointer (some ⟨fo, 0, none⟩)])] #[])] 45)) (.cells #[.slice none 0 0] 47)) (.cells #[.pointer (some ⟨g, 0, none⟩)] 25)
  rw [hw5] at b1 b2 b3 b4 b5 hB5 a5
  rw [a4, a3, a2, a1] at b5 a5
  rw [a3, a2, a1] at b4
  rw [a2, a1] at b3
  rw [a1] at b2
  obtain ⟨fv, hfv⟩ : ∃ fv : Value, fv = (.func (.func 8) #[(.agg #[.pointer (some ⟨g, 0, none⟩), .slice A nk ck, .int .i64 nv, .bool ns, .pointer (some ⟨bk, 0, none⟩), .pointer (some ⟨fo, 0, none⟩)])] #[]) := ⟨_, rfl⟩
  have HFV := Aside0.mk hfv
  have hl5 := HL.out.below hB5
  obtain ⟨i0, hi, hz0, hz1, hz2⟩ := info_parts info_u64
  clear hw5 a1 a2 a3 a4
  refine wpIn_rangeFunc_ownF rfl (by omega) (gf := 48) (lb := #[.pointer (some ⟨w.heap.size + 1 + 1 + 1 + 1, 0, none⟩)]) rfl trivial (enters_of Tryz.func48 (by kernel_rfl) rfl) (tabAll_stops g ms TA n c (8 - 1) (by omega) (w.heap.size + 1 + 1 + 1 + 1) w5 (by omega) b5 hl5.tab) (fun h1 h2 q cs hq => h2 q cs (h1 q cs hq)) (fun W l o o' hl ho hoc _ q cs hq => (World.putObj_heap_other (by intro e; subst e; rw [ho] at hq; cases hq; cases hoc)).trans hq) (Below.refl _ _) (fun _ => rfl)
    (LaI w #[.pointer (some ⟨g, 0, none⟩), .slice A nk ck, .int .i64 nv, .bool ns, .pointer (some ⟨bk, 0, none⟩), .pointer (some ⟨fo, 0, none⟩)] now (.func (.func 8) #[(.agg #[.pointer (some ⟨g, 0, none⟩), .slice A nk ck, .int .i64 nv, .bool ns, .pointer (some ⟨bk, 0, none⟩), .pointer (some ⟨fo, 0, none⟩)])] #[]) b) (fun _ _ _ => False) (laI_own _ _ _ _ _ _ _ hB5.size) (fun _ _ _ _ _ h => h.elim)
    ⟨⟨_, b4, World.ownsRow_nil _ _ _ _, trivial⟩, ⟨b1, b2, b3⟩, hB5⟩
    (fun x => { tmps := #[(.agg #[.pointer (some ⟨g, 0, none⟩), .slice A nk ck, .int .i64 nv, .bool ns, .pointer (some ⟨bk, 0, none⟩), .pointer (some ⟨fo, 0, none⟩)]), .int .i64 now, .pointer (some ⟨w.heap.size, 0, none⟩), .pointer (some ⟨w.heap.size + 1, 0, none⟩), .slice none 0 0, .pointer (some ⟨w.heap.size + 1 + 1, 0, none⟩), .pointer (some ⟨w.heap.size + 1 + 1 + 1, 0, none⟩), .int .u64 ((x.val : Int) + 1), (.agg #[.pointer (some ⟨g, 0, none⟩), .slice A nk ck, .int .i64 nv, .bool ns, .pointer (some ⟨bk, 0, none⟩), .pointer (some ⟨fo, 0, none⟩)]), (.func (.func 8) #[(.agg #[.pointer (some ⟨g, 0, none⟩), .slice A nk ck, .int .i64 nv, .bool ns, .pointer (some ⟨bk, 0, none⟩), .pointer (some ⟨fo, 0, none⟩)])] #[]), .pointer (some ⟨w.heap.size, 0, none⟩), .pointer (some ⟨g, 0, none⟩), .func (.func 48) #[] #[.pointer (some ⟨w.heap.size + 1 + 1 + 1 + 1, 0, none⟩)], .int .u64 ((x.val : Int) + 1), .int .i64 (gt ms x.val), undef, undef, undef, undef, undef, undef, undef, undef, undef], defers := [] }) ?assign ?body ?done ?stop
  case assign =>
    intro l x W K hK
    gi_wp2
    exact hK
  case body =>
    rintro l pre x W ⟨⟨v, hv, hrow, _⟩, ⟨h1, h2, h3⟩, hB⟩ hlen
    have c2 := h2.cell
    have c3 := h3.cell
    have hb := HBB.out x.val
    have hpl : pre.length < n := hlen
    have hsn : numsOf b ((pre ++ [x]).map Fin.val) = if b x.val = true then numsOf b (pre.map Fin.val) ++ [(x.val : Int) + 1] else numsOf b (pre.map Fin.val) := by rw [List.map_append]; exact numsOf_snoc _ _ _
    have hnl : (numsOf b (pre.map Fin.val)).length ≤ 1000 := by have := numsOf_len b (pre.map Fin.val); rw [List.length_map] at this; omega
    have HB := Aside0.mk hB
    have HHV := Aside0.mk hv
    have HRW := Aside0.mk hrow
    have H123 := Aside0.mk (And.intro h1 (And.intro h2 h3))
    have HNL := Aside0.mk hnl
    cases hbx : b x.val
    · rw [hbx] at hb hsn
      rw [if_neg (by simp)] at hsn
      have HSN := Aside0.mk hsn
      have HBX := Aside0.mk hb
      clear hb hsn hbx hpl hnl hB hv hrow h1 h2 h3 hlen
      gi_wp2
      refine ⟨trivial, ?_⟩
      refine (CallsIn.inRound l (callsIn_wide.2 (HHAS.out W HB.out x.val x.isLt))).mono ?_
      rw [← HBX.out]
      rintro e w2 ⟨rfl, hbb⟩
      have HBB2 := Aside0.mk hbb
      clear hbb
      gi_wp2
      exact ⟨keepsO_below HBB2.out, fun q cs hq => blk_below hq HBB2.out, ⟨v, blk_below HHV.out HBB2.out, by rw [HSN.out]; exact own_move HRW.out (fun k hk => HBB2.out.block k (HRW.out.lt k hk).2), trivial⟩, ⟨blk_below H123.out.1 HBB2.out, blk_below H123.out.2.1 HBB2.out, blk_below H123.out.2.2 HBB2.out⟩, below_step HB.out HBB2.out⟩
    · rw [hbx] at hb hsn
      rw [if_pos rfl] at hsn
      have HSN := Aside0.mk hsn
      have HBX := Aside0.mk hb
      clear hb hsn hbx hpl hnl hB hv hrow h1 h2 h3 hlen
      gi_wp2
      refine ⟨trivial, ?_⟩
      refine (CallsIn.inRound l (callsIn_wide.2 (HHAS.out W HB.out x.val x.isLt))).mono ?_
      rw [← HBX.out]
      rintro e w2 ⟨rfl, hbb⟩
      have HBB2 := Aside0.mk hbb
      have hv2 := blk_below HHV.out hbb
      have hvc := Boxed.cell hv2
      have hvf := Boxed.frozen hv2
      have HV2 := Aside0.mk hv2
      have HB2 := Aside0.mk (below_step HB.out hbb)
      have HR2 : Aside0 (w2.ownsRow w.heap.size 44 1 v (numsOf b (pre.map Fin.val)).length ((numsOf b (pre.map Fin.val)).map (Value.int .u64))) := ⟨own_move HRW.out (fun k hk => hbb.block k (HRW.out.lt k hk).2)⟩
      have HO2 := Aside0.mk (And.intro (blk_below H123.out.1 hbb) (And.intro (blk_below H123.out.2.1 hbb) (blk_below H123.out.2.2 hbb)))
      obtain ⟨L, hL⟩ : ∃ L, L = numsOf b (pre.map Fin.val) := ⟨_, rfl⟩
      rw [← hL] at HSN HR2 HNL
      clear hbb hv2 hL
      gi_wp2_with (gi_at_builtin; refine wpListIn_append_own _ rfl (.tmp 19) (.tmp 21) 47 rfl w.heap.size 44 i0 _ 1 8 Tryz.underlying47 hi hz0 hz1 hz2 rfl (by decide) _ _ _ rfl (HR2.out.alloc _) ⟨w2.heap.size, 0, none⟩ 1 1 [Value.int .u64 ((x.val : Int) + 1)] rfl rfl (cell_one_new _ _ _) (by simp [Value.oneCell']) (by have := HNL.out; simp only [maxLen]; omega) (by have := HNL.out; omega) (by have := HB2.out.size; simp; omega) ?_; intro v' w3 hown' hgrow _; obtain ⟨g', cap', rfl⟩ := ownsRow_succ hown'; obtain ⟨hv1, hv3, hr3, hkk, hb3⟩ := Boxed.appended HV2.out (by decide) HR2.out HB2.out.size (by omega) hown' hgrow; have hc1 := hv1.cell; have hf1 := hv1.frozen; have H3 := Aside0.mk (And.intro hv3 (And.intro hr3 (And.intro hkk hb3))); have HG3 := Aside0.mk hgrow; clear hv1 hv3 hr3 hkk hb3 hgrow hown')
      have kf : ∀ {q : Nat} {cs : Array Value} {t : TypeId}, w2.heap[q]? = some (.cells cs t (0, 0)) → 44 ≠ t → q ≠ w.heap.size + 1 + 1 + 1 → (w3.setCell ⟨w.heap.size + 1 + 1 + 1, 0, none⟩ (.slice (some ⟨g', 0, none⟩) (L.length + 1) cap')).heap[q]? = some (.cells cs t (0, 0)) :=
        fun hq ht hne => blk_far (blk_grown (blk_alloc hq _) HG3.out (own_ne HR2.out hq ht)) (p := ⟨w.heap.size + 1 + 1 + 1, 0, none⟩) hne _
      refine ⟨(keepsO_below HBB2.out).trans H3.out.2.2.1, fun q cs hq => kf (blk_below hq HBB2.out) (by decide) (blk_ne (blk_below hq HBB2.out) HV2.out (by decide)), ⟨_, H3.out.1, ?_, trivial⟩, ⟨kf HO2.out.1 (by decide) (by omega), kf HO2.out.2.1 (by decide) (by omega), kf HO2.out.2.2 (by decide) (by omega)⟩, HB2.out.trans H3.out.2.2.2⟩
      have h4 := H3.out.2.1
      rw [HSN.out, List.length_append, List.map_append]
      exact h4
  case done =>
    rintro D ps W hD hps ⟨⟨v, hv, hrow, _⟩, ⟨h1, h2, h3⟩, hB⟩ hK
    have hvc := hv.cell
    rw [hps] at hrow
    clear h1 h2 h3
    go_wp2_with fail
    refine ⟨by simp, .inl ⟨_, _, rfl, run_takeDeferred hK, ?_⟩⟩
    exact ⟨_, results_tmp rfl _ _ _, v, rfl, ownsRow_putObj hrow (.deferred none) hK rfl, hB.grown (grownBy_putObj' _ _ _) hB.size (fun k e => by cases e; omega)⟩
  case stop =>
    rintro D c pre W _ _ h _
    exact h.elim
end Go.Proofs.YtjoafafjpmfjbaaGreatDoor
/-
  WholeTooLong: two rows of numbers that are the same.
-/
namespace Go.Proofs.YtjoafafjpmfjbaaGreatDoor
open Go.RowKit Go.Shelf Go.Proofs.YtjoafafjpmfjbaaGreatDoorW.PrintWords Go.Proofs.YtjoafafjpmfjbaaGreatDoorW.PrintLast Go.Proofs.YtjoafafjpmfjbaaGreatDoorW.PrintMore
set_option linter.unusedVariables false
set_option linter.unusedSimpArgs false

theorem u64_at {w : World} {A : Option Addr} {n : Nat} {xs : List Int} (h : (Kd.int .u64).C w A n xs) {k : Nat} (hk : k < n) : ∃ ad, A = some ad ∧ w.cell? (ad.add k) = some (.int .u64 (gt xs k)) := by
  obtain ⟨ad, cs, e, hK, hc⟩ := C_at h hk
  have hK' : cs = [.int .u64 (gt xs k)] := hK
  subst hK'
  refine ⟨ad, e, ?_⟩
  have := hc 0 _ rfl
  simpa [Kd.int, Kd.scalar] using this
set_option maxHeartbeats 800000 in
theorem nums_same (A1 A2 : Option Addr) (n c1 c2 : Nat) (xs : List Int) (w : World) (h1 : (Kd.int .u64).C w A1 n xs) (h2 : (Kd.int .u64).C w A2 n xs) (hn : n ≤ 1000000) :
    Calls Tryz.prog 9 #[.slice A1 n c1, .slice A2 n c2] w fun e w' => e = .returned (.bool true) ∧ Below w.heap.size w w' := by
  have H1 := Aside0.mk h1
  have H2 := Aside0.mk h2
  clear h1 h2
  go_enter Tryz.func9, Tryz.ntmps9
  go_wp2_with fail
  go_loopg [5] n (fun gk i wr => ∃ k : Nat, k ≤ n ∧ Aside0 (gk = n - k) ∧ i = .int .i64 k ∧ Aside0 (Below w.heap.size w wr))
  case atStart => exact ⟨0, Nat.zero_le _, ⟨rfl⟩, rfl, ⟨Below.refl _ _⟩⟩
  case round =>
    obtain ⟨k, hk, HGK, rfl, HB⟩ := hrel
    by_cases hlt : k < n
    · have i1 : (k : Int) < (n : Int) := by omega
      obtain ⟨a1, rfl, q1⟩ := u64_at (Kd.C_below H1.out HB.out) hlt
      obtain ⟨a2, rfl, q2⟩ := u64_at (Kd.C_below H2.out HB.out) hlt
      generalize gt xs k = x at q1 q2
      go_wp2_with fail
      go_quiet (fail)
      go_wp2_with fail
      go_roundg (n - (k + 1))
      case measure => have := HGK.out; omega
      case rel => exact ⟨k + 1, by omega, ⟨rfl⟩, by go_num, ⟨pw_below_drewN HB.out _⟩⟩
    · have i1 : ¬ (k : Int) < (n : Int) := by omega
      go_wp2_with fail
      go_ret
      exact ⟨rfl, HB.out⟩
end Go.Proofs.YtjoafafjpmfjbaaGreatDoor
namespace Go.Proofs.YtjoafafjpmfjbaaGreatDoor
open Go.RowKit Go.Shelf Go.Proofs.YtjoafafjpmfjbaaGreatDoorW.PrintWords Go.Proofs.YtjoafafjpmfjbaaGreatDoorW.PrintLast Go.Proofs.YtjoafafjpmfjbaaGreatDoorW.PrintMore
set_option linter.unusedVariables false
set_option linter.unusedSimpArgs false

def spanB (n : Int) : Bool := decide (1 ≤ n) && decide (n ≤ 1073741824)
def rightB (x : Ru) : Bool := if x.kind = 1 ∨ x.kind = 4 then (if x.len = 0 then spanB x.fr else false) else if x.kind = 2 ∨ x.kind = 3 then (if spanB x.len = true then spanB x.fr else false) else false
/-- Does it keep anything? -/
def keepsB (x : Ru) : Bool := if x.kind = 1 then true else if x.kind = 2 then decide (1 ≤ x.len) else if x.kind = 3 then decide (0 ≤ x.len) else false
theorem span_any (n : Int) (w : World) : Calls Tryz.prog 57 #[.int .i64 n] w fun e w' => e = .returned (.bool (spanB n)) ∧ w = w' := by
  unfold spanB
  by_cases h1 : 1 ≤ n
  · rw [decide_eq_true h1, Bool.true_and]
    have i1 : n ≥ 1 := h1
    go_enter Tryz.func57, Tryz.ntmps57
    go_wp2_with fail
    go_ret
    exact ⟨rfl, rfl⟩
  · rw [decide_eq_false h1, Bool.false_and]
    have i1 : ¬ (n ≥ 1) := h1
    go_enter Tryz.func57, Tryz.ntmps57
    go_wp2_with fail
    go_ret
    exact ⟨rfl, rfl⟩
theorem keeps_any (x : Ru) (w : World) : Calls Tryz.prog 35 #[.agg #[.int .i64 x.kind, .int .i64 x.len, .int .i64 x.fr]] w fun e w' => e = .returned (.bool (keepsB x)) ∧ Below w.heap.size w w' := by
  have HB := Aside0.mk (below_alloc (Below.refl w.heap.size w) (.cells #[.int .i64 x.kind, .int .i64 x.len, .int .i64 x.fr] 41))
  obtain ⟨k, l, f⟩ := x
  unfold keepsB
  dsimp only
  dsimp only at HB
  by_cases h1 : k = 1
  · subst h1
    rw [if_pos rfl]
    go_enter Tryz.func35, Tryz.ntmps35
    go_wp2_with fail
    go_ret
    exact ⟨rfl, HB.out⟩
  · rw [if_neg h1]
    by_cases h2 : k = 2
    · subst h2
      rw [if_pos rfl]
      go_enter Tryz.func35, Tryz.ntmps35
      go_wp2_with fail
      go_ret
      exact ⟨rfl, HB.out⟩
    · rw [if_neg h2]
      by_cases h3 : k = 3
      · subst h3
        rw [if_pos rfl]
        go_enter Tryz.func35, Tryz.ntmps35
        go_wp2_with fail
        go_ret
        exact ⟨rfl, HB.out⟩
      · rw [if_neg h3]
        go_enter Tryz.func35, Tryz.ntmps35
        go_wp2_with fail
        go_ret
        exact ⟨congrArg (fun b => Ending.returned (.bool b)) (by simp [h3]), HB.out⟩
set_option maxHeartbeats 800000 in
theorem right_any (x : Ru) (w : World) : Calls Tryz.prog 29 #[.agg #[.int .i64 x.kind, .int .i64 x.len, .int .i64 x.fr]] w fun e w' => e = .returned (.bool (rightB x)) ∧ Below w.heap.size w w' := by
  have HB := Aside0.mk (below_alloc (Below.refl w.heap.size w) (.cells #[.int .i64 x.kind, .int .i64 x.len, .int .i64 x.fr] 41))
  obtain ⟨k, l, f⟩ := x
  have HSL := Aside0.mk (fun W => span_any l W)
  have HSF := Aside0.mk (fun W => span_any f W)
  unfold rightB
  dsimp only
  dsimp only at HB
  obtain ⟨sl, hsl⟩ : ∃ sl, sl = spanB l := ⟨_, rfl⟩
  obtain ⟨sf, hsf⟩ : ∃ sf, sf = spanB f := ⟨_, rfl⟩
  rw [← hsl, ← hsf]
  rw [← hsl] at HSL
  rw [← hsf] at HSF
  clear hsl hsf
  by_cases h14 : k = 1 ∨ k = 4
  · rw [if_pos h14]
    by_cases hl : l = 0
    · subst hl
      rw [if_pos rfl]
      rcases h14 with rfl | rfl
      · go_enter Tryz.func29, Tryz.ntmps29
        go_wp2_with (first | (go_at_call 57; with_reducible refine (HSL.out _).mono ?_; rintro e w1 ⟨rfl, rfl⟩) | (go_at_call 57; with_reducible refine (HSF.out _).mono ?_; rintro e w2 ⟨rfl, rfl⟩))
        go_ret
        exact ⟨rfl, HB.out⟩
      · go_enter Tryz.func29, Tryz.ntmps29
        go_wp2_with (first | (go_at_call 57; with_reducible refine (HSL.out _).mono ?_; rintro e w1 ⟨rfl, rfl⟩) | (go_at_call 57; with_reducible refine (HSF.out _).mono ?_; rintro e w2 ⟨rfl, rfl⟩))
        go_ret
        exact ⟨rfl, HB.out⟩
    · rw [if_neg hl]
      rcases h14 with rfl | rfl
      · go_enter Tryz.func29, Tryz.ntmps29
        go_wp2_with (first | (go_at_call 57; with_reducible refine (HSL.out _).mono ?_; rintro e w1 ⟨rfl, rfl⟩) | (go_at_call 57; with_reducible refine (HSF.out _).mono ?_; rintro e w2 ⟨rfl, rfl⟩))
        go_ret
        exact ⟨rfl, HB.out⟩
      · go_enter Tryz.func29, Tryz.ntmps29
        go_wp2_with (first | (go_at_call 57; with_reducible refine (HSL.out _).mono ?_; rintro e w1 ⟨rfl, rfl⟩) | (go_at_call 57; with_reducible refine (HSF.out _).mono ?_; rintro e w2 ⟨rfl, rfl⟩))
        go_ret
        exact ⟨rfl, HB.out⟩
  · rw [if_neg h14]
    by_cases h23 : k = 2 ∨ k = 3
    · rw [if_pos h23]
      cases sl
      · rw [if_neg (by simp)]
        rcases h23 with rfl | rfl
        · go_enter Tryz.func29, Tryz.ntmps29
          go_wp2_with (first | (go_at_call 57; with_reducible refine (HSL.out _).mono ?_; rintro e w1 ⟨rfl, rfl⟩) | (go_at_call 57; with_reducible refine (HSF.out _).mono ?_; rintro e w2 ⟨rfl, rfl⟩))
          go_ret
          exact ⟨rfl, HB.out⟩
        · go_enter Tryz.func29, Tryz.ntmps29
          go_wp2_with (first | (go_at_call 57; with_reducible refine (HSL.out _).mono ?_; rintro e w1 ⟨rfl, rfl⟩) | (go_at_call 57; with_reducible refine (HSF.out _).mono ?_; rintro e w2 ⟨rfl, rfl⟩))
          go_ret
          exact ⟨rfl, HB.out⟩
      · rw [if_pos rfl]
        rcases h23 with rfl | rfl
        · go_enter Tryz.func29, Tryz.ntmps29
          go_wp2_with (first | (go_at_call 57; with_reducible refine (HSL.out _).mono ?_; rintro e w1 ⟨rfl, rfl⟩) | (go_at_call 57; with_reducible refine (HSF.out _).mono ?_; rintro e w2 ⟨rfl, rfl⟩))
          go_ret
          exact ⟨rfl, HB.out⟩
        · go_enter Tryz.func29, Tryz.ntmps29
          go_wp2_with (first | (go_at_call 57; with_reducible refine (HSL.out _).mono ?_; rintro e w1 ⟨rfl, rfl⟩) | (go_at_call 57; with_reducible refine (HSF.out _).mono ?_; rintro e w2 ⟨rfl, rfl⟩))
          go_ret
          exact ⟨rfl, HB.out⟩
    · rw [if_neg h23]
      have g1 : ¬ k = 1 := fun h => h14 (.inl h)
      have g4 : ¬ k = 4 := fun h => h14 (.inr h)
      have g2 : ¬ k = 2 := fun h => h23 (.inl h)
      have g3 : ¬ k = 3 := fun h => h23 (.inr h)
      clear h14 h23
      go_enter Tryz.func29, Tryz.ntmps29
      go_wp2_with (first | (go_at_call 57; with_reducible refine (HSL.out _).mono ?_; rintro e w1 ⟨rfl, rfl⟩) | (go_at_call 57; with_reducible refine (HSF.out _).mono ?_; rintro e w2 ⟨rfl, rfl⟩))
      go_ret
      exact ⟨rfl, HB.out⟩
end Go.Proofs.YtjoafafjpmfjbaaGreatDoor
