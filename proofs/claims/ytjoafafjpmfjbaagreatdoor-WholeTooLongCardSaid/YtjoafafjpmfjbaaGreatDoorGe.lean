/-
  WholeTooLong: the minutes of a moment; till when it stays.
-/
import Derived.Test.YtjoafafjpmfjbaaGreatDoorGd
import Derived.Deep.WholeRow
import Derived.Deep.MidRow
/-
  WholeTooLong: the keepers: their kind; which keep.
-/
namespace Go.Proofs.YtjoafafjpmfjbaaGreatDoor
open Go.RowKit Go.Shelf Go.Proofs.YtjoafafjpmfjbaaGreatDoorW.PrintWords Go.Proofs.YtjoafafjpmfjbaaGreatDoorW.PrintLast Go.Proofs.YtjoafafjpmfjbaaGreatDoorW.PrintMore
set_option linter.unusedVariables false
set_option linter.unusedSimpArgs false

/-- A rule: its kind, its length, how long it keeps. -/
structure Ru where
  kind : Int
  len : Int
  fr : Int
  deriving Inhabited, DecidableEq
def kRu : Kd Ru := Kd.iso (Kd.pair (Kd.int .i64) (Kd.pair (Kd.int .i64) (Kd.int .i64))) (fun x : Ru => (x.kind, x.len, x.fr))
theorem kRu_open {w : World} {x : Ru} {cs : List Value} (h : kRu.K w x cs) : cs = [.int .i64 x.kind, .int .i64 x.len, .int .i64 x.fr] := by
  obtain ⟨_, _, rfl, rfl, ⟨_, _, rfl, rfl, rfl⟩⟩ := h
  rfl
theorem kRu_mk (w : World) (base : Nat) (ok : Nat → Prop) (x : Ru) : kRu.M w base ok x [.int .i64 x.kind, .int .i64 x.len, .int .i64 x.fr] := ⟨[.int .i64 x.kind], [.int .i64 x.len, .int .i64 x.fr], rfl, rfl, ⟨[.int .i64 x.len], [.int .i64 x.fr], rfl, rfl, rfl⟩⟩
theorem ru_at {w : World} {A : Option Addr} {n : Nat} {xs : List Ru} (h : kRu.C w A n xs) {k : Nat} (hk : k < n) : ∃ ad, A = some ad ∧ w.cell? (ad.add (k * 3)) = some (.int .i64 (gt xs k).kind) ∧ w.cell? ⟨(ad.add (k * 3)).block, (ad.add (k * 3)).off + 1, none⟩ = some (.int .i64 (gt xs k).len) ∧
    w.cell? ⟨(ad.add (k * 3)).block, (ad.add (k * 3)).off + 2, none⟩ = some (.int .i64 (gt xs k).fr) := by
  obtain ⟨ad, cs, e, hK, hc0⟩ := C_at h hk
  have hc : ∀ j u, cs[j]? = some u → w.cell? (ad.add (k * 3 + j)) = some u := hc0
  have hK' := kRu_open hK
  subst hK'
  exact ⟨ad, e, hc 0 _ rfl, by rw [← add_field _ _ 1 (by omega)]; exact hc 1 _ rfl, by rw [← add_field _ _ 2 (by omega)]; exact hc 2 _ rfl⟩
/-- The box that a rule lies in. -/
def ruBox (w : World) (B : Nat) (x : Ru) : Prop := w.heap[B]? = some (.cells #[.int .i64 x.kind, .int .i64 x.len, .int .i64 x.fr] 41 (0, 0))
/-- What a rule's keeper is, with the box B. -/
def keepV (x : Ru) (B : Nat) : List Value := [if x.kind = 1 then .func (.func 30) #[] #[] else if x.kind = 2 then .func (.func 31) #[] #[.pointer (some ⟨B, 0, none⟩)] else .func (.func 33) #[] #[.pointer (some ⟨B, 0, none⟩)], .int .i64 x.fr]
def kKeep : Kd Ru where
  sz := 2
  E := [41]
  K := fun w x cs => ∃ B, cs = keepV x B ∧ ruBox w B x
  M := fun w base ok x cs => ∃ B, cs = keepV x B ∧ ruBox w B x ∧ base ≤ B ∧ ok B
  K_len := by rintro w x cs ⟨B, rfl, h⟩; rfl
  K_one := by
    rintro w x cs ⟨B, rfl, h⟩ u hu
    simp only [keepV, List.mem_cons, List.not_mem_nil, or_false] at hu
    rcases hu with rfl | rfl
    · split
      · rfl
      · split <;> rfl
    · rfl
  K_below := by rintro w w1 x cs hb ⟨B, rfl, h⟩; exact ⟨B, rfl, blk_below h hb⟩
  K_of_M := by rintro w base ok x cs ⟨B, rfl, h, _⟩; exact ⟨B, rfl, h⟩
  M_mono := by rintro w base ok ok' x cs hm ⟨B, rfl, h, hb, ho⟩; exact ⟨B, rfl, h, hb, hm B ho⟩
  M_bound := by rintro w base ok x cs ⟨B, rfl, h, hb, ho⟩; exact ⟨B, rfl, h, hb, ho, hb, blk_lt h, _, by simp, _, h⟩
  M_move := by rintro w w1 base ok x cs hm ⟨B, rfl, h, hb, ho⟩; exact ⟨B, rfl, (hm B ho).trans h, hb, ho⟩
  M_lower := by rintro w base base' ok x cs hl ⟨B, rfl, h, hb, ho⟩; exact ⟨B, rfl, h, Nat.le_trans hl hb, ho⟩
/-- Does a rule keep the p-th moment? -/
def keepB (ms : List Int) (n p : Nat) (x : Ru) : Bool := if x.kind = 1 then true else if x.kind = 2 then clo ms n p x.len else qui ms n p x.len
theorem comp1_any (a b : Value) (w : World) : Calls Tryz.prog 30 #[a, b] w fun e w' => e = .returned (.bool true) ∧ w = w' := by
  go_enter Tryz.func30, Tryz.ntmps30
  go_wp2_with fail
  go_ret
  exact ⟨rfl, rfl⟩
theorem comp2_any (g : Nat) (ms : List Int) (A : Option Addr) (n c p : Nat) (hp : p < n) (x : Ru) (hW : 1 ≤ x.len) (hm : ∀ m ∈ ms, 0 ≤ m ∧ m ≤ 1073741824) (B : Nat) (w : World) (h : TabAt w g ms A n c) (hx : ruBox w B x) :
    Calls Tryz.prog 31 #[.pointer (some ⟨g, 0, none⟩), .int .u64 ((p : Int) + 1), .pointer (some ⟨B, 0, none⟩)] w fun e w' => e = .returned (.bool (clo ms n p x.len)) ∧ Below w.heap.size w w' := by
  have HC := Aside0.mk (closes_tab g ms A n c p hp x.len hW hm w h)
  have b1 := blk_cell hx 1
  simp only [List.getElem?_toArray, List.getElem?_cons_zero, List.getElem?_cons_succ] at b1
  clear h hx hm
  go_enter Tryz.func31, Tryz.ntmps31
  go_wp2_with (go_at_call 32; refine HC.out.mono ?_; rintro e w1 ⟨rfl, hb⟩; have HB := Aside0.mk hb; clear hb)
  go_ret
  exact ⟨rfl, HB.out⟩
theorem comp3_any (g : Nat) (ms : List Int) (A : Option Addr) (n c p : Nat) (hp : p < n) (x : Ru) (hW : 1 ≤ x.len) (hm : ∀ m ∈ ms, 0 ≤ m ∧ m ≤ 1073741824) (B : Nat) (w : World) (h : TabAt w g ms A n c) (hx : ruBox w B x) :
    Calls Tryz.prog 33 #[.pointer (some ⟨g, 0, none⟩), .int .u64 ((p : Int) + 1), .pointer (some ⟨B, 0, none⟩)] w fun e w' => e = .returned (.bool (qui ms n p x.len)) ∧ Below w.heap.size w w' := by
  have HC := Aside0.mk (quiet_tab g ms A n c p hp x.len (by omega) hm w h)
  have b1 := blk_cell hx 1
  simp only [List.getElem?_toArray, List.getElem?_cons_zero, List.getElem?_cons_succ] at b1
  clear h hx hm
  go_enter Tryz.func33, Tryz.ntmps33
  go_wp2_with (go_at_call 34; refine HC.out.mono ?_; rintro e w1 ⟨rfl, hb⟩; have HB := Aside0.mk hb; clear hb)
  go_ret
  exact ⟨rfl, HB.out⟩
end Go.Proofs.YtjoafafjpmfjbaaGreatDoor
namespace Go.Proofs.YtjoafafjpmfjbaaGreatDoor
open Go.RowKit Go.Shelf Go.Proofs.YtjoafafjpmfjbaaGreatDoorW.PrintWords Go.Proofs.YtjoafafjpmfjbaaGreatDoorW.PrintLast Go.Proofs.YtjoafafjpmfjbaaGreatDoorW.PrintMore
set_option linter.unusedVariables false
set_option linter.unusedSimpArgs false

/-- How long a rule keeps beside the least Never. -/
def spanOf (nv : Int) (ns : Bool) (x : Ru) : Int := if ns then min x.fr nv else x.fr
def minsOf (ms : List Int) (n p : Nat) (nv : Int) (ns : Bool) (ks : List Ru) : List Int := (ks.filter (keepB ms n p)).map (fun x => gt ms p + spanOf nv ns x)
/-- Till when it stays. -/
def tillOf (out : List Int) : Int := if out = [] then 0 else gt (isort out) (out.length - 1)
theorem minsOf_succ (ms : List Int) (n p : Nat) (nv : Int) (ns : Bool) (ks : List Ru) (k : Nat) (hk : k < ks.length) :
    minsOf ms n p nv ns (ks.take (k + 1)) = if keepB ms n p (gt ks k) = true then minsOf ms n p nv ns (ks.take k) ++ [gt ms p + spanOf nv ns (gt ks k)] else minsOf ms n p nv ns (ks.take k) := by
  unfold minsOf
  rw [List.take_add_one, gt_some _ _ hk, List.filter_append, List.map_append]
  cases h : keepB ms n p (gt ks k) <;> simp [h]
theorem minsOf_len (ms : List Int) (n p : Nat) (nv : Int) (ns : Bool) (ks : List Ru) : (minsOf ms n p nv ns ks).length ≤ ks.length := by
  unfold minsOf
  rw [List.length_map]
  exact List.length_filter_le _ _
theorem kInt_M (w : World) (base : Nat) (ok : Nat → Prop) (x : Int) : (Kd.int .i64).M w base ok x [.int .i64 x] := rfl
theorem gtX_mem {α : Type} [Inhabited α] {ms : List α} {k : Nat} (h : k < ms.length) : gt ms k ∈ ms := by rw [gt_eq _ _ h]; exact List.getElem_mem h
/-- What a rule is right. -/
structure RuOk (x : Ru) : Prop where
  k1 : 1 ≤ x.kind
  k4 : x.kind ≤ 4
  l1 : 2 ≤ x.kind → x.kind ≤ 3 → 1 ≤ x.len
  l2 : x.len ≤ 1073741824
  f1 : 1 ≤ x.fr
  f2 : x.fr ≤ 1073741824
theorem info_int : (Tryz.prog.info? 3).map (fun i => (i.zero, i.size, i.bytes)) = some (some (.int .i64 0), 1, 8) := by kernel_rfl
theorem info_keepS : (Tryz.prog.info? 92).map (·.size) = some 2 := by kernel_rfl
/-- A keeper is written into a new box. -/
theorem store_keep_new {ops : Array Oper} {rest : List Oper} {op : Oper} {a : Act} {W : World} {Q : Exit → Act → World → Prop} (hgd : op.guard = none) (x y : Operand) (ho : op.op = .store 92 x y)
    (c0 : Array Value) (hc0 : c0.size = 2) (hx : a.eval x = .pointer (some ⟨W.heap.size, 0, none⟩)) (fv : Value) (fr : Int) (h1 : fv.oneCell' = true) (hy : a.eval y = .agg #[fv, .int .i64 fr])
    (h : wpList Tryz.prog ops Q rest (a.put op.dst undef) (W.alloc (.cells #[fv, .int .i64 fr] 92))) : wpList Tryz.prog ops Q (op :: rest) a (W.alloc (.cells c0 92)) := by
  have hr := run_storeAt_new (P := Tryz.prog) W 92 c0 #[fv, .int .i64 fr] info_keepS hc0 (all_oneCell_toArray (cs := [fv, .int .i64 fr]) (by intro u hu; simp only [List.mem_cons, List.not_mem_nil, or_false] at hu; rcases hu with rfl | rfl; exact h1; rfl))
  refine wpList_plain hgd fun _ hK => ?_
  unfold Oper.wp execOp
  simp only [ho, hx, hy, Sem.run_bind, Sem.run_pure, hr, Result.andThen_ok]
  exact hK _ _ h
/-- A keeper that is called. -/
theorem keep_call (g : Nat) (ms : List Int) (TA : Option Addr) (n c p : Nat) (hp : p < n) (x : Ru) (hx : RuOk x) (h3 : x.kind ≤ 3) (hm : ∀ m ∈ ms, 0 ≤ m ∧ m ≤ 1073741824) (B : Nat) (w : World) (h : TabAt w g ms TA n c) (hb : ruBox w B x) :
    ∃ (fid : FuncId) (bnd : Array Value), keepV x B = [.func (.func fid) #[] bnd, .int .i64 x.fr] ∧ (∀ args w, (callFunc fid args).run Tryz.prog w = .ok (.enter fid args) w) ∧ ∀ W, Below w.heap.size w W →
      Calls Tryz.prog fid (#[.pointer (some ⟨g, 0, none⟩), .int .u64 ((p : Int) + 1)] ++ bnd) W fun e w' => e = .returned (.bool (keepB ms n p x)) ∧ Below W.heap.size W w' := by
  have hk := hx.k1
  unfold keepV keepB
  by_cases h1 : x.kind = 1
  · rw [if_pos h1, if_pos h1]
    refine ⟨_, _, rfl, enters_of Tryz.func30 (by kernel_rfl) rfl, fun W hW => (comp1_any _ _ W).mono ?_⟩
    rintro e w2 ⟨rfl, rfl⟩
    exact ⟨rfl, Below.refl _ _⟩
  · rw [if_neg h1, if_neg h1]
    by_cases h2 : x.kind = 2
    · rw [if_pos h2, if_pos h2]
      exact ⟨_, _, rfl, enters_of Tryz.func31 (by kernel_rfl) rfl, fun W hW => comp2_any g ms TA n c p hp x (hx.l1 (by omega) h3) hm B W (h.below hW) (blk_below hb hW)⟩
    · rw [if_neg h2, if_neg h2]
      exact ⟨_, _, rfl, enters_of Tryz.func33 (by kernel_rfl) rfl, fun W hW => comp3_any g ms TA n c p hp x (hx.l1 (by omega) h3) hm B W (h.below hW) (blk_below hb hW)⟩
theorem keep_at {w : World} {A : Option Addr} {n : Nat} {xs : List Ru} (h : kKeep.C w A n xs) {k : Nat} (hk : k < n) : ∃ ad B, A = some ad ∧ ruBox w B (gt xs k) ∧ ∀ j u, (keepV (gt xs k) B)[j]? = some u → w.cell? (ad.add (k * 2 + j)) = some u := by
  obtain ⟨ad, cs, e, ⟨B, rfl, hb⟩, hc⟩ := C_at h hk
  exact ⟨ad, B, e, hb, hc⟩
set_option maxRecDepth 20000 in
set_option maxHeartbeats 3200000 in
theorem minutes_any (A : Option Addr) (nk ck : Nat) (ks : List Ru) (hks : ks.length = nk) (nv : Int) (ns : Bool) (hnv : 0 ≤ nv ∧ nv ≤ 1073741824) (hok : ∀ x ∈ ks, RuOk x ∧ x.kind ≤ 3) (h6 : nk ≤ 12)
    (g : Nat) (ms : List Int) (TA : Option Addr) (n c p : Nat) (hp : p < n) (hm : ∀ m ∈ ms, 0 ≤ m ∧ m ≤ 1073741824) (w : World) (hK : kKeep.C w A nk ks) (hT : TabAt w g ms TA n c) :
    Calls Tryz.prog 61 #[.agg #[.slice A nk ck, .int .i64 nv, .bool ns], .pointer (some ⟨g, 0, none⟩), .int .u64 ((p : Int) + 1)] w fun e w' =>
      (minsOf ms n p nv ns ks = [] → e = .returned (.slice none 0 0)) ∧ (minsOf ms n p nv ns ks ≠ [] → ∃ q k cc : Nat, e = .returned (.slice (some ⟨q, 0, none⟩) k cc) ∧ 1 ≤ k ∧ k ≤ 12 ∧ w'.cell? ⟨q, k - 1, none⟩ = some (.int .i64 (tillOf (minsOf ms n p nv ns ks)))) ∧ Below w.heap.size w w' := by
  have HKS := Aside0.mk hks
  have HOK := Aside0.mk hok
  have HM := Aside0.mk hm
  have HK := Aside0.mk hK
  have HT := Aside0.mk hT
  have hnv0 := hnv.1
  have hnv1 := hnv.2
  have hx0 := hm _ (gt_mem (ms := ms) (k := p) (by have := hT.len; omega))
  have hx1 := hx0.1
  have hx2 := hx0.2
  have HMIN := Aside0.mk (fun (W : World) (hb : Below w.heap.size w W) => min_tab g ms TA n c p hp W (hT.below hb))
  obtain ⟨mi, hmi⟩ : ∃ mi, mi = gt ms p := ⟨_, rfl⟩
  rw [← hmi] at hx1 hx2 HMIN
  have HMI := Aside0.mk hmi
  obtain ⟨W0, hW0⟩ : ∃ W0, w.alloc (.cells #[.slice A nk ck, .int .i64 nv, .bool ns] 28) = W0 := ⟨_, rfl⟩
  have HB0 : Aside0 (Below w.heap.size w W0) := ⟨by rw [← hW0]; exact below_alloc (Below.refl _ _) _⟩
  have hbx : W0.heap[w.heap.size]? = some (.cells #[.slice A nk ck, .int .i64 nv, .bool ns] 28 (0, 0)) := by rw [← hW0]; exact blk_new w _
  have HBX := Aside0.mk hbx
  have HW0 := Aside0.mk hW0
  clear hks hok hm hK hT hnv hx0 hmi hbx hW0
  go_enter Tryz.func61, Tryz.ntmps61
  go_upto_region 1 with fail
  rw [HW0.out]
  go_upto_region 5 with (go_at_call 17; with_reducible refine (HMIN.out W0 HB0.out).mono ?_; rintro e w1 ⟨rfl, hb⟩; have HB01 := Aside0.mk hb; have HB1 := Aside0.mk (below_step HB0.out hb); have HBX1 := Aside0.mk (blk_below HBX.out hb); clear hb)
  have b0 := blk_cell HBX1.out 0
  simp only [List.getElem?_toArray, List.getElem?_cons_zero] at b0
  go_wp2_with fail
  clear b0
  go_loopg [24, 9] nk (fun gk i v wr => ∃ k : Nat, k ≤ nk ∧ Aside0 (gk = nk - k) ∧ i = .int .i64 k ∧ Aside0 ((Kd.int .i64).R 3 wr w1.heap.size (fun _ => True) v (minsOf ms n p nv ns (ks.take k))) ∧ Aside0 (minsOf ms n p nv ns (ks.take k) = [] → v = .slice none 0 0) ∧ Aside0 (Below w1.heap.size w1 wr))
  case atStart => exact ⟨0, Nat.zero_le _, ⟨rfl⟩, rfl, ⟨Kd.R_nil _ _ _ _ _⟩, ⟨fun _ => rfl⟩, ⟨Below.refl _ _⟩⟩
  case round =>
    obtain ⟨k, hk, HGK, rfl, HR, HNIL, HB⟩ := hrel
    by_cases hlt : k < nk
    · have j1 : (k : Int) < (nk : Int) := by omega
      obtain ⟨ad, B, rfl, hbox, hcell⟩ := keep_at HK.out hlt
      obtain ⟨hxo, hx3⟩ := HOK.out _ (gtX_mem (ms := ks) (k := k) (by rw [HKS.out]; exact hlt))
      obtain ⟨x, hx⟩ : ∃ x, x = gt ks k := ⟨_, rfl⟩
      rw [← hx] at hbox hcell hxo hx3
      have hsu := minsOf_succ ms n p nv ns ks k (by rw [HKS.out]; exact hlt)
      rw [← hx] at hsu
      obtain ⟨fid, bnd, hkv, heg, hcall⟩ := keep_call g ms TA n c p hp x hxo hx3 HM.out B w HT.out hbox
      rw [hkv] at hcell
      obtain ⟨fr, hfr⟩ : ∃ fr, fr = x.fr := ⟨_, rfl⟩
      have hf1 := hxo.f1
      have hf2 := hxo.f2
      rw [← hfr] at hcell hf1 hf2
      have HBW := Aside0.mk (below_step HB1.out HB.out)
      have q0 := cell_old HBW.out (hcell 0 _ rfl)
      have q1 := cell_old HBW.out (hcell 1 _ rfl)
      rw [Nat.add_zero] at q0
      rw [add_field _ _ 1 (by omega)] at q1
      have HCALL := Aside0.mk hcall
      obtain ⟨out, hout⟩ : ∃ out, out = minsOf ms n p nv ns (ks.take k) := ⟨_, rfl⟩
      have HOL : Aside0 (out.length ≤ 12) := ⟨by rw [hout]; exact Nat.le_trans (minsOf_len _ _ _ _ _ _) (Nat.le_trans (List.length_take_le _ _) (by omega))⟩
      rw [← hout] at HR HNIL hsu
      cases hkb : keepB ms n p x
      · rw [hkb, if_neg (by simp)] at hsu
        rw [hkb] at HCALL
        have HSU := Aside0.mk hsu
        clear hcell hkv hcall hbox hxo hx hsu hkb hfr hout
        go_wp2_with (first | ((with_reducible refine gate_store (t := 92) (p := 11) rfl ?_); refine store_keep_new rfl (.tmp 11) (.tmp 27) rfl _ rfl rfl (.func (.func fid) #[] bnd) fr rfl rfl ?_) | (with_reducible refine (HCALL.out _ (below_alloc HBW.out _)).mono ?_; rintro e w2 ⟨rfl, hb⟩; have bx := blk_below (blk_new wr (.cells #[.func (.func fid) #[] bnd, .int .i64 fr] 92)) hb; have c9 := blk_cell bx 1; simp only [List.getElem?_toArray, List.getElem?_cons_zero, List.getElem?_cons_succ] at c9; have bz := blk_below (blk_alloc (blk_below HBX1.out HB.out) (.cells #[.func (.func fid) #[] bnd, .int .i64 fr] 92)) hb; have d1 := blk_cell bz 1; have d2 := blk_cell bz 2; simp only [List.getElem?_toArray, List.getElem?_cons_zero, List.getElem?_cons_succ] at d1 d2; have HB2 := Aside0.mk (below_step (below_alloc HB.out (.cells #[.func (.func fid) #[] bnd, .int .i64 fr] 92)) hb); have HR2 := Aside0.mk (Kd.R_below (Kd.R_alloc HR.out (.cells #[.func (.func fid) #[] bnd, .int .i64 fr] 92)) hb); clear hb bx bz))
        go_roundg (nk - (k + 1))
        case measure => have := HGK.out; omega
        case rel => exact ⟨k + 1, by omega, ⟨rfl⟩, by go_num, ⟨by rw [HSU.out]; exact HR2.out⟩, ⟨fun h => HNIL.out (by rw [HSU.out] at h; exact h)⟩, HB2⟩
      · rw [hkb, if_pos rfl] at hsu
        rw [hkb] at HCALL
        have hsp : spanOf nv ns x = if ns then min fr nv else fr := by unfold spanOf; rw [hfr]
        rw [hsp, HMI.out.symm] at hsu
        cases ns
        · rw [if_neg (by simp)] at hsu
          have HSU := Aside0.mk hsu
          clear hcell hkv hcall hbox hxo hx hsu hkb hfr hout hsp
          go_wp2_with (first | ((with_reducible refine gate_store (t := 92) (p := 11) rfl ?_); refine store_keep_new rfl (.tmp 11) (.tmp 27) rfl _ rfl rfl (.func (.func fid) #[] bnd) fr rfl rfl ?_) | (with_reducible refine (HCALL.out _ (below_alloc HBW.out _)).mono ?_; rintro e w2 ⟨rfl, hb⟩; have bx := blk_below (blk_new wr (.cells #[.func (.func fid) #[] bnd, .int .i64 fr] 92)) hb; have c9 := blk_cell bx 1; simp only [List.getElem?_toArray, List.getElem?_cons_zero, List.getElem?_cons_succ] at c9; have bz := blk_below (blk_alloc (blk_below HBX1.out HB.out) (.cells #[.func (.func fid) #[] bnd, .int .i64 fr] 92)) hb; have d1 := blk_cell bz 1; have d2 := blk_cell bz 2; simp only [List.getElem?_toArray, List.getElem?_cons_zero, List.getElem?_cons_succ] at d1 d2; have HB2 := Aside0.mk (below_step (below_alloc HB.out (.cells #[.func (.func fid) #[] bnd, .int .i64 fr] 92)) hb); have HR2 := Aside0.mk (Kd.R_below (Kd.R_alloc HR.out (.cells #[.func (.func fid) #[] bnd, .int .i64 fr] 92)) hb); clear hb bx bz) | ((with_reducible refine gate_builtin (b := .append) (xs := #[.tmp 42, .tmp 46]) rfl ?_); at_builtin; refine Kd.R_append (Kd.int .i64) (w0 := w1) w1.heap.size rfl (.tmp 42) (.tmp 46) 33 3 (.int .i64 0) 8 rfl Tryz.underlying33 info_int rfl (Nat.succ_pos _) (by omega) u9 out (mi + fr) [.int .i64 (mi + fr)] (fun _ => True) (fun _ => False) rfl rfl (kInt_M _ _ _ _) (fun _ hk => hk.elim) (fun _ _ => trivial) HR2.out HB2.out HB2.out.size (by have := HOL.out; omega) ?_; intro v4 w4 ho hb hg hat; have HR4 := Aside0.mk ho; have HB4 := Aside0.mk hb; clear ho hb hg hat))
          go_roundg (nk - (k + 1))
          case measure => have := HGK.out; omega
          case rel => exact ⟨k + 1, by omega, ⟨rfl⟩, by go_num, ⟨by rw [HSU.out]; exact HR4.out⟩, ⟨fun h => by rw [HSU.out] at h; exact absurd h (by simp)⟩, HB4⟩
        · rw [if_pos rfl] at hsu
          obtain ⟨z, hz⟩ : ∃ z, min fr nv = z := ⟨_, rfl⟩
          have hz0 : 0 ≤ z := by omega
          have hz1 : z ≤ fr := by omega
          rw [hz] at hsu
          have HSU := Aside0.mk hsu
          clear hcell hkv hcall hbox hxo hx hsu hkb hfr hout hsp
          go_wp2_with (first | ((with_reducible refine gate_store (t := 92) (p := 11) rfl ?_); refine store_keep_new rfl (.tmp 11) (.tmp 27) rfl _ rfl rfl (.func (.func fid) #[] bnd) fr rfl rfl ?_) | (with_reducible refine (HCALL.out _ (below_alloc HBW.out _)).mono ?_; rintro e w2 ⟨rfl, hb⟩; have bx := blk_below (blk_new wr (.cells #[.func (.func fid) #[] bnd, .int .i64 fr] 92)) hb; have c9 := blk_cell bx 1; simp only [List.getElem?_toArray, List.getElem?_cons_zero, List.getElem?_cons_succ] at c9; have bz := blk_below (blk_alloc (blk_below HBX1.out HB.out) (.cells #[.func (.func fid) #[] bnd, .int .i64 fr] 92)) hb; have d1 := blk_cell bz 1; have d2 := blk_cell bz 2; simp only [List.getElem?_toArray, List.getElem?_cons_zero, List.getElem?_cons_succ] at d1 d2; have HB2 := Aside0.mk (below_step (below_alloc HB.out (.cells #[.func (.func fid) #[] bnd, .int .i64 fr] 92)) hb); have HR2 := Aside0.mk (Kd.R_below (Kd.R_alloc HR.out (.cells #[.func (.func fid) #[] bnd, .int .i64 fr] 92)) hb); clear hb bx bz) | ((with_reducible refine gate_builtin (b := .append) (xs := #[.tmp 42, .tmp 46]) rfl ?_); at_builtin; refine Kd.R_append (Kd.int .i64) (w0 := w1) w1.heap.size rfl (.tmp 42) (.tmp 46) 33 3 (.int .i64 0) 8 rfl Tryz.underlying33 info_int rfl (Nat.succ_pos _) (by omega) u9 out (mi + z) [.int .i64 (mi + z)] (fun _ => True) (fun _ => False) rfl rfl (kInt_M _ _ _ _) (fun _ hk => hk.elim) (fun _ _ => trivial) HR2.out HB2.out HB2.out.size (by have := HOL.out; omega) ?_; intro v4 w4 ho hb hg hat; have HR4 := Aside0.mk ho; have HB4 := Aside0.mk hb; clear ho hb hg hat))
          go_roundg (nk - (k + 1))
          case measure => have := HGK.out; omega
          case rel => exact ⟨k + 1, by omega, ⟨rfl⟩, by go_num, ⟨by rw [HSU.out]; exact HR4.out⟩, ⟨fun h => by rw [HSU.out] at h; exact absurd h (by simp)⟩, HB4⟩
    · have j1 : ¬ (k : Int) < (nk : Int) := by omega
      have hfull : ks.take k = ks := List.take_of_length_le (by rw [HKS.out]; omega)
      rw [hfull] at HR HNIL
      have hml := minsOf_len ms n p nv ns ks
      rw [HKS.out] at hml
      obtain ⟨out, hout⟩ : ∃ out, out = minsOf ms n p nv ns ks := ⟨_, rfl⟩
      rw [← hout] at HR HNIL hml
      have HOUT := Aside0.mk hout
      clear hfull hout
      have hle1 := HB1.out.size
      rcases out with _ | ⟨o, os⟩
      · have hv := HNIL.out rfl
        subst hv
        go_wp2_with (first | (go_at_call 69; refine (sort_nil _).mono ?_; rintro e w2 ⟨⟨v, rfl⟩, hb⟩; have HB2 := Aside0.mk (below_step HB.out hb); clear hb) | (go_at_call 70; refine (compact_nil _).mono ?_; rintro e w3 ⟨rfl, hb⟩; have HB3 := Aside0.mk (below_step HB2.out hb); clear hb))
        go_ret
        rw [← HOUT.out]
        exact ⟨fun _ => rfl, fun h => absurd rfl h, below_step HB1.out HB3.out⟩
      · obtain ⟨L, hL⟩ : ∃ L, L = o :: os := ⟨_, rfl⟩
        obtain ⟨N, hN⟩ : ∃ N, N = L.length := ⟨_, rfl⟩
        rw [← hL] at HR hml HOUT
        rw [← hN] at hml
        obtain ⟨q, cap, rfl, hq1⟩ : ∃ q cap, u9 = .slice (some ⟨q, 0, none⟩) N cap ∧ w1.heap.size ≤ q := by
          obtain ⟨q, cap, e, h1, _⟩ := Kd.R_form HR.out (by rw [hL]; simp)
          exact ⟨q, cap, by rw [e, hN], h1⟩
        have hN1 : 1 ≤ N := by rw [hN, hL]; simp
        have HN := Aside0.mk hN
        have HL := Aside0.mk hL
        clear hN hL HNIL
        go_wp2_with (first | (go_at_call 69; refine (sort_any w1 w1.heap.size (fun _ => True) q N cap L HN.out.symm (by omega) _ HR.out hq1 HB.out hN1).mono ?_; rintro e w2 ⟨⟨v, rfl⟩, hr, hb⟩; have HR2 := Aside0.mk hr; have HB2 := Aside0.mk hb; clear hr hb) | (go_at_call 70; refine (compact_any w1 w1.heap.size (fun _ => True) q N cap (isort L) (by rw [isort_len]; exact HN.out.symm) (by omega) _ HR2.out hq1 HB2.out hN1).mono ?_; rintro e w3 ⟨kk, cc, rfl, hk1, hkN, hcell, hb⟩; have HB3 := Aside0.mk hb; have HC3 := Aside0.mk hcell; clear hb hcell))
        go_ret
        rw [← HOUT.out]
        refine ⟨fun h => ?_, fun _ => ⟨q, kk, cc, rfl, hk1, by omega, ?_⟩, below_step HB1.out HB3.out⟩
        · rw [HL.out] at h; cases h
        · rw [HC3.out]; unfold tillOf; rw [if_neg (by rw [HL.out]; exact List.cons_ne_nil _ _), HN.out]
set_option maxHeartbeats 800000 in
theorem till_any (A : Option Addr) (nk ck : Nat) (ks : List Ru) (hks : ks.length = nk) (nv : Int) (ns : Bool) (hnv : 0 ≤ nv ∧ nv ≤ 1073741824) (hok : ∀ x ∈ ks, RuOk x ∧ x.kind ≤ 3) (h6 : nk ≤ 12)
    (g : Nat) (ms : List Int) (TA : Option Addr) (n c p : Nat) (hp : p < n) (hm : ∀ m ∈ ms, 0 ≤ m ∧ m ≤ 1073741824) (w : World) (hK : kKeep.C w A nk ks) (hT : TabAt w g ms TA n c) :
    Calls Tryz.prog 39 #[.agg #[.slice A nk ck, .int .i64 nv, .bool ns], .pointer (some ⟨g, 0, none⟩), .int .u64 ((p : Int) + 1)] w fun e w' => e = .returned (.int .i64 (tillOf (minsOf ms n p nv ns ks))) ∧ Below w.heap.size w w' := by
  have hb0 := below_alloc (Below.refl w.heap.size w) (.cells #[.slice A nk ck, .int .i64 nv, .bool ns] 28)
  have HC := Aside0.mk (minutes_any A nk ck ks hks nv ns hnv hok h6 g ms TA n c p hp hm (w.alloc (.cells #[.slice A nk ck, .int .i64 nv, .bool ns] 28)) (Kd.C_below hK hb0) (hT.below hb0))
  have HB0 := Aside0.mk hb0
  clear hks hnv hok hm hK hT hb0
  obtain ⟨out, hout⟩ : ∃ out, out = minsOf ms n p nv ns ks := ⟨_, rfl⟩
  rw [← hout] at HC ⊢
  clear hout
  rcases out with _ | ⟨o, os⟩
  · go_enter Tryz.func39, Tryz.ntmps39
    go_wp2_with (go_at_call 61; refine HC.out.mono ?_; rintro e w2 ⟨h1, _, hb⟩; obtain rfl := h1 rfl; clear h1; have HB2 := Aside0.mk (below_step HB0.out hb); clear hb)
    go_ret
    exact ⟨rfl, HB2.out⟩
  · obtain ⟨T, hT⟩ : ∃ T, T = tillOf (o :: os) := ⟨_, rfl⟩
    rw [← hT] at HC ⊢
    clear hT
    go_enter Tryz.func39, Tryz.ntmps39
    go_wp2_with (go_at_call 61; refine HC.out.mono ?_; rintro e w2 ⟨_, h1, hb⟩; obtain ⟨q, k, cc, rfl, hk1, hk2, hcell⟩ := h1 (List.cons_ne_nil _ _); clear h1; have HB2 := Aside0.mk (below_step HB0.out hb); clear hb; obtain ⟨r, hr⟩ : ∃ r, r = k - 1 := ⟨_, rfl⟩; rw [← hr] at hcell; have i0 : (k : Int) - 1 = (r : Int) := (by omega); have i1 : (r : Int) < (k : Int) := (by omega); have i2 : ¬ ((k : Int) = 0) := (by omega); have i3 : ((k : Int) == 0) = false := (by simp; omega); clear hr)
    go_ret
    exact ⟨rfl, HB2.out⟩
theorem stays_any (A : Option Addr) (nk ck : Nat) (ks : List Ru) (hks : ks.length = nk) (nv : Int) (ns : Bool) (hnv : 0 ≤ nv ∧ nv ≤ 1073741824) (hok : ∀ x ∈ ks, RuOk x ∧ x.kind ≤ 3) (h6 : nk ≤ 12)
    (g : Nat) (ms : List Int) (TA : Option Addr) (n c p : Nat) (hp : p < n) (hm : ∀ m ∈ ms, 0 ≤ m ∧ m ≤ 1073741824) (now : Int) (w : World) (hK : kKeep.C w A nk ks) (hT : TabAt w g ms TA n c) :
    Calls Tryz.prog 20 #[.agg #[.slice A nk ck, .int .i64 nv, .bool ns], .pointer (some ⟨g, 0, none⟩), .int .u64 ((p : Int) + 1), .int .i64 now] w fun e w' => e = .returned (.bool (decide (now < tillOf (minsOf ms n p nv ns ks)))) ∧ Below w.heap.size w w' := by
  have hb0 := below_alloc (Below.refl w.heap.size w) (.cells #[.slice A nk ck, .int .i64 nv, .bool ns] 28)
  have HMIN := Aside0.mk (min_tab g ms TA n c p hp (w.alloc (.cells #[.slice A nk ck, .int .i64 nv, .bool ns] 28)) (hT.below hb0))
  have HTL := Aside0.mk (fun (W : World) (hb : Below w.heap.size w W) => till_any A nk ck ks hks nv ns hnv hok h6 g ms TA n c p hp hm W (Kd.C_below hK hb) (hT.below hb))
  have HB0 := Aside0.mk hb0
  have HBX := Aside0.mk (blk_new w (.cells #[.slice A nk ck, .int .i64 nv, .bool ns] 28))
  clear hks hnv hok hm hK hT hb0
  obtain ⟨T, hT⟩ : ∃ T, T = tillOf (minsOf ms n p nv ns ks) := ⟨_, rfl⟩
  rw [← hT] at HTL ⊢
  clear hT
  go_enter Tryz.func20, Tryz.ntmps20
  go_wp2_with (first | (go_at_call 17; refine HMIN.out.mono ?_; rintro e w1 ⟨rfl, hb⟩; have HB1 := Aside0.mk (below_step HB0.out hb); have bx := blk_below HBX.out hb; have d0 := blk_cell bx 0; have d1 := blk_cell bx 1; have d2 := blk_cell bx 2; simp only [List.getElem?_toArray, List.getElem?_cons_zero, List.getElem?_cons_succ] at d0 d1 d2; clear hb bx) | (go_at_call 39; with_reducible refine (HTL.out _ HB1.out).mono ?_; rintro e w2 ⟨rfl, hb⟩; have HB2 := Aside0.mk (below_step HB1.out hb); clear hb))
  go_ret
  exact ⟨rfl, HB2.out⟩
end Go.Proofs.YtjoafafjpmfjbaaGreatDoor
