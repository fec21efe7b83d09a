/-
  Chapter 55: what a volume shows behind some deeds. Plain.
-/
import Derived.Test.YtdobjbdkfammbaaDoorGg
import Derived.Test.YtdobjbdkfammbaaDoorGn
import Derived.Maps.OwnSet
import Derived.Maps.Views
import Derived.Test.YtdobjbdkfammbaaDoorGp
import Derived.Test.YtdobjbdkfammbaaDoorGl
/-
  Chapter 55: the law's disk: a map from places to blocks.
-/
namespace Go.Proofs.YtdobjbdkfammbaaDoor
open Go.RowKit Go.Shelf Go.Proofs.YtdobjbdkfammbaaDoorW.PrintWords Go.Proofs.YtdobjbdkfammbaaDoorW.PrintLast Go.Proofs.YtdobjbdkfammbaaDoorW.PrintMore
set_option linter.unusedVariables false
set_option linter.unusedSimpArgs false

theorem key_num (n : Nat) (hn : n ≤ 1000) : keyOf Tryd.prog 3 (.int .i64 (n : Int)) = some (.int .i64 (n : Int)) := Maps.keyOf_int_mk Tryd.underlying3 (by
  simp [Lit.wf, IntKind.min, IntKind.max, IntKind.bits, IntKind.signed]
  try omega)
theorem zero_blk55 (w : World) : (zeroValue 37).run Tryd.prog w = .ok (.agg (bytesV zeroB).toArray) w := by kernel_rfl
/-- An element reads as itself. -/
def valR (v : Value) : Option (DataW Value × List MemPlace) := some (.held v, [])
/-- A disk: of each place its block, if there is one. -/
abbrev Dsk := Nat → Option (List UInt8)
def DskD (D : DataW Value) (f : Dsk) : Prop := ∀ i : Nat, i ≤ 1000 → (∀ b, f i = some b → b.length = 32 ∧ ∀ z, D.atKey (.int .i64 (i : Int)) z = .held (.agg (bytesV b).toArray)) ∧ (f i = none → ∀ z, D.atKey (.int .i64 (i : Int)) z = z)
def DskAt (w : World) (mb n : Nat) (f : Dsk) : Prop := ∃ D : DataW Value, w.ownsMap Tryd.prog 3 valR mb n D ∧ DskD D f
theorem DskAt.made (w : World) : DskAt (w.alloc (.map #[] 0)) w.heap.size 0 (fun _ => none) :=
  ⟨.map [], World.ownsMap_made w _ _ _, fun i _ => ⟨fun b h => (by cases h), fun _ z => Maps.atKey_of_not_has (by simp [Maps.has]) z⟩⟩
theorem DskAt.lt {w : World} {mb n : Nat} {f : Dsk} (h : DskAt w mb n f) : mb < w.heap.size := by
  obtain ⟨D, ho, _⟩ := h
  exact ho.lt
theorem DskAt.below {w w1 : World} {mb n N : Nat} {f : Dsk} (h : DskAt w mb n f) (hbn : mb < N) (hb : Below N w w1) : DskAt w1 mb n f := by
  obtain ⟨D, ho, hD⟩ := h
  obtain ⟨es, clock, hbk, F, hs, hDe⟩ := ho
  exact ⟨D, ⟨es, clock, (hb.block mb hbn).trans hbk, F, hs, hDe⟩, hD⟩
theorem DskAt.mono {w : World} {mb n n' : Nat} {f : Dsk} (h : DskAt w mb n f) (hn : n ≤ n') : DskAt w mb n' f := by
  obtain ⟨D, ho, hD⟩ := h
  exact ⟨D, ho.mono hn, hD⟩
/-- What the disk tells of a place. -/
def tellF (f : Dsk) (i : Nat) : List UInt8 := (f i).getD zeroB
set_option maxRecDepth 8000 in
theorem DskAt.look {w : World} {mb n : Nat} {f : Dsk} (h : DskAt w mb n f) (i : Nat) (hi : i ≤ 1000) :
    (Instr.lookup 58 (.map (some mb)) (.int .i64 (i : Int)) true).run Tryd.prog w = .ok (.tuple #[.agg (bytesV (tellF f i)).toArray, .bool (f i).isSome]) w ∧ (tellF f i).length = 32 := by
  obtain ⟨D, ⟨es, clock, hb, F, hs, rfl⟩, hD⟩ := h
  obtain ⟨h1, h2⟩ := hD i hi
  rcases Maps.fit_look true (Maps.int_keyed Tryd.underlying3) Tryd.underlying58 (zero_blk55 w) hb F (key_num i hi) with ⟨hrun, _, hat⟩ | ⟨e0, y, _, _, hrun, hRv, hat, _⟩
  · cases hf : f i with
    | some b =>
      have := (h1 b hf).2 .nil
      rw [hat .nil] at this
      cases this
    | none =>
      unfold tellF
      rw [hf]
      simp only [Option.getD_none, Option.isSome_none]
      exact ⟨by simpa only [if_true] using hrun, by simp [zeroB]⟩
  · have hy : y = (.held e0.val, []) := by
      unfold valR at hRv
      injection hRv with e
      exact e.symm
    cases hf : f i with
    | none =>
      have := h2 hf .nil
      rw [hat .nil, hy] at this
      cases this
    | some b =>
      obtain ⟨hb32, hv⟩ := h1 b hf
      have := hv .nil
      rw [hat .nil, hy] at this
      injection this with hv2
      unfold tellF
      rw [hf]
      rw [hv2] at hrun
      simp only [Option.getD_some, Option.isSome_some]
      exact ⟨by simpa only [if_true] using hrun, hb32⟩
def putF (f : Dsk) (i : Nat) (b : List UInt8) : Dsk := fun j => if j = i then some b else f j
set_option maxRecDepth 8000 in
theorem DskAt.put {w : World} {mb n : Nat} {f : Dsk} (h : DskAt w mb n f) (hn : n ≤ 1000000) (i : Nat) (hi : i ≤ 1000) (b : List UInt8) (hb : b.length = 32) :
    ∃ w', (Instr.mapUpdate 58 (.map (some mb)) (.int .i64 (i : Int)) (.agg (bytesV b).toArray)).run Tryd.prog w = .ok () w' ∧ DskAt w' mb (n + 1) (putF f i b) ∧ w.grownBy w' (some mb) := by
  obtain ⟨D, ho, hD⟩ := h
  obtain ⟨w', h1, h2, h3⟩ := ho.update (Maps.int_keyed Tryd.underlying3) Tryd.underlying58 (by unfold maxLen; omega) (key_num i hi) (d := .held (.agg (bytesV b).toArray)) (ps := []) rfl
  refine ⟨w', h1, ⟨_, h2, fun j hj => ?_⟩, h3⟩
  by_cases he : j = i
  · subst he
    refine ⟨fun b' hb' => ?_, fun hf => ?_⟩
    · unfold putF at hb'
      rw [if_pos rfl] at hb'
      injection hb' with hb'
      subst hb'
      exact ⟨hb, fun z => Maps.atKey_put_same ho.isMap (by first | trivial | exact ⟨_, rfl⟩ | constructor) _ _⟩
    · unfold putF at hf
      rw [if_pos rfl] at hf
      cases hf
  · unfold putF
    rw [if_neg he]
    have ho' : ∀ z, (D.put (.int .i64 (i : Int)) (.held (.agg (bytesV b).toArray))).atKey (.int .i64 (j : Int)) z = D.atKey (.int .i64 (j : Int)) z := fun z => Maps.atKey_put_other (fun e => he (by injection e with _ e; omega)) _ _
    refine ⟨fun b' hb' => ⟨((hD j hj).1 b' hb').1, fun z => by rw [ho' z]; exact ((hD j hj).1 b' hb').2 z⟩, fun hf z => by rw [ho' z]; exact (hD j hj).2 hf z⟩
/-- 'm[k] = b' at the operation. -/
theorem put_dsk {ops : Array Oper} {rest : List Oper} {o : Oper} {a : Act} {w : World} {Q : Exit → Act → World → Prop} (hg : o.guard = none) (m x v : Operand) (hop : o.op = Op.mapUpdate 58 m x v) (mb n : Nat) (f : Dsk) (h : DskAt w mb n f) (hn : n ≤ 1000000) (hm : a.eval m = .map (some mb)) (i : Nat) (hi : i ≤ 1000) (hx : a.eval x = .int .i64 (i : Int)) (b : List UInt8) (hb : b.length = 32) (hv : a.eval v = .agg (bytesV b).toArray)
    (hK : ∀ w', DskAt w' mb (n + 1) (putF f i b) → w.grownBy w' (some mb) → wpList Tryd.prog ops Q rest (a.put o.dst undef) w') : wpList Tryd.prog ops Q (o :: rest) a w := by
  obtain ⟨w', h1, h2, h3⟩ := h.put hn i hi b hb
  refine wpList_plain hg fun K' hK' => ?_
  unfold Oper.wp
  simp [execOp, hop, hm, hx, hv, h1, Result.andThen]
  exact hK' _ _ (hK w' h2 h3)
/-! ### a disk behind some writes -/
def appF (f : Dsk) : List Wr → Dsk
  | [] => f
  | x :: xs => appF (putF f x.blk.toNat x.data) xs
theorem appF_append (f : Dsk) (xs ys : List Wr) : appF f (xs ++ ys) = appF (appF f xs) ys := by
  induction xs generalizing f with
  | nil => rfl
  | cons x xs ih => exact ih _
def dskF (ds : List Dd) : Dsk := appF (fun _ => none) (ds.map (·.ws)).flatten
theorem dskF_append (xs ys : List Dd) : dskF (xs ++ ys) = appF (dskF xs) (ys.map (·.ws)).flatten := by
  unfold dskF
  rw [List.map_append, List.flatten_append, appF_append]
/-- Deeds such as may be. -/
def okW (vol : Int) (x : Wr) : Prop := x.vol = vol ∧ ∃ b : Nat, b < 256 ∧ x.blk = (b : Int)
def okD (vol : Int) (d : Dd) : Prop := (d.kind = 2 ∧ 1 ≤ d.min ∧ d.ws = []) ∨ (d.kind = 1 ∧ d.min = 0 ∧ 1 ≤ d.ws.length ∧ d.ws.length ≤ 8 ∧ ∀ j, j < d.ws.length → okW vol (gt d.ws j))
end Go.Proofs.YtdobjbdkfammbaaDoor
/-
  Chapter 55: the law's disk, read.
-/
namespace Go.Proofs.YtdobjbdkfammbaaDoor
open Go.RowKit Go.Shelf Go.Proofs.YtdobjbdkfammbaaDoorW.PrintWords Go.Proofs.YtdobjbdkfammbaaDoorW.PrintLast Go.Proofs.YtdobjbdkfammbaaDoorW.PrintMore
set_option linter.unusedVariables false
set_option linter.unusedSimpArgs false

theorem results_c55 {fn : Func} {p u : Tmp} (h : fn.results = #[.cell p 37, .tmp u]) (tmps : Array Value) (w : World) (g : Nat) (xs : List UInt8) (hl : xs.length = 32)
    (hp : tmps.getD p undef = .pointer (some ⟨g, 0, none⟩)) (hg : w.heap[g]? = some (.cells (bytesV xs).toArray 37 (0, 0))) : (results fn tmps).run Tryd.prog w = .ok (.tuple #[.agg (bytesV xs).toArray, tmps.getD u undef]) w := by
  have hp' : tmps[p]?.getD undef = .pointer (some ⟨g, 0, none⟩) := by simpa using hp
  simp [results, h, hp', asAddr, run_load_block (⟨g, 0, none⟩ : Addr) xs hl (block_cells hg)]
/-- The box of the law's disk. -/
structure DbAt (w : World) (B1 mb n : Nat) (f : Dsk) : Prop where
  cell : w.cell? ⟨B1, 0, none⟩ = some (.map (some mb))
  dsk : DskAt w mb n f
theorem DbAt.below {w w' : World} {B1 mb n : Nat} {f : Dsk} (h : DbAt w B1 mb n f) (hb : Below w.heap.size w w') : DbAt w' B1 mb n f :=
  ⟨cell_old hb h.cell, h.dsk.below h.dsk.lt hb⟩
def Db1Post (f : Dsk) (i : Nat) (w : World) (e : Ending) (w' : World) : Prop := ∃ b ok, e = .returned (.tuple #[.agg (bytesV b).toArray, .bool ok]) ∧ b.length = 32 ∧ (if ok = true then b else zeroB) = tellF f i ∧ Below w.heap.size w w'
set_option maxRecDepth 8000 in
set_option maxHeartbeats 3200000 in
theorem db1_any (B1 mb n i : Nat) (f : Dsk) (w : World) (h : DbAt w B1 mb n f) (hi : i ≤ 1000) :
    Calls Tryd.prog 47 #[.int .i64 (i : Int), .pointer (some ⟨B1, 0, none⟩)] w (Db1Post f i w) := by
  have hb1 := below_alloc (Below.refl w.heap.size w) (.cells (bytesV zeroB).toArray 37)
  have hz := blk_new w (.cells (bytesV zeroB).toArray 37)
  obtain ⟨W1, hW1⟩ : ∃ W1, W1 = w.alloc (.cells (bytesV zeroB).toArray 37) := ⟨_, rfl⟩
  rw [← hW1] at hb1 hz
  have h1 := h.below hb1
  obtain ⟨R, hR⟩ : ∃ R, R = w.heap.size := ⟨_, rfl⟩
  rw [← hR] at hz
  obtain ⟨hlk, h32⟩ := h1.dsk.look i hi
  obtain ⟨b, hb⟩ : ∃ b, tellF f i = b := ⟨_, rfl⟩
  obtain ⟨ok, hok⟩ : ∃ ok, (f i).isSome = ok := ⟨_, rfl⟩
  rw [hb] at h32
  rw [hb, hok] at hlk
  have HT : Aside0 ((if ok = true then b else zeroB) = tellF f i) := ⟨by
    rw [← hok, ← hb]
    unfold tellF
    cases f i <;> simp⟩
  have y1 := h1.cell
  have HW1 := Aside0.mk hW1
  have HR := Aside0.mk hR
  have HZ := Aside0.mk hz
  have HB1 := Aside0.mk hb1
  have HFIN : Aside0 (∀ W2 W5, Below W1.heap.size W1 W2 → W2.grownBy W5 (some R) → Below w.heap.size w W5) := ⟨fun W2 W5 hb hg => pw_below_grown (below_step hb1 hb) (some R) (below_step hb1 hb).size hg (fun k hk => by cases hk; omega)⟩
  clear hb1 hz h1 h hb hok
  go_enter Tryd.func47, Tryd.ntmps47
  go_upto_region 0 with fail
  go_cut [3, 4] (fun v3 v4 wd => v3 = .pointer (some ⟨R, 0, none⟩) ∧ Aside0 (wd = W1))
  case first =>
    go_wp2_with fail
    go_meet
    case rel => exact ⟨by rw [HR.out], ⟨HW1.out.symm⟩⟩
  obtain ⟨rfl, HWC⟩ := hcut
  rw [HWC.out]
  clear HWC hW1 hR
  go_wp2_with (first | ((with_reducible refine gate_store (t := 37) (p := 5) rfl ?_); refine store_block_new rfl (.tmp 5) (.tmp 11) rfl _ rfl rfl b h32 rfl ?_; obtain ⟨W2, hW2⟩ : ∃ W2, W1.alloc (.cells (bytesV b).toArray 37) = W2 := ⟨_, rfl⟩; have HY : Aside0 (W2.heap[W1.heap.size]? = some (.cells (bytesV b).toArray 37 (0, 0))) := ⟨by rw [← hW2]; exact blk_new W1 _⟩; have HB2 : Aside0 (Below W1.heap.size W1 W2) := ⟨by rw [← hW2]; exact below_alloc (Below.refl _ _) _⟩; rw [hW2]; clear hW2) | ((with_reducible refine gate_dst (N := 13) rfl ?_); refine load_block rfl _ rfl ⟨W1.heap.size, 0, none⟩ rfl b h32 (block_cells HY.out) ?_) | ((with_reducible refine gate_store (t := 37) (p := 3) rfl ?_); refine store_block_blk rfl (.tmp 3) (.tmp 13) rfl R zeroB rfl (blk_below HZ.out HB2.out) rfl b h32 rfl ?_; intro W5 hb5 hg5; have HB5 := Aside0.mk hb5; have HG5 := Aside0.mk hg5; clear hb5 hg5))
  refine bodyPost_ret (results_c55 rfl _ _ R b h32 rfl HB5.out) rfl ?_
  exact Exists.intro b (Exists.intro ok ⟨rfl, h32, HT.out, HFIN.out _ _ HB2.out HG5.out⟩)
theorem db_tells {w : World} {B1 mb n : Nat} {f : Dsk} (h : DbAt w B1 mb n f) :
    Tells 47 #[.pointer (some ⟨B1, 0, none⟩)] w.heap.size (fun _ W => Below w.heap.size w W) (tellF f) where
  call := fun i W hJ _ hi => (db1_any B1 mb n i f W (h.below hJ) hi).mono fun e W' hp => by
    obtain ⟨b, ok, he, hl, ht, hb⟩ := hp
    exact ⟨b, ok, he, hl, ht, below_step hJ hb, KeptX.of_below hb⟩
  keep := fun n W W' hJ hb => hJ.trans hb
  enters := enters_of Tryd.func47 (by kernel_rfl) rfl
theorem tellF_len {w : World} {mb n : Nat} {f : Dsk} (h : DskAt w mb n f) (i : Nat) (hi : i ≤ 1000) : (tellF f i).length = 32 := (h.look i hi).2
/-- A disk on which files' disk stands in front is read as the files. -/
theorem dsk_read {f : Dsk} {l : List File} (hE : makeE l = 0) (h32 : ∀ i, (tellF f i).length = 32) (h : ∀ i, i < (makeV l).length → f i = some (gt (makeV l) i)) : readB (tellF f) = some l := by
  obtain ⟨h8, ht, hv⟩ := makeE_zero hE
  refine made_read h32 h8 ht (fun i hi => ?_)
  unfold tellF
  rw [h i (by rw [hv]; exact hi), hv]
  rfl
set_option maxHeartbeats 3200000 in
theorem lread_any (l : List File) (hE : makeE l = 0) (n : Nat) (hn : l.length = n) (mb m : Nat) (f : Dsk) (w : World) (h : DskAt w mb m f) (h32 : ∀ i, (tellF f i).length = 32) (hf : ∀ i, i < (makeV l).length → f i = some (gt (makeV l) i)) (hmg : MagicAt w) :
    Calls Tryd.prog 27 #[.map (some mb)] w fun e w' => ∃ A' c', e = .returned (.tuple #[.slice A' n c', .int .i64 0]) ∧ kFile.C w' A' n l ∧ Below w.heap.size w w' := by
  subst hn
  have hr := dsk_read hE h32 hf
  obtain ⟨W1, hW1⟩ : ∃ W1, w.alloc (.cells #[.map (some mb)] 58) = W1 := ⟨_, rfl⟩
  have hb1 : Below w.heap.size w W1 := by rw [← hW1]; exact below_alloc (Below.refl _ _) _
  have hd : DbAt W1 w.heap.size mb m f := ⟨by rw [← hW1]; exact (Boxed.new w _ _).cell, h.below h.lt hb1⟩
  have hmg1 := Kd.C_below hmg hb1
  have HRD : Aside0 (Calls Tryd.prog 46 #[.func (.func 47) #[] #[.pointer (some ⟨w.heap.size, 0, none⟩)]] W1 fun e w' => ∃ A' c', e = .returned (.tuple #[.slice A' l.length c', .int .i64 0]) ∧ kFile.C w' A' l.length l ∧ Below W1.heap.size W1 w') := ⟨by
    refine (read_any _ _ W1 _ (tellF f) h32 (db_tells hd) (Below.refl _ _) hmg1 (fun _ W hb => Kd.C_below hmg1 hb)).mono fun e w' hp => ?_
    rcases hp with ⟨h1, he, m, _, hb⟩ | ⟨l', A', c', h1, he, hlc, hC, hb⟩
    · rw [hr] at h1
      cases h1
    · rw [hr] at h1
      cases h1
      exact ⟨A', c', he, hC, hb⟩⟩
  have HW1 := Aside0.mk hW1
  have HB1 := Aside0.mk hb1
  obtain ⟨N, hN⟩ : ∃ N, N = w.heap.size := ⟨_, rfl⟩
  rw [← hN] at HRD
  clear hr hb1 hd hmg1 h h32 hf hmg hE
  go_enter Tryd.func27, Tryd.ntmps27
  go_upto_region 1 with fail
  rw [← hN]
  clear hW1 hN
  go_wp2_with (go_at_call 46; refine HRD.out.mono ?_; rintro e w2 ⟨A', c', rfl, hC, hb⟩; have HC := Aside0.mk hC; have HB2 := Aside0.mk (below_step HB1.out hb); clear hC hb)
  go_ret2
  exact ⟨_, _, rfl, HC.out, HB2.out⟩
end Go.Proofs.YtdobjbdkfammbaaDoor
/-
  Chapter 55: the law's disk, walked.
-/
namespace Go.Proofs.YtdobjbdkfammbaaDoor
open Go.RowKit Go.Shelf Go.Proofs.YtdobjbdkfammbaaDoorW.PrintWords Go.Proofs.YtdobjbdkfammbaaDoorW.PrintLast Go.Proofs.YtdobjbdkfammbaaDoorW.PrintMore
set_option linter.unusedVariables false
set_option linter.unusedSimpArgs false

theorem dskF_succ (ds : List Dd) (k : Nat) (hk : k < ds.length) : dskF (ds.take (k + 1)) = appF (dskF (ds.take k)) (gt ds k).ws := by
  rw [List.take_add_one, gt_some ds k hk, dskF_append]
  simp
theorem appF_succ (f : Dsk) (ws : List Wr) (j : Nat) (hj : j < ws.length) : appF f (ws.take (j + 1)) = putF (appF f (ws.take j)) (gt ws j).blk.toNat (gt ws j).data := by
  rw [List.take_add_one, gt_some ws j hj, appF_append]
  rfl
theorem wr_part {W : World} {B : Nat} {t : TypeId} {y : Wr} (h : W.heap[B]? = some (.cells (wrV y).toArray t (0, 0))) : ∀ j u, (bytesV y.data)[j]? = some u → W.cell? ((⟨B, 3, none⟩ : Addr).add j) = some u := by
  intro j u hu
  rw [Addr.add_mid, blk_cell h]
  rw [List.getElem?_toArray]
  have : (wrV y)[3 + j]? = (bytesV y.data)[j]? := by
    unfold wrV
    rw [Nat.add_comm, List.getElem?_cons_succ, List.getElem?_cons_succ, List.getElem?_cons_succ]
  rw [this, hu]
theorem keptX_cell {W W' : World} {mb n : Nat} {f : Dsk} (h : KeptX 0 (fun q => q = mb) W W') (hm : DskAt W mb n f) {a : Addr} {v : Value} (hc : W.cell? a = some v) : W'.cell? a = some v := by
  have hne : a.block ≠ mb := fun e => by
    obtain ⟨D, ⟨es, clock, hb, _⟩, _⟩ := hm
    simp [World.cell?, e, hb] at hc
  have hlt : a.block < W.heap.size := Decidable.byContradiction fun h0 => by
    have : W.heap[a.block]? = none := Array.getElem?_eq_none (by omega)
    simp [World.cell?, this] at hc
  rw [cell_same (h.block a.block (Nat.zero_le _) hlt hne)]
  exact hc
theorem keptX_put {W W' : World} {mb : Nat} (hg : W.grownBy W' (some mb)) : KeptX 0 (fun q => q = mb) W W' :=
  ⟨hg.os, hg.tape, hg.output, hg.size, fun k _ hk hne => hg.block k hk (fun e => hne (by injection e))⟩
set_option maxRecDepth 8000 in
set_option maxHeartbeats 6400000 in
theorem disk55 (A : Option Addr) (n c : Nat) (ds : List Dd) (hds : ds.length = n) (vol : Int) (w : World) (h : kDd.C w A n ds) (hok : ∀ k, k < n → okD vol (gt ds k)) (hn : n ≤ 1000) :
    Calls Tryd.prog 26 #[.slice A n c, .int .i64 vol] w fun e w' => ∃ mb, e = .returned (.tuple #[.map (some mb), .int .i64 1]) ∧ w.heap.size ≤ mb ∧ DskAt w' mb (8 * n) (dskF ds) ∧ Below w.heap.size w w' := by
  have H := Aside0.mk h
  have HOK := Aside0.mk hok
  have HDS := Aside0.mk hds
  obtain ⟨W0, hW0⟩ : ∃ W0, w.alloc (.map #[] 0) = W0 := ⟨_, rfl⟩
  have hd0 : DskAt W0 w.heap.size 0 (fun _ => none) := by rw [← hW0]; exact DskAt.made w
  have hb0 : Below w.heap.size w W0 := by rw [← hW0]; exact below_alloc (Below.refl _ _) _
  obtain ⟨mb, hmb⟩ : ∃ mb, mb = w.heap.size := ⟨_, rfl⟩
  rw [← hmb] at hd0
  have HD0 := Aside0.mk hd0
  have HB0 := Aside0.mk hb0
  have HW0 := Aside0.mk hW0
  have HMB := Aside0.mk hmb
  clear h hok hds hd0 hb0
  have hmm := @run_makeMap Tryd.prog
  go_enter Tryd.func26, Tryd.ntmps26
  go_upto_region 2 with fail
  clear hmm
  rw [← hmb]
  clear hW0 hmb
  go_wp2_with fail
  go_loopg [14, 8, 10] n (fun gk i _ _ wr => ∃ k : Nat, k ≤ n ∧ Aside0 (gk = n - k) ∧ i = .int .i64 k ∧ Aside0 (DskAt wr mb (8 * k) (dskF (ds.take k))) ∧ Aside0 (Below w.heap.size w wr))
  case atStart => exact ⟨0, Nat.zero_le _, ⟨rfl⟩, rfl, HD0, HB0⟩
  case round =>
    obtain ⟨k, hk, HGK, rfl, HD, HB⟩ := hrel
    by_cases hlt : k < n
    · have hkn : (k : Int) < (n : Int) := by omega
      obtain ⟨ad, A1, d1, rfl, g0, g1, g2, hl1, hC1⟩ := dd_at (Kd.C_below H.out HB.out) hlt
      have hokk := HOK.out k hlt
      have hsucc := dskF_succ ds k (by rw [HDS.out]; exact hlt)
      obtain ⟨y, hy⟩ : ∃ y, y = gt ds k := ⟨_, rfl⟩
      rw [← hy] at g0 g1 g2 hl1 hC1 hokk hsucc
      obtain ⟨m, hm⟩ : ∃ m, y.ws.length = m := ⟨_, rfl⟩
      obtain ⟨ws, hws⟩ : ∃ ws, ws = y.ws := ⟨_, rfl⟩
      obtain ⟨mn, hmn⟩ : ∃ mn, mn = y.min := ⟨_, rfl⟩
      obtain ⟨kd, hkd⟩ : ∃ kd, kd = y.kind := ⟨_, rfl⟩
      unfold okD at hokk
      rw [← hws] at hm
      rw [← hws, hm] at g1 hC1 hl1
      rw [← hkd] at g0
      rw [← hmn] at g2
      rw [← hws, ← hmn, ← hkd, hm] at hokk
      rw [← hws] at hsucc
      have HSU := Aside0.mk hsucc
      have HM := Aside0.mk hm
      have HC1 := Aside0.mk hC1
      have hmx := Kd.C_max hC1
      clear hy hm hmn hkd hws hC1 hsucc
      go_upto_region 5 with fail
      obtain ⟨W1, hW1⟩ : ∃ W1, wr.alloc (.cells #[.int .i64 kd, .slice A1 m d1, .int .i64 mn] 33) = W1 := ⟨_, rfl⟩
      have hb1 : Below wr.heap.size wr W1 := by rw [← hW1]; exact below_alloc (Below.refl _ _) _
      have hbx : W1.heap[wr.heap.size]? = some (.cells #[.int .i64 kd, .slice A1 m d1, .int .i64 mn] 33 (0, 0)) := by rw [← hW1]; exact blk_new wr _
      have z0 := blk_cell hbx 0
      have z1 := blk_cell hbx 1
      have z2 := blk_cell hbx 2
      simp only [List.getElem?_toArray, List.getElem?_cons_zero, List.getElem?_cons_succ] at z0 z1 z2
      have HB1 := Aside0.mk (below_step HB.out hb1)
      replace HC1 := Aside0.mk (Kd.C_below HC1.out hb1)
      have HD1 : Aside0 (DskAt W1 mb (8 * k) (dskF (ds.take k))) := ⟨HD.out.below HD.out.lt hb1⟩
      obtain ⟨Bd, hBd⟩ : ∃ Bd, Bd = wr.heap.size := ⟨_, rfl⟩
      rw [hW1]
      rw [← hBd] at z0 z1 z2 ⊢
      clear hW1 hb1 hbx hBd g0 g1 g2
      rcases hokk with ⟨rfl, hmin, hnil⟩ | ⟨rfl, rfl, hm1, hm8, hall⟩
      · have h0 : m = 0 := by rw [← HM.out, hnil]; rfl
        subst h0
        have hmn1 : ¬ (mn : Int) < 1 := by omega
        have HS0 : Aside0 (dskF (ds.take (k + 1)) = dskF (ds.take k)) := ⟨by rw [HSU.out, hnil]; rfl⟩
        go_wp2_with fail
        clear z0 z1 z2
        go_loopg [68, 10] 1 (fun gj i _ wz => i = .int .i64 (0 : Nat) ∧ Aside0 (wz = W1))
        case atStart => exact ⟨rfl, ⟨rfl⟩⟩
        case round =>
          obtain ⟨rfl, HWZ⟩ := hrel
          go_wp2_with fail
          go_roundg (n - (k + 1))
          case measure => have := HGK.out; omega
          case rel => exact ⟨k + 1, by omega, ⟨rfl⟩, by go_num, ⟨by rw [HS0.out, HWZ.out]; exact HD1.out.mono (by omega)⟩, ⟨by rw [HWZ.out]; exact HB1.out⟩⟩
      · have HALL := Aside0.mk hall
        have hm0 : ((m : Int) == 0) = false := by simp; omega
        have hm1' : ¬ (m : Int) < 1 := by omega
        have hm8' : ¬ (8 : Int) < (m : Int) := by omega
        clear hall
        go_wp2_with fail
        have Z1 := Aside0.mk z1
        clear z0 z1 z2 hm0 hm1'
        go_loopg [68, 10] m (fun gj i _ wz => ∃ j : Nat, j ≤ m ∧ Aside0 (gj = m - j) ∧ i = .int .i64 j ∧ Aside0 (DskAt wz mb (8 * k + j) (appF (dskF (ds.take k)) (ws.take j))) ∧ Aside0 (Below w.heap.size w wz) ∧ Aside0 (KeptX 0 (fun q => q = mb) W1 wz))
        case atStart => exact ⟨0, Nat.zero_le _, ⟨rfl⟩, rfl, HD1, HB1, ⟨KeptX.refl _ _ _⟩⟩
        case round =>
          obtain ⟨j, hj, HGJ, rfl, HDz, HBz, HKz⟩ := hrel
          by_cases hjt : j < m
          · have hjm : (j : Int) < (m : Int) := by omega
            obtain ⟨a1, rfl, hy32, hca⟩ := wr_at HC1.out hjt
            obtain ⟨hyv, b, hb256, hyb⟩ := HALL.out j hjt
            have hap := appF_succ (dskF (ds.take k)) ws j (by rw [HM.out]; exact hjt)
            obtain ⟨y, hy⟩ : ∃ y, y = gt ws j := ⟨_, rfl⟩
            rw [← hy] at hy32 hca hyv hyb hap
            obtain ⟨W, hW⟩ : ∃ W, W = wr := ⟨_, rfl⟩
            rw [← hW] at HDz HBz HKz ⊢
            have HCA : Aside0 (∀ q u, (wrV y)[q]? = some u → W.cell? ((a1.add (j * 35)).add q) = some u) := ⟨fun q u hu => keptX_cell HKz.out HD1.out (hca q u hu)⟩
            have z1 := keptX_cell HKz.out HD1.out Z1.out
            have HAP := Aside0.mk hap
            clear hy hca hap hW
            go_upto_region 10 with (first | ((with_reducible refine gate_dst (N := 71) rfl ?_); refine load_write rfl _ rfl (a1.add (j * 35)) rfl y hy32 HCA.out ?_) | ((with_reducible refine gate_store (t := 39) (p := 10) rfl ?_); refine store_write_new rfl (.tmp 10) (.tmp 71) rfl _ rfl rfl y hy32 rfl ?_))
            obtain ⟨W2, hW2⟩ : ∃ W2, W.alloc (.cells (wrV y).toArray 39) = W2 := ⟨_, rfl⟩
            have hbw : W2.heap[W.heap.size]? = some (.cells (wrV y).toArray 39 (0, 0)) := by rw [← hW2]; exact blk_new W _
            have hb2 : Below W.heap.size W W2 := by rw [← hW2]; exact below_alloc (Below.refl _ _) _
            have hd2 := HDz.out.below HDz.out.lt hb2
            obtain ⟨Bw, hBw⟩ : ∃ Bw, Bw = W.heap.size := ⟨_, rfl⟩
            rw [← hBw] at hbw
            rw [hW2, ← hBw]
            have w0 := blk_cell hbw 0
            have w1 := blk_cell hbw 1
            have w2 := blk_cell hbw 2
            rw [show (wrV y).toArray[0]? = some (.int .i64 0) from rfl] at w0
            rw [show (wrV y).toArray[1]? = some (.int .i64 y.vol) from rfl, hyv] at w1
            rw [show (wrV y).toArray[2]? = some (.int .i64 y.blk) from rfl, hyb] at w2
            have HWP := Aside0.mk (wr_part hbw)
            obtain ⟨W3, hup, hd3, hg3⟩ := hd2.put (by omega) b (by omega) y.data hy32
            have HD3 : Aside0 (DskAt W3 mb (8 * k + (j + 1)) (appF (dskF (ds.take k)) (ws.take (j + 1)))) := ⟨by rw [HAP.out, hyb]; exact hd3⟩
            have HB3 : Aside0 (Below w.heap.size w W3) := ⟨pw_below_grown (below_step HBz.out hb2) (some mb) (below_step HBz.out hb2).size hg3 (fun q e => by cases e; rw [HMB.out]; omega)⟩
            have HK3 : Aside0 (KeptX 0 (fun q => q = mb) W1 W3) := ⟨(HKz.out.trans (KeptX.of_below hb2)).trans (keptX_put hg3)⟩
            have hb0 : ¬ (b : Int) < 0 := by omega
            have hb1 : ¬ (256 : Int) ≤ (b : Int) := by omega
            clear hW2 hbw hb2 hd2 hBw hd3 hg3 z1 hyv hyb
            go_wp2_with (first | ((with_reducible refine gate_dst (N := 101) rfl ?_); refine load_block rfl _ rfl ⟨Bw, 3, none⟩ rfl y.data hy32 HWP.out ?_))
            go_roundg (m - (j + 1))
            case measure => have := HGJ.out; omega
            case rel => exact ⟨j + 1, by omega, ⟨rfl⟩, by go_num, HD3, HB3, HK3⟩
          · have hjm : ¬ (j : Int) < (m : Int) := by omega
            have HSE : Aside0 (dskF (ds.take (k + 1)) = appF (dskF (ds.take k)) (ws.take j)) := ⟨by rw [HSU.out, show ws.take j = ws from List.take_of_length_le (by rw [HM.out]; omega)]⟩
            go_wp2_with fail
            go_roundg (n - (k + 1))
            case measure => have := HGK.out; omega
            case rel => exact ⟨k + 1, by omega, ⟨rfl⟩, by go_num, ⟨by rw [HSE.out]; exact HDz.out.mono (by omega)⟩, HBz⟩
    · have hkn : ¬ (k : Int) < (n : Int) := by omega
      obtain rfl : k = n := by omega
      have HF : Aside0 (dskF (ds.take k) = dskF ds) := ⟨by rw [List.take_of_length_le (by rw [HDS.out]; omega)]⟩
      go_wp2_with fail
      go_ret2
      exact ⟨mb, rfl, by rw [HMB.out]; omega, by rw [← HF.out]; exact HD.out, HB.out⟩
end Go.Proofs.YtdobjbdkfammbaaDoor
namespace Go.Proofs.YtdobjbdkfammbaaDoor
open Go.RowKit Go.Shelf Go.Proofs.YtdobjbdkfammbaaDoorW.PrintWords Go.Proofs.YtdobjbdkfammbaaDoorW.PrintLast Go.Proofs.YtdobjbdkfammbaaDoorW.PrintMore
set_option linter.unusedVariables false
set_option linter.unusedSimpArgs false

theorem cut8_flat {α : Type} (l : List α) : (cut8 l).flatten = l := by
  have h : ∀ m, ((List.range m).map (fun k => (l.drop (8 * k)).take 8)).flatten = l.take (8 * m) := by
    intro m
    induction m with
    | zero => simp
    | succ m ih =>
      rw [List.range_succ, List.map_append, List.flatten_append, ih]
      simp only [List.map_cons, List.map_nil, List.flatten_cons, List.flatten_nil, List.append_nil]
      rw [show 8 * (m + 1) = 8 * m + 8 by omega, List.take_add]
  unfold cut8
  rw [h, List.take_of_length_le (by omega)]
theorem rowsD_ws (vol : Int) (B : List (List UInt8)) : ((rowsD vol B).map (·.ws)).flatten = wrs vol B := by
  unfold rowsD
  rw [List.map_map]
  have : ((fun x : Dd => x.ws) ∘ fun c => (⟨1, c, 0⟩ : Dd)) = id := rfl
  rw [this, List.map_id, cut8_flat]
theorem appF_wrs (f : Dsk) (vol : Int) (B : List (List UInt8)) (i : Nat) : appF f (wrs vol B) i = if i < B.length then some (gt B i) else f i := by
  have h : ∀ k, k ≤ B.length → appF f ((wrs vol B).take k) i = if i < k then some (gt B i) else f i := by
    intro k
    induction k with
    | zero => intro _; rfl
    | succ k ih =>
      intro hk
      rw [appF_succ f (wrs vol B) k (by rw [wrs_len]; omega), wrs_gt vol B k (by omega)]
      unfold putF
      simp only [Int.toNat_natCast]
      by_cases e : i = k
      · subst e
        rw [if_pos rfl, if_pos (by omega)]
      · rw [if_neg e, ih (by omega)]
        by_cases h2 : i < k
        · rw [if_pos h2, if_pos (by omega)]
        · rw [if_neg h2, if_neg (by omega)]
  have := h B.length (Nat.le_refl _)
  rwa [List.take_of_length_le (by rw [wrs_len]; exact Nat.le_refl _)] at this
def okAll (vol : Int) (ds : List Dd) : Prop := ∀ d, d ∈ ds → okD vol d
theorem okAll_nil (vol : Int) : okAll vol [] := fun d h => by simp at h
theorem okAll_append {vol : Int} {xs ys : List Dd} (h : okAll vol xs) (k : okAll vol ys) : okAll vol (xs ++ ys) := fun d hd => (List.mem_append.1 hd).elim (h d) (k d)
theorem okAll_at {vol : Int} {ds : List Dd} (h : okAll vol ds) (k : Nat) (hk : k < ds.length) : okD vol (gt ds k) := h _ (by rw [gt_eq ds k hk]; exact List.getElem_mem hk)
theorem okAll_rows (vol : Int) (B : List (List UInt8)) (hB : B.length ≤ 256) : okAll vol (rowsD vol B) := by
  intro d hd
  unfold rowsD cut8 at hd
  simp only [List.mem_map, List.mem_range, wrs_len] at hd
  obtain ⟨_, ⟨k, hk, rfl⟩, rfl⟩ := hd
  have hl : (((wrs vol B).drop (8 * k)).take 8).length = min 8 (B.length - 8 * k) := by simp [wrs_len]
  refine .inr ⟨rfl, rfl, by show 1 ≤ (((wrs vol B).drop (8 * k)).take 8).length; omega, by show (((wrs vol B).drop (8 * k)).take 8).length ≤ 8; omega, fun j hj => ?_⟩
  have hj' : j < (((wrs vol B).drop (8 * k)).take 8).length := hj
  have e : gt (((wrs vol B).drop (8 * k)).take 8) j = gt (wrs vol B) (8 * k + j) := by
    rw [gt_eq _ _ hj', gt_eq _ _ (by rw [wrs_len]; omega)]
    simp
  show okW vol (gt (((wrs vol B).drop (8 * k)).take 8) j)
  rw [e, wrs_gt vol B _ (by omega)]
  exact ⟨rfl, 8 * k + j, by omega, rfl⟩
theorem okAll_host (vol : Int) (l : List File) (D : Nat → List Dd) (h : ∀ k, okAll vol (D k)) (n : Nat) : okAll vol (hostD vol l D n) := by
  induction n with
  | zero =>
    have : hostD vol l D 0 = rowsD vol (makeV l) := by simp [hostD]
    rw [this]
    exact okAll_rows vol _ (by have := makeV_small l; omega)
  | succ n ih =>
    rw [hostD_succ]
    exact okAll_append ih (h n)
theorem okAll_disk (vol : Int) (l : List File) : okAll vol (diskD vol l) := by
  unfold diskD
  split
  · exact okAll_rows vol _ (by have := makeV_small l; omega)
  · exact okAll_nil vol
theorem okAll_thief (vol : Int) (l : List File) : okAll vol (thiefD vol l) := by
  unfold thiefD
  split
  · exact okAll_host vol l _ (fun k => okAll_rows vol _ (by have := thiefV_le l k; omega)) _
  · exact okAll_nil vol
theorem okAll_rename (vol : Int) (sx : ByteArray) (l : List File) : okAll vol (renameD vol sx l) := by
  unfold renameD
  split
  · exact okAll_host vol l _ (fun k => okAll_disk vol _) _
  · exact okAll_nil vol
theorem okAll_ransom (vol : Int) (key : UInt8) (each : Int) (l : List File) : okAll vol (ransomD vol key each l) := by
  unfold ransomD
  split
  · refine okAll_host vol l _ (fun k => okAll_append ?_ (okAll_disk vol _)) _
    unfold waitD
    split
    · next h =>
      intro d hd
      simp only [List.mem_singleton] at hd
      subst hd
      exact .inl ⟨rfl, by show 1 ≤ each; omega, rfl⟩
    · exact okAll_nil vol
  · exact okAll_nil vol
theorem appF_far (ws : List Wr) (i : Nat) (h : ∀ x, x ∈ ws → x.blk.toNat ≠ i) : ∀ f : Dsk, appF f ws i = f i := by
  induction ws with
  | nil => intro f; rfl
  | cons x ws ih =>
    intro f
    show appF (putF f x.blk.toNat x.data) ws i = f i
    rw [ih (fun y hy => h y (List.mem_cons_of_mem _ hy))]
    unfold putF
    rw [if_neg (fun e => h x (.head _) e.symm)]
theorem dskF_far {vol : Int} {ds : List Dd} (h : okAll vol ds) (i : Nat) (hi : 256 ≤ i) : dskF ds i = none := by
  unfold dskF
  rw [appF_far]
  intro x hx
  simp only [List.mem_flatten, List.mem_map] at hx
  obtain ⟨_, ⟨d, hd, rfl⟩, hx⟩ := hx
  rcases h d hd with ⟨_, _, h0⟩ | ⟨_, _, _, _, hall⟩
  · rw [h0] at hx
    simp at hx
  · obtain ⟨j, hj, e⟩ := List.getElem_of_mem hx
    obtain ⟨_, b, hb, e2⟩ := hall j hj
    rw [gt_eq _ _ hj, e] at e2
    rw [e2]
    simp
    omega
theorem dsk_32 {w : World} {mb m : Nat} {vol : Int} {ds : List Dd} (hd : DskAt w mb m (dskF ds)) (h : okAll vol ds) (i : Nat) : (tellF (dskF ds) i).length = 32 := by
  by_cases hi : i ≤ 1000
  · exact tellF_len hd i hi
  · unfold tellF
    rw [dskF_far h i (by omega)]
    simp [zeroB]
/-- What the last disk shows that is written. -/
theorem dskF_rows (vol : Int) (pre : List Dd) (B : List (List UInt8)) (i : Nat) (hi : i < B.length) : dskF (pre ++ rowsD vol B) i = some (gt B i) := by
  rw [dskF_append, rowsD_ws, appF_wrs, if_pos hi]
theorem host_last (vol : Int) (l : List File) (D : Nat → List Dd) (L : List File) (h0 : l.length = 0 → makeV l = makeV L) (h1 : ∀ k, l.length = k + 1 → ∃ pre B, D k = pre ++ rowsD vol B ∧ ∀ i, i < (makeV L).length → i < B.length ∧ gt B i = gt (makeV L) i) :
    ∀ i, i < (makeV L).length → dskF (hostD vol l D l.length) i = some (gt (makeV L) i) := by
  intro i hi
  cases hn : l.length with
  | zero =>
    have : hostD vol l D 0 = [] ++ rowsD vol (makeV l) := by simp [hostD]
    rw [this, h0 hn]
    exact dskF_rows vol [] _ i hi
  | succ k =>
    obtain ⟨pre, B, e, hB⟩ := h1 k hn
    obtain ⟨hb1, hb2⟩ := hB i hi
    rw [hostD_succ, e, ← List.append_assoc, dskF_rows vol _ B i hb1, hb2]
theorem thief_last (vol : Int) (l : List File) (hE : makeE l = 0) : ∀ i, i < (makeV []).length → dskF (thiefD vol l) i = some (gt (makeV []) i) := by
  unfold thiefD
  rw [if_pos hE]
  refine host_last vol l _ [] (fun h => by rw [List.length_eq_zero_iff.1 h]) (fun k hk => ⟨[], thiefV l k, by simp [stealD], fun i hi => ?_⟩)
  have hd : l.drop (k + 1) = [] := List.drop_of_length_le (by omega)
  unfold thiefV
  rw [hd]
  refine ⟨by rw [List.length_append]; omega, ?_⟩
  rw [gt_eq _ _ (by rw [List.length_append]; omega), gt_eq _ _ hi, List.getElem_append_left hi]
end Go.Proofs.YtdobjbdkfammbaaDoor
