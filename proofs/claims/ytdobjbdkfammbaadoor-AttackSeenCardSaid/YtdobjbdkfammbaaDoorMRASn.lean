/-
  AttackSeen: the card. For every list of lengths, every byte and key the law returns true. No condition beyond the row's own.
-/
import Derived.Test.YtdobjbdkfammbaaDoorRows
import Derived.Test.YtdobjbdkfammbaaDoorGf
import Derived.Test.YtdobjbdkfammbaaDoorGs
import Derived.ProofKit
import Derived.LaidMore
import Derived.OpenShut
import Derived.Stop.Joined
import Derived.Lib.LaidTab
import Derived.MakeChecks
import Derived.Test.YtdobjbdkfammbaaDoorGb
import Derived.Test.YtdobjbdkfammbaaDoorGq
import Derived.Test.YtdobjbdkfammbaaDoorGh
import Derived.Test.YtdobjbdkfammbaaDoorGl
import Derived.Test.YtdobjbdkfammbaaDoorGk
import Derived.Test.YtdobjbdkfammbaaDoorGg
import Derived.Test.YtdobjbdkfammbaaDoorCards
import Derived.Test.YtdobjbdkfammbaaDoorTie
import Derived.SevenTiedAt
/-
  Chapter 51: from a row's condition to the walks: the variables probe.numbers and probe.endings are laid; the elements of a slice of the document's files.
-/
namespace Go.Proofs.YtdobjbdkfammbaaDoor
open Go.ChangeShapes Go.WideShapes Go.ChangeAt Go.RowKit Go.Proofs.YtdobjbdkfammbaaDoorW.PrintWords Go.Proofs.YtdobjbdkfammbaaDoorW.PrintLast Go.Proofs.YtdobjbdkfammbaaDoorW.PrintMore
set_option linter.unusedVariables false
set_option linter.unusedSimpArgs false

theorem gNum : Tryd.prog.globalNamed "erewhile/probe.numbers" = some 2 := by kernel_rfl
theorem tNum : (Tryd.prog.globals[2]?).map (·.type) = some 140 := by kernel_rfl
theorem gEnd : Tryd.prog.globalNamed "erewhile/probe.endings" = some 1 := by kernel_rfl
theorem tEnd : (Tryd.prog.globals[1]?).map (·.type) = some 138 := by kernel_rfl
theorem cells_four : Tryd.prog.cellsOf 139 = 4 := by kernel_rfl
theorem cells_44 : Tryd.prog.cellsOf 140 = 16 := by kernel_rfl
theorem cells_str : Tryd.prog.cellsOf 9 = 1 := by kernel_rfl
theorem cells_4s : Tryd.prog.cellsOf 138 = 4 := by kernel_rfl
theorem byte_C_of51 {W : World} {b : Nat} {xs : List UInt8} (h : ∀ j, j < xs.length → W.cell? ⟨b, j, none⟩ = some (.int .u8 ((gt xs j).toNat : Int))) (hm : xs.length ≤ 9223372036854775807) : byte.C W (some ⟨b, 0, none⟩) xs.length xs := by
  refine ⟨rfl, hm, fun _ => ⟨_, rfl, fun j p hj => ?_⟩⟩
  obtain ⟨hjl, hp⟩ := List.getElem?_eq_some_iff.1 hj
  refine ⟨[.int .u8 (p.toNat : Int)], rfl, rfl, fun i u hu => ?_⟩
  rcases i with _ | i
  · simp only [List.getElem?_cons_zero, Option.some.injEq] at hu
    subst hu
    have e : j * byte.sz + 0 = j := by show j * 1 + 0 = j; omega
    rw [e, Go.Proofs.YtdobjbdkfammbaaDoorW.PrintWords.add_plain, h j hjl, gt_eq _ _ hjl, hp]
  · simp at hu
theorem str_C_of51 {W : World} {b : Nat} {xs : List ByteArray} (h : ∀ j, j < xs.length → W.cell? ⟨b, j, none⟩ = some (.string (gt xs j))) (hm : xs.length ≤ 9223372036854775807) : Kd.string.C W (some ⟨b, 0, none⟩) xs.length xs := by
  refine ⟨rfl, hm, fun _ => ⟨_, rfl, fun j p hj => ?_⟩⟩
  obtain ⟨hjl, hp⟩ := List.getElem?_eq_some_iff.1 hj
  refine ⟨[.string p], rfl, rfl, fun i u hu => ?_⟩
  rcases i with _ | i
  · simp only [List.getElem?_cons_zero, Option.some.injEq] at hu
    subst hu
    have e : j * Kd.string.sz + 0 = j := by show j * 1 + 0 = j; omega
    rw [e, Go.Proofs.YtdobjbdkfammbaaDoorW.PrintWords.add_plain, h j hjl, gt_eq _ _ hjl, hp]
  · simp at hu
theorem end_cells {W : World} {fuel : Nat} {cs : List Value} {p : List MemPlace} (h : DataW.trod (fun _ => ()) Tryd.prog W 0 (fun _ => true) false fuel 138 cs = some (Rows.laid_erewhile_probe_endings, p)) : ∀ j, j < 4 → cs[j]? = some (.string (gt endL j)) := by
  obtain ⟨xs, m, _, hz, hl, hxl, hf⟩ := DataW.trod_array Tryd.underlying138 h
  have hx : xs.map (·.1) = [.lit (.string [112, 100, 102]), .lit (.string [122, 105, 112]), .lit (.string [112, 110, 103]), .lit (.string [101, 108, 102])] := by
    have := (Prod.mk.inj hz).1
    unfold Rows.laid_erewhile_probe_endings at this
    injection this with this
    exact this.symm
  intro j hj
  have h1 := hf j hj
  rw [cells_str, Nat.mul_one] at h1
  have hjx : j < xs.length := by omega
  rw [List.getElem?_eq_getElem hjx] at h1
  obtain ⟨s, hcs, hy, _⟩ := DataW.trod_string Tryd.underlying9 h1
  have h2 : (xs.map (·.1))[j]? = some (.lit (.string s.data.toList)) := by
    rw [List.getElem?_map, List.getElem?_eq_getElem hjx, hy]; rfl
  rw [hx] at h2
  have h3 : cs[j]? = some (.string s) := by
    have h0 : ((cs.drop j).take 1)[0]? = some (.string s) := by rw [hcs]; rfl
    simpa using h0
  rw [h3]
  have key : ∀ t : ByteArray, t.data.toList = s.data.toList → s = t := fun t e => by
    have : t.data = s.data := Array.toList_inj.1 e
    cases s; cases t; cases this; rfl
  rcases (show j = 0 ∨ j = 1 ∨ j = 2 ∨ j = 3 by omega) with rfl | rfl | rfl | rfl
  · rw [key sPdf (by simpa [sPdf] using h2)]; rfl
  · rw [key sZip (by simpa [sZip] using h2)]; rfl
  · rw [key sPng (by simpa [sPng] using h2)]; rfl
  · rw [key sElf (by simpa [sElf] using h2)]; rfl
theorem num_cells {W : World} {fuel : Nat} {cs : List Value} {p : List MemPlace} (h : DataW.trod (fun _ => ()) Tryd.prog W 0 (fun _ => true) false fuel 140 cs = some (Rows.laid_erewhile_probe_numbers, p)) : ∀ j, j < 16 → cs[j]? = some (.int .u8 ((gt numL j).toNat : Int)) := by
  obtain ⟨xs, m, _, hz, hl, hxl, hf⟩ := DataW.trod_array Tryd.underlying140 h
  have hx : xs.map (·.1) = [Lib.tabData .u8 [37, 80, 68, 70], Lib.tabData .u8 [80, 75, 3, 4], Lib.tabData .u8 [137, 80, 78, 71], Lib.tabData .u8 [127, 69, 76, 70]] := by
    have := (Prod.mk.inj hz).1
    unfold Rows.laid_erewhile_probe_numbers at this
    injection this with this
    exact this.symm
  have row : ∀ i (zs : List Int), i < 4 → (xs.map (·.1))[i]? = some (Lib.tabData .u8 zs) → (cs.drop (i * 4)).take 4 = zs.map fun z => Value.int .u8 z := by
    intro i zs hi hzs
    have h1 := hf i hi
    rw [cells_four] at h1
    have hix : i < xs.length := by omega
    rw [List.getElem?_eq_getElem hix] at h1
    rw [List.getElem?_map, List.getElem?_eq_getElem hix] at hzs
    have hzs' : (xs[i]).1 = Lib.tabData .u8 zs := by simpa using hzs
    have h2 : xs[i] = (Lib.tabData .u8 zs, (xs[i]).2) := by rw [← hzs']
    rw [h2] at h1
    exact Lib.cells_of_tab Tryd.underlying139 Tryd.underlying5 cells_byte cells_four h1
  rw [hx] at row
  have r0 := row 0 _ (by omega) rfl
  have r1 := row 1 _ (by omega) rfl
  have r2 := row 2 _ (by omega) rfl
  have r3 := row 3 _ (by omega) rfl
  have at_ : ∀ i j, j < 4 → ((cs.drop (i * 4)).take 4)[j]? = cs[i * 4 + j]? := fun i j hj => by
    rw [List.getElem?_take_of_lt hj, List.getElem?_drop]
  intro j hj
  have e : j = (j / 4) * 4 + j % 4 := by omega
  have hq : j / 4 = 0 ∨ j / 4 = 1 ∨ j / 4 = 2 ∨ j / 4 = 3 := by omega
  have hr : j % 4 = 0 ∨ j % 4 = 1 ∨ j % 4 = 2 ∨ j % 4 = 3 := by omega
  rw [e, ← at_ _ _ (by omega)]
  rcases hq with hq | hq | hq | hq <;> rw [hq] <;> (first | rw [r0] | rw [r1] | rw [r2] | rw [r3]) <;> rcases hr with hr | hr | hr | hr <;> rw [hr] <;> rfl
def laidP : List (String × DataW Unit) := [("erewhile/probe.numbers", Rows.laid_erewhile_probe_numbers), ("erewhile/probe.endings", Rows.laid_erewhile_probe_endings)]
theorem good_of_vars {W : World} {ps : List MemPlace} (h : DataW.LaidVars Tryd.prog W laidP ps) : EndAt W ∧ NumAt W := by
  obtain ⟨g0, t0, cs0, f0, p0, q0, hg0, ht0, hv0, hd0, ⟨g1, t1, cs1, f1, p1, q1, hg1, ht1, hv1, hd1, _, _⟩, _⟩ := h
  obtain rfl := Option.some.inj (gNum.symm.trans hg0)
  obtain rfl := Option.some.inj (tNum.symm.trans ht0)
  obtain rfl := Option.some.inj (gEnd.symm.trans hg1)
  obtain rfl := Option.some.inj (tEnd.symm.trans ht1)
  refine ⟨str_C_of51 (xs := endL) (fun j hj => ?_) (by decide), byte_C_of51 (xs := numL) (fun j hj => ?_) (by decide)⟩
  · have := World.var?_cell gEnd hv1 j
    rw [this, ← Array.getElem?_toList]
    exact end_cells hd1 j hj
  · have := World.var?_cell gNum hv0 j
    rw [this, ← Array.getElem?_toList]
    exact num_cells hd0 j hj
theorem good_of_laid {W : World} (h : laidMetH Tryd.prog laidP W) : EndAt W ∧ NumAt W := by
  rw [MakeChecks.laidMetH_plain _ _ _ (by kernel_rfl)] at h
  obtain ⟨ps, hv, _⟩ := h
  exact good_of_vars hv
/-- The door's own heap meets the condition. -/
theorem door_met51 (os : Os) (args : Array Value) : laidMetH Tryd.prog laidP ((World.doorLaid Tryd.prog 400 os).forCall (fun _ _ => 0) ⟨#[], args, []⟩).memory :=
  laidMetH_of_parts3 (fuel := 8) (laidMet_of_run' 8 (by kernel_rfl) (by kernel_rfl)) (by kernel_rfl) (by kernel_rfl)
end Go.Proofs.YtdobjbdkfammbaaDoor
/-
  Chapter 51: from a row's condition to the walks, where fs.magic is laid too (ProbeMounted).
-/
namespace Go.Proofs.YtdobjbdkfammbaaDoor
open Go.ChangeShapes Go.WideShapes Go.ChangeAt Go.RowKit Go.Proofs.YtdobjbdkfammbaaDoorW.PrintWords Go.Proofs.YtdobjbdkfammbaaDoorW.PrintLast Go.Proofs.YtdobjbdkfammbaaDoorW.PrintMore
set_option linter.unusedVariables false
set_option linter.unusedSimpArgs false

theorem gMagic : Tryd.prog.globalNamed "erewhile/fs.magic" = some 0 := by kernel_rfl
theorem tMagic : (Tryd.prog.globals[0]?).map (·.type) = some 110 := by kernel_rfl
theorem cells_magic : Tryd.prog.cellsOf 110 = 5 := by kernel_rfl
def laidMP : List (String × DataW Unit) := [("erewhile/fs.magic", Rows.laid_erewhile_fs_magic), ("erewhile/probe.numbers", Rows.laid_erewhile_probe_numbers), ("erewhile/probe.endings", Rows.laid_erewhile_probe_endings)]
theorem good3_of_laid {W : World} (h : laidMetH Tryd.prog laidMP W) : MagicAt W ∧ EndAt W ∧ NumAt W := by
  rw [MakeChecks.laidMetH_plain _ _ _ (by kernel_rfl)] at h
  obtain ⟨ps, hv, _⟩ := h
  obtain ⟨g0, t0, cs0, f0, p0, q0, hg0, ht0, hv0, hd0, hrest, _⟩ := hv
  obtain rfl := Option.some.inj (gMagic.symm.trans hg0)
  obtain rfl := Option.some.inj (tMagic.symm.trans ht0)
  have hc := Lib.cells_of_tab (k := .u8) (zs := [69, 82, 69, 87, 1]) Tryd.underlying110 Tryd.underlying5 cells_byte cells_magic hd0
  refine ⟨byte_C_of51 (xs := magicB) (fun j hj => ?_) (by decide), good_of_vars hrest⟩
  have hj5 : j < 5 := hj
  have := World.var?_cell gMagic hv0 j
  rw [this, ← Array.getElem?_toList, hc]
  rcases (show j = 0 ∨ j = 1 ∨ j = 2 ∨ j = 3 ∨ j = 4 by omega) with rfl | rfl | rfl | rfl | rfl <;> rfl
/-- The door's own heap meets the condition. -/
theorem door_met3 (os : Os) (args : Array Value) : laidMetH Tryd.prog laidMP ((World.doorLaid Tryd.prog 400 os).forCall (fun _ _ => 0) ⟨#[], args, []⟩).memory :=
  laidMetH_of_parts3 (fuel := 8) (laidMet_of_run' 8 (by kernel_rfl) (by kernel_rfl)) (by kernel_rfl) (by kernel_rfl)
end Go.Proofs.YtdobjbdkfammbaaDoor
/-
  AttackSteals, walked: it returns true.
-/
namespace Go.Proofs.YtdobjbdkfammbaaDoor
open Go.RowKit Go.Shelf Go.Proofs.YtdobjbdkfammbaaDoorW.PrintWords Go.Proofs.YtdobjbdkfammbaaDoorW.PrintLast Go.Proofs.YtdobjbdkfammbaaDoorW.PrintMore
set_option linter.unusedVariables false
set_option linter.unusedSimpArgs false

theorem nil_E : makeE [] = 0 := by decide
set_option maxRecDepth 4000 in
set_option maxHeartbeats 3200000 in
theorem law_asteals (A : Option Addr) (l : List File) (c1 : Nat) (hc : l.length ≤ c1) (vol : Int) (w : World) (h1 : kFile.C w A l.length l) (hs1 : ∀ k, k < l.length → (gt l k).name.size ≤ 9223372036854775807) (hmg : MagicAt w) :
    Calls Tryd.prog 9 #[.slice A l.length c1, .int .i64 vol] w fun e w' => e = .returned (.bool true) ∧ Below w.heap.size w w' := by
  have H1 := Aside0.mk h1
  have HS1 := Aside0.mk hs1
  have HMG := Aside0.mk hmg
  clear h1 hs1 hmg
  cases hb1 : smallB l
  · have HS := Aside0.mk hb1
    clear hb1
    go_enter Tryd.func9, Tryd.ntmps9
    go_wp2_with (first | (go_at_call 12; refine (awake55 _ HMG.out).mono ?_; rintro e w1 ⟨rfl, hb⟩; have HB1 := Aside0.mk hb; clear hb) | (go_at_call 16; refine (small_any A l c1 false HS.out 0 rfl _ (Kd.C_below H1.out HB1.out) HS1.out).mono ?_; rintro e w2 ⟨rfl, hb⟩; have HB2 := Aside0.mk (below_step HB1.out hb); clear hb))
    go_ret
    exact ⟨rfl, HB2.out⟩
  · have HSA := Aside0.mk hb1
    obtain ⟨E, hEe⟩ : ∃ E, makeE l = E := ⟨_, rfl⟩
    have HEE := Aside0.mk hEe
    by_cases hE0 : E = 0
    · subst hE0
      have hsm := small_mild hb1
      have hl12 := hsm.1
      have HDA : Aside0 (∀ k, k < l.length → (gt l k).data.length ≤ 1000000) := ⟨fun k hk => by have := (hsm.2 k hk).2; omega⟩
      obtain ⟨m, hm⟩ : ∃ m, (thiefD vol l).length = m := ⟨_, rfl⟩
      have hm1 := thiefD_le vol l hl12
      rw [hm] at hm1
      have HM := Aside0.mk hm
      have HOK : Aside0 (∀ k, k < m → okD vol (gt (thiefD vol l) k)) := ⟨fun k hk => okAll_at (okAll_thief vol l) k (by rw [hm]; exact hk)⟩
      have HTL := Aside0.mk (thief_last vol l hEe)
      clear hb1 hsm hm hEe
      go_enter Tryd.func9, Tryd.ntmps9
      go_wp2_with (first | (go_at_call 12; refine (awake55 _ HMG.out).mono ?_; rintro e w1 ⟨rfl, hb⟩; have HB1 := Aside0.mk hb; clear hb) | (go_at_call 16; refine (small_any A l c1 true HSA.out 1 rfl _ (Kd.C_below H1.out HB1.out) HS1.out).mono ?_; rintro e w2 ⟨rfl, hb⟩; have HB2 := Aside0.mk (below_step HB1.out hb); clear hb) | (go_at_call 25; refine (refCheck_any A l c1 0 HEE.out _ (Kd.C_below H1.out HB2.out) HS1.out).mono ?_; rintro e w3 ⟨rfl, hb⟩; have HB3 := Aside0.mk (below_step HB2.out hb); clear hb) | (go_at_call 17; refine (files_any A l c1 _ (Kd.C_below H1.out HB3.out) (by omega) HDA.out).mono ?_; rintro e w4 ⟨Ap, cp, rfl, ho, hb⟩; have HC4 := Aside0.mk (Kd.R_reads' ho).2; have HB4 := Aside0.mk (below_step HB3.out hb); clear ho hb) | (go_at_call 21; refine (thief_as Ap l l.length rfl cp vol _ HC4.out.2 HC4.out.1 HS1.out (Kd.C_below HMG.out HB4.out) m HM.out).mono ?_; rintro e w5 ⟨A5, c5, rfl, ho, hb⟩; have hC := (Kd.R_reads' ho).2.2; rw [HM.out] at hC; have HC5 := Aside0.mk hC; have HB5 := Aside0.mk (below_step HB4.out hb); clear ho hb hC) | (go_at_call 26; refine (disk55 A5 m c5 (thiefD vol l) HM.out vol _ HC5.out HOK.out hm1).mono ?_; rintro e w6 ⟨mb, rfl, hmb, hd, hb⟩; have HD6 := Aside0.mk hd; have HB6 := Aside0.mk (below_step HB5.out hb); clear hmb hd hb) | (go_at_call 27; refine (lread_any [] nil_E 0 rfl mb _ _ _ HD6.out (dsk_32 HD6.out (okAll_thief vol l)) HTL.out (Kd.C_below HMG.out HB6.out)).mono ?_; rintro e w7 ⟨A7, c7, rfl, hC, hb⟩; have HB7 := Aside0.mk (below_step HB6.out hb); clear hC hb))
      go_ret
      exact ⟨rfl, HB7.out⟩
    · have hE' : (E != 0) = true := by simpa using hE0
      clear hb1 hEe
      go_enter Tryd.func9, Tryd.ntmps9
      go_wp2_with (first | (go_at_call 12; refine (awake55 _ HMG.out).mono ?_; rintro e w1 ⟨rfl, hb⟩; have HB1 := Aside0.mk hb; clear hb) | (go_at_call 16; refine (small_any A l c1 true HSA.out 1 rfl _ (Kd.C_below H1.out HB1.out) HS1.out).mono ?_; rintro e w2 ⟨rfl, hb⟩; have HB2 := Aside0.mk (below_step HB1.out hb); clear hb) | (go_at_call 25; refine (refCheck_any A l c1 E HEE.out _ (Kd.C_below H1.out HB2.out) HS1.out).mono ?_; rintro e w3 ⟨rfl, hb⟩; have HB3 := Aside0.mk (below_step HB2.out hb); clear hb))
      go_ret
      exact ⟨rfl, HB3.out⟩
end Go.Proofs.YtdobjbdkfammbaaDoor
/-
  AttackRenames, walked: it returns true.
-/
namespace Go.Proofs.YtdobjbdkfammbaaDoor
open Go.RowKit Go.Shelf Go.Proofs.YtdobjbdkfammbaaDoorW.PrintWords Go.Proofs.YtdobjbdkfammbaaDoorW.PrintLast Go.Proofs.YtdobjbdkfammbaaDoorW.PrintMore
set_option linter.unusedVariables false
set_option linter.unusedSimpArgs false

theorem rename_last (vol : Int) (sx : ByteArray) (l : List File) (hE : ∀ k, k ≤ l.length → makeE (mapTo (renF sx) l k) = 0) : ∀ i, i < (makeV (mapTo (renF sx) l l.length)).length → dskF (renameD vol sx l) i = some (gt (makeV (mapTo (renF sx) l l.length)) i) := by
  unfold renameD
  have h0 := hE 0 (Nat.zero_le _)
  rw [mapTo_zero] at h0
  rw [if_pos h0]
  refine host_last vol l _ _ (fun h => by rw [h, mapTo_zero]) (fun k hk => ⟨[], makeV (mapTo (renF sx) l (k + 1)), ?_, fun i hi => ?_⟩)
  · unfold renD diskD
    rw [if_pos (hE (k + 1) (by omega)), List.nil_append]
  · rw [hk] at hi ⊢
    exact ⟨hi, rfl⟩
theorem check_at55 (A : Option Addr) (L : List File) (n c : Nat) (hN : L.length = n) (r : Int) (hr : makeE L = r) (w : World) (h : kFile.C w A n L) (hs : ∀ k, k < L.length → (gt L k).name.size ≤ 9223372036854775807) :
    Calls Tryd.prog 25 #[.slice A n c] w fun e w' => e = .returned (.int .i64 r) ∧ Below w.heap.size w w' := by
  subst hN
  exact refCheck_any A L c r hr w h hs
theorem files_at55 (A : Option Addr) (L : List File) (n c : Nat) (hN : L.length = n) (w : World) (h : kFile.C w A n L) (hl : n ≤ 1000000) (hd : ∀ k, k < L.length → (gt L k).data.length ≤ 1000000) :
    Calls Tryd.prog 17 #[.slice A n c] w fun e w' => ∃ Ap cp, e = .returned (.slice Ap n cp) ∧ n ≤ cp ∧ kFile.C w' Ap n L ∧ Below w.heap.size w w' := by
  subst hN
  refine (files_any A L c w h hl hd).mono ?_
  rintro e w' ⟨Ap, cp, rfl, ho, hb⟩
  obtain ⟨_, h1, h2⟩ := Kd.R_reads' ho
  exact ⟨Ap, cp, rfl, h1, h2, hb⟩
theorem same_at55 (A B : Option Addr) (L : List File) (n c1 c2 : Nat) (hN : L.length = n) (w : World) (h1 : kFile.C w A n L) (h2 : kFile.C w B n L) :
    Calls Tryd.prog 20 #[.slice A n c1, .slice B n c2] w fun e w' => e = .returned (.bool true) ∧ Below w.heap.size w w' := by
  subst hN
  exact same_any A B L L c1 c2 true (sameB_refl L) w h1 h2
theorem mapTo_data (f : File → File) (hf : ∀ x, (f x).data = x.data) (l : List File) (N : Nat) (hs : ∀ k, k < l.length → (gt l k).data.length ≤ N) (i : Nat) : ∀ k, k < (mapTo f l i).length → (gt (mapTo f l i) k).data.length ≤ N := fun k hk => by
  rw [mapTo_len] at hk
  rw [mapTo_at f l i k hk]
  split
  · rw [hf]; exact hs k hk
  · exact hs k hk
set_option maxRecDepth 4000 in
set_option maxHeartbeats 6400000 in
theorem law_arenames (A : Option Addr) (l : List File) (c1 : Nat) (hc : l.length ≤ c1) (vol : Int) (sx : ByteArray) (hsx : sx.size ≤ 9223372036854775807) (w : World) (h1 : kFile.C w A l.length l) (hs1 : ∀ k, k < l.length → (gt l k).name.size ≤ 9223372036854775807) (hmg : MagicAt w) :
    Calls Tryd.prog 10 #[.slice A l.length c1, .int .i64 vol, .string sx] w fun e w' => e = .returned (.bool true) ∧ Below w.heap.size w w' := by
  have H1 := Aside0.mk h1
  have HS1 := Aside0.mk hs1
  have HMG := Aside0.mk hmg
  clear h1 hs1 hmg
  cases hb1 : smallB l
  · have HS := Aside0.mk hb1
    clear hb1
    go_enter Tryd.func10, Tryd.ntmps10
    go_wp2_with (first | (go_at_call 12; refine (awake55 _ HMG.out).mono ?_; rintro e w1 ⟨rfl, hb⟩; have HB1 := Aside0.mk hb; clear hb) | (go_at_call 16; refine (small_any A l c1 false HS.out 0 rfl _ (Kd.C_below H1.out HB1.out) HS1.out).mono ?_; rintro e w2 ⟨rfl, hb⟩; have HB2 := Aside0.mk (below_step HB1.out hb); clear hb))
    go_ret
    exact ⟨rfl, HB2.out⟩
  · have HSA := Aside0.mk hb1
    by_cases hbig : 20 < sx.size
    · have hbig' : (20 : Int) < (sx.size : Int) := by omega
      clear hb1
      go_enter Tryd.func10, Tryd.ntmps10
      go_wp2_with (first | (go_at_call 12; refine (awake55 _ HMG.out).mono ?_; rintro e w1 ⟨rfl, hb⟩; have HB1 := Aside0.mk hb; clear hb) | (go_at_call 16; refine (small_any A l c1 true HSA.out 1 rfl _ (Kd.C_below H1.out HB1.out) HS1.out).mono ?_; rintro e w2 ⟨rfl, hb⟩; have HB2 := Aside0.mk (below_step HB1.out hb); clear hb))
      go_ret
      exact ⟨rfl, HB2.out⟩
    · have hbig' : ¬ (20 : Int) < (sx.size : Int) := by omega
      obtain ⟨E, hEe⟩ : ∃ E, makeE l = E := ⟨_, rfl⟩
      have HEE := Aside0.mk hEe
      by_cases hE0 : E = 0
      · subst hE0
        have hsm := small_mild hb1
        have hl12 := hsm.1
        have HSN : Aside0 (∀ k, k < l.length → (gt l k).name.size ≤ 1000) := ⟨fun k hk => by have := (hsm.2 k hk).1; omega⟩
        have HDA : Aside0 (∀ k, k < l.length → (gt l k).data.length ≤ 1000000) := ⟨fun k hk => by have := (hsm.2 k hk).2; omega⟩
        have hsx1 : sx.size ≤ 1000 := by omega
        obtain ⟨m, hm⟩ : ∃ m, (renameD vol sx l).length = m := ⟨_, rfl⟩
        have hm1 := renameD_le vol sx l hl12
        rw [hm] at hm1
        have HM := Aside0.mk hm
        have HOK : Aside0 (∀ k, k < m → okD vol (gt (renameD vol sx l) k)) := ⟨fun k hk => okAll_at (okAll_rename vol sx l) k (by rw [hm]; exact hk)⟩
        clear hb1 hsm hm hEe
        go_enter Tryd.func10, Tryd.ntmps10
        go_upto_region 6 with (first | (go_at_call 12; refine (awake55 _ HMG.out).mono ?_; rintro e w1 ⟨rfl, hb⟩; have HB1 := Aside0.mk hb; clear hb) | (go_at_call 16; refine (small_any A l c1 true HSA.out 1 rfl _ (Kd.C_below H1.out HB1.out) HS1.out).mono ?_; rintro e w2 ⟨rfl, hb⟩; have HB2 := Aside0.mk (below_step HB1.out hb); clear hb) | (go_at_call 25; refine (refCheck_any A l c1 0 HEE.out _ (Kd.C_below H1.out HB2.out) HS1.out).mono ?_; rintro e w3 ⟨rfl, hb⟩; have HB3 := Aside0.mk (below_step HB2.out hb); clear hb) | ((with_reducible refine gate_builtin (b := .append) (xs := #[.tmp 28, .tmp 29]) rfl ?_); at_builtin; refine Kd.R_append_rows (kFileX w) (Rr := kFile.K w) (w0 := w) w.heap.size rfl (.tmp 28) (.tmp 29) 41 64 (.agg #[.string ByteArray.empty, .slice none 0 0]) 40 rfl Tryd.underlying41 info_rfile55 rfl (Nat.succ_pos _) (by omega) (.slice (some ⟨w3.heap.size, 0, none⟩) 0 0) [] l A l.length c1 (fun _ => True) (fun _ => False) rfl rfl (lit_files w3 w w.heap.size HB3.out.size) (ReadsRow.imp_ H1.out (below_alloc HB3.out _) (fun _ _ hp => hp)) (fun _ _ hx => kFileX_came hx) (fun _ hk => hk.elim) (fun _ _ => trivial) (below_alloc HB3.out _) (below_alloc HB3.out _).size (by simp; omega) ?_; intro v4 w4 ho hb hg hat; rw [List.nil_append] at ho; obtain ⟨A4, c4, rfl⟩ := Kd.R_slice ho; have HX4 := Aside0.mk ho; have HB4 := Aside0.mk hb; clear ho hb hg hat))
        have HX0 : Aside0 ((kFileX w).R 64 w4 w.heap.size (fun _ => True) (.slice A4 l.length c4) (mapTo (renF sx) l 0)) := ⟨by rw [mapTo_zero]; exact HX4.out⟩
        go_wp2_with fail
        go_loopg [33, 8] l.length (fun gk i _ wr => ∃ k : Nat, k ≤ l.length ∧ Aside0 (gk = l.length - k) ∧ i = .int .i64 k ∧ Aside0 (∀ j, j ≤ k → makeE (mapTo (renF sx) l j) = 0) ∧ Aside0 ((kFileX w).R 64 wr w.heap.size (fun _ => True) (.slice A4 l.length c4) (mapTo (renF sx) l k)) ∧ Aside0 (Below w.heap.size w wr))
        case atStart => exact ⟨0, Nat.zero_le _, ⟨rfl⟩, rfl, ⟨fun j hj => by rw [Nat.le_zero.1 hj, mapTo_zero]; exact HEE.out⟩, HX0, HB4⟩
        case round =>
          obtain ⟨k, hk, HGK, rfl, HEK, HX, HB⟩ := hrel
          obtain ⟨V, rfl⟩ : ∃ V, V = wr := ⟨_, rfl⟩
          by_cases hlt : k < l.length
          · have hkn : (k : Int) < (l.length : Int) := by omega
            obtain ⟨g, cap, he, hg1, hg2, cells, hcc⟩ := Kd.R_form HX.out (by rw [mapTo_len]; omega)
            injection he with he1 he2 he3
            subst he1 he3
            clear he2
            obtain ⟨A1, d1, q0, q1, hd1, hC1⟩ := fileE_at HB.out HX.out hlt
            have hgi : gt (mapTo (renF sx) l k) k = gt l k := by rw [mapTo_at _ l k k hlt, if_neg (by omega)]
            rw [hgi] at q0
            have q6 := blk_frozen hcc (k * 2)
            have hn0 := HSN.out k hlt
            obtain ⟨nm, hnm⟩ : ∃ nm, nm = (gt l k).name := ⟨_, rfl⟩
            rw [← hnm] at q0 hn0
            have HNM := Aside0.mk hnm
            clear hcc hC1 hd1 q1 hnm hgi
            go_upto_region 10 with fail
            obtain ⟨V6, hV6⟩ : ∃ V6, V.setCell ⟨g, k * 2, none⟩ (.string (nm ++ sx)) = V6 := ⟨_, rfl⟩
            have HB6 : Aside0 (Below w.heap.size w V6) := ⟨by rw [← hV6]; exact HB.out.setCell (p := ⟨g, k * 2, none⟩) hg1 _⟩
            have HX6 : Aside0 ((kFileX w).R 64 V6 w.heap.size (fun _ => True) (.slice (some ⟨g, 0, none⟩) l.length c4) (mapTo (renF sx) l (k + 1))) := ⟨by
              have hp := nameX_put HX.out hlt (nm ++ sx)
              have hset := mapTo_set (renF sx) l k hlt
              have hgi : gt (mapTo (renF sx) l k) k = gt l k := by rw [mapTo_at _ l k k hlt, if_neg (by omega)]
              rw [hgi] at hp
              have hrn : renF sx (gt l k) = ⟨nm ++ sx, (gt l k).data⟩ := by rw [HNM.out]; rfl
              rw [hrn] at hset
              rw [← hV6, ← hset]
              exact hp⟩
            rw [hV6]
            clear hV6 q0 q6
            obtain ⟨L2, hL2⟩ : ∃ L2, L2 = mapTo (renF sx) l (k + 1) := ⟨_, rfl⟩
            have HLE := Aside0.mk hL2
            have HL2 : Aside0 (L2.length = l.length) := ⟨by rw [hL2, mapTo_len]⟩
            have HNS : Aside0 (∀ j, j < L2.length → (gt L2 j).name.size ≤ 9223372036854775807) := ⟨fun j hj => by rw [hL2] at hj ⊢; have := mapTo_name (renF sx) (renF_size sx hsx1) l HSN.out (k + 1) j hj; omega⟩
            rw [← hL2] at HX6
            clear hL2
            obtain ⟨E2, hE2⟩ : ∃ E2, makeE L2 = E2 := ⟨_, rfl⟩
            have HE2 := Aside0.mk hE2
            clear hE2
            by_cases e2 : E2 = 0
            · have HE3 : Aside0 (∀ j, j ≤ k + 1 → makeE (mapTo (renF sx) l j) = 0) := ⟨fun j hj => by
                by_cases hjk : j ≤ k
                · exact HEK.out j hjk
                · have : j = k + 1 := by omega
                  rw [this, ← HLE.out, HE2.out, e2]⟩
              subst e2
              go_wp2_with (go_at_call 25; refine (check_at55 (some ⟨g, 0, none⟩) L2 l.length c4 HL2.out 0 HE2.out _ (HL2.out ▸ fileX_read HB6.out (Kd.R_reads' HX6.out).2.2) HNS.out).mono ?_; rintro e w8 ⟨rfl, hb⟩; have HB8 := Aside0.mk (below_step HB6.out hb); have HX8 := Aside0.mk (Kd.R_below HX6.out hb); clear hb)
              go_roundg (l.length - (k + 1))
              case measure => have := HGK.out; omega
              case rel => exact ⟨k + 1, by omega, ⟨rfl⟩, by go_num, HE3, ⟨by rw [← HLE.out]; exact HX8.out⟩, HB8⟩
            · have hE' : (E2 != 0) = true := by simpa using e2
              go_wp2_with (go_at_call 25; refine (check_at55 (some ⟨g, 0, none⟩) L2 l.length c4 HL2.out E2 HE2.out _ (HL2.out ▸ fileX_read HB6.out (Kd.R_reads' HX6.out).2.2) HNS.out).mono ?_; rintro e w8 ⟨rfl, hb⟩; have HB8 := Aside0.mk (below_step HB6.out hb); clear hb)
              go_ret
              exact ⟨rfl, HB8.out⟩
          · have hkn : ¬ (k : Int) < (l.length : Int) := by omega
            obtain rfl : k = l.length := by omega
            obtain ⟨L, hL⟩ : ∃ L, L = mapTo (renF sx) l l.length := ⟨_, rfl⟩
            have HLN : Aside0 (L.length = l.length) := ⟨by rw [hL, mapTo_len]⟩
            have HRL : Aside0 (∀ i, i < (makeV L).length → dskF (renameD vol sx l) i = some (gt (makeV L) i)) := ⟨by rw [hL]; exact rename_last vol sx l HEK.out⟩
            have HEL : Aside0 (makeE L = 0) := ⟨by rw [hL]; exact HEK.out _ (Nat.le_refl _)⟩
            have HDL : Aside0 (∀ k, k < L.length → (gt L k).data.length ≤ 1000000) := ⟨by rw [hL]; exact mapTo_data (renF sx) (fun _ => rfl) l _ HDA.out l.length⟩
            have HCL : Aside0 (kFile.C V A4 l.length L) := ⟨by have := fileX_read HB.out (Kd.R_reads' HX.out).2.2; rw [mapTo_len] at this; rw [hL]; exact this⟩
            clear hL
            go_wp2_with (first | (go_at_call_of 17 (Value.slice A l.length c1); refine (files_at55 A l l.length c1 rfl V (Kd.C_below H1.out HB.out) (by omega) HDA.out).mono ?_; rintro e w5 ⟨Ap, cp, rfl, hcp, hC, hb⟩; have HC5 := Aside0.mk (And.intro hcp hC); have HB5a := Aside0.mk hb; have HB5 := Aside0.mk (below_step HB.out hb); clear hcp hC hb) | (go_at_call 23; refine (rename_as Ap l l.length rfl cp vol sx hsx1 _ HC5.out.2 HC5.out.1 (by omega) HS1.out (Kd.C_below HMG.out HB5.out) m HM.out).mono ?_; rintro e w6 ⟨A6, c6, rfl, ho, hb⟩; have hC := (Kd.R_reads' ho).2.2; rw [HM.out] at hC; have HC6 := Aside0.mk hC; have HB6a := Aside0.mk (below_step HB5a.out hb); have HB6 := Aside0.mk (below_step HB5.out hb); clear ho hb hC) | (go_at_call 26; refine (disk55 A6 m c6 (renameD vol sx l) HM.out vol _ HC6.out HOK.out hm1).mono ?_; rintro e w7 ⟨mb, rfl, hmb, hd, hb⟩; have HD7 := Aside0.mk hd; have HB7a := Aside0.mk (below_step HB6a.out hb); have HB7 := Aside0.mk (below_step HB6.out hb); clear hmb hd hb) | (go_at_call 27; refine (lread_any L HEL.out l.length HLN.out mb _ _ _ HD7.out (dsk_32 HD7.out (okAll_rename vol sx l)) HRL.out (Kd.C_below HMG.out HB7.out)).mono ?_; rintro e w8 ⟨A8, c8, rfl, hC, hb⟩; have HC8 := Aside0.mk hC; have HB8a := Aside0.mk (below_step HB7a.out hb); have HB8 := Aside0.mk (below_step HB7.out hb); clear hC hb) | (go_at_call_of 17 (Value.slice A4 l.length c4); refine (files_at55 A4 L l.length c4 HLN.out w8 (Kd.C_below HCL.out HB8a.out) (by omega) HDL.out).mono ?_; rintro e w9 ⟨Aq, cq, rfl, hcq, hC, hb⟩; have HC9 := Aside0.mk hC; have HC8b := Aside0.mk (Kd.C_below HC8.out hb); have HB9 := Aside0.mk (below_step HB8.out hb); clear hcq hC hb) | (go_at_call 20; refine (same_at55 A8 Aq L l.length c8 cq HLN.out _ HC8b.out HC9.out).mono ?_; rintro e w10 ⟨rfl, hb⟩; have HB10 := Aside0.mk (below_step HB9.out hb); clear hb))
            go_ret
            exact ⟨rfl, HB10.out⟩
      · have hE' : (E != 0) = true := by simpa using hE0
        clear hb1 hEe
        go_enter Tryd.func10, Tryd.ntmps10
        go_wp2_with (first | (go_at_call 12; refine (awake55 _ HMG.out).mono ?_; rintro e w1 ⟨rfl, hb⟩; have HB1 := Aside0.mk hb; clear hb) | (go_at_call 16; refine (small_any A l c1 true HSA.out 1 rfl _ (Kd.C_below H1.out HB1.out) HS1.out).mono ?_; rintro e w2 ⟨rfl, hb⟩; have HB2 := Aside0.mk (below_step HB1.out hb); clear hb) | (go_at_call 25; refine (refCheck_any A l c1 E HEE.out _ (Kd.C_below H1.out HB2.out) HS1.out).mono ?_; rintro e w3 ⟨rfl, hb⟩; have HB3 := Aside0.mk (below_step HB2.out hb); clear hb))
        go_ret
        exact ⟨rfl, HB3.out⟩
end Go.Proofs.YtdobjbdkfammbaaDoor
/-
  AttackLocks, walked: it returns true.
-/
namespace Go.Proofs.YtdobjbdkfammbaaDoor
open Go.RowKit Go.Shelf Go.Proofs.YtdobjbdkfammbaaDoorW.PrintWords Go.Proofs.YtdobjbdkfammbaaDoorW.PrintLast Go.Proofs.YtdobjbdkfammbaaDoorW.PrintMore
set_option linter.unusedVariables false
set_option linter.unusedSimpArgs false

/-- Files that are locked may stand together as they did. -/
theorem lock_E {l : List File} (h : makeE l = 0) (key : UInt8) (k : Nat) : makeE (mapTo (lockF key) l k) = 0 := by
  obtain ⟨h8, ht, _⟩ := makeV_le l h
  obtain ⟨_, hd⟩ := tog_le l h
  have hl := mapTo_len (lockF key) l k
  have hlen : ∀ j, j < l.length → (gt (mapTo (lockF key) l k) j).data.length = (gt l j).data.length := fun j hj => by
    rw [mapTo_at _ l k j hj]
    split
    · exact lockB_len _ _
    · rfl
  have : togB l = togB (mapTo (lockF key) l k) := tog_face hl.symm (fun j hj => by
    rw [mapTo_at _ l k j hj]
    split <;> rfl) hd (fun j hj => by rw [hlen j hj]; exact hd j hj)
  unfold makeE
  rw [if_neg (by omega), if_pos (by rw [← this]; exact ht)]
theorem ransom_last (vol : Int) (key : UInt8) (each : Int) (l : List File) (hE : makeE l = 0) : ∀ i, i < (makeV (mapTo (lockF key) l l.length)).length → dskF (ransomD vol key each l) i = some (gt (makeV (mapTo (lockF key) l l.length)) i) := by
  unfold ransomD
  rw [if_pos hE]
  refine host_last vol l _ _ (fun h => by rw [h, mapTo_zero]) (fun k hk => ⟨waitD each, makeV (mapTo (lockF key) l (k + 1)), ?_, fun i hi => ?_⟩)
  · unfold ranD diskD
    rw [if_pos (lock_E hE key (k + 1))]
  · rw [hk] at hi ⊢
    exact ⟨hi, rfl⟩
/-- The minutes that some deeds wait. -/
def minS (ds : List Dd) : Int := (ds.map (·.min)).sum
theorem minS_append (xs ys : List Dd) : minS (xs ++ ys) = minS xs + minS ys := by
  unfold minS
  rw [List.map_append, List.sum_append]
theorem minS_rows (vol : Int) (B : List (List UInt8)) : minS (rowsD vol B) = 0 := by
  unfold minS rowsD
  rw [List.map_map]
  have : ((fun x : Dd => x.min) ∘ fun c => (⟨1, c, 0⟩ : Dd)) = fun _ => 0 := rfl
  rw [this]
  generalize cut8 (wrs vol B) = L
  induction L with
  | nil => rfl
  | cons x xs ih => rw [List.map_cons, List.sum_cons, ih]; rfl
theorem minS_disk (vol : Int) (l : List File) : minS (diskD vol l) = 0 := by
  unfold diskD
  split
  · exact minS_rows _ _
  · rfl
theorem minS_ransom (vol : Int) (key each : UInt8) (l : List File) (hE : makeE l = 0) : minS (ransomD vol key (each.toNat : Int) l) = (each.toNat : Int) * (l.length : Int) := by
  unfold ransomD
  rw [if_pos hE]
  have hD : ∀ k, minS (ranD vol key (each.toNat : Int) l k) = (each.toNat : Int) := fun k => by
    unfold ranD
    rw [minS_append, minS_disk]
    unfold waitD
    split
    · simp [minS]
    · next h => simp [minS]; omega
  have : ∀ n, minS (hostD vol l (ranD vol key (each.toNat : Int) l) n) = (each.toNat : Int) * (n : Int) := fun n => by
    induction n with
    | zero =>
      have : hostD vol l (ranD vol key (each.toNat : Int) l) 0 = rowsD vol (makeV l) := by simp [hostD]
      rw [this, minS_rows]
      simp
    | succ n ih =>
      rw [hostD_succ, minS_append, ih, hD n]
      simp [Int.mul_add]
  exact this l.length
theorem mins_le (vol : Int) (key each : UInt8) (l : List File) : ∀ d, d ∈ ransomD vol key (each.toNat : Int) l → 0 ≤ d.min ∧ d.min ≤ 255 := by
  have h8 := each.toNat_lt
  have hr : ∀ B d, d ∈ rowsD vol B → 0 ≤ d.min ∧ d.min ≤ 255 := fun B d hd => by
    unfold rowsD at hd
    simp only [List.mem_map] at hd
    obtain ⟨c, _, rfl⟩ := hd
    exact ⟨Int.le_refl 0, by show (0 : Int) ≤ 255; omega⟩
  intro d hd
  unfold ransomD at hd
  split at hd
  · unfold hostD at hd
    rcases List.mem_append.1 hd with hd | hd
    · exact hr _ d hd
    · simp only [List.mem_flatten, List.mem_map, List.mem_range] at hd
      obtain ⟨_, ⟨k, _, rfl⟩, hd⟩ := hd
      unfold ranD at hd
      rcases List.mem_append.1 hd with hd | hd
      · unfold waitD at hd
        split at hd
        · simp only [List.mem_singleton] at hd
          subst hd
          exact ⟨by show (0 : Int) ≤ (each.toNat : Int); omega, by show (each.toNat : Int) ≤ 255; omega⟩
        · simp at hd
      · unfold diskD at hd
        split at hd
        · exact hr _ d hd
        · simp at hd
  · simp at hd
theorem minS_take (ds : List Dd) (hd : ∀ d, d ∈ ds → 0 ≤ d.min ∧ d.min ≤ 255) (k : Nat) (hk : k ≤ ds.length) : 0 ≤ minS (ds.take k) ∧ minS (ds.take k) ≤ 255 * (k : Int) := by
  induction k with
  | zero => simp [minS]
  | succ k ih =>
    have h1 := ih (by omega)
    rw [List.take_add_one, gt_some ds k (by omega), minS_append]
    have h2 := hd (gt ds k) (by rw [gt_eq ds k (by omega)]; exact List.getElem_mem _)
    have : minS (some (gt ds k)).toList = (gt ds k).min := by simp [minS]
    rw [this]
    omega
theorem minS_succ (ds : List Dd) (k : Nat) (hk : k < ds.length) : minS (ds.take (k + 1)) = minS (ds.take k) + (gt ds k).min := by
  rw [List.take_add_one, gt_some ds k hk, minS_append]
  simp [minS]
theorem lock_back (x c : UInt8) : (x ^^^ c) ^^^ c = x := by
  rw [UInt8.xor_assoc, UInt8.xor_self, UInt8.xor_zero]
end Go.Proofs.YtdobjbdkfammbaaDoor
/-
  Chapter 55, AttackSeen: plain parts.
-/
namespace Go.Proofs.YtdobjbdkfammbaaDoor
open Go.RowKit Go.Shelf Go.Proofs.YtdobjbdkfammbaaDoorW.PrintWords Go.Proofs.YtdobjbdkfammbaaDoorW.PrintLast Go.Proofs.YtdobjbdkfammbaaDoorW.PrintMore
set_option linter.unusedVariables false
set_option linter.unusedSimpArgs false

/-! ### how many different bytes -/
theorem spread_const (d : UInt8) (n : Nat) : spreadN (List.replicate n d) ≤ 1 :=
  nodup_len _ [d] (nodup_dis _) (fun x hx => by
    rw [mem_dis, List.mem_replicate] at hx
    simp [hx.2])
theorem spread_nodup {xs : List UInt8} (h : xs.Nodup) : spreadN xs = xs.length :=
  Nat.le_antisymm (spread_le xs) (nodup_len xs (dis xs) h (fun x hx => (mem_dis xs x).2 hx))
theorem wild_const (d : UInt8) (n : Nat) : wildB (List.replicate n d) = false := by
  have h := spread_const d n
  unfold wildB
  rw [List.length_replicate]
  by_cases hn : 16 ≤ n
  · rw [decide_eq_false (p := 3 * min n 64 ≤ 4 * spreadN (List.replicate n d)) (by omega), Bool.and_false]
  · rw [decide_eq_false hn, Bool.false_and]
theorem lock_nodup (key d : UInt8) (n : Nat) (hn : n ≤ 256) : (lockB key (List.replicate n d)).Nodup := by
  unfold lockB
  rw [List.length_replicate]
  unfold List.Nodup
  rw [List.pairwise_map]
  refine List.Pairwise.imp_of_mem ?_ List.pairwise_lt_range
  intro i j hi hj hij he
  rw [List.mem_range] at hi hj
  unfold lockAt at he
  rw [gt_eq _ i (by rw [List.length_replicate]; exact hi), gt_eq _ j (by rw [List.length_replicate]; exact hj), List.getElem_replicate, List.getElem_replicate] at he
  have h1 : key + UInt8.ofNat (37 * i) = key + UInt8.ofNat (37 * j) := by
    have h2 : d ^^^ (d ^^^ (key + UInt8.ofNat (37 * i))) = d ^^^ (d ^^^ (key + UInt8.ofNat (37 * j))) := by rw [he]
    rwa [← UInt8.xor_assoc, ← UInt8.xor_assoc, UInt8.xor_self, UInt8.zero_xor, UInt8.zero_xor] at h2
  have h3 := congrArg UInt8.toNat h1
  rw [UInt8.toNat_add, UInt8.toNat_add, UInt8.toNat_ofNat', UInt8.toNat_ofNat'] at h3
  omega
theorem wild_lock (key d : UInt8) (n : Nat) (h1 : 16 ≤ n) (h2 : n ≤ 256) : wildB (lockB key (List.replicate n d)) = true := by
  have h := spread_nodup (lock_nodup key d n h2)
  rw [lockB_len, List.length_replicate] at h
  unfold wildB
  rw [lockB_len, List.length_replicate, h, decide_eq_true h1, decide_eq_true (by omega)]
  rfl
/-! ### files that may stand together are found by their names -/
theorem togTo_le55 {l : List File} {k : Nat} (h : togB l = true) (hk : k ≤ l.length) : togTo l k = true := by
  cases ht : togTo l k
  · rcases Nat.eq_or_lt_of_le hk with e | hlt
    · rw [e] at ht
      unfold togB at h
      rw [ht] at h
      exact h
    · cases k with
      | zero => cases ht
      | succ k =>
        have := togTo_false ht l.length (by omega)
        unfold togB at h
        rw [this] at h
        exact h
  · rfl
theorem tog_apart55 {l : List File} (h : togB l = true) {i j : Nat} (hj : j < i) (hi : i < l.length) : nmL (gt l j) ≠ nmL (gt l i) := by
  have h1 := togTo_le55 (k := i + 1) h (by omega)
  unfold togTo at h1
  simp only [Bool.and_eq_true, Bool.not_eq_true', decide_eq_false_iff_not] at h1
  intro he
  apply h1.2.2
  rw [List.mem_reverse, List.mem_map]
  refine ⟨gt l j, ?_, he⟩
  rw [gt_eq l j (by omega)]
  have : (l.take i)[j]'(by rw [List.length_take]; omega) = l[j]'(by omega) := List.getElem_take
  rw [← this]
  exact List.getElem_mem _
theorem look_self55 {l : List File} (h : togB l = true) (i : Nat) (hi : i < l.length) : look49 l (gt l i).name = some (gt l i) := by
  unfold look49
  rw [List.find?_eq_some_iff_getElem]
  refine ⟨by simp, i, hi, (gt_eq l i hi).symm, fun j hj => ?_⟩
  rw [← gt_eq l j (by omega), Bool.not_eq_true', beq_eq_false_iff_ne, ByteArray.toList_eq, ByteArray.toList_eq]
  exact tog_apart55 h hj hi
/-! ### the files of the law -/
def nameI (i : Nat) : ByteArray := ⟨#[102, UInt8.ofNat (97 + i)]⟩
def lenI (long : List UInt8) (i : Nat) : Nat := 16 + (gt long i).toNat % 64
def seenF (long : List UInt8) (d : UInt8) (i : Nat) : File := ⟨nameI i, List.replicate (lenI long i) d⟩
def seenL (long : List UInt8) (d : UInt8) (k : Nat) : List File := (List.range k).map (seenF long d)
theorem seenL_succ (long : List UInt8) (d : UInt8) (k : Nat) : seenL long d (k + 1) = seenL long d k ++ [seenF long d k] := by
  unfold seenL
  rw [List.range_succ, List.map_append]
  rfl
theorem seenL_len (long : List UInt8) (d : UInt8) (k : Nat) : (seenL long d k).length = k := by simp [seenL]
theorem seenL_gt (long : List UInt8) (d : UInt8) (n k : Nat) (hk : k < n) : gt (seenL long d n) k = seenF long d k := by
  rw [gt_eq _ k (by rw [seenL_len]; exact hk)]
  simp [seenL]
theorem lenI_le (long : List UInt8) (i : Nat) : 16 ≤ lenI long i ∧ lenI long i ≤ 79 := by
  unfold lenI
  omega
theorem nameI_named (i : Nat) (hi : i < 4) : namedB (nameI i) = true := by
  rcases (show i = 0 ∨ i = 1 ∨ i = 2 ∨ i = 3 by omega) with rfl | rfl | rfl | rfl <;> decide
theorem nameI_kind (i : Nat) (hi : i < 4) : kindOf (endB (nameI i)) = -1 := by
  rcases (show i = 0 ∨ i = 1 ∨ i = 2 ∨ i = 3 by omega) with rfl | rfl | rfl | rfl <;> decide
theorem nameI_apart (i j : Nat) (hi : i < 4) (hj : j < i) : (nameI j).data.toList ≠ (nameI i).data.toList := by
  unfold nameI
  simp
  intro h
  have := congrArg UInt8.toNat h
  rw [UInt8.toNat_ofNat', UInt8.toNat_ofNat'] at this
  omega
theorem seen_tog (long : List UInt8) (d : UInt8) (n : Nat) (hn : n ≤ 4) : togB (seenL long d n) = true := by
  have h : ∀ k, k ≤ n → togTo (seenL long d n) k = true := by
    intro k
    induction k with
    | zero => intro _; rfl
    | succ k ih =>
      intro hk
      unfold togTo
      rw [ih (by omega), seenL_gt long d n k (by omega)]
      have hr : rightB (seenF long d k) = true := by
        unfold rightB seenF
        rw [nameI_named k (by omega)]
        have := lenI_le long k
        simp
        omega
      rw [hr, Bool.true_and, Bool.true_and, Bool.not_eq_true', decide_eq_false_iff_not]
      intro hm
      rw [List.mem_reverse, List.mem_map] at hm
      obtain ⟨x, hx, he⟩ := hm
      obtain ⟨j, hj, e⟩ := List.getElem_of_mem hx
      rw [List.length_take, seenL_len] at hj
      rw [List.getElem_take, ← gt_eq _ j (by rw [seenL_len]; omega), seenL_gt long d n j (by omega)] at e
      rw [← e] at he
      exact nameI_apart k j (by omega) (by omega) he
  unfold togB
  rw [seenL_len]
  exact h n (Nat.le_refl _)
theorem seen_E (long : List UInt8) (d : UInt8) (n : Nat) (hn : n ≤ 4) : makeE (seenL long d n) = 0 := by
  unfold makeE
  rw [if_neg (by rw [seenL_len]; omega), if_pos (seen_tog long d n hn)]
/-! ### what is seen of them -/
/-- Files of the same names, of which none is renamed. -/
theorem ren_none {a b : List File} (hb : togB b = true) (hl : a.length = b.length) (hn : ∀ k, k < a.length → (gt a k).name = (gt b k).name) : renN a b = 0 := by
  have h : ∀ k, k ≤ a.length → renTo a b k = 0 := by
    intro k
    induction k with
    | zero => intro _; rfl
    | succ k ih =>
      intro hk
      unfold renTo
      rw [ih (by omega)]
      have : renOne a b (gt a k) = false := by
        unfold renOne
        rw [has_look, hn k (by omega), look_self55 hb k (by omega)]
        rfl
      rw [this]
      rfl
  exact h a.length (Nat.le_refl _)
theorem lk_seen {a b : List File} (ha : togB a = true) (hl : a.length = b.length) (hn : ∀ k, k < a.length → (gt a k).name = (gt b k).name) (hk : ∀ k, k < a.length → kindOf (endB (gt a k).name) = -1) (wa wb : Bool) (h1 : ∀ k, k < a.length → wildB (gt a k).data = false) (h2 : ∀ k, k < a.length → wildB (gt b k).data = wb) :
    ∀ k, k ≤ a.length → lkTo a b true k = ⟨false, if wb then k else 0, k⟩ := by
  intro k
  induction k with
  | zero => intro _; cases wb <;> rfl
  | succ k ih =>
    intro hk1
    rw [lk_succ a b true k (by omega), ih (by omega)]
    unfold lkStep
    rw [← hn k (by omega), look_self55 ha k (by omega)]
    show lkWith _ (gt a k) (gt b k) = _
    unfold lkWith
    have hs : stateB (gt b k) = 0 := by
      unfold stateB
      rw [if_pos (.inl (by rw [← hn k (by omega), hk k (by omega)]; omega))]
    rw [hs, h1 k (by omega), h2 k (by omega)]
    cases wb <;> simp
theorem look_seen {a b : List File} (ha : togB a = true) (hb : togB b = true) (hl : a.length = b.length) (hn : ∀ k, k < a.length → (gt a k).name = (gt b k).name) (hk : ∀ k, k < a.length → kindOf (endB (gt a k).name) = -1) (wb : Bool) (h1 : ∀ k, k < a.length → wildB (gt a k).data = false) (h2 : ∀ k, k < a.length → wildB (gt b k).data = wb) (hp : 1 ≤ a.length) :
    lookB a b true = ⟨false, wb, false⟩ := by
  unfold lookB
  rw [ren_none hb hl hn, ← hl, lk_seen ha hl hn hk false wb h1 h2 a.length (Nat.le_refl _)]
  have e1 : halfB 0 a.length 2 = false := by unfold halfB; simp
  have e2 : halfB (if wb = true then a.length else 0) a.length 1 = wb := by
    unfold halfB
    cases wb
    · simp
    · simp; omega
  simp only [e1, e2]
theorem ransom_first (vol : Int) (key : UInt8) (l : List File) (hE : makeE l = 0) (hl : 1 ≤ l.length) : ∃ rest, ransomD vol key 1 l = rowsD vol (makeV l) ++ ⟨2, [], 1⟩ :: rest := by
  unfold ransomD
  rw [if_pos hE]
  obtain ⟨n, hn⟩ : ∃ n, l.length = n + 1 := ⟨l.length - 1, by omega⟩
  rw [hn]
  unfold hostD
  rw [List.range_succ_eq_map, List.map_cons, List.flatten_cons]
  have : ranD vol key 1 l 0 = ⟨2, [], 1⟩ :: diskD vol (mapTo (lockF key) l 1) := rfl
  rw [this]
  exact ⟨_, rfl⟩
theorem rowsD_kind (vol : Int) (B : List (List UInt8)) : ∀ x, x ∈ rowsD vol B → x.kind = 1 := fun x hx => by
  unfold rowsD at hx
  simp only [List.mem_map] at hx
  obtain ⟨c, _, rfl⟩ := hx
  rfl
/-- The first deeds of a ransom: writes, and then one that waits. -/
theorem first_facts {vol : Int} {key : UInt8} {l : List File} {ds : List Dd} (h : ransomD vol key 1 l = ds) (hE : makeE l = 0) (hl : 1 ≤ l.length) : (rowsD vol (makeV l)).length < ds.length ∧ (∀ j, j < (rowsD vol (makeV l)).length → (gt ds j).kind = 1) ∧ (gt ds (rowsD vol (makeV l)).length).kind = 2 ∧ ds.take (rowsD vol (makeV l)).length = rowsD vol (makeV l) := by
  obtain ⟨rest, hr⟩ := ransom_first vol key l hE hl
  rw [h] at hr
  rw [hr]
  refine ⟨by simp, fun j hj => ?_, ?_, by simp⟩
  · rw [gt_eq _ j (by simp; omega), List.getElem_append_left hj]
    exact rowsD_kind vol (makeV l) _ (List.getElem_mem hj)
  · rw [gt_eq _ _ (by simp), List.getElem_append_right (Nat.le_refl _)]
    simp
theorem rows_shows (vol : Int) (l : List File) : ∀ i, i < (makeV l).length → dskF (rowsD vol (makeV l)) i = some (gt (makeV l) i) := fun i hi => dskF_rows vol [] (makeV l) i hi
theorem mild_of {l : List File} (h : makeE l = 0) : Mild l := by
  obtain ⟨h8, _⟩ := makeV_le l h
  obtain ⟨h1, h2⟩ := tog_le l h
  exact ⟨by omega, fun k hk => ⟨by have := h1 k hk; omega, by have := h2 k hk; omega⟩⟩
theorem look_at55 (A B : Option Addr) (a b : List File) (n c1 c2 : Nat) (hn : a.length = n) (hm : b.length = n) (wb : Bool) (hS : lookB a b true = ⟨false, wb, false⟩) (w : World) (h1 : kFile.C w A n a) (h2 : kFile.C w B n b) (ha : makeE a = 0) (hb : makeE b = 0) (he : EndAt w) (hu : NumAt w) :
    Calls Tryd.prog 28 #[.slice A n c1, .slice B n c2, .bool true] w fun e w' => e = .returned (.agg #[.bool false, .bool wb, .bool false]) ∧ Below w.heap.size w w' := by
  rw [← hn] at h1
  rw [← hm] at h2
  have h := look_any A B a b c1 c2 true _ hS w h1 h2 (mild_of ha) (mild_of hb) he hu
  rw [hn, hm] at h
  exact h
theorem elem_deeds : Tryd.prog.underlying 25 = some (.slice (Tryd.prog.elem 25)) := by
  have : Tryd.prog.elem 25 = 33 := by simp [Program.elem, Tryd.underlying25]
  rw [this]
  exact Tryd.underlying25
theorem slice_deeds (W : World) (A : Option Addr) (n c k : Nat) (hk : k ≤ c) : (Instr.slice 25 (.slice A n c) none (some (.int .i64 (k : Int))) none).run Tryd.prog W = .ok (.slice A k c) W := by
  rw [run_slice_h W 25 A n c elem_deeds .i64 (k : Int) (by omega) (by omega)]
  have h1 : (sizeOf (Tryd.prog.elem 25)).run Tryd.prog W = .ok 3 W := by
    have : Tryd.prog.elem 25 = 33 := by simp [Program.elem, Tryd.underlying25]
    rw [this]
    have hi := info_dd
    cases hq : Tryd.prog.info? 33 with
    | none => simp [hq] at hi
    | some i =>
      have hs : i.size = 3 := by have := hi; simp [hq] at this; exact this.2.1
      simp [sizeOf, typeInfo, hq, hs]
  have h2 : A.map (fun x : Addr => x.add 0) = A := by
    cases A with
    | none => rfl
    | some a => simp [Addr.add]
  simp [h1, sliced, Result.andThen, h2]
end Go.Proofs.YtdobjbdkfammbaaDoor
/-
  AttackRansom, walked: it returns true.
-/
namespace Go.Proofs.YtdobjbdkfammbaaDoor
open Go.RowKit Go.Shelf Go.Proofs.YtdobjbdkfammbaaDoorW.PrintWords Go.Proofs.YtdobjbdkfammbaaDoorW.PrintLast Go.Proofs.YtdobjbdkfammbaaDoorW.PrintMore
set_option linter.unusedVariables false
set_option linter.unusedSimpArgs false

theorem ransomD_le (vol : Int) (key : UInt8) (each : Int) (l : List File) (hl : l.length ≤ 12) : (ransomD vol key each l).length ≤ 1000 := by
  unfold ransomD
  split
  · next h =>
    have h1 := hostD_le vol l (ranD vol key each l) (makeV_le l h).2.2.2.2 (ranD_le vol key each l) l.length
    omega
  · simp
set_option maxRecDepth 4000 in
set_option maxHeartbeats 3200000 in
theorem law_aransom (A : Option Addr) (l : List File) (c1 : Nat) (hc : l.length ≤ c1) (vol : Int) (key : UInt8) (each : Int) (w : World) (h1 : kFile.C w A l.length l) (hs1 : ∀ k, k < l.length → (gt l k).name.size ≤ 9223372036854775807) (hmg : MagicAt w) :
    Calls Tryd.prog 5 #[.slice A l.length c1, .int .i64 vol, .int .u8 (key.toNat : Int), .int .i64 each] w fun e w' => e = .returned (.bool true) ∧ Below w.heap.size w w' := by
  have H1 := Aside0.mk h1
  have HS1 := Aside0.mk hs1
  have HMG := Aside0.mk hmg
  clear h1 hs1 hmg
  cases hb1 : smallB l
  · have HS := Aside0.mk hb1
    clear hb1
    go_enter Tryd.func5, Tryd.ntmps5
    go_wp2_with (first | (go_at_call 12; refine (awake55 _ HMG.out).mono ?_; rintro e w1 ⟨rfl, hb⟩; have HB1 := Aside0.mk hb; clear hb) | (go_at_call 16; refine (small_any A l c1 false HS.out 0 rfl _ (Kd.C_below H1.out HB1.out) HS1.out).mono ?_; rintro e w2 ⟨rfl, hb⟩; have HB2 := Aside0.mk (below_step HB1.out hb); clear hb))
    go_ret
    exact ⟨rfl, HB2.out⟩
  · have HSA := Aside0.mk hb1
    have hsm := small_mild hb1
    have hl12 := hsm.1
    have HDA : Aside0 (∀ k, k < l.length → (gt l k).data.length ≤ 1000000) := ⟨fun k hk => by have := (hsm.2 k hk).2; omega⟩
    obtain ⟨m, hm⟩ : ∃ m, (ransomD vol key each l).length = m := ⟨_, rfl⟩
    have hm1 := ransomD_le vol key each l hl12
    rw [hm] at hm1
    have HM := Aside0.mk hm
    have HMR : Aside0 ((ransomR vol key each l).length = m) := ⟨by rw [← hm, ← ransomR_dd, List.length_map]⟩
    have HSM : Aside0 (∀ k, k < m → gt (ransomD vol key each l) k = ddOf (gt (ransomR vol key each l) k)) := ⟨fun k hk => map_dd_gt (ransomR_dd vol key each l) k (by rw [HMR.out]; exact hk)⟩
    clear hb1 hsm hm
    go_enter Tryd.func5, Tryd.ntmps5
    go_upto_region 8 with (first | (go_at_call 12; refine (awake55 _ HMG.out).mono ?_; rintro e w1 ⟨rfl, hb⟩; have HB1 := Aside0.mk hb; clear hb) | (go_at_call 16; refine (small_any A l c1 true HSA.out 1 rfl _ (Kd.C_below H1.out HB1.out) HS1.out).mono ?_; rintro e w2 ⟨rfl, hb⟩; have HB2 := Aside0.mk (below_step HB1.out hb); clear hb) | (go_at_call 17; refine (files_any A l c1 _ (Kd.C_below H1.out HB2.out) (by omega) HDA.out).mono ?_; rintro e w3 ⟨Ap, cp, rfl, ho, hb⟩; have HC3 := Aside0.mk (Kd.R_reads' ho).2; have HB3 := Aside0.mk (below_step HB2.out hb); clear ho hb) | (go_at_call 18; refine (ransom_as Ap l l.length rfl cp vol key each _ HC3.out.2 HC3.out.1 (by omega) HS1.out (Kd.C_below HMG.out HB3.out) m HM.out).mono ?_; rintro e w4 ⟨A4, c4, rfl, ho, hb⟩; have hC := (Kd.R_reads' ho).2.2; rw [HM.out] at hC; have HC4 := Aside0.mk hC; have HB4a := Aside0.mk hb; have HB4 := Aside0.mk (below_step HB3.out hb); clear ho hb hC) | (go_at_call 19; refine (rransom_any A l l.length rfl c1 vol key each _ (Kd.C_below H1.out HB4.out) HS1.out).mono ?_; rintro e w5 ⟨v5, rfl, ho, hb⟩; obtain ⟨A5, c5, rfl⟩ : ∃ A c, v5 = .slice A m c := (by obtain ⟨A, c, e⟩ := Kd.R_slice ho; exact ⟨A, c, by rw [e, HMR.out]⟩); have hC := (Kd.R_reads' ho).2.2; rw [HMR.out] at hC; have HC5 := Aside0.mk hC; have HC4b := Aside0.mk (Kd.C_below HC4.out hb); have HB5a := Aside0.mk (below_step HB4a.out hb); have HB5 := Aside0.mk (below_step HB4.out hb); clear ho hb hC) | (go_at_call 13; refine (same55 A4 A5 m c4 c5 _ _ _ HC4b.out HC5.out HSM.out (by omega)).mono ?_; rintro e w6 ⟨rfl, hb⟩; have HB6a := Aside0.mk (below_step HB5a.out hb); have HB6 := Aside0.mk (below_step HB5.out hb); clear hb))
    go_wp2_with (first | (go_at_call 17; refine (files_any A l c1 _ (Kd.C_below H1.out HB6.out) (by omega) HDA.out).mono ?_; rintro e w7 ⟨Aq, cq, rfl, ho, hb⟩; have HC7 := Aside0.mk (Kd.R_reads' ho).2.2; have HB7a := Aside0.mk (below_step HB6a.out hb); have HB7 := Aside0.mk (below_step HB6.out hb); clear ho hb) | (go_at_call 20; refine (same_any Ap Aq l l cp cq true (sameB_refl l) _ (Kd.C_below HC3.out.2 HB7a.out) HC7.out).mono ?_; rintro e w8 ⟨rfl, hb⟩; have HB8 := Aside0.mk (below_step HB7.out hb); clear hb))
    go_ret
    exact ⟨rfl, HB8.out⟩
end Go.Proofs.YtdobjbdkfammbaaDoor
/-
  AttackSeen, walked: it returns true.
-/
namespace Go.Proofs.YtdobjbdkfammbaaDoor
open Go.RowKit Go.Shelf Go.Proofs.YtdobjbdkfammbaaDoorW.PrintWords Go.Proofs.YtdobjbdkfammbaaDoorW.PrintLast Go.Proofs.YtdobjbdkfammbaaDoorW.PrintMore
set_option linter.unusedVariables false
set_option linter.unusedSimpArgs false

/-- Bytes of which the first q are filled. -/
def fillD (d : UInt8) (m q : Nat) : List UInt8 := List.replicate q d ++ List.replicate (m - q) 0
theorem fillD_len (d : UInt8) (m q : Nat) (hq : q ≤ m) : (fillD d m q).length = m := by simp [fillD]; omega
theorem fillD_zero (d : UInt8) (m : Nat) : fillD d m 0 = List.replicate m 0 := by simp [fillD]
theorem fillD_full (d : UInt8) (m : Nat) : fillD d m m = List.replicate m d := by simp [fillD]
theorem fillD_set (d : UInt8) (m q : Nat) (hq : q < m) : (fillD d m q).set q d = fillD d m (q + 1) := by
  unfold fillD
  rw [List.set_append, if_neg (by simp), List.length_replicate, Nat.sub_self]
  rw [show m - q = (m - (q + 1)) + 1 by omega, List.replicate_succ, List.set_cons_zero, List.replicate_succ', List.append_assoc]
  rfl
set_option maxRecDepth 8000 in
set_option maxHeartbeats 6400000 in
theorem law_aseen (A : Option Addr) (long : List UInt8) (c1 : Nat) (hc : long.length ≤ c1) (d key : UInt8) (w : World) (h1 : byte.C w A long.length long) (hmg : MagicAt w) (hen : EndAt w) (hnu : NumAt w) :
    Calls Tryd.prog 11 #[.slice A long.length c1, .int .u8 (d.toNat : Int), .int .u8 (key.toNat : Int)] w fun e w' => e = .returned (.bool true) ∧ Below w.heap.size w w' := by
  have hmx := Kd.C_max h1
  have H1 := Aside0.mk h1
  have HMG := Aside0.mk hmg
  have HEN := Aside0.mk hen
  have HNU := Aside0.mk hnu
  have hd8 := d.toNat_lt
  have hk8 := key.toNat_lt
  obtain ⟨n, hn⟩ : ∃ n, long.length = n := ⟨_, rfl⟩
  rw [hn] at H1 hc hmx ⊢
  have HN := Aside0.mk hn
  clear h1 hmg hen hnu hn
  by_cases h0 : n = 0
  · subst h0
    go_enter Tryd.func11, Tryd.ntmps11
    go_wp2_with (go_at_call 12; refine (awake55 _ HMG.out).mono ?_; rintro e w1 ⟨rfl, hb⟩; have HB1 := Aside0.mk hb; clear hb)
    go_ret
    exact ⟨rfl, HB1.out⟩
  · by_cases h4 : 4 < n
    · have h0' : ((n : Int) == 0) = false := by simp; omega
      have h4' : (4 : Int) < (n : Int) := by omega
      go_enter Tryd.func11, Tryd.ntmps11
      go_wp2_with (go_at_call 12; refine (awake55 _ HMG.out).mono ?_; rintro e w1 ⟨rfl, hb⟩; have HB1 := Aside0.mk hb; clear hb)
      go_ret
      exact ⟨rfl, HB1.out⟩
    · have h0' : ((n : Int) == 0) = false := by simp; omega
      have h4' : ¬ (4 : Int) < (n : Int) := by omega
      go_enter Tryd.func11, Tryd.ntmps11
      go_wp2_with (go_at_call 12; refine (awake55 _ HMG.out).mono ?_; rintro e w1 ⟨rfl, hb⟩; have HB1 := Aside0.mk hb; clear hb)
      go_loopg [34, 7, 8, 9, 10, 11] n (fun gk i v7 _ _ _ _ wr => ∃ k : Nat, k ≤ n ∧ Aside0 (gk = n - k) ∧ i = .int .i64 k ∧ Aside0 (kFile.R 56 wr w.heap.size (fun _ => True) v7 (seenL long d k)) ∧ Aside0 (Below w.heap.size w wr))
      case atStart => exact ⟨0, Nat.zero_le _, ⟨rfl⟩, rfl, ⟨Kd.R_nil _ _ _ _ _⟩, HB1⟩
      case round =>
        obtain ⟨k, hk, HGK, rfl, HR, HB⟩ := hrel
        by_cases hlt : k < n
        · have hkn : (k : Int) < (n : Int) := by omega
          obtain ⟨ad, hA, b1⟩ := byte_at (Kd.C_below H1.out HB.out) hlt
          obtain ⟨x, hx⟩ : ∃ x, x = gt long k := ⟨_, rfl⟩
          rw [← hx] at b1
          have hx8 := x.toNat_lt
          have HX := Aside0.mk hx
          subst hA
          clear hx
          have HRN : Aside0 (kFile.R 56 wr w.heap.size (fun q => q < wr.heap.size) u7 (seenL long d k)) := ⟨Kd.R_mono (Kd.R_bound HR.out) (fun q hq => hq.2.2.1)⟩
          obtain ⟨N, hN⟩ : ∃ N, N = wr.heap.size := ⟨_, rfl⟩
          rw [← hN] at HRN
          have HNN := Aside0.mk hN
          obtain ⟨m, hm⟩ : ∃ m, m = lenI long k := ⟨_, rfl⟩
          have hmi : 16 + (x.toNat : Int) % 64 = (m : Int) := by rw [hm]; unfold lenI; rw [← HX.out]; omega
          have hm79 : m ≤ 79 := by rw [hm]; exact (lenI_le long k).2
          have HM := Aside0.mk hm
          clear hN hm
          go_upto_region 10 with ((with_reducible refine gate_dst (N := 43) rfl ?_); go_loud (refine Kd.R_make byte (w0 := w) w.heap.size 5 rfl (N := 43) rfl 54 _ _ rfl (m : Int) rfl rfl Tryd.underlying54 (.int .u8 0) 1 info_byte rfl (by decide) (by omega) (0 : UInt8) (ok := fun q => N ≤ q) (okp := fun q => N ≤ q) rfl (fun _ hq => hq) (by have := HNN.out; omega) (by omega) (by omega) HB.out HB.out.size ?_); intro v1 w3 ho hb hg hnew; obtain ⟨Ad, cd, rfl⟩ := Kd.R_slice ho; have HO := Aside0.mk ho; have HB3 := Aside0.mk hb; have HG3 := Aside0.mk hg; clear ho hb hg hnew)
          have e0 : (List.replicate (m : Int).toNat (0 : UInt8)).length = m := by simp
          have HR3 := Aside0.mk (Kd.R_grown HRN.out HG3.out (fun _ _ => by simp))
          go_wp2_with fail
          go_loopg [46, 11] m (fun gj j _ wz => ∃ q : Nat, q ≤ m ∧ Aside0 (gj = m - q) ∧ j = .int .i64 q ∧ Aside0 (byte.R 5 wz w.heap.size (fun q => N ≤ q) (.slice Ad m cd) (fillD d m q)) ∧ Aside0 (kFile.R 56 wz w.heap.size (fun q => q < N) u7 (seenL long d k)) ∧ Aside0 (Below w.heap.size w wz))
          case atStart => exact ⟨0, Nat.zero_le _, ⟨rfl⟩, rfl, ⟨by rw [fillD_zero]; have := HO.out; simpa using this⟩, HR3, HB3⟩
          case round =>
            obtain ⟨q, hq, HGJ, rfl, HD, HRq, HBq⟩ := hrel
            by_cases hqt : q < m
            · have hqm : (q : Int) < (m : Int) := by omega
              obtain ⟨gd, cap, he, hgd1, _, _⟩ := Kd.R_form HD.out (by rw [fillD_len d m q hq]; omega)
              injection he with he1 he2 he3
              subst he1 he3
              clear he2
              obtain ⟨r0, r1⟩ := Kd.R_celln (0 : UInt8) HD.out (q : Int) (by omega) (by omega)
              simp only [Int.toNat_natCast] at r0 r1
              have hNg : N ≤ gd := HD.out.1 gd (by simp [Value.ownBlock])
              have hp := Kd.R_putn HD.out (q : Int) d
              simp only [Int.toNat_natCast] at hp
              rw [fillD_set d m q hqt] at hp
              have HD2 := Aside0.mk hp
              have HRq2 := Aside0.mk (Kd.R_far HRq.out (p := ⟨gd, q, none⟩) (fun k hk => by have : k < N := hk; show k ≠ gd; omega) (.int .u8 (d.toNat : Int)))
              have HBq2 := Aside0.mk (HBq.out.setCell (p := ⟨gd, q, none⟩) hgd1 (.int .u8 (d.toNat : Int)))
              clear hp
              go_wp2_with fail
              go_roundg (m - (q + 1))
              case measure => have := HGJ.out; omega
              case rel => exact ⟨q + 1, by omega, ⟨rfl⟩, by go_num, HD2, HRq2, HBq2⟩
            · have hqm : ¬ (q : Int) < (m : Int) := by omega
              obtain ⟨V, rfl⟩ : ∃ V, V = wr := ⟨_, rfl⟩
              have hqe : q = m := by omega
              have HDF : Aside0 (byte.R 5 V w.heap.size (fun q => N ≤ q) (.slice Ad m cd) (seenF long d k).data) := ⟨by have := HD.out; rw [hqe, fillD_full] at this; unfold seenF; rw [← HM.out]; exact this⟩
              clear hqe
              go_upto_region 15 with fail
              obtain ⟨e, he⟩ : ∃ e, Utf8.encode (97 + (k : Int)) = e := ⟨_, rfl⟩
              have hes : e.size ≤ 1000 := by rw [← he]; rcases (show k = 0 ∨ k = 1 ∨ k = 2 ∨ k = 3 by omega) with rfl | rfl | rfl | rfl <;> decide
              have HNE : Aside0 ((⟨#[102]⟩ : ByteArray) ++ e = nameI k) := ⟨by rw [← he]; rcases (show k = 0 ∨ k = 1 ∨ k = 2 ∨ k = 3 by omega) with rfl | rfl | rfl | rfl <;> decide⟩
              have HLL : Aside0 ((seenL long d k).length = k) := ⟨seenL_len long d k⟩
              go_wp2_with ((with_reducible refine gate_builtin (b := .append) (xs := #[.tmp 54, .tmp 62]) rfl ?_); at_builtin; refine Kd.R_append kFile (w0 := w) w.heap.size rfl (.tmp 54) (.tmp 62) 43 56 (.agg #[.string ByteArray.empty, .slice none 0 0]) 40 rfl Tryd.underlying43 info_file51 rfl (Nat.succ_pos _) (by omega) u7 (seenL long d k) (seenF long d k) [.string ((⟨#[102]⟩ : ByteArray) ++ e), .slice Ad m cd] (fun _ => True) (fun q => N ≤ q) rfl rfl (by rw [HNE.out]; exact kFile_mkM51 _ _ _ (seenF long d k) HDF.out) (fun q hq => ⟨trivial, fun e => by have h1 : q < N := HRq.out.1 q e.symm; omega⟩) (fun _ _ => trivial) (Kd.R_mono HRq.out (fun _ _ => trivial)) HBq.out HBq.out.size (by rw [HLL.out]; omega) ?_; intro v8 w8 ho8 hb8 hg8 hat8; rw [← seenL_succ] at ho8; have HO8 := Aside0.mk ho8; have HB8 := Aside0.mk hb8; clear ho8 hb8 hg8 hat8)
              go_roundg (n - (k + 1))
              case measure => have := HGK.out; omega
              case rel => exact ⟨k + 1, by omega, ⟨rfl⟩, by go_num, HO8, HB8⟩
        · have hkn : ¬ (k : Int) < (n : Int) := by omega
          obtain rfl : k = n := by omega
          obtain ⟨l, hl⟩ : ∃ l, l = seenL long d k := ⟨_, rfl⟩
          have hR := HR.out
          rw [← hl] at hR
          have HLL : Aside0 (l.length = k) := ⟨by rw [hl]; exact seenL_len long d k⟩
          obtain ⟨A7, c7, rfl⟩ : ∃ A c, u7 = .slice A k c := by
            obtain ⟨A, c, e⟩ := Kd.R_slice hR
            exact ⟨A, c, by rw [e, HLL.out]⟩
          have hE : makeE l = 0 := by rw [hl]; exact seen_E long d k (by omega)
          have hT : togB l = true := by rw [hl]; exact seen_tog long d k (by omega)
          have hC7 := (Kd.R_reads' hR).2
          rw [HLL.out] at hC7
          have HC7 := Aside0.mk hC7
          have HE := Aside0.mk hE
          have HT := Aside0.mk hT
          have HLD := Aside0.mk hl
          obtain ⟨V, rfl⟩ : ∃ V, V = wr := ⟨_, rfl⟩
          obtain ⟨ds, hds⟩ : ∃ ds, ransomD 0 key 1 l = ds := ⟨_, rfl⟩
          obtain ⟨m, hm⟩ : ∃ m, ds.length = m := ⟨_, rfl⟩
          have hm1 := ransomD_le 0 key 1 l (by rw [HLL.out]; omega)
          rw [hds, hm] at hm1
          obtain ⟨p, hp⟩ : ∃ p, (rowsD 0 (makeV l)).length = p := ⟨_, rfl⟩
          obtain ⟨f1, f2, f3, f4⟩ := first_facts hds hE (by rw [HLL.out]; omega)
          rw [hp, hm] at f1
          rw [hp] at f2 f3 f4
          have HDS := Aside0.mk hds
          have HM := Aside0.mk hm
          have HP := Aside0.mk hp
          have HF2 := Aside0.mk f2
          have HF3 := Aside0.mk f3
          have HF4 := Aside0.mk f4
          have HOKA : Aside0 (okAll 0 ds) := ⟨by rw [← hds]; exact okAll_ransom 0 key 1 l⟩
          have HOK : Aside0 (∀ j, j < m → okD 0 (gt ds j)) := ⟨fun j hj => okAll_at HOKA.out j (by rw [hm]; exact hj)⟩
          have HOKP : Aside0 (∀ j, j < p → okD 0 (gt (rowsD 0 (makeV l)) j)) := ⟨fun j hj => okAll_at (okAll_rows 0 _ (by have := makeV_small l; omega)) j (by rw [hp]; exact hj)⟩
          obtain ⟨L, hL⟩ : ∃ L, L = mapTo (lockF key) l k := ⟨_, rfl⟩
          have hrl := ransom_last 0 key 1 l hE
          rw [hds, HLL.out, ← hL] at hrl
          have HRL := Aside0.mk hrl
          have HLN : Aside0 (L.length = k) := ⟨by rw [hL, mapTo_len]; exact HLL.out⟩
          have HEL : Aside0 (makeE L = 0) := ⟨by rw [hL]; exact lock_E hE key _⟩
          have hTL : togB L = true := (makeV_le L HEL.out).2.1
          have hgl : ∀ j, j < l.length → gt l j = seenF long d j := fun j hj => by rw [hl]; exact seenL_gt long d k j (by rw [HLL.out] at hj; exact hj)
          have hgL : ∀ j, j < l.length → gt L j = lockF key (gt l j) := fun j hj => by rw [hL, mapTo_at _ l k j hj, if_pos (by rw [HLL.out] at hj; exact hj)]
          have hnm : ∀ j, j < l.length → (gt l j).name = (gt L j).name := fun j hj => by rw [hgL j hj]; rfl
          have hkd : ∀ j, j < l.length → kindOf (endB (gt l j).name) = -1 := fun j hj => by rw [hgl j hj]; exact nameI_kind j (by rw [HLL.out] at hj; omega)
          have hwl : ∀ j, j < l.length → wildB (gt l j).data = false := fun j hj => by rw [hgl j hj]; exact wild_const d _
          have hwL : ∀ j, j < l.length → wildB (gt L j).data = true := fun j hj => by rw [hgL j hj, hgl j hj]; exact wild_lock key d _ (lenI_le long j).1 (by have := (lenI_le long j).2; omega)
          have HS1 : Aside0 (lookB l L true = ⟨false, true, false⟩) := ⟨look_seen hT hTL (by rw [HLN.out, HLL.out]) hnm hkd true hwl hwL (by rw [HLL.out]; omega)⟩
          have HS2 : Aside0 (lookB l l true = ⟨false, false, false⟩) := ⟨look_seen hT hT rfl (fun _ _ => rfl) hkd false hwl hwl (by rw [HLL.out]; omega)⟩
          have HSN : Aside0 (∀ j, j < l.length → (gt l j).name.size ≤ 9223372036854775807) := ⟨fun j hj => by have := (tog_le l hE).1 j hj; omega⟩
          clear hds hm hp f2 f3 f4 hL hrl hTL hgl hgL hnm hkd hwl hwL hl hR hE hT hC7
          go_upto_region 18 with (go_at_call 18; refine (ransom_as A7 l k HLL.out c7 0 key 1 V HC7.out.2 HC7.out.1 (by omega) HSN.out (Kd.C_below HMG.out HB.out) m (by rw [HDS.out]; exact HM.out)).mono ?_; rintro e w12 ⟨A12, c12, rfl, ho, hb⟩; have hC := (Kd.R_reads' ho).2; rw [HDS.out, HM.out] at hC; have HC12 := Aside0.mk hC; have HV12 := Aside0.mk hb; have HB12 := Aside0.mk (below_step HB.out hb); clear ho hb hC)
          go_wp2_with fail
          go_loopg [13] p (fun gk i wr => ∃ j : Nat, j ≤ p ∧ Aside0 (gk = p - j) ∧ i = .int .i64 j ∧ Aside0 (wr = w12))
          case atStart => exact ⟨0, Nat.zero_le _, ⟨rfl⟩, rfl, ⟨rfl⟩⟩
          case round =>
            obtain ⟨j, hj, HGJ, rfl, HW⟩ := hrel
            have hjm : (j : Int) < (m : Int) := by omega
            obtain ⟨bd, A1, d1, hA, g0, g1, g2, hl1, hC1⟩ := dd_at HC12.out.2 (k := j) (by omega)
            rw [← HW.out] at g0
            subst hA
            clear g1 g2 hC1
            by_cases hjt : j < p
            · rw [HF2.out j hjt] at g0
              go_wp2_with fail
              go_roundg (p - (j + 1))
              case measure => have := HGJ.out; omega
              case rel => exact ⟨j + 1, by omega, ⟨rfl⟩, by go_num, HW⟩
            · obtain rfl : j = p := by omega
              rw [HF3.out] at g0
              have sl : ∀ W : World, (Instr.slice 25 (.slice (some bd) m c12) none (some (.int .i64 (j : Int))) none).run Tryd.prog W = .ok (.slice (some bd) j c12) W := fun W => slice_deeds W (some bd) m c12 j (by have := HC12.out.1; omega)
              have HCP : Aside0 (kDd.C w12 (some bd) j (rowsD 0 (makeV l))) := ⟨by
                have h1 := HC12.out.2
                rw [← HM.out] at h1
                have h2 := Kd.C_take h1 (m := j) (by rw [HM.out]; omega)
                rw [HF4.out, HP.out] at h2
                exact h2⟩
              go_upto_region 25 with (first | (go_at_call_of 26 (Value.slice (some bd) j c12); rw [HW.out]; refine (disk55 (some bd) j c12 (rowsD 0 (makeV l)) HP.out 0 w12 HCP.out HOKP.out (by omega)).mono ?_; rintro e w14 ⟨mb, rfl, hmb, hd, hb⟩; have HD14 := Aside0.mk hd; have HX14 := Aside0.mk hb; have HB14 := Aside0.mk (below_step HB12.out hb); clear hmb hd hb) | (go_at_call_of 27 (Value.map (some mb)); refine (lread_any l HE.out k HLL.out mb _ _ w14 HD14.out (dsk_32 HD14.out (okAll_rows 0 _ (by have := makeV_small l; omega))) (rows_shows 0 l) (Kd.C_below HMG.out HB14.out)).mono ?_; rintro e w16 ⟨A16, c16, rfl, hC, hb⟩; have HC16 := Aside0.mk hC; have HX16 := Aside0.mk (below_step HX14.out hb); have HB16 := Aside0.mk (below_step HB14.out hb); clear hC hb) | (go_at_call_of 26 (Value.slice (some bd) m c12); refine (disk55 (some bd) m c12 ds HM.out 0 w16 (Kd.C_below HC12.out.2 HX16.out) HOK.out hm1).mono ?_; rintro e w17 ⟨mb2, rfl, hmb, hd, hb⟩; have HD17 := Aside0.mk hd; have HX17 := Aside0.mk (below_step HX16.out hb); have HC17 := Aside0.mk (Kd.C_below HC16.out hb); have HB17 := Aside0.mk (below_step HB16.out hb); clear hmb hd hb) | (go_at_call_of 27 (Value.map (some mb2)); refine (lread_any L HEL.out k HLN.out mb2 _ _ w17 HD17.out (dsk_32 HD17.out HOKA.out) HRL.out (Kd.C_below HMG.out HB17.out)).mono ?_; rintro e w19 ⟨A19, c19, rfl, hC, hb⟩; have HC19 := Aside0.mk hC; have HC19b := Aside0.mk (Kd.C_below HC17.out hb); have HX19 := Aside0.mk (below_step HX17.out hb); have HB19 := Aside0.mk (below_step HB17.out hb); clear hC hb))
              have HC19l : Aside0 (kFile.C w19 A7 k l) := ⟨Kd.C_below HC7.out.2 (below_step HV12.out HX19.out)⟩
              have HLK1 := Aside0.mk (fun (W : World) (hb : Below w19.heap.size w19 W) => look_at55 A7 A19 l L k c7 c19 HLL.out HLN.out true HS1.out W (Kd.C_below HC19l.out hb) (Kd.C_below HC19.out hb) HE.out HEL.out (Kd.C_below HEN.out (below_step HB19.out hb)) (Kd.C_below HNU.out (below_step HB19.out hb)))
              have HLK2 := Aside0.mk (fun (W : World) (hb : Below w19.heap.size w19 W) => look_at55 A7 A16 l l k c7 c16 HLL.out HLL.out false HS2.out W (Kd.C_below HC19l.out hb) (Kd.C_below HC19b.out hb) HE.out HE.out (Kd.C_below HEN.out (below_step HB19.out hb)) (Kd.C_below HNU.out (below_step HB19.out hb)))
              go_wp2_with (first | (go_at_call 20; refine (same_at55 A16 A7 l k c16 c7 HLL.out w19 HC19b.out HC19l.out).mono ?_; rintro e w20 ⟨rfl, hb⟩; have HX20 := Aside0.mk hb; clear hb) | (go_at_call 28; with_reducible refine (HLK1.out _ HX20.out).mono ?_; rintro e w21 ⟨rfl, hb⟩; have HX21 := Aside0.mk (below_alloc (below_step HX20.out hb) (.cells #[.bool false, .bool true, .bool false] 68)); clear hb) | (go_at_call 29; with_reducible refine (bad_any false true false true rfl _).mono ?_; rintro e w22 ⟨rfl, hb⟩; have HX22 := Aside0.mk (below_step HX21.out hb); clear hb) | (go_at_call 28; with_reducible refine (HLK2.out _ HX22.out).mono ?_; rintro e w23 ⟨rfl, hb⟩; have HX23 := Aside0.mk (below_step HX22.out hb); clear hb) | (go_at_call 29; with_reducible refine (bad_any false false false false rfl _).mono ?_; rintro e w24 ⟨rfl, hb⟩; have HX24 := Aside0.mk (below_step HX23.out hb); clear hb))
              go_ret
              exact ⟨rfl, below_step HB19.out HX24.out⟩
end Go.Proofs.YtdobjbdkfammbaaDoor
namespace Go.Proofs.YtdobjbdkfammbaaDoor
open Go.ChangeShapes Go.WideShapes Go.ChangeAt Go.RowKit Go.Proofs.YtdobjbdkfammbaaDoorW.PrintWords Go.Proofs.YtdobjbdkfammbaaDoorW.PrintLast Go.Proofs.YtdobjbdkfammbaaDoorW.PrintMore
open Go.ChangeMaps (open_string)
set_option linter.unusedVariables false
set_option linter.unusedSimpArgs false

theorem Tryd.own : ownKnob Tryd.prog.godebug = none := by kernel_rfl
theorem Tryd.laidOut : laidOutB Tryd.prog = true := by kernel_rfl

set_option maxRecDepth 100000 in
theorem row_lifted (os : Os) (started : os.Started) (H : Type) (enc : TypeId × Value → H) :
    ReturnsInHanded {} Tryd.checked os 11 .any (fun w args => (Rows.attackSeenSpec.pre enc Tryd.prog Tryd.f11 [] false w args ∧ laidMetH Tryd.prog laidMP w) ∧ sizedMet enc Tryd.prog Tryd.f11 (OpenSpec.ofChange Rows.attackSeenSpec) false w args)
      (Rows.attackSeenSpec.post enc Tryd.prog Tryd.f11 false true false false) := by
  refine returnsInHanded_of_change_and (C := Tryd.checked) (X := fun w _ => laidMetH Tryd.prog laidMP w) (fun _ _ _ hh h => h.of_heap hh) Tryd.own started (by kernel_rfl) Tryd.func11
    (ChangeSpec.witness_shaped (enc := enc) (C := Tryd.checked) (os := os) (X := fun w _ => laidMetH Tryd.prog laidMP w) false (World.doorLaid Tryd.prog 400 os) #[.slice none 0 0, .int .u8 0, .int .u8 0] 8 rfl (World.shaped_of_RefB (by kernel_rfl) (by kernel_rfl)) (by kernel_rfl) (by kernel_rfl) (by kernel_rfl) (door_met3 os _)) ?_
  intro W base args ds gs before hval0 hW _ hsz0 hL _
  have hsz : (DataW.weightsEach Tryd.prog (Tryd.f11.params.toList ++ Rows.attackSeenSpec.plain.varTypes Tryd.prog) (ds ++ gs)).all (· ≤ reachBytes) = true := hsz0
  have hval : ∀ (j : Nat) t v, Tryd.f11.params[j]? = some t → args[j]? = some v → Value.okWide Tryd.prog W .any base t v := hval0
  have hW' := hW
  obtain ⟨p, q, hA0, hV, rfl, hfz, hnd⟩ := hW
  have hA : DataW.TrodAll enc Tryd.prog W 0 (fun _ => true) true Tryd.f11.params.toList args.toList ds p := hA0
  rw [Tryd.params11] at hA hval hsz
  obtain ⟨v0, v1, v2, d0, d1, d2, p0, p1, p2, rfl, rfl, rfl, h0, h1, h2⟩ := trodAll_three hA
  obtain ⟨rfl, rfl⟩ := trodVars_none hV
  obtain ⟨HMG, HEN, HNU⟩ := good3_of_laid hL
  have hwt : ∀ m ∈ DataW.weightsEach Tryd.prog (#[54, 5, 5].toList ++ Rows.attackSeenSpec.plain.varTypes Tryd.prog) ([d0, d1, d2] ++ []), m ≤ reachBytes := fun m hm => of_decide_eq_true (List.all_eq_true.1 hsz m hm)
  obtain ⟨a0, len0, cap0, hv0⟩ := okWide_slice Tryd.underlying54 (hval 0 54 v0 rfl rfl)
  obtain ⟨A0, l0, c0, rfl, hlc0, hC0, hQ0, hlen0⟩ := open_kd (d := byte) (Q := (fun _ => True)) Tryd.underlying54 cells_byte hv0 (fun n cs z hz _ hw => el_byte Tryd.underlying5 n cs z hz) h0 (fun m hm => hwt m (weightsEach_mem (i := 0) rfl rfl hm))
  obtain ⟨n1, rfl, rfl, rfl, w1⟩ := open_int Tryd.underlying5 (hval 1 5 v1 rfl rfl) h1
  obtain ⟨b1, rfl⟩ := wf_u8 w1
  obtain ⟨n2, rfl, rfl, rfl, w2⟩ := open_int Tryd.underlying5 (hval 2 5 v2 rfl rfl) h2
  obtain ⟨b2, rfl⟩ := wf_u8 w2
  refine (law_aseen A0 l0 c0 hlc0 b1 b2 W hC0 HMG HEN HNU).mono fun e W' ⟨he, hb⟩ => ?_
  subst he
  exact ⟨_, rfl, post_law hW' rfl rfl Tryd.underlying4 ⟨rfl, rfl, rfl⟩ Tryd.laidOut (by kernel_rfl) hb⟩

theorem row_holds : Rows.AttackSeenSaid :=
  OpenClaim.holds_of_wide 11 Tryd.f11 rfl rfl rfl rfl rfl rfl rfl ⟨rfl, rfl, rfl, rfl, rfl⟩ rfl rfl rfl rfl rfl (by kernel_rfl) Tryd.func11 (by kernel_rfl)
    (of_decide_eq_true (by kernel_rfl)) (by unfold Func.isWrapper; first | (rw [if_pos (by decide +kernel)]; kernel_rfl) | (rw [if_neg (by decide +kernel)]; exact ⟨rfl, rfl⟩))
    (fun os started H enc _ => row_lifted os started H enc)

theorem attack_seen_holds : Rows.AttackSeenCardSaid :=
  Claim7.holds_tied_plain_at .later [] [.widerDeep, .widerDeep, .widerDeep] true Rows.attackSeenCard.stood.harness Rows.attackSeenCard.stood.looks
    row_holds (fun _ h => by cases h) (by kernel_rfl) (fun _ h => by cases h) attackSeen_row_tie rfl ⟨rfl, rfl⟩ (by kernel_rfl) rfl
    (fun f fn hf hfn => by
      obtain rfl : f = 11 := Option.some.inj ((show Tryd.prog.funcNamed "erewhile/erewhilelaw55.AttackSeen" = some 11 by kernel_rfl).symm.trans hf) |>.symm
      obtain rfl : fn = Tryd.f11 := (Option.some.inj (Tryd.func11.symm.trans hfn)).symm
      exact ⟨by kernel_rfl, fun j t ht => by
        rw [Tryd.params11] at ht
        have hm : t ∈ [54, 5, 5] := by simpa using Array.mem_of_getElem? ht
        have hall : ([54, 5, 5].all fun u => !Tryd.prog.wantsStandIn u) = true := by kernel_rfl
        exact (show Tryd.prog.wantsStandIn t = false by simpa using List.all_eq_true.1 hall t hm)⟩)
    (by kernel_rfl)
#print axioms attack_seen_holds
end Go.Proofs.YtdobjbdkfammbaaDoor
