/-
  WholeTooLong: for every list of rules, every row of gaps and every minute the law returns true, and they read as they did. No condition beyond the row’s own (caltok.units is laid as the program’s text lays it).
-/
import Derived.Test.YtjoafafjpmfjbaaGreatDoorRows
import Derived.Test.YtjoafafjpmfjbaaGreatDoorGw
import Derived.Test.YtjoafafjpmfjbaaGreatDoorGv
import Derived.ProofKit
import Derived.LaidMore
import Derived.OpenShut
import Derived.Stop.Joined
import Derived.Lib.LaidTab
import Derived.MakeChecks
import Derived.WideKeyElems2
import Derived.Test.YtjoafafjpmfjbaaGreatDoorCards
import Derived.Test.YtjoafafjpmfjbaaGreatDoorTie
import Derived.SevenTiedAt
/-
  WholeTooLong: from the row's condition to the walk: the variable caltok.units is laid; the elements of a slice of rules.
-/
namespace Go.Proofs.YtjoafafjpmfjbaaGreatDoor
open Go.ChangeShapes Go.WideShapes Go.ChangeAt Go.RowKit Go.Proofs.YtjoafafjpmfjbaaGreatDoorW.PrintWords Go.Proofs.YtjoafafjpmfjbaaGreatDoorW.PrintLast Go.Proofs.YtjoafafjpmfjbaaGreatDoorW.PrintMore
open Go.WideElems (Fit rd rg pl elemAt)
set_option linter.unusedVariables false
set_option linter.unusedSimpArgs false

theorem gUnits : Tryz.prog.globalNamed "erewhile/caltok.units" = some 0 := by kernel_rfl
theorem tUnits : (Tryz.prog.globals[0]?).map (·.type) = some 139 := by kernel_rfl
theorem zero_int (w : World) : (zeroValue 3).run Tryz.prog w = .ok (.int .i64 0) w := by kernel_rfl
theorem key_u8 (c : Int) (h : 0 ≤ c ∧ c ≤ 255) : keyOf Tryz.prog 5 (.int .u8 c) = some (.int .u8 c) := Maps.keyOf_int_mk Tryz.underlying5 (by
  obtain ⟨h1, h2⟩ := h
  simp [Lit.wf, IntKind.min, IntKind.max, IntKind.bits, IntKind.signed]
  omega)
set_option maxRecDepth 8000 in
/-- A look-up of a number that the variable tells of. -/
theorem units_look {W : World} {b : Nat} {es : Array MapEntry} {clock n : Nat} {V : World} (hb : W.heap[b]? = some (.map es clock)) (F : Fit Tryz.prog 5 (elemAt (fun _ => ()) Tryz.prog V 0 (fun _ => true) false n 3) es clock)
    (hD : (DataW.map ((es.toList.map (rg Tryz.prog 5 (elemAt (fun _ => ()) Tryz.prog V 0 (fun _ => true) false n 3))).foldr DataW.insert []) : DataW Unit) = Rows.laid_erewhile_caltok_units) (c v : Int) (hc : 0 ≤ c ∧ c ≤ 255) (hv : (Rows.laid_erewhile_caltok_units : DataW Unit).atKey (.int .u8 c) .nil = .lit (.int .i64 v)) :
    (Instr.lookup 139 (.map (some b)) (.int .u8 c) true).run Tryz.prog W = .ok (.tuple #[.int .i64 v, .bool true]) W := by
  rcases Maps.fit_look true (Maps.int_keyed Tryz.underlying5) Tryz.underlying139 (zero_int W) hb F (key_u8 c hc) with ⟨_, _, hat⟩ | ⟨e0, y, _, _, hrun, hRv, hat, _⟩
  · have := hat .nil
    rw [hD, hv] at this
    cases this
  · have := hat .nil
    rw [hD, hv] at this
    obtain ⟨a, ha, hy, _⟩ := WideElems.elemAt_int Tryz.underlying3 hRv
    rw [hy] at this
    injection this with this
    injection this with _ this
    subst this
    rw [ha] at hrun
    simpa using hrun
def laidU : List (String × DataW Unit) := [("erewhile/caltok.units", Rows.laid_erewhile_caltok_units)]
theorem units_of_laid {W : World} (h : laidMetH Tryz.prog laidU W) : ∃ b, UnitsAt W b := by
  rw [MakeChecks.laidMetH_plain _ _ _ (by kernel_rfl)] at h
  obtain ⟨ps, hv, _⟩ := h
  obtain ⟨g0, t0, cs0, f0, p0, q0, hg0, ht0, hv0, hd0, _, _⟩ := hv
  obtain rfl := Option.some.inj (gUnits.symm.trans hg0)
  obtain rfl := Option.some.inj (tUnits.symm.trans ht0)
  rcases WideElems.open_map Tryz.underlying139 hd0 with ⟨_, h2⟩ | ⟨b, es, clock, n, _, hcs, hb, _, F, hx⟩
  · have := (Prod.mk.inj h2).1
    unfold Rows.laid_erewhile_caltok_units at this
    cases this
  · refine ⟨b, ?_, (Array.getElem?_eq_some_iff.1 hb).1, fun W' hW' => ?_⟩
    · have := World.var?_cell gUnits hv0 0
      rw [this, ← Array.getElem?_toList, hcs]
      rfl
    · have hD := (Prod.mk.inj hx).1.symm
      exact ⟨units_look (hW'.trans hb) F hD 104 60 (by omega) rfl, units_look (hW'.trans hb) F hD 100 1440 (by omega) rfl⟩
/-- The door's own heap meets the condition. -/
theorem door_metU (os : Os) (args : Array Value) : laidMetH Tryz.prog laidU ((World.doorLaid Tryz.prog 400 os).forCall (fun _ _ => 0) ⟨#[], args, []⟩).memory :=
  laidMetH_of_parts3 (fuel := 8) (laidMet_of_run' 8 (by kernel_rfl) (by kernel_rfl)) (by kernel_rfl) (by kernel_rfl)
section
variable {H : Type} {enc : TypeId × Value → H}
theorem cells_ru : Tryz.prog.cellsOf 41 = 3 := by kernel_rfl
set_option maxRecDepth 8000 in
theorem el_ru {W : World} (n : Nat) (cs : List Value) (z : DataW H × List MemPlace) (h : DataW.trod enc Tryz.prog W 0 (fun _ => true) true n 41 cs = some z) : ∃ y, kRu.K W y cs ∧ True := by
  obtain ⟨xs, k, _, rfl, hl, hxl, hf⟩ := DataW.trod_struct Tryz.underlying41 h
  rw [cells_ru] at hl
  match cs, hl with
  | [c0, c1, c2], _ =>
    match xs, hxl with
    | [y0, y1, y2], _ =>
      have e0 : DataW.trod enc Tryz.prog W 0 (fun _ => true) true k 3 [c0] = some y0 := hf 0 _ rfl
      have e1 : DataW.trod enc Tryz.prog W 0 (fun _ => true) true k 3 [c1] = some y1 := hf 1 _ rfl
      have e2 : DataW.trod enc Tryz.prog W 0 (fun _ => true) true k 3 [c2] = some y2 := hf 2 _ rfl
      obtain ⟨m0, h0, _, _⟩ := DataW.trod_int Tryz.underlying3 e0
      obtain ⟨m1, h1, _, _⟩ := DataW.trod_int Tryz.underlying3 e1
      obtain ⟨m2, h2, _, _⟩ := DataW.trod_int Tryz.underlying3 e2
      cases h0; cases h1; cases h2
      exact ⟨⟨m0, m1, m2⟩, kRu.K_of_M (kRu_mk W 0 (fun _ => True) ⟨m0, m1, m2⟩), trivial⟩
end
end Go.Proofs.YtjoafafjpmfjbaaGreatDoor
namespace Go.Proofs.YtjoafafjpmfjbaaGreatDoor
open Go.ChangeShapes Go.WideShapes Go.ChangeAt Go.RowKit Go.Proofs.YtjoafafjpmfjbaaGreatDoorW.PrintWords Go.Proofs.YtjoafafjpmfjbaaGreatDoorW.PrintLast Go.Proofs.YtjoafafjpmfjbaaGreatDoorW.PrintMore
open Go.ChangeMaps (open_string)
set_option linter.unusedVariables false
set_option linter.unusedSimpArgs false

theorem Tryz.own : ownKnob Tryz.prog.godebug = none := by kernel_rfl
theorem Tryz.laidOut : laidOutB Tryz.prog = true := by kernel_rfl

set_option maxRecDepth 100000 in
theorem row_lifted (os : Os) (started : os.Started) (H : Type) (enc : TypeId × Value → H) :
    ReturnsInHanded {} Tryz.checked os 3 .any (fun w args => (Rows.wholeTooLongSpec.pre enc Tryz.prog Tryz.f3 [] false w args ∧ laidMetH Tryz.prog laidU w) ∧ sizedMet enc Tryz.prog Tryz.f3 (OpenSpec.ofChange Rows.wholeTooLongSpec) false w args)
      (Rows.wholeTooLongSpec.post enc Tryz.prog Tryz.f3 false true false false) := by
  refine returnsInHanded_of_change_and (C := Tryz.checked) (X := fun w _ => laidMetH Tryz.prog laidU w) (fun _ _ _ hh h => h.of_heap hh) Tryz.own started (by kernel_rfl) Tryz.func3
    (ChangeSpec.witness_shaped (enc := enc) (C := Tryz.checked) (os := os) (X := fun w _ => laidMetH Tryz.prog laidU w) false (World.doorLaid Tryz.prog 400 os) #[.slice none 0 0, .slice none 0 0, .int .i64 0] 8 rfl (World.shaped_of_RefB (by kernel_rfl) (by kernel_rfl)) (by kernel_rfl) (by kernel_rfl) (by kernel_rfl) (door_metU os _)) ?_
  intro W base args ds gs before hval0 hW _ hsz0 hL _
  have hsz : (DataW.weightsEach Tryz.prog (Tryz.f3.params.toList ++ Rows.wholeTooLongSpec.plain.varTypes Tryz.prog) (ds ++ gs)).all (· ≤ reachBytes) = true := hsz0
  have hval : ∀ (j : Nat) t v, Tryz.f3.params[j]? = some t → args[j]? = some v → Value.okWide Tryz.prog W .any base t v := hval0
  have hW' := hW
  obtain ⟨p, q, hA0, hV, rfl, hfz, hnd⟩ := hW
  have hA : DataW.TrodAll enc Tryz.prog W 0 (fun _ => true) true Tryz.f3.params.toList args.toList ds p := hA0
  rw [Tryz.params3] at hA hval hsz
  obtain ⟨v0, v1, v2, d0, d1, d2, p0, p1, p2, rfl, rfl, rfl, h0, h1, h2⟩ := trodAll_three hA
  obtain ⟨rfl, rfl⟩ := trodVars_none hV
  obtain ⟨bU, HU⟩ := units_of_laid hL
  have hwt : ∀ m ∈ DataW.weightsEach Tryz.prog (#[22, 23, 3].toList ++ Rows.wholeTooLongSpec.plain.varTypes Tryz.prog) ([d0, d1, d2] ++ []), m ≤ reachBytes := fun m hm => of_decide_eq_true (List.all_eq_true.1 hsz m hm)
  obtain ⟨a0, len0, cap0, hv0⟩ := okWide_slice Tryz.underlying22 (hval 0 22 v0 rfl rfl)
  obtain ⟨A0, l0, c0, rfl, hlc0, hC0, hQ0, hlen0⟩ := open_kd (d := kRu) (Q := (fun _ => True)) Tryz.underlying22 cells_ru hv0 (fun n cs z hz _ hw => el_ru n cs z hz) h0 (fun m hm => hwt m (weightsEach_mem (i := 0) rfl rfl hm))
  obtain ⟨a1, len1, cap1, hv1⟩ := okWide_slice Tryz.underlying23 (hval 1 23 v1 rfl rfl)
  obtain ⟨A1, l1, c1, rfl, hlc1, hC1, hQ1, hlen1⟩ := open_kd (d := byte) (Q := (fun _ => True)) Tryz.underlying23 cells_byte hv1 (fun n cs z hz _ hw => el_byte Tryz.underlying5 n cs z hz) h1 (fun m hm => hwt m (weightsEach_mem (i := 1) rfl rfl hm))
  obtain ⟨n2, rfl, rfl, rfl, w2⟩ := open_int Tryz.underlying3 (hval 2 3 v2 rfl rfl) h2
  refine (too_long bU A0 l0.length c0 l0 rfl A1 l1.length c1 l1 rfl n2 W HU hC0 hC1).mono fun e W' ⟨he, hb⟩ => ?_
  subst he
  exact ⟨_, rfl, post_law hW' rfl rfl Tryz.underlying4 ⟨rfl, rfl, rfl⟩ Tryz.laidOut (by kernel_rfl) hb⟩

theorem row_holds : Rows.WholeTooLongSaid :=
  OpenClaim.holds_of_wide 3 Tryz.f3 rfl rfl rfl rfl rfl rfl rfl ⟨rfl, rfl, rfl, rfl, rfl⟩ rfl rfl rfl rfl rfl (by kernel_rfl) Tryz.func3 (by kernel_rfl)
    (of_decide_eq_true (by kernel_rfl)) (by unfold Func.isWrapper; first | (rw [if_pos (by decide +kernel)]; kernel_rfl) | (rw [if_neg (by decide +kernel)]; exact ⟨rfl, rfl⟩))
    (fun os started H enc _ => row_lifted os started H enc)

theorem whole_too_long_holds : Rows.WholeTooLongCardSaid :=
  Claim7.holds_tied_plain_at .later [] [.mapped] true Rows.wholeTooLongCard.stood.harness Rows.wholeTooLongCard.stood.looks
    row_holds (fun _ h => by cases h) (by kernel_rfl) (fun _ h => by cases h) wholeTooLong_row_tie rfl ⟨rfl, rfl⟩ (by kernel_rfl) rfl
    (fun f fn hf hfn => by
      obtain rfl : f = 3 := Option.some.inj ((show Tryz.prog.funcNamed "erewhile/erewhiletop.WholeTooLong" = some 3 by kernel_rfl).symm.trans hf) |>.symm
      obtain rfl : fn = Tryz.f3 := (Option.some.inj (Tryz.func3.symm.trans hfn)).symm
      exact ⟨by kernel_rfl, fun j t ht => by
        rw [Tryz.params3] at ht
        have hm : t ∈ [22, 23, 3] := by simpa using Array.mem_of_getElem? ht
        have hall : ([22, 23, 3].all fun u => !Tryz.prog.wantsStandIn u) = true := by kernel_rfl
        exact (show Tryz.prog.wantsStandIn t = false by simpa using List.all_eq_true.1 hall t hm)⟩)
    (by kernel_rfl)
#print axioms whole_too_long_holds
end Go.Proofs.YtjoafafjpmfjbaaGreatDoor
