/-
  AttackThief: the card. For every list of files, every volume and suffix the law returns true. No condition beyond the row's own.
-/
import Derived.Test.YtdobjbdkfammbaaDoorGm
import Derived.Test.YtdobjbdkfammbaaDoorRows
import Derived.Test.YtdobjbdkfammbaaDoorCards
import Derived.Test.YtdobjbdkfammbaaDoorTie
import Derived.Test.YtdobjbdkfammbaaDoorGg
import Derived.SevenTiedAt
/-
  AttackThief, walked: it returns true.
-/
namespace Go.Proofs.YtdobjbdkfammbaaDoor
open Go.RowKit Go.Shelf Go.Proofs.YtdobjbdkfammbaaDoorW.PrintWords Go.Proofs.YtdobjbdkfammbaaDoorW.PrintLast Go.Proofs.YtdobjbdkfammbaaDoorW.PrintMore
set_option linter.unusedVariables false
set_option linter.unusedSimpArgs false

set_option maxRecDepth 4000 in
set_option maxHeartbeats 3200000 in
theorem law_athief (A : Option Addr) (l : List File) (c1 : Nat) (hc : l.length ≤ c1) (vol : Int) (sx : ByteArray) (hsx : sx.size ≤ 9223372036854775807) (w : World) (h1 : kFile.C w A l.length l) (hs1 : ∀ k, k < l.length → (gt l k).name.size ≤ 9223372036854775807) (hmg : MagicAt w) :
    Calls Tryd.prog 6 #[.slice A l.length c1, .int .i64 vol, .string sx] w fun e w' => e = .returned (.bool true) ∧ Below w.heap.size w w' := by
  have H1 := Aside0.mk h1
  have HS1 := Aside0.mk hs1
  have HMG := Aside0.mk hmg
  clear h1 hs1 hmg
  cases hb1 : smallB l
  · have HS := Aside0.mk hb1
    clear hb1
    go_enter Tryd.func6, Tryd.ntmps6
    go_wp2_with (first | (go_at_call 12; refine (awake55 _ HMG.out).mono ?_; rintro e w1 ⟨rfl, hb⟩; have HB1 := Aside0.mk hb; clear hb) | (go_at_call 16; refine (small_any A l c1 false HS.out 0 rfl _ (Kd.C_below H1.out HB1.out) HS1.out).mono ?_; rintro e w2 ⟨rfl, hb⟩; have HB2 := Aside0.mk (below_step HB1.out hb); clear hb))
    go_ret
    exact ⟨rfl, HB2.out⟩
  · have HSA := Aside0.mk hb1
    by_cases hbig : 20 < sx.size
    · have hbig' : (20 : Int) < (sx.size : Int) := by omega
      clear hb1
      go_enter Tryd.func6, Tryd.ntmps6
      go_wp2_with (first | (go_at_call 12; refine (awake55 _ HMG.out).mono ?_; rintro e w1 ⟨rfl, hb⟩; have HB1 := Aside0.mk hb; clear hb) | (go_at_call 16; refine (small_any A l c1 true HSA.out 1 rfl _ (Kd.C_below H1.out HB1.out) HS1.out).mono ?_; rintro e w2 ⟨rfl, hb⟩; have HB2 := Aside0.mk (below_step HB1.out hb); clear hb))
      go_ret
      exact ⟨rfl, HB2.out⟩
    · have hbig' : ¬ (20 : Int) < (sx.size : Int) := by omega
      have hsm := small_mild hb1
      have hl12 := hsm.1
      have HDA : Aside0 (∀ k, k < l.length → (gt l k).data.length ≤ 1000000) := ⟨fun k hk => by have := (hsm.2 k hk).2; omega⟩
      obtain ⟨m, hm⟩ : ∃ m, (thiefD vol l).length = m := ⟨_, rfl⟩
      have hm1 := thiefD_le vol l hl12
      rw [hm] at hm1
      have HM := Aside0.mk hm
      have HMR : Aside0 ((thiefR vol l).length = m) := ⟨by rw [← hm, ← thiefR_dd, List.length_map]⟩
      have HSM : Aside0 (∀ k, k < m → gt (thiefD vol l) k = ddOf (gt (thiefR vol l) k)) := ⟨fun k hk => map_dd_gt (thiefR_dd vol l) k (by rw [HMR.out]; exact hk)⟩
      obtain ⟨p, hp⟩ : ∃ p, (renameD vol sx l).length = p := ⟨_, rfl⟩
      have hp1 := renameD_le vol sx l hl12
      rw [hp] at hp1
      have HP := Aside0.mk hp
      have HPR : Aside0 ((renameR vol sx l).length = p) := ⟨by rw [← hp, ← renameR_dd, List.length_map]⟩
      have HSP : Aside0 (∀ k, k < p → gt (renameD vol sx l) k = ddOf (gt (renameR vol sx l) k)) := ⟨fun k hk => map_dd_gt (renameR_dd vol sx l) k (by rw [HPR.out]; exact hk)⟩
      clear hb1 hsm hm hp
      go_enter Tryd.func6, Tryd.ntmps6
      go_wp2_with (first | (go_at_call 12; refine (awake55 _ HMG.out).mono ?_; rintro e w1 ⟨rfl, hb⟩; have HB1 := Aside0.mk hb; clear hb) | (go_at_call 16; refine (small_any A l c1 true HSA.out 1 rfl _ (Kd.C_below H1.out HB1.out) HS1.out).mono ?_; rintro e w2 ⟨rfl, hb⟩; have HB2 := Aside0.mk (below_step HB1.out hb); clear hb) | (go_at_call 17; with_reducible refine (files_any A l c1 w2 (Kd.C_below H1.out HB2.out) (by omega) HDA.out).mono ?_; rintro e w3 ⟨Ap, cp, rfl, ho, hb⟩; have HC3 := Aside0.mk (Kd.R_reads' ho).2; have HB3 := Aside0.mk (below_step HB2.out hb); clear ho hb) | (go_at_call 21; refine (thief_as Ap l l.length rfl cp vol _ HC3.out.2 HC3.out.1 HS1.out (Kd.C_below HMG.out HB3.out) m HM.out).mono ?_; rintro e w4 ⟨A4, c4, rfl, ho, hb⟩; have hC := (Kd.R_reads' ho).2.2; rw [HM.out] at hC; have HC4 := Aside0.mk hC; have HB4 := Aside0.mk (below_step HB3.out hb); clear ho hb hC) | (go_at_call 22; refine (rthief_any A l l.length rfl c1 hc vol _ (Kd.C_below H1.out HB4.out) HS1.out).mono ?_; rintro e w5 ⟨v5, rfl, ho, hb⟩; obtain ⟨A5, c5, rfl⟩ : ∃ A c, v5 = .slice A m c := (by obtain ⟨A, c, e⟩ := Kd.R_slice ho; exact ⟨A, c, by rw [e, HMR.out]⟩); have hC := (Kd.R_reads' ho).2.2; rw [HMR.out] at hC; have HC5 := Aside0.mk hC; have HC4b := Aside0.mk (Kd.C_below HC4.out hb); have HB5 := Aside0.mk (below_step HB4.out hb); clear ho hb hC) | (go_at_call_of 13 (Value.slice A4 m c4); refine (same55 A4 A5 m c4 c5 _ _ w5 HC4b.out HC5.out HSM.out (by omega)).mono ?_; rintro e w6 ⟨rfl, hb⟩; have HB6 := Aside0.mk (below_step HB5.out hb); clear hb) | (go_at_call 17; with_reducible refine (files_any A l c1 w6 (Kd.C_below H1.out HB6.out) (by omega) HDA.out).mono ?_; rintro e w7 ⟨Aq, cq, rfl, ho, hb⟩; have HC7 := Aside0.mk (Kd.R_reads' ho).2; have HB7 := Aside0.mk (below_step HB6.out hb); clear ho hb) | (go_at_call 23; refine (rename_as Aq l l.length rfl cq vol sx (by omega) _ HC7.out.2 HC7.out.1 (by omega) HS1.out (Kd.C_below HMG.out HB7.out) p HP.out).mono ?_; rintro e w8 ⟨A8, c8, rfl, ho, hb⟩; have hC := (Kd.R_reads' ho).2.2; rw [HP.out] at hC; have HC8 := Aside0.mk hC; have HB8 := Aside0.mk (below_step HB7.out hb); clear ho hb hC) | (go_at_call 24; refine (rrename_any A l l.length rfl c1 vol sx (by omega) _ (Kd.C_below H1.out HB8.out) HS1.out).mono ?_; rintro e w9 ⟨v9, rfl, ho, hb⟩; obtain ⟨A9, c9, rfl⟩ : ∃ A c, v9 = .slice A p c := (by obtain ⟨A, c, e⟩ := Kd.R_slice ho; exact ⟨A, c, by rw [e, HPR.out]⟩); have hC := (Kd.R_reads' ho).2.2; rw [HPR.out] at hC; have HC9 := Aside0.mk hC; have HC8b := Aside0.mk (Kd.C_below HC8.out hb); have HB9 := Aside0.mk (below_step HB8.out hb); clear ho hb hC) | (go_at_call_of 13 (Value.slice A8 p c8); refine (same55 A8 A9 p c8 c9 _ _ w9 HC8b.out HC9.out HSP.out (by omega)).mono ?_; rintro e w10 ⟨rfl, hb⟩; have HB10 := Aside0.mk (below_step HB9.out hb); clear hb))
      go_ret
      exact ⟨rfl, HB10.out⟩
end Go.Proofs.YtdobjbdkfammbaaDoor
namespace Go.Proofs.YtdobjbdkfammbaaDoor
open Go.ChangeShapes Go.WideShapes Go.ChangeAt Go.RowKit Go.Proofs.YtdobjbdkfammbaaDoorW.PrintWords Go.Proofs.YtdobjbdkfammbaaDoorW.PrintLast Go.Proofs.YtdobjbdkfammbaaDoorW.PrintMore
open Go.ChangeMaps (open_string)
set_option linter.unusedVariables false
set_option linter.unusedSimpArgs false

theorem Tryd.own : ownKnob Tryd.prog.godebug = none := by kernel_rfl
theorem Tryd.laidOut : laidOutB Tryd.prog = true := by kernel_rfl

set_option maxRecDepth 100000 in
theorem row_lifted (os : Os) (started : os.Started) (H : Type) (enc : TypeId × Value → H) :
    ReturnsInHanded {} Tryd.checked os 6 .any (fun w args => (Rows.attackThiefSpec.pre enc Tryd.prog Tryd.f6 [] false w args ∧ laidMetH Tryd.prog laidD w) ∧ sizedMet enc Tryd.prog Tryd.f6 (OpenSpec.ofChange Rows.attackThiefSpec) false w args)
      (Rows.attackThiefSpec.post enc Tryd.prog Tryd.f6 false true false false) := by
  refine returnsInHanded_of_change_and (C := Tryd.checked) (X := fun w _ => laidMetH Tryd.prog laidD w) (fun _ _ _ hh h => h.of_heap hh) Tryd.own started (by kernel_rfl) Tryd.func6
    (ChangeSpec.witness_shaped (enc := enc) (C := Tryd.checked) (os := os) (X := fun w _ => laidMetH Tryd.prog laidD w) false (World.doorLaid Tryd.prog 400 os) #[.slice none 0 0, .int .i64 0, .string ⟨#[]⟩] 8 rfl (World.shaped_of_RefB (by kernel_rfl) (by kernel_rfl)) (by kernel_rfl) (by kernel_rfl) (by kernel_rfl) (door_met os _)) ?_
  intro W base args ds gs before hval0 hW _ hsz0 hL _
  have hsz : (DataW.weightsEach Tryd.prog (Tryd.f6.params.toList ++ Rows.attackThiefSpec.plain.varTypes Tryd.prog) (ds ++ gs)).all (· ≤ reachBytes) = true := hsz0
  have hval : ∀ (j : Nat) t v, Tryd.f6.params[j]? = some t → args[j]? = some v → Value.okWide Tryd.prog W .any base t v := hval0
  have hW' := hW
  obtain ⟨p, q, hA0, hV, rfl, hfz, hnd⟩ := hW
  have hA : DataW.TrodAll enc Tryd.prog W 0 (fun _ => true) true Tryd.f6.params.toList args.toList ds p := hA0
  rw [Tryd.params6] at hA hval hsz
  obtain ⟨v0, v1, v2, d0, d1, d2, p0, p1, p2, rfl, rfl, rfl, h0, h1, h2⟩ := trodAll_three hA
  obtain ⟨rfl, rfl⟩ := trodVars_none hV
  have HMG := magic_of_laid hL
  have hwt : ∀ m ∈ DataW.weightsEach Tryd.prog (#[41, 3, 9].toList ++ Rows.attackThiefSpec.plain.varTypes Tryd.prog) ([d0, d1, d2] ++ []), m ≤ reachBytes := fun m hm => of_decide_eq_true (List.all_eq_true.1 hsz m hm)
  obtain ⟨a0, len0, cap0, hv0⟩ := okWide_slice Tryd.underlying41 (hval 0 41 v0 rfl rfl)
  obtain ⟨A0, l0, c0, rfl, hlc0, hC0, hQ0, hlen0⟩ := open_kd (d := kFile) (Q := (fun y => y.data.length ≤ 140737488351232 ∧ y.name.size ≤ 9223372036854775807)) Tryd.underlying41 cells_rfile hv0 (fun n cs z hz _ hw => el_rfile n cs z hz hw) h0 (fun m hm => hwt m (weightsEach_mem (i := 0) rfl rfl hm))
  obtain ⟨n1, rfl, rfl, rfl, w1⟩ := open_int Tryd.underlying3 (hval 1 3 v1 rfl rfl) h1
  obtain ⟨s2, rfl, rfl, rfl, ws2⟩ := open_string Tryd.underlying9 (hval 2 9 v2 rfl rfl) h2
  refine (law_athief A0 l0 c0 hlc0 n1 s2 (by have := ws2; unfold maxLen at this; omega) W hC0 (fun k hk => (hQ0 k hk).2) HMG).mono fun e W' ⟨he, hb⟩ => ?_
  subst he
  exact ⟨_, rfl, post_law hW' rfl rfl Tryd.underlying4 ⟨rfl, rfl, rfl⟩ Tryd.laidOut (by kernel_rfl) hb⟩

theorem row_holds : Rows.AttackThiefSaid :=
  OpenClaim.holds_of_wide 6 Tryd.f6 rfl rfl rfl rfl rfl rfl rfl ⟨rfl, rfl, rfl, rfl, rfl⟩ rfl rfl rfl rfl rfl (by kernel_rfl) Tryd.func6 (by kernel_rfl)
    (of_decide_eq_true (by kernel_rfl)) (by unfold Func.isWrapper; first | (rw [if_pos (by decide +kernel)]; kernel_rfl) | (rw [if_neg (by decide +kernel)]; exact ⟨rfl, rfl⟩))
    (fun os started H enc _ => row_lifted os started H enc)

theorem attack_thief_holds : Rows.AttackThiefCardSaid :=
  Claim7.holds_tied_plain_at .later [] [.widerDeep] true Rows.attackThiefCard.stood.harness Rows.attackThiefCard.stood.looks
    row_holds (fun _ h => by cases h) (by kernel_rfl) (fun _ h => by cases h) attackThief_row_tie rfl ⟨rfl, rfl⟩ (by kernel_rfl) rfl
    (fun f fn hf hfn => by
      obtain rfl : f = 6 := Option.some.inj ((show Tryd.prog.funcNamed "erewhile/erewhilelaw55.AttackThief" = some 6 by kernel_rfl).symm.trans hf) |>.symm
      obtain rfl : fn = Tryd.f6 := (Option.some.inj (Tryd.func6.symm.trans hfn)).symm
      exact ⟨by kernel_rfl, fun j t ht => by
        rw [Tryd.params6] at ht
        have hm : t ∈ [41, 3, 9] := by simpa using Array.mem_of_getElem? ht
        have hall : ([41, 3, 9].all fun u => !Tryd.prog.wantsStandIn u) = true := by kernel_rfl
        exact (show Tryd.prog.wantsStandIn t = false by simpa using List.all_eq_true.1 hall t hm)⟩)
    (by kernel_rfl)
#print axioms attack_thief_holds
end Go.Proofs.YtdobjbdkfammbaaDoor
