/-
  AttackSteals: the card. For every list of files and every volume the law returns true. No condition beyond the row's own.
-/
import Derived.Test.YtdobjbdkfammbaaDoorGq
import Derived.Test.YtdobjbdkfammbaaDoorGh
import Derived.Test.YtdobjbdkfammbaaDoorGl
import Derived.Test.YtdobjbdkfammbaaDoorRows
import Derived.Test.YtdobjbdkfammbaaDoorCards
import Derived.Test.YtdobjbdkfammbaaDoorTie
import Derived.Test.YtdobjbdkfammbaaDoorGg
import Derived.SevenTiedAt
/-
  AttackSteals, walked: it returns true.
-/
namespace Go.Proofs.YtdobjbdkfammbaaDoor
open Go.RowKit Go.Shelf Go.Proofs.YtdobjbdkfammbaaDoorW.PrintWords Go.Proofs.YtdobjbdkfammbaaDoorW.PrintLast Go.Proofs.YtdobjbdkfammbaaDoorW.PrintMore
set_option linter.unusedVariables false
set_option linter.unusedSimpArgs false

theorem nil_E : makeE [] = 0 := by decide
set_option maxRecDepth 4000 in
set_option maxHeartbeats 3200000 in
theorem law_asteals (A : Option Addr) (l : List File) (c1 : Nat) (hc : l.length ≤ c1) (vol : Int) (w : World) (h1 : kFile.C w A l.length l) (hs1 : ∀ k, k < l.length → (gt l k).name.size ≤ 9223372036854775807) (hmg : MagicAt w) :
    Calls Tryd.prog 9 #[.slice A l.length c1, .int .i64 vol] w fun e w' => e = .returned (.bool true) ∧ Below w.heap.size w w' := by
  have H1 := Aside0.mk h1
  have HS1 := Aside0.mk hs1
  have HMG := Aside0.mk hmg
  clear h1 hs1 hmg
  cases hb1 : smallB l
  · have HS := Aside0.mk hb1
    clear hb1
    go_enter Tryd.func9, Tryd.ntmps9
    go_wp2_with (first | (go_at_call 12; refine (awake55 _ HMG.out).mono ?_; rintro e w1 ⟨rfl, hb⟩; have HB1 := Aside0.mk hb; clear hb) | (go_at_call 16; refine (small_any A l c1 false HS.out 0 rfl _ (Kd.C_below H1.out HB1.out) HS1.out).mono ?_; rintro e w2 ⟨rfl, hb⟩; have HB2 := Aside0.mk (below_step HB1.out hb); clear hb))
    go_ret
    exact ⟨rfl, HB2.out⟩
  · have HSA := Aside0.mk hb1
    obtain ⟨E, hEe⟩ : ∃ E, makeE l = E := ⟨_, rfl⟩
    have HEE := Aside0.mk hEe
    by_cases hE0 : E = 0
    · subst hE0
      have hsm := small_mild hb1
      have hl12 := hsm.1
      have HDA : Aside0 (∀ k, k < l.length → (gt l k).data.length ≤ 1000000) := ⟨fun k hk => by have := (hsm.2 k hk).2; omega⟩
      obtain ⟨m, hm⟩ : ∃ m, (thiefD vol l).length = m := ⟨_, rfl⟩
      have hm1 := thiefD_le vol l hl12
      rw [hm] at hm1
      have HM := Aside0.mk hm
      have HOK : Aside0 (∀ k, k < m → okD vol (gt (thiefD vol l) k)) := ⟨fun k hk => okAll_at (okAll_thief vol l) k (by rw [hm]; exact hk)⟩
      have HTL := Aside0.mk (thief_last vol l hEe)
      clear hb1 hsm hm hEe
      go_enter Tryd.func9, Tryd.ntmps9
      go_wp2_with (first | (go_at_call 12; refine (awake55 _ HMG.out).mono ?_; rintro e w1 ⟨rfl, hb⟩; have HB1 := Aside0.mk hb; clear hb) | (go_at_call 16; refine (small_any A l c1 true HSA.out 1 rfl _ (Kd.C_below H1.out HB1.out) HS1.out).mono ?_; rintro e w2 ⟨rfl, hb⟩; have HB2 := Aside0.mk (below_step HB1.out hb); clear hb) | (go_at_call 25; refine (refCheck_any A l c1 0 HEE.out _ (Kd.C_below H1.out HB2.out) HS1.out).mono ?_; rintro e w3 ⟨rfl, hb⟩; have HB3 := Aside0.mk (below_step HB2.out hb); clear hb) | (go_at_call 17; refine (files_any A l c1 _ (Kd.C_below H1.out HB3.out) (by omega) HDA.out).mono ?_; rintro e w4 ⟨Ap, cp, rfl, ho, hb⟩; have HC4 := Aside0.mk (Kd.R_reads' ho).2; have HB4 := Aside0.mk (below_step HB3.out hb); clear ho hb) | (go_at_call 21; refine (thief_as Ap l l.length rfl cp vol _ HC4.out.2 HC4.out.1 HS1.out (Kd.C_below HMG.out HB4.out) m HM.out).mono ?_; rintro e w5 ⟨A5, c5, rfl, ho, hb⟩; have hC := (Kd.R_reads' ho).2.2; rw [HM.out] at hC; have HC5 := Aside0.mk hC; have HB5 := Aside0.mk (below_step HB4.out hb); clear ho hb hC) | (go_at_call 26; refine (disk55 A5 m c5 (thiefD vol l) HM.out vol _ HC5.out HOK.out hm1).mono ?_; rintro e w6 ⟨mb, rfl, hmb, hd, hb⟩; have HD6 := Aside0.mk hd; have HB6 := Aside0.mk (below_step HB5.out hb); clear hmb hd hb) | (go_at_call 27; refine (lread_any [] nil_E 0 rfl mb _ _ _ HD6.out (dsk_32 HD6.out (okAll_thief vol l)) HTL.out (Kd.C_below HMG.out HB6.out)).mono ?_; rintro e w7 ⟨A7, c7, rfl, hC, hb⟩; have HB7 := Aside0.mk (below_step HB6.out hb); clear hC hb))
      go_ret
      exact ⟨rfl, HB7.out⟩
    · have hE' : (E != 0) = true := by simpa using hE0
      clear hb1 hEe
      go_enter Tryd.func9, Tryd.ntmps9
      go_wp2_with (first | (go_at_call 12; refine (awake55 _ HMG.out).mono ?_; rintro e w1 ⟨rfl, hb⟩; have HB1 := Aside0.mk hb; clear hb) | (go_at_call 16; refine (small_any A l c1 true HSA.out 1 rfl _ (Kd.C_below H1.out HB1.out) HS1.out).mono ?_; rintro e w2 ⟨rfl, hb⟩; have HB2 := Aside0.mk (below_step HB1.out hb); clear hb) | (go_at_call 25; refine (refCheck_any A l c1 E HEE.out _ (Kd.C_below H1.out HB2.out) HS1.out).mono ?_; rintro e w3 ⟨rfl, hb⟩; have HB3 := Aside0.mk (below_step HB2.out hb); clear hb))
      go_ret
      exact ⟨rfl, HB3.out⟩
end Go.Proofs.YtdobjbdkfammbaaDoor
namespace Go.Proofs.YtdobjbdkfammbaaDoor
open Go.ChangeShapes Go.WideShapes Go.ChangeAt Go.RowKit Go.Proofs.YtdobjbdkfammbaaDoorW.PrintWords Go.Proofs.YtdobjbdkfammbaaDoorW.PrintLast Go.Proofs.YtdobjbdkfammbaaDoorW.PrintMore
open Go.ChangeMaps (open_string)
set_option linter.unusedVariables false
set_option linter.unusedSimpArgs false

theorem Tryd.own : ownKnob Tryd.prog.godebug = none := by kernel_rfl
theorem Tryd.laidOut : laidOutB Tryd.prog = true := by kernel_rfl

set_option maxRecDepth 100000 in
theorem row_lifted (os : Os) (started : os.Started) (H : Type) (enc : TypeId × Value → H) :
    ReturnsInHanded {} Tryd.checked os 9 .any (fun w args => (Rows.attackStealsSpec.pre enc Tryd.prog Tryd.f9 [] false w args ∧ laidMetH Tryd.prog laidD w) ∧ sizedMet enc Tryd.prog Tryd.f9 (OpenSpec.ofChange Rows.attackStealsSpec) false w args)
      (Rows.attackStealsSpec.post enc Tryd.prog Tryd.f9 false true false false) := by
  refine returnsInHanded_of_change_and (C := Tryd.checked) (X := fun w _ => laidMetH Tryd.prog laidD w) (fun _ _ _ hh h => h.of_heap hh) Tryd.own started (by kernel_rfl) Tryd.func9
    (ChangeSpec.witness_shaped (enc := enc) (C := Tryd.checked) (os := os) (X := fun w _ => laidMetH Tryd.prog laidD w) false (World.doorLaid Tryd.prog 400 os) #[.slice none 0 0, .int .i64 0] 8 rfl (World.shaped_of_RefB (by kernel_rfl) (by kernel_rfl)) (by kernel_rfl) (by kernel_rfl) (by kernel_rfl) (door_met os _)) ?_
  intro W base args ds gs before hval0 hW _ hsz0 hL _
  have hsz : (DataW.weightsEach Tryd.prog (Tryd.f9.params.toList ++ Rows.attackStealsSpec.plain.varTypes Tryd.prog) (ds ++ gs)).all (· ≤ reachBytes) = true := hsz0
  have hval : ∀ (j : Nat) t v, Tryd.f9.params[j]? = some t → args[j]? = some v → Value.okWide Tryd.prog W .any base t v := hval0
  have hW' := hW
  obtain ⟨p, q, hA0, hV, rfl, hfz, hnd⟩ := hW
  have hA : DataW.TrodAll enc Tryd.prog W 0 (fun _ => true) true Tryd.f9.params.toList args.toList ds p := hA0
  rw [Tryd.params9] at hA hval hsz
  obtain ⟨v0, v1, d0, d1, p0, p1, rfl, rfl, rfl, h0, h1⟩ := trodAll_two hA
  obtain ⟨rfl, rfl⟩ := trodVars_none hV
  have HMG := magic_of_laid hL
  have hwt : ∀ m ∈ DataW.weightsEach Tryd.prog (#[41, 3].toList ++ Rows.attackStealsSpec.plain.varTypes Tryd.prog) ([d0, d1] ++ []), m ≤ reachBytes := fun m hm => of_decide_eq_true (List.all_eq_true.1 hsz m hm)
  obtain ⟨a0, len0, cap0, hv0⟩ := okWide_slice Tryd.underlying41 (hval 0 41 v0 rfl rfl)
  obtain ⟨A0, l0, c0, rfl, hlc0, hC0, hQ0, hlen0⟩ := open_kd (d := kFile) (Q := (fun y => y.data.length ≤ 140737488351232 ∧ y.name.size ≤ 9223372036854775807)) Tryd.underlying41 cells_rfile hv0 (fun n cs z hz _ hw => el_rfile n cs z hz hw) h0 (fun m hm => hwt m (weightsEach_mem (i := 0) rfl rfl hm))
  obtain ⟨n1, rfl, rfl, rfl, w1⟩ := open_int Tryd.underlying3 (hval 1 3 v1 rfl rfl) h1
  refine (law_asteals A0 l0 c0 hlc0 n1 W hC0 (fun k hk => (hQ0 k hk).2) HMG).mono fun e W' ⟨he, hb⟩ => ?_
  subst he
  exact ⟨_, rfl, post_law hW' rfl rfl Tryd.underlying4 ⟨rfl, rfl, rfl⟩ Tryd.laidOut (by kernel_rfl) hb⟩

theorem row_holds : Rows.AttackStealsSaid :=
  OpenClaim.holds_of_wide 9 Tryd.f9 rfl rfl rfl rfl rfl rfl rfl ⟨rfl, rfl, rfl, rfl, rfl⟩ rfl rfl rfl rfl rfl (by kernel_rfl) Tryd.func9 (by kernel_rfl)
    (of_decide_eq_true (by kernel_rfl)) (by unfold Func.isWrapper; first | (rw [if_pos (by decide +kernel)]; kernel_rfl) | (rw [if_neg (by decide +kernel)]; exact ⟨rfl, rfl⟩))
    (fun os started H enc _ => row_lifted os started H enc)

theorem attack_steals_holds : Rows.AttackStealsCardSaid :=
  Claim7.holds_tied_plain_at .later [] [.widerDeep] true Rows.attackStealsCard.stood.harness Rows.attackStealsCard.stood.looks
    row_holds (fun _ h => by cases h) (by kernel_rfl) (fun _ h => by cases h) attackSteals_row_tie rfl ⟨rfl, rfl⟩ (by kernel_rfl) rfl
    (fun f fn hf hfn => by
      obtain rfl : f = 9 := Option.some.inj ((show Tryd.prog.funcNamed "erewhile/erewhilelaw55.AttackSteals" = some 9 by kernel_rfl).symm.trans hf) |>.symm
      obtain rfl : fn = Tryd.f9 := (Option.some.inj (Tryd.func9.symm.trans hfn)).symm
      exact ⟨by kernel_rfl, fun j t ht => by
        rw [Tryd.params9] at ht
        have hm : t ∈ [41, 3] := by simpa using Array.mem_of_getElem? ht
        have hall : ([41, 3].all fun u => !Tryd.prog.wantsStandIn u) = true := by kernel_rfl
        exact (show Tryd.prog.wantsStandIn t = false by simpa using List.all_eq_true.1 hall t hm)⟩)
    (by kernel_rfl)
#print axioms attack_steals_holds
end Go.Proofs.YtdobjbdkfammbaaDoor
