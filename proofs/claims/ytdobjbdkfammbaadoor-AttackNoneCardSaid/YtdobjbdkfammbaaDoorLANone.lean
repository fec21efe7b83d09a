/-
  AttackNone, walked: it returns true.
-/
import Derived.Test.YtdobjbdkfammbaaDoorNo
namespace Go.Proofs.YtdobjbdkfammbaaDoor
open Go.RowKit Go.Shelf Go.Proofs.YtdobjbdkfammbaaDoorW.PrintWords Go.Proofs.YtdobjbdkfammbaaDoorW.PrintLast Go.Proofs.YtdobjbdkfammbaaDoorW.PrintMore
set_option linter.unusedVariables false
set_option linter.unusedSimpArgs false
attribute [local go_sem] max2_int min2_int max_two min_two

theorem i64_hi2 {n : Int} (h : (Lit.int .i64 n).wf = true) : -9223372036854775808 ≤ n ∧ n ≤ 9223372036854775807 := by
  simpa [Lit.wf, IntKind.min, IntKind.max, IntKind.bits, IntKind.signed] using h
theorem u64_hi2 {n : Int} (h : (Lit.int .u64 n).wf = true) : U64 n := by
  unfold U64
  simpa [Lit.wf, IntKind.min, IntKind.max, IntKind.bits, IntKind.signed] using h
set_option maxRecDepth 4000 in
set_option maxHeartbeats 3200000 in
theorem law_anone (A : Option Addr) (l : List File) (c1 : Nat) (vol blocks many seed : Int) (hb2 : blocks ≤ 9223372036854775807) (hx : U64 seed) (w : World) (h1 : kFile.C w A l.length l) (hs1 : ∀ k, k < l.length → (gt l k).name.size ≤ 9223372036854775807) (hmg : MagicAt w) :
    Calls Tryd.prog 7 #[.slice A l.length c1, .int .i64 vol, .int .i64 blocks, .int .i64 many, .int .u64 seed] w fun e w' => e = .returned (.bool true) ∧ Below w.heap.size w w' := by
  have H1 := Aside0.mk h1
  have HS1 := Aside0.mk hs1
  have HMG := Aside0.mk hmg
  have HX := Aside0.mk hx
  have HB2x := Aside0.mk hb2
  clear h1 hs1 hmg hx hb2
  cases hb1 : smallB l
  · have HS := Aside0.mk hb1
    clear hb1
    go_enter Tryd.func7, Tryd.ntmps7
    go_wp2_with (first | (go_at_call 12; refine (awake55 _ HMG.out).mono ?_; rintro e w1 ⟨rfl, hb⟩; have HB1 := Aside0.mk hb; clear hb) | (go_at_call 16; refine (small_any A l c1 false HS.out 0 rfl _ (Kd.C_below H1.out HB1.out) HS1.out).mono ?_; rintro e w2 ⟨rfl, hb⟩; have HB2 := Aside0.mk (below_step HB1.out hb); clear hb))
    go_ret
    exact ⟨rfl, HB2.out⟩
  · have HSA := Aside0.mk hb1
    have hsm := small_mild hb1
    have hl12 := hsm.1
    have HDA : Aside0 (∀ k, k < l.length → (gt l k).data.length ≤ 1000000) := ⟨fun k hk => by have := (hsm.2 k hk).2; omega⟩
    obtain ⟨L, hL⟩ : ∃ L, L = l ++ [fNO] := ⟨_, rfl⟩
    obtain ⟨n4, hn4⟩ : ∃ n4, L.length = n4 := ⟨_, rfl⟩
    have HSL : Aside0 (∀ k, k < L.length → (gt L k).name.size ≤ 9223372036854775807) := ⟨fun k hk => by
      have hm : gt L k ∈ L := by rw [gt_eq L k hk]; exact List.getElem_mem hk
      rw [hL] at hm ⊢
      simp only [List.mem_append, List.mem_singleton] at hm
      rcases hm with hm | hm
      · obtain ⟨j, hj, e⟩ := List.getElem_of_mem hm
        rw [← e, ← gt_eq l j hj]
        exact HS1.out j hj
      · rw [hm]; decide⟩
    have HN4M : Aside0 (n4 ≤ 1000000) := ⟨by rw [← hn4, hL]; simp; omega⟩
    have HBAD : Aside0 (makeE L ≠ 0) := ⟨by rw [hL]; exact no_bad l⟩
    have HRZ : Aside0 ((ransomD vol 1 1 L).length = 0) := ⟨by rw [hL]; exact no_ransom vol l⟩
    have HL := Aside0.mk hL
    have HN4 := Aside0.mk hn4
    clear hb1 hsm hL hn4
    go_enter Tryd.func7, Tryd.ntmps7
    go_upto_region 8 with (first | (go_at_call 12; refine (awake55 _ HMG.out).mono ?_; rintro e w1 ⟨rfl, hb⟩; have HB1 := Aside0.mk hb; clear hb) | (go_at_call 16; refine (small_any A l c1 true HSA.out 1 rfl _ (Kd.C_below H1.out HB1.out) HS1.out).mono ?_; rintro e w2 ⟨rfl, hb⟩; have HB2 := Aside0.mk (below_step HB1.out hb); clear hb) | (go_at_call 17; refine (files_any A l c1 _ (Kd.C_below H1.out HB2.out) (by omega) HDA.out).mono ?_; rintro e w3 ⟨Ap, cp, rfl, ho, hb⟩; have HO3 := Aside0.mk ho; have HB3 := Aside0.mk hb; clear ho hb) | ((with_reducible refine gate_builtin (b := .append) (xs := #[.tmp 18, .tmp 20]) rfl ?_); at_builtin; refine Kd.R_append kFile (w0 := w2) w2.heap.size rfl (.tmp 18) (.tmp 20) 43 56 (.agg #[.string ByteArray.empty, .slice none 0 0]) 40 rfl Tryd.underlying43 info_file51 rfl (Nat.succ_pos _) (by omega) (.slice Ap l.length cp) l fNO [.string ⟨#[78, 79]⟩, .slice none 0 0] (fun _ => True) (fun _ => False) rfl rfl (kFile_mkM51 _ _ _ fNO (Kd.R_nil _ _ _ _ _)) (fun _ hk => hk.elim) (fun _ _ => trivial) HO3.out HB3.out HB3.out.size (by omega) ?_; intro v4 w4 ho hb hg hat; rw [← HL.out] at ho; obtain ⟨A4, c4, rfl⟩ : ∃ A c, v4 = .slice A n4 c := (by obtain ⟨A, c, e⟩ := Kd.R_slice ho; exact ⟨A, c, by rw [e, HN4.out]⟩); have hc4 := (Kd.R_reads' ho).2; rw [HN4.out] at hc4; have HC4 := Aside0.mk hc4; have HB4 := Aside0.mk (below_step HB2.out hb); clear ho hb hg hat hc4) | (go_at_call 18; refine (ransom_as A4 L n4 HN4.out c4 vol 1 1 _ HC4.out.2 HC4.out.1 HN4M.out HSL.out (Kd.C_below HMG.out HB4.out) 0 HRZ.out).mono ?_; rintro e w5 ⟨A5, c5, rfl, ho, hb⟩; have HB5a := Aside0.mk hb; have HB5 := Aside0.mk (below_step HB4.out hb); clear ho hb) | (go_at_call 21; refine (thief_none A4 L n4 HN4.out c4 vol _ (Kd.C_below HC4.out.2 HB5a.out) HSL.out (Kd.C_below HMG.out HB5.out) HBAD.out).mono ?_; rintro e w6 ⟨rfl, hb⟩; have HB6a := Aside0.mk (below_step HB5a.out hb); have HB6 := Aside0.mk (below_step HB5.out hb); clear hb) | (go_at_call 23; refine (rename_none A4 L n4 HN4.out c4 vol ⟨#[120]⟩ _ (Kd.C_below HC4.out.2 HB6a.out) HC4.out.1 HN4M.out HSL.out (Kd.C_below HMG.out HB6.out) HBAD.out).mono ?_; rintro e w7 ⟨rfl, hb⟩; have HB7 := Aside0.mk (below_step HB6.out hb); clear hb))
    by_cases hb : blocks ≤ 0
    · have hb' : blocks < 1 := by omega
      by_cases hm : many ≤ 0
      · (go_wp2_with (go_at_call 14; with_reducible refine (flood_none vol blocks many seed _ hb').mono ?_; rintro e w8 ⟨rfl, rfl⟩); go_ret; exact ⟨rfl, by first | exact HB8.out | exact HB7.out⟩)
      · (go_wp2_with (first | (go_at_call 14; with_reducible refine (flood_none vol blocks many seed _ hb').mono ?_; rintro e w8 ⟨rfl, rfl⟩) | (go_at_call 14; with_reducible refine (flood_none vol blocks 0 seed _ hb').mono ?_; rintro e w8 ⟨rfl, rfl⟩)); go_ret; exact ⟨rfl, by first | exact HB8.out | exact HB7.out⟩)
    · have hb' : 1 ≤ blocks := by omega
      by_cases hm : many ≤ 0
      · (go_wp2_with (first | (go_at_call 14; with_reducible refine (flood_none vol 0 many seed _ (by decide)).mono ?_; rintro e w8 ⟨rfl, rfl⟩) | (go_at_call 14; with_reducible refine (flood_as vol blocks many seed _ hb' HB2x.out HX.out 0 (by split <;> omega)).mono ?_; rintro e w8 ⟨A8, c8, rfl, ho, hb⟩; have HB8 := Aside0.mk (below_step HB7.out hb); clear ho hb)); go_ret; exact ⟨rfl, by first | exact HB8.out | exact HB7.out⟩)
      · (go_wp2_with (first | (go_at_call 14; with_reducible refine (flood_none vol 0 many seed _ (by decide)).mono ?_; rintro e w8 ⟨rfl, rfl⟩) | (go_at_call 14; with_reducible refine (flood_as vol blocks 0 seed _ hb' HB2x.out HX.out 0 (by decide)).mono ?_; rintro e w8 ⟨A8, c8, rfl, ho, hb⟩; have HB8 := Aside0.mk (below_step HB7.out hb); clear ho hb)); go_ret; exact ⟨rfl, by first | exact HB8.out | exact HB7.out⟩)
end Go.Proofs.YtdobjbdkfammbaaDoor
