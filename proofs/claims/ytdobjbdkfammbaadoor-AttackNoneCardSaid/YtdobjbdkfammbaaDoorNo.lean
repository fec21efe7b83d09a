/-
  Chapter 55: of files that may not stand together nothing is done.
-/
import Derived.Test.YtdobjbdkfammbaaDoorSf
namespace Go.Proofs.YtdobjbdkfammbaaDoor
open Go.RowKit Go.Shelf Go.Proofs.YtdobjbdkfammbaaDoorW.PrintWords Go.Proofs.YtdobjbdkfammbaaDoorW.PrintLast Go.Proofs.YtdobjbdkfammbaaDoorW.PrintMore
set_option linter.unusedVariables false
set_option linter.unusedSimpArgs false
attribute [local go_sem] max2_int min2_int max_two min_two

theorem thief_none (A : Option Addr) (l : List File) (n : Nat) (hn : l.length = n) (c : Nat) (vol : Int) (w : World) (h : kFile.C w A n l) (hs : ∀ k, k < l.length → (gt l k).name.size ≤ 9223372036854775807) (hmg : MagicAt w) (hE : makeE l ≠ 0) :
    Calls Tryd.prog 21 #[.slice A n c, .int .i64 vol] w fun e w' => e = .returned (.slice none 0 0) ∧ Below w.heap.size w w' := by
  subst hn
  obtain ⟨W2, hW2⟩ : ∃ W2, (w.alloc (.cells #[.slice A l.length c] 43)).alloc (.cells #[.int .i64 vol] 3) = W2 := ⟨_, rfl⟩
  have x0 : Boxed W2 w.heap.size 43 (.slice A l.length c) := by rw [← hW2]; exact (Boxed.new w _ _).alloc _
  have x1 : Boxed W2 (w.heap.size + 1) 3 (.int .i64 vol) := by
    have := Boxed.new (w.alloc (.cells #[.slice A l.length c] 43)) 3 (.int .i64 vol)
    rw [World.size_alloc] at this
    rw [← hW2]; exact this
  have hb : Below w.heap.size w W2 := by rw [← hW2]; exact below_alloc (below_alloc (Below.refl _ _) _) _
  have HW2 := Aside0.mk hW2
  have HB2 := Aside0.mk hb
  have H := Aside0.mk h
  have HS := Aside0.mk hs
  have HMG := Aside0.mk hmg
  have HE := Aside0.mk hE
  clear hW2 hb h hs hmg hE
  obtain ⟨N5, hN5⟩ : ∃ N5, N5 = w.heap.size := ⟨_, rfl⟩
  rw [← hN5] at x0 x1
  go_enter Tryd.func21, Tryd.ntmps21
  go_upto_region 1 with fail
  rw [HW2.out, ← hN5]
  have y0 := x0.cell
  have y1 := x1.cell
  clear hN5 x0 x1
  go_wp2_with (go_at_call 32; refine (host_none 43 #[.pointer (some ⟨N5, 0, none⟩), .pointer (some ⟨N5 + 1, 0, none⟩)] A l c vol _ (Kd.C_below H.out HB2.out) HS.out (Kd.C_below HMG.out HB2.out) HE.out).mono ?_; rintro e w5 ⟨rfl, hb⟩; have HB5 := Aside0.mk (below_step HB2.out hb); clear hb)
  go_ret
  exact ⟨rfl, HB5.out⟩
theorem rename_none (A : Option Addr) (l : List File) (n : Nat) (hn : l.length = n) (c : Nat) (vol : Int) (sx : ByteArray) (w : World) (h : kFile.C w A n l) (hc : n ≤ c) (hl : n ≤ 1000000) (hs : ∀ k, k < l.length → (gt l k).name.size ≤ 9223372036854775807) (hmg : MagicAt w) (hE : makeE l ≠ 0) :
    Calls Tryd.prog 23 #[.slice A n c, .int .i64 vol, .string sx] w fun e w' => e = .returned (.slice none 0 0) ∧ Below w.heap.size w w' := by
  subst hn
  obtain ⟨W2, hW2⟩ : ∃ W2, (w.alloc (.cells #[.int .i64 vol] 3)).alloc (.cells #[.string sx] 9) = W2 := ⟨_, rfl⟩
  have x0 : Boxed W2 w.heap.size 3 (.int .i64 vol) := by rw [← hW2]; exact (Boxed.new w _ _).alloc _
  have hb : Below w.heap.size w W2 := by rw [← hW2]; exact below_alloc (below_alloc (Below.refl _ _) _) _
  have HCL := Aside0.mk (fclone A l c w W2 hb h hc hl)
  have HW2 := Aside0.mk hW2
  have HB2 := Aside0.mk hb
  have H := Aside0.mk h
  have HS := Aside0.mk hs
  have HMG := Aside0.mk hmg
  have HE := Aside0.mk hE
  have X0 := Aside0.mk x0
  clear hW2 hb h hs hmg hE hc x0
  obtain ⟨N5, hN5⟩ : ∃ N5, N5 = w.heap.size := ⟨_, rfl⟩
  rw [← hN5] at X0
  go_enter Tryd.func23, Tryd.ntmps23
  go_upto_region 1 with fail
  rw [HW2.out, ← hN5]
  clear hN5
  go_wp2_with (first | (go_at_call 31; refine HCL.out.mono ?_; rintro e w4 ⟨v4, rfl, ho, hb⟩; obtain ⟨Al, cl, rfl⟩ := Kd.R_slice ho; have z5 := (show Boxed w4 N5 _ _ from blk_below X0.out hb); have HB4 := Aside0.mk (below_alloc hb (.cells #[.slice Al l.length cl] 43)); have q5 := (z5.alloc (.cells #[.slice Al l.length cl] 43)).cell; clear ho hb z5) | (go_at_call 32; refine (host_none 44 #[.pointer (some ⟨w4.heap.size, 0, none⟩), .pointer (some ⟨N5 + 1, 0, none⟩), .pointer (some ⟨N5, 0, none⟩)] A l c vol _ (Kd.C_below H.out (below_step HB2.out HB4.out)) HS.out (Kd.C_below HMG.out (below_step HB2.out HB4.out)) HE.out).mono ?_; rintro e w5 ⟨rfl, hb⟩; have HB5 := Aside0.mk (below_step (below_step HB2.out HB4.out) hb); clear hb))
  go_ret
  exact ⟨rfl, HB5.out⟩
def fNO : File := ⟨⟨#[78, 79]⟩, []⟩
theorem no_right : rightB fNO = false := by decide +kernel
theorem no_bad (l : List File) : makeE (l ++ [fNO]) ≠ 0 := by
  unfold makeE
  split
  · decide
  · have : togB (l ++ [fNO]) = false := by
      cases ht : togB (l ++ [fNO]) with
      | false => rfl
      | true =>
        have h1 := togTo_right ht l.length (by simp)
        rw [gt_eq _ _ (by simp)] at h1
        simp only [List.getElem_concat_length] at h1
        have h2 := no_right
        rw [h1] at h2
        cases h2
    rw [this]
    decide
theorem no_ransom (vol : Int) (l : List File) : (ransomD vol 1 1 (l ++ [fNO])).length = 0 := by
  unfold ransomD
  rw [if_neg (no_bad l)]
  rfl
end Go.Proofs.YtdobjbdkfammbaaDoor
