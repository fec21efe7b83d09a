/-
  Chapter 51: whether a file's name speaks, whether it is sound or broken; the document's State.
-/
import Derived.Test.YtoglbbonfjnmpaaDoorPb
namespace Go.Proofs.YtoglbbonfjnmpaaDoor
open Go.RowKit Go.Proofs.YtoglbbonfjnmpaaDoorW.PrintWords Go.Proofs.YtoglbbonfjnmpaaDoorW.PrintLast Go.Proofs.YtoglbbonfjnmpaaDoorW.PrintMore
set_option linter.unusedVariables false
set_option linter.unusedSimpArgs false

/-- 0: nothing is said of a file, 1: it is sound, 2: it is broken. -/
def stateB (x : File) : Nat := if kindOf (endB x.name) < 0 ∨ x.data.length < 4 then 0 else if begB x.data (magicK (kindOf (endB x.name)).toNat) then 1 else 2
theorem state_le (x : File) : stateB x ≤ 2 := by unfold stateB; split <;> (try split) <;> omega
theorem kind_range (e : ByteArray) : -1 ≤ kindOf e ∧ kindOf e < 4 := by
  rcases kind_cases e with ⟨_, h⟩ | ⟨_, h⟩ | ⟨_, h⟩ | ⟨_, h⟩ | ⟨_, _, _, _, h⟩ <;> rw [h] <;> decide
theorem kind_empty : kindOf ⟨#[]⟩ = -1 := by decide
/-- What the file's state is made of. -/
structure Spk (s : ByteArray) (xs : List UInt8) (n : Nat) (d k : Int) (st : Nat) : Prop where
  hd : dotAt s = d
  hk : 0 ≤ d → kindOf (s.extract (d + 1).toNat s.size) = k
  h0 : d < 0 → st = 0
  h1 : 0 ≤ d → k < 0 → st = 0
  h2 : 0 ≤ d → n < 4 → st = 0
  h3 : 0 ≤ d → 0 ≤ k → 4 ≤ n → st = if begB xs (magicK k.toNat) then 1 else 2
theorem spk_of (s : ByteArray) (xs : List UInt8) (st : Nat) (h : stateB ⟨s, xs⟩ = st) : ∃ d k, Spk s xs xs.length d k st ∧ -1 ≤ d ∧ d < (s.size : Int) ∧ -1 ≤ k ∧ k < 4 := by
  have hdr := dotTo_lt s s.size
  refine ⟨dotAt s, kindOf (endB s), ⟨rfl, ?_, ?_, ?_, ?_, ?_⟩, hdr.1, hdr.2, (kind_range _).1, (kind_range _).2⟩
  · intro h; unfold endB; rw [if_neg (by omega)]
  · intro hd
    rw [← h]; unfold stateB
    have : kindOf (endB s) = -1 := by unfold endB; rw [if_pos hd]; exact kind_empty
    rw [if_pos (.inl (by show kindOf (endB s) < 0; omega))]
  · intro _ hk; rw [← h]; unfold stateB; rw [if_pos (.inl hk)]
  · intro _ hn; rw [← h]; unfold stateB; rw [if_pos (.inr hn)]
  · intro _ hk hn; rw [← h]; unfold stateB; rw [if_neg (by show ¬ (kindOf (endB s) < 0 ∨ xs.length < 4); omega)]
theorem idxs_q (A : Option Addr) (e : ByteArray) (r : Int) (hr : kindOf e = r) (w : World) (h : Kd.string.C w A 4 endL) :
    Calls Tryd.prog 66 #[.slice A 4 4, .string e] w fun e w' => e = .returned (.int .i64 r) ∧ ∃ n, w' = w.drewN n := (idxs_any A e r hr w h).mono fun e w' ⟨h, h2⟩ => ⟨h, 0, h2.symm⟩
theorem bprefix_q (A B : Option Addr) (xs ys : List UInt8) (n m c1 c2 : Nat) (hn : xs.length = n) (hm : ys.length = m) (r : Bool) (hr : begB xs ys = r) (w : World) (h1 : byte.C w A n xs) (hc : n ≤ c1) (h2 : byte.C w B m ys) :
    Calls Tryd.prog 67 #[.slice A n c1, .slice B m c2] w fun e w' => e = .returned (.bool r) ∧ ∃ n, w' = w.drewN n := by
  subst hn hm
  exact (bprefix_any A B xs ys c1 c2 r hr w h1 hc h2).mono fun e w' ⟨h, h2⟩ => ⟨h, 0, h2.symm⟩
set_option maxHeartbeats 1600000 in
theorem speaks_any (s : ByteArray) (A : Option Addr) (xs : List UInt8) (c : Nat) (st : Nat) (hst : stateB ⟨s, xs⟩ = st) (w : World) (hs : s.size ≤ 1000000) (h : byte.C w A xs.length xs) (hc : xs.length ≤ c) (he : EndAt w) (hn : NumAt w) :
    Calls Tryd.prog 58 #[.agg #[.string s, .slice A xs.length c]] w fun e w' => e = .returned (.tuple #[.bool (decide (st ≠ 0)), .bool (decide (st = 1))]) ∧ Below w.heap.size w w' := by
  obtain ⟨d, k, hsp, hd1, hd2, hk1, hk2⟩ := spk_of s xs st hst
  have HSP := Aside0.mk hsp
  have HX := Aside0.mk (Kd.C_below h (below_alloc (Below.refl w.heap.size w) (.cells #[.string s, .slice A xs.length c] 52)))
  have HE := Aside0.mk (Kd.C_below he (below_alloc (Below.refl w.heap.size w) (.cells #[.string s, .slice A xs.length c] 52)))
  have HNM := Aside0.mk (Kd.C_below hn (below_alloc (Below.refl w.heap.size w) (.cells #[.string s, .slice A xs.length c] 52)))
  have HB := Aside0.mk (below_alloc (Below.refl w.heap.size w) (.cells #[.string s, .slice A xs.length c] 52))
  have hmx := Kd.C_max h
  clear hst hsp h he hn
  obtain ⟨n, hn⟩ : ∃ n, n = xs.length := ⟨_, rfl⟩
  rw [← hn] at HSP HX HE HNM HB hc hmx ⊢
  have HN := Aside0.mk hn
  clear hn
  by_cases hd : d < 0
  · have HS : Aside0 (st = 0) := ⟨HSP.out.h0 hd⟩
    go_enter Tryd.func58, Tryd.ntmps58
    go_wp2_with (go_at_call 65; refine (last_any s d HSP.out.hd _ hs).mono ?_; rintro e w1 ⟨rfl, rfl⟩)
    go_ret2
    exact ⟨by rw [HS.out]; rfl, HB.out⟩
  · obtain ⟨dn, rfl⟩ := Int.eq_ofNat_of_zero_le (by omega : 0 ≤ d)
    have e1 : IntKind.i64.wrap ((dn : Int) + 1) = ((dn + 1 : Nat) : Int) := by rw [IntWalk.i64_in _ (by omega)]; omega
    have hsl1 : ((dn + 1 : Nat) : Int) ≤ (s.size : Int) := by omega
    have HK : Aside0 (kindOf (s.extract (dn + 1) s.size) = k) := ⟨HSP.out.hk (by omega)⟩
    go_enter Tryd.func58, Tryd.ntmps58
    go_wp2_with (go_at_call 65; refine (last_any s dn HSP.out.hd _ hs).mono ?_; rintro e w1 ⟨rfl, rfl⟩)
    go_quiet ((go_at_call 66; exact Calls.quiet_of (idxs_q _ _ k HK.out _ (Kd.C_drewN HE.out _))))
    by_cases hk : k < 0
    · have HS : Aside0 (st = 0) := ⟨HSP.out.h1 (by omega) hk⟩
      go_wp2
      go_ret2
      exact ⟨by rw [HS.out]; rfl, pw_below_drewN HB.out _⟩
    · obtain ⟨kn, rfl⟩ := Int.eq_ofNat_of_zero_le (by omega : 0 ≤ k)
      by_cases hn4 : n < 4
      · have HS : Aside0 (st = 0) := ⟨HSP.out.h2 (by omega) hn4⟩
        have hn4' : (n : Int) < 4 := by omega
        go_wp2
        go_ret2
        exact ⟨by rw [HS.out]; rfl, pw_below_drewN HB.out _⟩
      · have hn4' : ¬ (n : Int) < 4 := by omega
        have HS : Aside0 (st = if begB xs (magicK kn) then 1 else 2) := ⟨HSP.out.h3 (by omega) (by omega) (by omega)⟩
        have hkn : kn < 4 := by omega
        obtain ⟨b, hb⟩ : ∃ b, begB xs (magicK kn) = b := ⟨_, rfl⟩
        rw [hb] at HS
        have HBB := Aside0.mk hb
        clear hb
        go_wp2
        go_quiet ((go_at_call 67; exact (bprefix_q _ _ xs (magicK kn) n 4 _ _ HN.out.symm (magicK_len kn) b HBB.out _ (Kd.C_drewN HX.out _) hc (Kd.C_drewN (num_row HNM.out kn hkn) _)).mono (fun e w' h => ⟨h.1, drew_sum h.2⟩)))
        go_wp2
        go_ret2
        refine ⟨?_, pw_below_drewN (pw_below_drewN HB.out _) _⟩
        rw [HS.out]
        cases b <;> rfl
set_option maxHeartbeats 800000 in
theorem sound_any (s : ByteArray) (A : Option Addr) (xs : List UInt8) (c : Nat) (st : Nat) (hst : stateB ⟨s, xs⟩ = st) (w : World) (hs : s.size ≤ 1000000) (h : byte.C w A xs.length xs) (hc : xs.length ≤ c) (he : EndAt w) (hn : NumAt w) :
    Calls Tryd.prog 39 #[.agg #[.string s, .slice A xs.length c]] w fun e w' => e = .returned (.bool (decide (st = 1))) ∧ Below w.heap.size w w' := by
  have HB := Aside0.mk (below_alloc (Below.refl w.heap.size w) (.cells #[.string s, .slice A xs.length c] 52))
  have hst2 : st ≤ 2 := by rw [← hst]; exact state_le _
  have HC := Aside0.mk (speaks_any s A xs c st hst _ hs (Kd.C_below h HB.out) hc (Kd.C_below he HB.out) (Kd.C_below hn HB.out))
  clear hst h he hn
  have hx : st = 0 ∨ st = 1 ∨ st = 2 := by omega
  go_enter Tryd.func39, Tryd.ntmps39
  rcases hx with rfl | rfl | rfl
  all_goals
    go_wp2_with (go_at_call 58; refine HC.out.mono ?_; rintro e w1 ⟨rfl, hb⟩; have HB1 := Aside0.mk (below_step HB.out hb); clear hb)
    go_ret
    exact ⟨rfl, HB1.out⟩
set_option maxHeartbeats 800000 in
theorem broken_any (s : ByteArray) (A : Option Addr) (xs : List UInt8) (c : Nat) (st : Nat) (hst : stateB ⟨s, xs⟩ = st) (w : World) (hs : s.size ≤ 1000000) (h : byte.C w A xs.length xs) (hc : xs.length ≤ c) (he : EndAt w) (hn : NumAt w) :
    Calls Tryd.prog 38 #[.agg #[.string s, .slice A xs.length c]] w fun e w' => e = .returned (.bool (decide (st = 2))) ∧ Below w.heap.size w w' := by
  have HB := Aside0.mk (below_alloc (Below.refl w.heap.size w) (.cells #[.string s, .slice A xs.length c] 52))
  have hst2 : st ≤ 2 := by rw [← hst]; exact state_le _
  have HC := Aside0.mk (speaks_any s A xs c st hst _ hs (Kd.C_below h HB.out) hc (Kd.C_below he HB.out) (Kd.C_below hn HB.out))
  clear hst h he hn
  have hx : st = 0 ∨ st = 1 ∨ st = 2 := by omega
  go_enter Tryd.func38, Tryd.ntmps38
  rcases hx with rfl | rfl | rfl
  all_goals
    go_wp2_with (go_at_call 58; refine HC.out.mono ?_; rintro e w1 ⟨rfl, hb⟩; have HB1 := Aside0.mk (below_step HB.out hb); clear hb)
    go_ret
    exact ⟨rfl, HB1.out⟩
theorem begins_n (A B : Option Addr) (xs ys : List UInt8) (n c1 c2 : Nat) (hn : xs.length = n) (r : Bool) (hr : begB xs ys = r) (w : World) (h1 : byte.C w A n xs) (h2 : byte.C w B ys.length ys) :
    Calls Tryd.prog 13 #[.slice A n c1, .slice B ys.length c2] w fun e w' => e = .returned (.bool r) ∧ ∃ q, w' = w.drewN q := by
  subst hn
  exact begins_any A B xs ys c1 c2 r hr w h1 h2
theorem magicB51_kind (e : ByteArray) : (kindOf e < 0 → magicB51 e = []) ∧ (0 ≤ kindOf e → magicB51 e = magicK (kindOf e).toNat) := by
  unfold magicB51
  exact ⟨fun h => by rw [if_pos h], fun h => by rw [if_neg (by omega)]⟩
set_option maxHeartbeats 1600000 in
theorem rstate_any (s : ByteArray) (A : Option Addr) (xs : List UInt8) (c : Nat) (st : Nat) (hst : stateB ⟨s, xs⟩ = st) (w : World) (hs : s.size ≤ 1000000) (h : byte.C w A xs.length xs) :
    Calls Tryd.prog 41 #[.agg #[.string s, .slice A xs.length c]] w fun e w' => e = .returned (.int .i64 (st : Int)) ∧ Below w.heap.size w w' := by
  have HB := Aside0.mk (below_alloc (Below.refl w.heap.size w) (.cells #[.string s, .slice A xs.length c] 48))
  have HX := Aside0.mk (blk_new w (.cells #[.string s, .slice A xs.length c] 48))
  have hmx := Kd.C_max h
  have HH := Aside0.mk h
  obtain ⟨E, hE⟩ : ∃ E, endB s = E := ⟨_, rfl⟩
  obtain ⟨M, hM⟩ : ∃ M, magicB51 E = M := ⟨_, rfl⟩
  have HST : Aside0 (st = if kindOf E < 0 ∨ xs.length < 4 then 0 else if begB xs (magicK (kindOf E).toNat) then 1 else 2) := ⟨by rw [← hst, ← hE]; rfl⟩
  have HE := Aside0.mk hE
  have HM := Aside0.mk hM
  clear hst hE hM h
  obtain ⟨n, hn⟩ : ∃ n, n = xs.length := ⟨_, rfl⟩
  have HN := Aside0.mk hn
  rw [← hn] at HX HST HB hmx ⊢
  clear hn
  by_cases hk : kindOf E < 0
  · have HMM : Aside0 (M = []) := ⟨by rw [← HM.out, (magicB51_kind E).1 hk]⟩
    have HS : Aside0 (st = 0) := ⟨by rw [HST.out, if_pos (.inl hk)]⟩
    go_enter Tryd.func41, Tryd.ntmps41
    go_wp2_with (first | (go_at_call 59; refine (ending_any s E HE.out _ hs).mono ?_; rintro e w1 ⟨rfl, rfl⟩) | (go_at_call 14; refine (rmagic_any E [] (HM.out.trans HMM.out) _).mono ?_; rintro e w2 ⟨v, rfl, ho, hb⟩; obtain ⟨Av, cv, rfl⟩ := Kd.R_slice ho; have HO := Aside0.mk ho; have HB2 := Aside0.mk (below_step HB.out hb); have HX2 := Aside0.mk (blk_below HX.out hb); have z1 := blk_cell HX2.out 1; simp only [List.getElem?_toArray, List.getElem?_cons_zero, List.getElem?_cons_succ] at z1; clear ho hb))
    go_ret
    exact ⟨by rw [HS.out]; rfl, HB2.out⟩
  · have hk0 : 0 ≤ kindOf E := by omega
    have HMM : Aside0 (M = magicK (kindOf E).toNat) := ⟨by rw [← HM.out, (magicB51_kind E).2 hk0]⟩
    have hml : M.length = 4 := by rw [HMM.out]; exact magicK_len _
    have hml' : ((M.length : Int) == 0) = false := by rw [hml]; rfl
    by_cases h4 : n < 4
    · have h4' : (n : Int) < 4 := by omega
      have HS : Aside0 (st = 0) := ⟨by rw [HST.out, if_pos (.inr h4)]⟩
      have hml2 : ¬ (M.length = 0) := by omega
      clear hml hml'
      go_enter Tryd.func41, Tryd.ntmps41
      go_wp2_with (first | (go_at_call 59; refine (ending_any s E HE.out _ hs).mono ?_; rintro e w1 ⟨rfl, rfl⟩) | (go_at_call 14; refine (rmagic_any E M HM.out _).mono ?_; rintro e w2 ⟨v, rfl, ho, hb⟩; obtain ⟨Av, cv, rfl⟩ := Kd.R_slice ho; have HO := Aside0.mk ho; have HB2 := Aside0.mk (below_step HB.out hb); have HX2 := Aside0.mk (blk_below HX.out hb); have z1 := blk_cell HX2.out 1; simp only [List.getElem?_toArray, List.getElem?_cons_zero, List.getElem?_cons_succ] at z1; clear ho hb))
      all_goals
        go_ret
        exact ⟨by rw [HS.out]; rfl, HB2.out⟩
    · have h4' : ¬ (n : Int) < 4 := by omega
      obtain ⟨b, hb⟩ : ∃ b, begB xs M = b := ⟨_, rfl⟩
      have HS : Aside0 (st = if b then 1 else 2) := ⟨by rw [HST.out, if_neg (by omega), ← HMM.out, hb]⟩
      have HBB := Aside0.mk hb
      clear hb hml
      go_enter Tryd.func41, Tryd.ntmps41
      cases b
      all_goals
        go_wp2_with (first | (go_at_call 59; refine (ending_any s E HE.out _ hs).mono ?_; rintro e w1 ⟨rfl, rfl⟩) | (go_at_call 14; refine (rmagic_any E M HM.out _).mono ?_; rintro e w2 ⟨v, rfl, ho, hb⟩; obtain ⟨Av, cv, rfl⟩ := Kd.R_slice ho; have HO := Aside0.mk ho; have HB2 := Aside0.mk (below_step HB.out hb); have HX2 := Aside0.mk (blk_below HX.out hb); have z1 := blk_cell HX2.out 1; simp only [List.getElem?_toArray, List.getElem?_cons_zero, List.getElem?_cons_succ] at z1; have HH2 := Aside0.mk (Kd.C_below (Kd.C_below HH.out HB.out) hb); rw [← HN.out] at HH2; clear ho hb) | (go_at_call 13; refine (begins_n A Av xs M n c cv HN.out.symm _ HBB.out _ HH2.out (Kd.R_reads' HO.out).2.2).mono ?_; rintro e w3 ⟨rfl, q, rfl⟩))
        go_ret
        exact ⟨by rw [HS.out]; rfl, pw_below_drewN HB2.out _⟩
end Go.Proofs.YtoglbbonfjnmpaaDoor
