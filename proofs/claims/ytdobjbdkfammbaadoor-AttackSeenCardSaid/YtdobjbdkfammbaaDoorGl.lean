/-
  Chapter 55: attack.Rename, walked.
-/
import Derived.Test.YtdobjbdkfammbaaDoorGd
import Derived.Test.YtdobjbdkfammbaaDoorGg
/-
  Chapter 55: attack.Thief, walked.
-/
namespace Go.Proofs.YtdobjbdkfammbaaDoor
open Go.RowKit Go.Shelf Go.Proofs.YtdobjbdkfammbaaDoorW.PrintWords Go.Proofs.YtdobjbdkfammbaaDoorW.PrintLast Go.Proofs.YtdobjbdkfammbaaDoorW.PrintMore
set_option linter.unusedVariables false
set_option linter.unusedSimpArgs false

/-! ### files that may stand together, the first of them gone -/
theorem gt_cons (x : File) (l : List File) (k : Nat) : gt (x :: l) (k + 1) = gt l k := rfl
theorem togTo_tail (x : File) (l : List File) (k : Nat) (h : togTo (x :: l) (k + 1) = true) : togTo l k = true := by
  induction k with
  | zero => rfl
  | succ k ih =>
    unfold togTo at h ⊢
    simp only [Bool.and_eq_true] at h ⊢
    refine ⟨ih h.1, h.2.1, ?_⟩
    have h2 := h.2.2
    rw [gt_cons] at h2
    simp only [Bool.not_eq_true', decide_eq_false_iff_not, List.mem_reverse, List.take_succ_cons, List.map_cons, List.mem_cons, not_or] at h2 ⊢
    exact h2.2
theorem tog_drop (i : Nat) (l : List File) (h : togB l = true) : togB (l.drop i) = true := by
  induction i generalizing l with
  | zero => exact h
  | succ i ih =>
    cases l with
    | nil => exact h
    | cons x l => exact ih l (togTo_tail x l l.length h)
theorem makeE_drop {l : List File} (h : makeE l = 0) (i : Nat) : makeE (l.drop i) = 0 := by
  obtain ⟨h8, ht, _⟩ := makeV_le l h
  have hl : (l.drop i).length ≤ 8 := by rw [List.length_drop]; omega
  unfold makeE
  rw [if_neg (by omega), if_pos (tog_drop i l ht)]
theorem makeV_small (l : List File) : (makeV l).length ≤ 100 := by
  by_cases h : makeE l = 0
  · exact (makeV_le l h).2.2.2.2
  · have : makeV l = [] := by
      unfold makeE at h
      unfold makeV
      split
      · rfl
      · next h8 =>
        rw [if_neg h8] at h
        split
        · next ht => rw [if_pos ht] at h; exact absurd rfl h
        · rfl
    rw [this]
    simp
/-- The blocks that a thief writes at file i. -/
def thiefV (l : List File) (i : Nat) : List (List UInt8) := makeV (l.drop (i + 1)) ++ if (makeV (l.drop (i + 1))).length < (makeV (l.drop i)).length then [zeroB] else []
theorem thiefV_le (l : List File) (i : Nat) : (thiefV l i).length ≤ 101 := by
  have := makeV_small (l.drop (i + 1))
  unfold thiefV
  rw [List.length_append]
  split <;> simp <;> omega
def stealD (vol : Int) (l : List File) (i : Nat) : List Dd := rowsD vol (thiefV l i)
theorem stealD_le (vol : Int) (l : List File) (i : Nat) : (stealD vol l i).length ≤ 40 := by
  have := thiefV_le l i
  unfold stealD
  rw [rowsD_len]
  omega
theorem info_fsz : (Tryd.prog.info? 56).map (·.size) = some 2 := by kernel_rfl
theorem elem_files : Tryd.prog.underlying 43 = some (.slice (Tryd.prog.elem 43)) := by
  have : Tryd.prog.elem 43 = 56 := by simp [Program.elem, Tryd.underlying43]
  rw [this]
  exact Tryd.underlying43
theorem size_files (W : World) : (sizeOf (Tryd.prog.elem 43)).run Tryd.prog W = .ok 2 W := by
  have : Tryd.prog.elem 43 = 56 := by simp [Program.elem, Tryd.underlying43]
  rw [this]
  cases hq : Tryd.prog.info? 56 with
  | none => have := info_fsz; simp [hq] at this
  | some i =>
    have hs : i.size = 2 := by have := info_fsz; simpa [hq] using this
    simp [sizeOf, typeInfo, hq, hs]
theorem slice_from (W : World) (A : Option Addr) (n c k : Nat) (hk : k ≤ n) : (Instr.slice 43 (.slice A n c) (some (.int .i64 (k : Int))) none none).run Tryd.prog W = .ok (.slice (if c = k then A else A.map (·.add (k * 2))) (n - k) (c - k)) W := by
  rw [run_slice_l W 43 A n c elem_files .i64 (k : Int) (by omega) (by omega)]
  simp [size_files W, sliced, Result.andThen]
theorem make_own55 (A : Option Addr) (l : List File) (n0 : Nat) (h0 : l.length = n0) (c : Nat) (w : World) (h : kFile.C w A n0 l) (hs : ∀ k, k < l.length → (gt l k).name.size ≤ 9223372036854775807) (hmg : MagicAt w) (n : Nat) (hn : (makeV l).length = n) (E : Int) (hE : makeE l = E) :
    Calls Tryd.prog 35 #[.slice A n0 c] w fun e w' => ∃ Aa ca, e = .returned (.tuple #[.slice Aa n ca, .int .i64 E]) ∧ kBlock.R 37 w' w.heap.size (fun _ => True) (.slice Aa n ca) (makeV l) ∧ Below w.heap.size w w' := by
  subst h0
  exact make_as A l c w h hs hmg n hn E hE
/-- What Thief's loop holds. -/
structure ThE (w0 : World) (n c : Nat) (A : Option Addr) (B2 B3 : Nat) (vol : Int) (W : World) : Prop where
  fl : Boxed W B2 43 (.slice A n c)
  v : Boxed W B3 3 (.int .i64 vol)
  out : Below w0.heap.size w0 W
theorem ThE.keep {w0 W W' : World} {n c : Nat} {A : Option Addr} {B2 B3 : Nat} {vol : Int} (h : ThE w0 n c A B2 B3 vol W) (hk : KeepT [33, 25] W W') (hb : Below w0.heap.size w0 W') : ThE w0 n c A B2 B3 vol W' :=
  ⟨boxed_keepT h.fl hk (by decide), boxed_keepT h.v hk (by decide), hb⟩
theorem ThE.below {w0 W W' : World} {n c : Nat} {A : Option Addr} {B2 B3 : Nat} {vol : Int} (h : ThE w0 n c A B2 B3 vol W) (hb : Below W.heap.size W W') : ThE w0 n c A B2 B3 vol W' := h.keep (KeepT.of_below hb) (below_step h.out hb)
theorem drop_names {l : List File} (hs : ∀ k, k < l.length → (gt l k).name.size ≤ 9223372036854775807) (i : Nat) : ∀ k, k < (l.drop i).length → (gt (l.drop i) k).name.size ≤ 9223372036854775807 := fun k hk => by
  have hk' := hk
  rw [List.length_drop] at hk'
  rw [gt_eq _ _ hk, List.getElem_drop, ← gt_eq _ _ (by omega)]
  exact hs _ (by omega)
theorem zeroB_len : zeroB.length = 32 := by simp [zeroB]
theorem build_zeroT : Tryd.prog.built 37 [] = some (bytesV zeroB).toArray := by kernel_rfl
set_option maxRecDepth 4000 in
set_option maxHeartbeats 3200000 in
theorem thief1_any (w0 : World) (l : List File) (N : Nat) (hN : l.length = N) (B2 B3 : Nat) (vol : Int) (A : Option Addr) (c : Nat) (h : kFile.C w0 A N l) (hc : N ≤ c) (hE0 : makeE l = 0) (hmg : MagicAt w0) (hs : ∀ k, k < l.length → (gt l k).name.size ≤ 9223372036854775807)
    (i : Nat) (W : World) (Bo : Nat) (v : Value) (ds : List Dd) (hi : i < N) (hE : ThE w0 N c A B2 B3 vol W) (hO : OutAt w0 Bo v ds W) (hds : ds.length ≤ 1000) :
    Calls Tryd.prog 43 #[.int .i64 (i : Int), .func (.func 54) #[] #[.pointer (some ⟨Bo, 0, none⟩)], .pointer (some ⟨B2, 0, none⟩), .pointer (some ⟨B3, 0, none⟩)] W fun e W' => (∃ u, e = .returned u) ∧ ThE w0 N c A B2 B3 vol W' ∧ ∃ v', OutAt w0 Bo v' (ds ++ stealD vol l i) W' := by
  have HMG := Aside0.mk hmg
  have HE := Aside0.mk hE
  have HO := Aside0.mk hO
  have f2 := hE.fl.cell
  -- the two runs of files
  obtain ⟨A1, hA1⟩ : ∃ A1, (if c = i then A else A.map (·.add (i * 2))) = A1 := ⟨_, rfl⟩
  obtain ⟨A2, hA2⟩ : ∃ A2, (if c = i + 1 then A else A.map (·.add ((i + 1) * 2))) = A2 := ⟨_, rfl⟩
  obtain ⟨n1, hn1⟩ : ∃ n1, N - i = n1 := ⟨_, rfl⟩
  obtain ⟨n2, hn2⟩ : ∃ n2, N - (i + 1) = n2 := ⟨_, rfl⟩
  obtain ⟨c1, hc1⟩ : ∃ c1, c - i = c1 := ⟨_, rfl⟩
  obtain ⟨c2, hc2⟩ : ∃ c2, c - (i + 1) = c2 := ⟨_, rfl⟩
  have sl1 : ∀ W : World, (Instr.slice 43 (.slice A N c) (some (.int .i64 (i : Int))) none none).run Tryd.prog W = .ok (.slice A1 n1 c1) W := fun W => by rw [slice_from W A N c i (by omega), hA1, hn1, hc1]
  have sl2 : ∀ W : World, (Instr.slice 43 (.slice A N c) (some (.int .i64 ((i : Int) + 1))) none none).run Tryd.prog W = .ok (.slice A2 n2 c2) W := fun W => by
    have := slice_from W A N c (i + 1) (by omega)
    rw [hA2, hn2, hc2] at this
    exact this
  have l1 : (l.drop i).length = n1 := by rw [List.length_drop]; omega
  have l2 : (l.drop (i + 1)).length = n2 := by rw [List.length_drop]; omega
  have hC := h
  rw [← hN] at hC
  have C1 := Kd.C_drop hC (m := i) (by omega) (c := c) (by omega)
  have C2 := Kd.C_drop hC (m := i + 1) (by omega) (c := c) (by omega)
  have hC1 : kFile.C w0 A1 n1 (l.drop i) := by rw [← hA1, ← l1]; exact C1
  have hC2 : kFile.C w0 A2 n2 (l.drop (i + 1)) := by rw [← hA2, ← l2]; exact C2
  obtain ⟨m1, hm1⟩ : ∃ m1, (makeV (l.drop i)).length = m1 := ⟨_, rfl⟩
  obtain ⟨m2, hm2⟩ : ∃ m2, (makeV (l.drop (i + 1))).length = m2 := ⟨_, rfl⟩
  have hN8 : N ≤ 8 := by have := (makeV_le l hE0).1; omega
  have hd1 := makeE_drop hE0 i
  have hd2 := makeE_drop hE0 (i + 1)
  have HK1 := Aside0.mk (fun (w : World) (hb : Below w0.heap.size w0 w) => make_own55 A1 (l.drop i) n1 l1 c1 w (Kd.C_below hC1 hb) (drop_names hs i) (Kd.C_below HMG.out hb) m1 hm1 0 hd1)
  have HK2 := Aside0.mk (fun (w : World) (hb : Below w0.heap.size w0 w) => make_own55 A2 (l.drop (i + 1)) n2 l2 c2 w (Kd.C_below hC2 hb) (drop_names hs (i + 1)) (Kd.C_below HMG.out hb) m2 hm2 0 hd2)
  obtain ⟨_, _, _, hp2, hq2⟩ := makeV_le _ hd2
  rw [hm2] at hp2 hq2
  have hne : Aside0 (n1 ≠ n2) := ⟨by omega⟩
  have HTV : Aside0 (thiefV l i = makeV (l.drop (i + 1)) ++ if m2 < m1 then [zeroB] else []) := ⟨by unfold thiefV; rw [hm1, hm2]⟩
  have HM2 := Aside0.mk hm2
  obtain ⟨n9, hn9⟩ : ∃ n9, (thiefV l i).length = n9 := ⟨_, rfl⟩
  have h9 := thiefV_le l i
  rw [hn9] at h9
  have HN9 := Aside0.mk hn9
  have h91 : 1 ≤ n9 := by rw [← hn9, HTV.out, List.length_append, hm2]; omega
  clear hn9
  have HSD : Aside0 (stealD vol l i = rowsD vol (thiefV l i)) := ⟨rfl⟩
  clear hmg hE hO hA1 hA2 hn1 hn2 hc1 hc2 l1 l2 hC C1 C2 hC1 hC2 hm1 hm2 hd1 hd2 h hs hE0
  by_cases hlt : m2 < m1
  · have hlt' : (m2 : Int) < (m1 : Int) := by omega
    go_enter Tryd.func43, Tryd.ntmps43
    go_upto_if 31 with (first | (go_at_call_of 35 (Value.slice A1 n1 c1); refine (HK1.out _ HE.out.out).mono ?_; rintro e w5 ⟨Aa, ca, rfl, ho, hb⟩; have HE5 := Aside0.mk (HE.out.below hb); have HO5 := Aside0.mk (HO.out.below hb); have g2 := HE5.out.fl.cell; clear ho hb) | (go_at_call_of 35 (Value.slice A2 n2 c2); refine (HK2.out _ HE5.out.out).mono ?_; rintro e w6 ⟨Ab, cb, rfl, ho, hb⟩; have HE6 := Aside0.mk (HE5.out.below hb); have HO6 := Aside0.mk (HO5.out.below hb); have HR6 := Aside0.mk ho; have HB6 := Aside0.mk hb; have g3 := HE6.out.v.cell; clear ho hb))
    obtain ⟨zz, hzz⟩ : ∃ zz, zz = zeroB := ⟨_, rfl⟩
    have HZZ := Aside0.mk hzz
    have HT1 : Aside0 (thiefV l i = makeV (l.drop (i + 1)) ++ [zz]) := ⟨by rw [HTV.out, if_pos hlt, hzz]⟩
    have hz32 : zz.length = 32 := by rw [hzz]; exact zeroB_len
    clear hzz
    go_upto_region 5 with (first | ((with_reducible refine gate_dst (N := 33) rfl ?_); refine build_on rfl 37 _ rfl (bytesV zz).toArray (by rw [HZZ.out]; simp only [Array.map_empty]; exact build_zeroT) ?_) | ((with_reducible refine gate_dst (N := 34) rfl ?_); refine build_block rfl (.tmp 33) rfl zz hz32 rfl ?_) | ((with_reducible refine gate_builtin (b := .append) (xs := #[.tmp 32, .tmp 34]) rfl ?_); at_builtin; refine Kd.R_append kBlock (w0 := w5) w5.heap.size rfl (.tmp 32) (.tmp 34) 80 37 zB 32 rfl Tryd.underlying80 info_blockZ rfl (by decide) (by omega) (.slice Ab m2 cb) (makeV (l.drop (i + 1))) zz (bytesV zz) (fun _ => True) (fun _ => False) rfl rfl (kBlock_M _ _ _ hz32) (fun _ hk => hk.elim) (fun _ _ => trivial) HR6.out HB6.out HB6.out.size (by rw [HM2.out]; omega) ?_; intro v7 w7 ho hb hg hat; rw [← HT1.out] at ho; obtain ⟨A9, c9, rfl⟩ : ∃ A c, v7 = .slice A n9 c := (by obtain ⟨A, c, e⟩ := Kd.R_slice ho; exact ⟨A, c, by rw [e, HN9.out]⟩); have hc9 := (Kd.R_reads' ho).2.2; rw [HN9.out] at hc9; have HC9 := Aside0.mk hc9; have HE7 := Aside0.mk (HE5.out.below hb); have HO7 := Aside0.mk (HO5.out.below hb); have g4 := HE7.out.v.cell; clear ho hb hg hat hc9))
    (go_wp2_with (first | (go_at_call 36; refine (rows_as A9 (thiefV l i) n9 HN9.out c9 vol _ HC9.out h91 (by omega)).mono ?_; rintro e w8 ⟨A8, c8, rfl, ho, hb⟩; have HE8 := Aside0.mk (HE7.out.below hb); have HO8 := Aside0.mk (HO7.out.below hb); have HX8 := Aside0.mk (Kd.R_lower ho HE7.out.out.size); clear ho hb) | (go_at_call 54; refine (say_any w0 Bo v ds _ HO8.out A8 ((n9 + 7) / 8) c8 _ HX8.out (by omega)).mono ?_; rintro e w9 ⟨⟨u, rfl⟩, v9, hO9, hk9⟩; have HO9 := Aside0.mk hO9; have HE9 := Aside0.mk (HE8.out.keep hk9 hO9.out); clear hO9 hk9)); go_end0; exact ⟨⟨_, rfl⟩, HE9.out, v9, HO9.out⟩)
  · have hlt' : ¬ (m2 : Int) < (m1 : Int) := by omega
    have HT1 : Aside0 (thiefV l i = makeV (l.drop (i + 1))) := ⟨by rw [HTV.out, if_neg hlt, List.append_nil]⟩
    obtain rfl : n9 = m2 := by rw [← HN9.out, HT1.out, HM2.out]
    go_enter Tryd.func43, Tryd.ntmps43
    go_upto_region 5 with (first | (go_at_call_of 35 (Value.slice A1 n1 c1); refine (HK1.out _ HE.out.out).mono ?_; rintro e w5 ⟨Aa, ca, rfl, ho, hb⟩; have HE5 := Aside0.mk (HE.out.below hb); have HO5 := Aside0.mk (HO.out.below hb); have g2 := HE5.out.fl.cell; clear ho hb) | (go_at_call_of 35 (Value.slice A2 n2 c2); refine (HK2.out _ HE5.out.out).mono ?_; rintro e w6 ⟨Ab, cb, rfl, ho, hb⟩; have HE6 := Aside0.mk (HE5.out.below hb); have HO6 := Aside0.mk (HO5.out.below hb); have HR6 := Aside0.mk ho; have HB6 := Aside0.mk hb; have g3 := HE6.out.v.cell; clear ho hb))
    have HC9 : Aside0 (kBlock.C w6 Ab n9 (thiefV l i)) := ⟨by have h1 := (Kd.R_reads' HR6.out).2.2; rw [HM2.out] at h1; rw [HT1.out]; exact h1⟩
    have HE7 := HE6
    have HO7 := HO6
    obtain ⟨A9, rfl⟩ : ∃ A9, A9 = Ab := ⟨_, rfl⟩
    obtain ⟨c9, rfl⟩ : ∃ c9, c9 = cb := ⟨_, rfl⟩
    (go_wp2_with (first | (go_at_call 36; refine (rows_as A9 (thiefV l i) n9 HN9.out c9 vol _ HC9.out h91 (by omega)).mono ?_; rintro e w8 ⟨A8, c8, rfl, ho, hb⟩; have HE8 := Aside0.mk (HE7.out.below hb); have HO8 := Aside0.mk (HO7.out.below hb); have HX8 := Aside0.mk (Kd.R_lower ho HE7.out.out.size); clear ho hb) | (go_at_call 54; refine (say_any w0 Bo v ds _ HO8.out A8 ((n9 + 7) / 8) c8 _ HX8.out (by omega)).mono ?_; rintro e w9 ⟨⟨u, rfl⟩, v9, hO9, hk9⟩; have HO9 := Aside0.mk hO9; have HE9 := Aside0.mk (HE8.out.keep hk9 hO9.out); clear hO9 hk9)); go_end0; exact ⟨⟨_, rfl⟩, HE9.out, v9, HO9.out⟩)
theorem thief_next (w0 : World) (l : List File) (N : Nat) (hN : l.length = N) (B2 B3 : Nat) (vol : Int) (A : Option Addr) (c : Nat) (h : kFile.C w0 A N l) (hc : N ≤ c) (hE0 : makeE l = 0) (hmg : MagicAt w0) (hs : ∀ k, k < l.length → (gt l k).name.size ≤ 9223372036854775807) :
    Next w0 43 #[.pointer (some ⟨B2, 0, none⟩), .pointer (some ⟨B3, 0, none⟩)] l.length (fun i W => ThE w0 N c A B2 B3 vol W) (stealD vol l) where
  call := fun i W Bo v ds hi hE hO hds => thief1_any w0 l N hN B2 B3 vol A c h hc hE0 hmg hs i W Bo v ds (by omega) hE hO hds
  keep := fun i W W' hE hb => hE.below hb
  few := stealD_le vol l
  enters := enters_of Tryd.func43 (by kernel_rfl) rfl
end Go.Proofs.YtdobjbdkfammbaaDoor
/-
  Chapter 55: attack.Thief, whole.
-/
namespace Go.Proofs.YtdobjbdkfammbaaDoor
open Go.RowKit Go.Shelf Go.Proofs.YtdobjbdkfammbaaDoorW.PrintWords Go.Proofs.YtdobjbdkfammbaaDoorW.PrintLast Go.Proofs.YtdobjbdkfammbaaDoorW.PrintMore
set_option linter.unusedVariables false
set_option linter.unusedSimpArgs false

/-- The deeds of a thief. -/
def thiefD (vol : Int) (l : List File) : List Dd := if makeE l = 0 then hostD vol l (stealD vol l) l.length else []
theorem thiefD_le (vol : Int) (l : List File) (hl : l.length ≤ 12) : (thiefD vol l).length ≤ 1000 := by
  unfold thiefD
  split
  · next h =>
    have h1 := hostD_le vol l (stealD vol l) (makeV_le l h).2.2.2.2 (stealD_le vol l) l.length
    omega
  · simp
set_option maxHeartbeats 1600000 in
theorem thief_as (A : Option Addr) (l : List File) (n : Nat) (hn : l.length = n) (c : Nat) (vol : Int) (w : World) (h : kFile.C w A n l) (hc : n ≤ c) (hs : ∀ k, k < l.length → (gt l k).name.size ≤ 9223372036854775807) (hmg : MagicAt w) (m : Nat) (hm : (thiefD vol l).length = m) :
    Calls Tryd.prog 21 #[.slice A n c, .int .i64 vol] w fun e w' => ∃ A2 c2, e = .returned (.slice A2 m c2) ∧ kDd.R 33 w' w.heap.size (fun _ => True) (.slice A2 m c2) (thiefD vol l) ∧ Below w.heap.size w w' := by
  obtain ⟨W2, hW2⟩ : ∃ W2, (w.alloc (.cells #[.slice A n c] 43)).alloc (.cells #[.int .i64 vol] 3) = W2 := ⟨_, rfl⟩
  have x0 : Boxed W2 w.heap.size 43 (.slice A n c) := by rw [← hW2]; exact (Boxed.new w _ _).alloc _
  have x1 : Boxed W2 (w.heap.size + 1) 3 (.int .i64 vol) := by
    have := Boxed.new (w.alloc (.cells #[.slice A n c] 43)) 3 (.int .i64 vol)
    rw [World.size_alloc] at this
    rw [← hW2]; exact this
  have hb : Below w.heap.size w W2 := by rw [← hW2]; exact below_alloc (below_alloc (Below.refl _ _) _) _
  have HW2 := Aside0.mk hW2
  have HB2 := Aside0.mk hb
  obtain ⟨N5, hN5⟩ : ∃ N5, N5 = w.heap.size := ⟨_, rfl⟩
  rw [← hN5] at x0 x1
  have y0 := x0.cell
  have y1 := x1.cell
  by_cases hE : makeE l = 0
  · have HN := Aside0.mk (thief_next w l n hn N5 (N5 + 1) vol A c h hc hE hmg hs)
    subst hn
    have HA := Aside0.mk (host_any w 43 #[.pointer (some ⟨N5, 0, none⟩), .pointer (some ⟨N5 + 1, 0, none⟩)] A l c vol _ _ HN.out W2 hb ⟨x0, x1, hb⟩ (Kd.C_below h hb) hs (Kd.C_below hmg hb) hE)
    have HR : Aside0 (thiefD vol l = hostD vol l (stealD vol l) l.length) := ⟨by unfold thiefD; rw [if_pos hE]⟩
    have HM := Aside0.mk hm
    clear hW2 hb h hs hmg hE x0 x1 hm hc
    go_enter Tryd.func21, Tryd.ntmps21
    go_upto_region 1 with fail
    rw [HW2.out, ← hN5]
    clear hN5
    go_wp2_with (go_at_call 32; refine HA.out.mono ?_; rintro e w5 ⟨v5, rfl, ho, hb⟩; rw [← HR.out] at ho; obtain ⟨A5, c5, rfl⟩ : ∃ A c, v5 = .slice A m c := (by obtain ⟨A, c, e⟩ := Kd.R_slice ho; exact ⟨A, c, by rw [e, HM.out]⟩); have HO5 := Aside0.mk ho; have HB5 := Aside0.mk hb; clear ho hb)
    go_ret
    exact ⟨A5, c5, rfl, HO5.out, HB5.out⟩
  · have hz : thiefD vol l = [] := by unfold thiefD; rw [if_neg hE]
    refine (thief_none A l n hn c vol w h hs hmg hE).mono ?_
    rintro e w' ⟨rfl, hb⟩
    rw [hz] at hm ⊢
    obtain rfl : m = 0 := hm.symm
    exact ⟨none, 0, rfl, Kd.R_nil _ _ _ _ _, hb⟩
end Go.Proofs.YtdobjbdkfammbaaDoor
namespace Go.Proofs.YtdobjbdkfammbaaDoor
open Go.RowKit Go.Shelf Go.Proofs.YtdobjbdkfammbaaDoorW.PrintWords Go.Proofs.YtdobjbdkfammbaaDoorW.PrintLast Go.Proofs.YtdobjbdkfammbaaDoorW.PrintMore
set_option linter.unusedVariables false
set_option linter.unusedSimpArgs false

def renF (sx : ByteArray) (x : File) : File := ⟨x.name ++ sx, x.data⟩
theorem renF_size (sx : ByteArray) (hsx : sx.size ≤ 1000) (x : File) : (renF sx x).name.size ≤ x.name.size + 1000 := by
  show (x.name ++ sx).size ≤ _
  rw [ByteArray.size_append]
  omega
def renD (vol : Int) (sx : ByteArray) (l : List File) (i : Nat) : List Dd := diskD vol (mapTo (renF sx) l (i + 1))
theorem renD_le (vol : Int) (sx : ByteArray) (l : List File) (i : Nat) : (renD vol sx l i).length ≤ 40 := by
  have := diskD_le vol (mapTo (renF sx) l (i + 1))
  unfold renD
  omega
/-- The deeds of a storm of names. -/
def renameD (vol : Int) (sx : ByteArray) (l : List File) : List Dd := if makeE l = 0 then hostD vol l (renD vol sx l) l.length else []
theorem renameD_le (vol : Int) (sx : ByteArray) (l : List File) (hl : l.length ≤ 12) : (renameD vol sx l).length ≤ 1000 := by
  unfold renameD
  split
  · next h =>
    have h1 := hostD_le vol l (renD vol sx l) (makeV_le l h).2.2.2.2 (renD_le vol sx l) l.length
    omega
  · simp
theorem kFileX_named {w0 w : World} {base : Nat} {ok : Nat → Prop} {x : File} {cs : List Value} (h : (kFileX w0).M w base ok x cs) (s : ByteArray) : ∃ c1, cs = .string x.name :: c1 ∧ (kFileX w0).M w base ok ⟨s, x.data⟩ (.string s :: c1) := by
  obtain ⟨_, c1, rfl, rfl, h2⟩ := h
  exact ⟨c1, rfl, [.string s], c1, rfl, rfl, h2⟩
theorem nameX_put {et : Nat} {w0 W : World} {base g n c : Nat} {ok : Nat → Prop} {xs : List File} (h : (kFileX w0).R et W base ok (.slice (some ⟨g, 0, none⟩) n c) xs) {k : Nat} (hk : k < n) (s : ByteArray) :
    (kFileX w0).R et (W.setCell ⟨g, k * 2, none⟩ (.string s)) base ok (.slice (some ⟨g, 0, none⟩) n c) (xs.set k ⟨s, (gt xs k).data⟩) := by
  obtain ⟨cs, hcl, hM, hc, _⟩ := Kd.R_elem h default (k : Int) (by omega) (by omega)
  have hM' : (kFileX w0).M W base (fun q => ok q ∧ q ≠ g) (gt xs k) cs := by simpa [gt] using hM
  obtain ⟨c1, rfl, hm⟩ := kFileX_named hM' s
  have := (Kd.R_seg (j := 0) (seg := [.string s]) (c := .string (gt xs k).name :: c1) (x' := ⟨s, (gt xs k).data⟩) (okp := fun q => ok q ∧ q ≠ g) h (k : Int) (by omega) (by omega) hcl hc (by show 0 + 1 ≤ 2; omega) hm (fun q hq => hq)).1
  exact this
/-- What Rename's loop holds before file i. -/
structure RenE (w0 : World) (sx : ByteArray) (l : List File) (B2 B3 B4 : Nat) (vol : Int) (Al : Option Addr) (cl : Nat) (i : Nat) (W : World) : Prop where
  fl : Boxed W B2 43 (.slice Al l.length cl)
  s : Boxed W B3 9 (.string sx)
  v : Boxed W B4 3 (.int .i64 vol)
  row : (kFileX w0).R 56 W w0.heap.size (fun _ => True) (.slice Al l.length cl) (mapTo (renF sx) l i)
  out : Below w0.heap.size w0 W
theorem RenE.keep {w0 W W' : World} {sx : ByteArray} {l : List File} {B2 B3 B4 : Nat} {vol : Int} {Al : Option Addr} {cl i : Nat} (h : RenE w0 sx l B2 B3 B4 vol Al cl i W) (hk : KeepT [33, 25] W W') (hb : Below w0.heap.size w0 W') : RenE w0 sx l B2 B3 B4 vol Al cl i W' :=
  ⟨boxed_keepT h.fl hk (by decide), boxed_keepT h.s hk (by decide), boxed_keepT h.v hk (by decide), R_keepT h.row hk (fun q hq => by
    have : q ∈ [56, 5] := hq
    simp only [List.mem_cons, List.not_mem_nil, or_false] at this ⊢
    rcases this with rfl | rfl <;> decide), hb⟩
theorem RenE.below {w0 W W' : World} {sx : ByteArray} {l : List File} {B2 B3 B4 : Nat} {vol : Int} {Al : Option Addr} {cl i : Nat} (h : RenE w0 sx l B2 B3 B4 vol Al cl i W) (hb : Below W.heap.size W W') : RenE w0 sx l B2 B3 B4 vol Al cl i W' := h.keep (KeepT.of_below hb) (below_step h.out hb)
set_option maxRecDepth 4000 in
set_option maxHeartbeats 3200000 in
theorem rnm1_any (w0 : World) (sx : ByteArray) (hsx : sx.size ≤ 1000) (l : List File) (B2 B3 B4 : Nat) (vol : Int) (Al : Option Addr) (cl : Nat) (hmg : MagicAt w0) (hl : l.length ≤ 8) (hs : ∀ k, k < l.length → (gt l k).name.size ≤ 1000)
    (i : Nat) (W : World) (Bo : Nat) (v : Value) (ds : List Dd) (hi : i < l.length) (hE : RenE w0 sx l B2 B3 B4 vol Al cl i W) (hO : OutAt w0 Bo v ds W) (hds : ds.length ≤ 1000) :
    Calls Tryd.prog 44 #[.int .i64 (i : Int), .func (.func 54) #[] #[.pointer (some ⟨Bo, 0, none⟩)], .pointer (some ⟨B2, 0, none⟩), .pointer (some ⟨B3, 0, none⟩), .pointer (some ⟨B4, 0, none⟩)] W fun e W' => (∃ u, e = .returned u) ∧ RenE w0 sx l B2 B3 B4 vol Al cl (i + 1) W' ∧ ∃ v', OutAt w0 Bo v' (ds ++ renD vol sx l i) W' := by
  have HMG := Aside0.mk hmg
  have HS := Aside0.mk hs
  have HE := Aside0.mk hE
  have HO := Aside0.mk hO
  clear hmg hs hE hO
  obtain ⟨g, cap, he, hg1, hg2, _⟩ := Kd.R_form HE.out.row (by rw [mapTo_len]; omega)
  injection he with he1 he2 he3
  subst he1 he3
  clear he2
  obtain ⟨A1, d1, c0, c1, hd1, hC1⟩ := fileX_at HE.out.out HE.out.row hi
  have hgi : gt (mapTo (renF sx) l i) i = gt l i := by rw [mapTo_at _ l i i hi, if_neg (by omega)]
  rw [hgi] at c0
  have f2 := HE.out.fl.cell
  have f3 := HE.out.s.cell
  have fg : W.frozen? ⟨g, i * 2, none⟩ = false := frozen_R HE.out.row (i * 2)
  have hn0 := HS.out i hi
  obtain ⟨nm, hnm⟩ : ∃ nm, nm = (gt l i).name := ⟨_, rfl⟩
  rw [← hnm] at c0 hn0
  have HNM := Aside0.mk hnm
  have hil : (i : Int) < (l.length : Int) := by omega
  clear hnm hgi hC1 hd1 c1
  go_enter Tryd.func44, Tryd.ntmps44
  go_upto_region 0 with fail
  go_cut [] (fun wd => Aside0 (wd = (W.setCell ⟨g, i * 2, none⟩ (.string (nm ++ sx))).drew))
  case first =>
    go_region
    all_goals (go_wp2_with fail; go_meet; exact ⟨rfl⟩)
  obtain ⟨V, rfl⟩ : ∃ V, V = wc := ⟨_, rfl⟩
  obtain ⟨W5, hW5⟩ : ∃ W5, W.setCell ⟨g, i * 2, none⟩ (.string (nm ++ sx)) = W5 := ⟨_, rfl⟩
  have hV := hcut.out
  rw [hW5] at hV
  have hbV : Below W5.heap.size W5 V := by rw [hV]; exact below_drew1 (Below.refl _ _)
  obtain ⟨l2, hl2⟩ : ∃ l2, l2 = mapTo (renF sx) l (i + 1) := ⟨_, rfl⟩
  have hgc := (Kd.R_typed HE.out.row g (by simp [Value.ownBlock])).choose_spec
  have hk5 : KeepT [56] W W5 := by rw [← hW5]; exact KeepT.set (p := ⟨g, i * 2, none⟩) hgc (by decide) _
  have hb5 : Below w0.heap.size w0 W5 := by rw [← hW5]; exact HE.out.out.setCell (p := ⟨g, i * 2, none⟩) hg1 _
  have hrow5 : (kFileX w0).R 56 W5 w0.heap.size (fun _ => True) (.slice (some ⟨g, 0, none⟩) l.length cl) (mapTo (renF sx) l (i + 1)) := by
    have hp := nameX_put HE.out.row hi (nm ++ sx)
    rw [hW5] at hp
    have hset := mapTo_set (renF sx) l i hi
    have hgi : gt (mapTo (renF sx) l i) i = gt l i := by rw [mapTo_at _ l i i hi, if_neg (by omega)]
    rw [hgi] at hp
    have hrn : renF sx (gt l i) = ⟨nm ++ sx, (gt l i).data⟩ := by rw [HNM.out]; rfl
    rw [hrn] at hset
    rw [← hset]
    exact hp
  have HE5 : Aside0 (RenE w0 sx l B2 B3 B4 vol (some ⟨g, 0, none⟩) cl (i + 1) W5) := ⟨⟨boxed_keepT HE.out.fl hk5 (by decide), boxed_keepT HE.out.s hk5 (by decide), boxed_keepT HE.out.v hk5 (by decide), hrow5, hb5⟩⟩
  have HO5 : Aside0 (OutAt w0 Bo v ds W5) := ⟨HO.out.keep hk5 (by decide) hb5⟩
  have HE6 := Aside0.mk (HE5.out.below hbV)
  have HO6 := Aside0.mk (HO5.out.below hbV)
  have hC6 := fileX_read HE6.out.out (Kd.R_reads' HE6.out.row).2.2
  rw [mapTo_len] at hC6
  have hN2 := mapTo_name (renF sx) (renF_size sx hsx) l HS.out (i + 1)
  have hL2 : (mapTo (renF sx) l (i + 1)).length = l.length := mapTo_len _ _ _
  rw [← hl2] at hC6 hN2 hL2
  obtain ⟨n, hn⟩ : ∃ n, (makeV l2).length = n := ⟨_, rfl⟩
  obtain ⟨E, hEe⟩ : ∃ E, makeE l2 = E := ⟨_, rfl⟩
  have HMK := Aside0.mk (make_at55 (some ⟨g, 0, none⟩) l2 l.length hL2 cl V hC6 hN2 (Kd.C_below HMG.out HE6.out.out) n hn E hEe)
  have g9 := HE6.out.fl.cell
  have HRD : Aside0 (renD vol sx l i = diskD vol l2) := ⟨by rw [hl2]; rfl⟩
  clear c0 f2 f3 fg hcut hV hbV hW5 hgc hk5 hb5 hrow5 hC6 hN2 hL2 hl2
  by_cases hE0 : E = 0
  · subst hE0
    obtain ⟨_, _, _, hn1, hn100⟩ := makeV_le l2 hEe
    rw [hn] at hn1 hn100
    have HDD : Aside0 (renD vol sx l i = rowsD vol (makeV l2)) := ⟨by rw [HRD.out]; unfold diskD; rw [if_pos hEe]⟩
    have HNV := Aside0.mk hn
    clear hn hEe
    go_wp2_with (first | (go_at_call 35; refine HMK.out.mono ?_; rintro e w7 ⟨Aa, ca, rfl, hc, hb⟩; have HC7 := Aside0.mk hc; have HE7 := Aside0.mk (HE6.out.below hb); have HO7 := Aside0.mk (HO6.out.below hb); have g5 := HE7.out.v.cell; clear hb hc) | (go_at_call 36; refine (rows_as Aa (makeV l2) n HNV.out ca vol _ HC7.out hn1 (by omega)).mono ?_; rintro e w8 ⟨A8, c8, rfl, ho, hb⟩; have HE8 := Aside0.mk (HE7.out.below hb); have HO8 := Aside0.mk (HO7.out.below hb); have HX8 := Aside0.mk (Kd.R_lower ho HE7.out.out.size); clear ho hb) | (go_at_call 54; refine (say_any w0 Bo v ds _ HO8.out A8 ((n + 7) / 8) c8 _ HX8.out (by omega)).mono ?_; rintro e w9 ⟨⟨u, rfl⟩, v9, hO9, hk9⟩; have HO9 := Aside0.mk hO9; have HE9 := Aside0.mk (HE8.out.keep hk9 hO9.out); clear hO9 hk9))
    go_end0
    exact ⟨⟨_, rfl⟩, HE9.out, v9, by rw [HDD.out]; exact HO9.out⟩
  · have HDD : Aside0 (renD vol sx l i = []) := ⟨by rw [HRD.out]; unfold diskD; rw [if_neg (by rw [hEe]; exact hE0)]⟩
    have hE' : (E == 0) = false := by simpa using hE0
    clear hn hEe
    go_wp2_with (go_at_call 35; refine HMK.out.mono ?_; rintro e w7 ⟨Aa, ca, rfl, hc, hb⟩; have HB7 := Aside0.mk hb; clear hb hc)
    go_end0
    exact ⟨⟨_, rfl⟩, HE6.out.below HB7.out, v, by rw [HDD.out, List.append_nil]; exact HO6.out.below HB7.out⟩
theorem ren_next (w0 : World) (sx : ByteArray) (hsx : sx.size ≤ 1000) (l : List File) (B2 B3 B4 : Nat) (vol : Int) (Al : Option Addr) (cl : Nat) (hmg : MagicAt w0) (hl : l.length ≤ 8) (hs : ∀ k, k < l.length → (gt l k).name.size ≤ 1000) :
    Next w0 44 #[.pointer (some ⟨B2, 0, none⟩), .pointer (some ⟨B3, 0, none⟩), .pointer (some ⟨B4, 0, none⟩)] l.length (fun i W => RenE w0 sx l B2 B3 B4 vol Al cl i W) (renD vol sx l) where
  call := fun i W Bo v ds hi hE hO hds => rnm1_any w0 sx hsx l B2 B3 B4 vol Al cl hmg hl hs i W Bo v ds hi hE hO hds
  keep := fun i W W' hE hb => hE.below hb
  few := renD_le vol sx l
  enters := enters_of Tryd.func44 (by kernel_rfl) rfl
set_option maxHeartbeats 3200000 in
theorem rename_as (A : Option Addr) (l : List File) (n : Nat) (hn : l.length = n) (c : Nat) (vol : Int) (sx : ByteArray) (hsx : sx.size ≤ 1000) (w : World) (h : kFile.C w A n l) (hc : n ≤ c) (hl : n ≤ 1000000) (hs : ∀ k, k < l.length → (gt l k).name.size ≤ 9223372036854775807) (hmg : MagicAt w) (m : Nat) (hm : (renameD vol sx l).length = m) :
    Calls Tryd.prog 23 #[.slice A n c, .int .i64 vol, .string sx] w fun e w' => ∃ A2 c2, e = .returned (.slice A2 m c2) ∧ kDd.R 33 w' w.heap.size (fun _ => True) (.slice A2 m c2) (renameD vol sx l) ∧ Below w.heap.size w w' := by
  by_cases hE : makeE l = 0
  · subst hn
    obtain ⟨W2, hW2⟩ : ∃ W2, (w.alloc (.cells #[.int .i64 vol] 3)).alloc (.cells #[.string sx] 9) = W2 := ⟨_, rfl⟩
    have x0 : Boxed W2 w.heap.size 3 (.int .i64 vol) := by rw [← hW2]; exact (Boxed.new w _ _).alloc _
    have x1 : Boxed W2 (w.heap.size + 1) 9 (.string sx) := by
      have := Boxed.new (w.alloc (.cells #[.int .i64 vol] 3)) 9 (.string sx)
      rw [World.size_alloc] at this
      rw [← hW2]; exact this
    have hb : Below w.heap.size w W2 := by rw [← hW2]; exact below_alloc (below_alloc (Below.refl _ _) _) _
    have HCL := Aside0.mk (fclone A l c w W2 hb h hc hl)
    have HW2 := Aside0.mk hW2
    have HB2 := Aside0.mk hb
    have H := Aside0.mk h
    have HS := Aside0.mk hs
    have HMG := Aside0.mk hmg
    have HE := Aside0.mk hE
    have HT := Aside0.mk (tog_le l hE)
    have hl8 := (makeV_le l hE).1
    have HR : Aside0 (renameD vol sx l = hostD vol l (renD vol sx l) l.length) := ⟨by unfold renameD; rw [if_pos hE]⟩
    have HM := Aside0.mk hm
    obtain ⟨N5, hN5⟩ : ∃ N5, N5 = w.heap.size := ⟨_, rfl⟩
    rw [← hN5] at x0 x1
    have X0 := Aside0.mk x0
    have X1 := Aside0.mk x1
    clear hW2 hb h hs hmg hE hc x0 x1 hm
    go_enter Tryd.func23, Tryd.ntmps23
    go_upto_region 1 with fail
    rw [HW2.out, ← hN5]
    clear hN5
    go_wp2_with (first | (go_at_call 31; refine HCL.out.mono ?_; rintro e w4 ⟨v4, rfl, ho, hb⟩; obtain ⟨Al, cl, rfl⟩ := Kd.R_slice ho; have z5 := (show Boxed w4 N5 _ _ from blk_below X0.out hb); have HB4 := Aside0.mk (below_alloc hb (.cells #[.slice Al l.length cl] 43)); have q5 := (z5.alloc (.cells #[.slice Al l.length cl] 43)).cell; have HE0 : Aside0 (RenE w sx l w4.heap.size (N5 + 1) N5 vol Al cl 0 (w4.alloc (.cells #[.slice Al l.length cl] 43))) := ⟨⟨Boxed.new w4 _ _, blk_below X1.out HB4.out, blk_below X0.out HB4.out, by rw [mapTo_zero]; exact Kd.R_lower (Kd.R_alloc ho _) HB2.out.size, below_step HB2.out HB4.out⟩⟩; clear ho hb z5) | (go_at_call 32; refine (host_any w 44 #[.pointer (some ⟨w4.heap.size, 0, none⟩), .pointer (some ⟨N5 + 1, 0, none⟩), .pointer (some ⟨N5, 0, none⟩)] A l c vol _ _ (ren_next w sx hsx l w4.heap.size (N5 + 1) N5 vol Al cl HMG.out hl8 HT.out.1) _ (below_step HB2.out HB4.out) HE0.out (Kd.C_below H.out (below_step HB2.out HB4.out)) HS.out (Kd.C_below HMG.out (below_step HB2.out HB4.out)) HE.out).mono ?_; rintro e w5 ⟨v5, rfl, ho, hb⟩; rw [← HR.out] at ho; obtain ⟨A5, c5, rfl⟩ : ∃ A c, v5 = .slice A m c := (by obtain ⟨A, c, e⟩ := Kd.R_slice ho; exact ⟨A, c, by rw [e, HM.out]⟩); have HO5 := Aside0.mk ho; have HB5 := Aside0.mk hb; clear ho hb))
    go_ret
    exact ⟨A5, c5, rfl, HO5.out, HB5.out⟩
  · have hz : renameD vol sx l = [] := by unfold renameD; rw [if_neg hE]
    refine (rename_none A l n hn c vol sx w h hc hl hs hmg hE).mono ?_
    rintro e w' ⟨rfl, hb⟩
    rw [hz] at hm ⊢
    obtain rfl : m = 0 := hm.symm
    exact ⟨none, 0, rfl, Kd.R_nil _ _ _ _ _, hb⟩
end Go.Proofs.YtdobjbdkfammbaaDoor
