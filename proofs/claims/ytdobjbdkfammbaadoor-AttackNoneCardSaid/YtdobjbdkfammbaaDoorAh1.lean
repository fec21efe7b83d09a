/-
  Chapter 55: attack.host and what it hands to its caller, walked.
-/
import Derived.Test.YtdobjbdkfammbaaDoorAr3
namespace Go.Proofs.YtdobjbdkfammbaaDoor
open Go.RowKit Go.Shelf Go.Proofs.YtdobjbdkfammbaaDoorW.PrintWords Go.Proofs.YtdobjbdkfammbaaDoorW.PrintLast Go.Proofs.YtdobjbdkfammbaaDoorW.PrintMore
set_option linter.unusedVariables false
set_option linter.unusedSimpArgs false

/-- Blocks of cells of other types than T lie as they lay. -/
structure KeepT (T : List TypeId) (W W' : World) : Prop where
  size : W.heap.size ≤ W'.heap.size
  same : ∀ (k : Nat) (cs : Array Value) (t : TypeId), W.heap[k]? = some (.cells cs t (0, 0)) → t ∉ T → W'.heap[k]? = some (.cells cs t (0, 0))
theorem KeepT.refl (T : List TypeId) (W : World) : KeepT T W W := ⟨Nat.le_refl _, fun _ _ _ h _ => h⟩
theorem KeepT.trans {T : List TypeId} {A B C : World} (h : KeepT T A B) (k : KeepT T B C) : KeepT T A C := ⟨Nat.le_trans h.size k.size, fun i cs t hi ht => k.same i cs t (h.same i cs t hi ht) ht⟩
theorem KeepT.of_below {T : List TypeId} {W W' : World} (h : Below W.heap.size W W') : KeepT T W W' := ⟨h.size, fun _ _ _ hk _ => blk_below hk h⟩
theorem KeepT.mono {T T' : List TypeId} {W W' : World} (h : KeepT T W W') (hT : ∀ t, t ∈ T → t ∈ T') : KeepT T' W W' := ⟨h.size, fun k cs t hk ht => h.same k cs t hk (fun hm => ht (hT t hm))⟩
theorem KeepT.grown {T : List TypeId} {W W' : World} {row : Option Nat} (hg : W.grownBy W' row) (hr : ∀ k, row = some k → ∃ cs t, t ∈ T ∧ W.heap[k]? = some (.cells cs t (0, 0))) : KeepT T W W' := by
  refine ⟨hg.size, fun k cs t hk ht => (hg.block k (blk_lt hk) (fun e => ?_)).trans hk⟩
  obtain ⟨cs', t', ht', hk'⟩ := hr k e.symm
  rw [hk] at hk'
  injection hk' with hk'
  injection hk' with _ h2
  exact ht (h2 ▸ ht')
theorem KeepT.set {T : List TypeId} {W : World} {p : Addr} {cs : Array Value} {t : TypeId} (hp : W.heap[p.block]? = some (.cells cs t (0, 0))) (ht : t ∈ T) (v : Value) : KeepT T W (W.setCell p v) := by
  refine ⟨by simp [World.setCell], fun k cs' t' hk ht' => (Below.heap_setCell W p v k (fun e => ?_)).trans hk⟩
  rw [e, hp] at hk
  injection hk with hk
  injection hk with _ h2
  exact ht' (h2 ▸ ht)
theorem R_keepT {α : Type} {d : Kd α} {e base : Nat} {ok : Nat → Prop} {W W' : World} {v : Value} {xs : List α} {T : List TypeId} (h : d.R e W base ok v xs) (hk : KeepT T W W') (ht : ∀ q, q ∈ e :: d.E → q ∉ T) : d.R e W' base ok v xs :=
  Kd.R_mono (Kd.R_move (Kd.R_bound h) (fun k hk' => by
    obtain ⟨_, _, _, q, hq, cells, hc⟩ := hk'
    rw [hk.same k cells q hc (ht q hq), hc])) (fun k hk' => hk'.1)
theorem boxed_keepT {W W' : World} {B : Nat} {t : TypeId} {v : Value} {T : List TypeId} (h : Boxed W B t v) (hk : KeepT T W W') (ht : t ∉ T) : Boxed W' B t v := hk.same B _ t h ht

/-- The deeds that host has heard so far, in their box. -/
structure OutAt (w0 : World) (Bo : Nat) (v : Value) (ds : List Dd) (W : World) : Prop where
  box : Boxed W Bo 25 v
  row : kDd.R 33 W w0.heap.size (fun _ => True) v ds
  le : w0.heap.size ≤ Bo
  out : Below w0.heap.size w0 W
theorem OutAt.keep {w0 W W' : World} {Bo : Nat} {v : Value} {ds : List Dd} {T : List TypeId} (h : OutAt w0 Bo v ds W) (hk : KeepT T W W') (ht : ∀ q, q ∈ [33, 39, 25] → q ∉ T) (hb : Below w0.heap.size w0 W') : OutAt w0 Bo v ds W' :=
  ⟨boxed_keepT h.box hk (ht _ (by decide)), R_keepT h.row hk (fun q hq => ht q (by
    have : q ∈ [33, 39] := hq
    simp only [List.mem_cons, List.not_mem_nil, or_false] at this ⊢
    rcases this with h | h
    · exact .inl h
    · exact .inr (.inl h))), h.le, hb⟩
theorem OutAt.below {w0 W W' : World} {Bo : Nat} {v : Value} {ds : List Dd} (h : OutAt w0 Bo v ds W) (hb : Below W.heap.size W W') : OutAt w0 Bo v ds W' := h.keep (T := []) (KeepT.of_below hb) (fun q _ h => by simp at h) (below_step h.out hb)
/-- Deeds that are made, as they are appended to others. -/
theorem dd_rows {W : World} {base : Nat} {v : Value} {ds : List Dd} {A : Option Addr} {m c : Nat} {xs : List Dd} (ho : kDd.R 33 W base (fun _ => True) v ds) (hx : kDd.R 33 W base (fun _ => True) (.slice A m c) xs) : ReadsRow (kDd.M W base (fun k => some k ≠ v.ownBlock)) kDd.sz W A m xs := by
  obtain ⟨A', c', he, _, hr⟩ := OwnRow.reads hx.2
  cases he
  refine hr.imp_ (Below.refl _ _) (fun p cs hp => ?_)
  cases hv : v.ownBlock with
  | none => exact kDd.M_mono (fun k _ => by simp) hp
  | some g =>
    obtain ⟨cells, hc⟩ := Kd.R_typed ho g hv
    refine kDd.M_mono (fun k hk e => ?_) (Kd.M_types hp hc (fun q hq e => ?_))
    · injection e with e
      exact hk.2 e
    · have : q ∈ [39] := hq
      rw [List.mem_singleton] at this
      rw [this] at e
      exact absurd e (by decide)
set_option maxHeartbeats 800000 in
/-- .. hears more deeds. -/
theorem say_any (w0 : World) (Bo : Nat) (v : Value) (ds : List Dd) (W : World) (hO : OutAt w0 Bo v ds W) (A : Option Addr) (m c : Nat) (xs : List Dd) (hx : kDd.R 33 W w0.heap.size (fun _ => True) (.slice A m c) xs) (hl : (ds.length + m) * 40 ≤ 140737488355328) :
    Calls Tryd.prog 54 #[.slice A m c, .pointer (some ⟨Bo, 0, none⟩)] W fun e W' => (∃ u, e = .returned u) ∧ ∃ v', OutAt w0 Bo v' (ds ++ xs) W' ∧ KeepT [33, 25] W W' := by
  have hc0 := hO.box.cell
  have HO := Aside0.mk hO
  have HX := Aside0.mk hx
  have HL := Aside0.mk hl
  clear hO hx hl
  go_enter Tryd.func54, Tryd.ntmps54
  go_wp2_with ((with_reducible refine gate_builtin (b := .append) (xs := #[.tmp 3, .tmp 4]) rfl ?_); at_builtin; refine Kd.R_append_rows kDd (Rr := kDd.M W w0.heap.size (fun k => some k ≠ v.ownBlock)) (w0 := w0) w0.heap.size rfl (.tmp 3) (.tmp 4) 25 33 (.agg #[.int .i64 0, .slice none 0 0, .int .i64 0]) 40 rfl Tryd.underlying25 info_dd rfl (Nat.succ_pos _) (by omega) v ds xs A m c (fun _ => True) (fun k => some k ≠ v.ownBlock) rfl rfl HO.out.row (dd_rows HO.out.row HX.out) (fun _ _ h => h) (fun k hk => ⟨trivial, hk⟩) (fun _ _ => trivial) HO.out.out HO.out.out.size HL.out ?_; intro v2 w2 ho hb hg hat; obtain ⟨A2, c2, rfl⟩ := Kd.R_slice ho; have hbx : Boxed w2 Bo 25 v := HO.out.box.kept hg (HO.out.box.not_row (by decide) (Kd.R_own HO.out.row).choose_spec); have hc2 := hbx.cell; have hf2 := hbx.frozen; have HR2 := Aside0.mk ho; have HB2 := Aside0.mk hb; have HG2 := Aside0.mk hg; have HBX := Aside0.mk hbx; clear ho hb hg hat hbx)
  have hk1 : KeepT [33, 25] W w2 := KeepT.grown HG2.out (fun k hk => by
    obtain ⟨cells, hc⟩ := Kd.R_typed HO.out.row k hk
    exact ⟨cells, _, by decide, hc⟩)
  have hR := Kd.R_set HR2.out HBX.out (fun q hq e => by
    have : q ∈ [33, 39] := hq
    rw [e] at this
    exact absurd this (by decide)) 0 (.slice A2 (ds ++ xs).length c2)
  have hS := HBX.out.set (.slice A2 (ds ++ xs).length c2)
  have hk2 := KeepT.set (T := [33, 25]) (p := ⟨Bo, 0, none⟩) HBX.out (by decide) (.slice A2 (ds ++ xs).length c2)
  have hB := HB2.out.setCell (p := ⟨Bo, 0, none⟩) HO.out.le (.slice A2 (ds ++ xs).length c2)
  rw [List.length_append] at hR hS hk2 hB
  go_end0
  exact ⟨⟨_, rfl⟩, _, ⟨hS, hR, HO.out.le, hB⟩, hk1.trans hk2⟩
theorem makeV_le (l : List File) (h : makeE l = 0) : l.length ≤ 8 ∧ togB l = true ∧ makeV l = makeB l ∧ 1 ≤ (makeV l).length ∧ (makeV l).length ≤ 100 := by
  unfold makeE at h
  split at h
  · cases h
  · next h8 =>
    split at h
    · next ht =>
      have e : makeV l = makeB l := by unfold makeV; rw [if_neg h8, if_pos ht]
      have h2 := blocksTo_le ht l.length (Nat.le_refl _)
      have h3 := outTo_len l l.length (Nat.le_refl _)
      have h4 : (makeB l).length = (outTo l l.length).length := by
        unfold makeB outTo
        simp [tableB]
      exact ⟨by omega, ht, e, by rw [e]; omega, by rw [e]; omega⟩
    · cases h
/-- The deeds that host hands back. -/
def hostD (vol : Int) (l : List File) (D : Nat → List Dd) (k : Nat) : List Dd := rowsD vol (makeV l) ++ ((List.range k).map D).flatten
theorem hostD_succ (vol : Int) (l : List File) (D : Nat → List Dd) (k : Nat) : hostD vol l D (k + 1) = hostD vol l D k ++ D k := by
  unfold hostD
  rw [List.range_succ, List.map_append, List.flatten_append, List.append_assoc]
  simp
theorem hostD_le (vol : Int) (l : List File) (D : Nat → List Dd) (hl : (makeV l).length ≤ 100) (hD : ∀ i, (D i).length ≤ 40) (k : Nat) : (hostD vol l D k).length ≤ 20 + 40 * k := by
  induction k with
  | zero =>
    unfold hostD
    simp [rowsD_len]
    omega
  | succ k ih =>
    rw [hostD_succ, List.length_append]
    have := hD k
    omega
theorem rows_as (A : Option Addr) (B : List (List UInt8)) (n : Nat) (hn : B.length = n) (c : Nat) (vol : Int) (w : World) (h : kBlock.C w A n B) (h1 : 1 ≤ n) (hl : n ≤ 1000) :
    Calls Tryd.prog 36 #[.slice A n c, .int .i64 vol] w fun e w' => ∃ A2 c2, e = .returned (.slice A2 ((n + 7) / 8) c2) ∧ kDd.R 33 w' w.heap.size (fun _ => True) (.slice A2 ((n + 7) / 8) c2) (rowsD vol B) ∧ Below w.heap.size w w' := by
  subst hn
  refine (rows_any A B c vol w h h1 hl).mono ?_
  rintro e w' ⟨v, rfl, ho, hb⟩
  obtain ⟨A2, c2, rfl⟩ := Kd.R_slice ho
  rw [rowsD_len] at ho
  exact ⟨A2, c2, by rw [rowsD_len], ho, hb⟩
/-- What a caller of host hands it: called at a file, it tells its deeds. -/
structure Next (w0 : World) (g : FuncId) (bnd : Array Value) (n : Nat) (E : Nat → World → Prop) (D : Nat → List Dd) : Prop where
  call : ∀ i W Bo v ds, i < n → E i W → OutAt w0 Bo v ds W → ds.length ≤ 1000 → Calls Tryd.prog g (#[.int .i64 (i : Int), .func (.func 54) #[] #[.pointer (some ⟨Bo, 0, none⟩)]] ++ bnd) W fun e W' => (∃ u, e = .returned u) ∧ E (i + 1) W' ∧ ∃ v', OutAt w0 Bo v' (ds ++ D i) W'
  keep : ∀ i W W', E i W → Below W.heap.size W W' → E i W'
  few : ∀ i, (D i).length ≤ 40
  enters : ∀ args w, (callFunc g args).run Tryd.prog w = .ok (.enter g args) w
set_option maxHeartbeats 3200000 in
theorem host_none (g : FuncId) (bnd : Array Value) (A : Option Addr) (l : List File) (c : Nat) (vol : Int) (w : World) (h : kFile.C w A l.length l) (hs : ∀ k, k < l.length → (gt l k).name.size ≤ 9223372036854775807) (hmg : MagicAt w) (hE : makeE l ≠ 0) :
    Calls Tryd.prog 32 #[.slice A l.length c, .int .i64 vol, .func (.func g) #[] bnd] w fun e w' => e = .returned (.slice none 0 0) ∧ Below w.heap.size w w' := by
  obtain ⟨n, hn⟩ : ∃ n, (makeV l).length = n := ⟨_, rfl⟩
  obtain ⟨E, hEe⟩ : ∃ E, makeE l = E := ⟨_, rfl⟩
  rw [hEe] at hE
  have HM := Aside0.mk (make_as A l c w h hs hmg n hn E hEe)
  have hE' : (E != 0) = true := by simpa using hE
  clear h hs hmg hn hEe
  go_enter Tryd.func32, Tryd.ntmps32
  go_wp2_with (go_at_call 35; refine HM.out.mono ?_; rintro e w1 ⟨Aa, ca, rfl, ho, hb⟩; have HB := Aside0.mk hb; clear ho hb)
  go_ret
  exact ⟨rfl, HB.out⟩
set_option maxHeartbeats 3200000 in
theorem host_any (w0 : World) (g : FuncId) (bnd : Array Value) (A : Option Addr) (l : List File) (c : Nat) (vol : Int) (Es : Nat → World → Prop) (D : Nat → List Dd) (hN : Next w0 g bnd l.length Es D) (w : World) (hb0 : Below w0.heap.size w0 w) (hE0 : Es 0 w) (h : kFile.C w A l.length l) (hs : ∀ k, k < l.length → (gt l k).name.size ≤ 9223372036854775807) (hmg : MagicAt w) (hE : makeE l = 0) :
    Calls Tryd.prog 32 #[.slice A l.length c, .int .i64 vol, .func (.func g) #[] bnd] w fun e w' => ∃ v, e = .returned v ∧ kDd.R 33 w' w0.heap.size (fun _ => True) v (hostD vol l D l.length) ∧ Below w0.heap.size w0 w' := by
  obtain ⟨hl8, -, -, hv1, hv100⟩ := makeV_le l hE
  obtain ⟨n, hn⟩ : ∃ n, (makeV l).length = n := ⟨_, rfl⟩
  have HM := Aside0.mk (make_as A l c w h hs hmg n hn 0 hE)
  have HDL := Aside0.mk (hostD_le vol l D hv100 hN.few)
  rw [hn] at hv1 hv100
  have HN := Aside0.mk hN
  have HE0 := Aside0.mk hE0
  have HB0 := Aside0.mk hb0
  have HNV := Aside0.mk hn
  have he := hN.enters
  clear h hs hmg hn hE hN hE0 hb0
  go_enter Tryd.func32, Tryd.ntmps32
  go_wp2_with (first | (go_at_call 35; refine HM.out.mono ?_; rintro e w1 ⟨Aa, ca, rfl, ho, hb⟩; have HB1 := Aside0.mk hb; have hc := (Kd.R_reads' ho).2.2; rw [HNV.out] at hc; have HC1 := Aside0.mk hc; clear ho hb hc) | (go_at_call 36; refine (rows_as Aa (makeV l) n HNV.out ca vol _ HC1.out hv1 (by omega)).mono ?_; rintro e w2 ⟨A2, c2, rfl, ho, hb⟩; have HB2 := Aside0.mk hb; have HO2 := Aside0.mk ho; clear ho hb))
  obtain ⟨W3, hW3⟩ : ∃ W3, w2.alloc (.cells #[.slice A2 ((n + 7) / 8) c2] 25) = W3 := ⟨_, rfl⟩
  have hb3 : Below w2.heap.size w2 W3 := by rw [← hW3]; exact below_alloc (Below.refl _ _) _
  have hb03 : Below w0.heap.size w0 W3 := below_step (below_step (below_step HB0.out HB1.out) HB2.out) hb3
  have HO3 : Aside0 (∃ v, OutAt w0 w2.heap.size v (hostD vol l D 0) W3) := ⟨_, by rw [← hW3]; exact Boxed.new w2 _ _, by
    have := Kd.R_lower (Kd.R_below HO2.out hb3) (below_step HB0.out HB1.out).size
    unfold hostD
    simpa using this, (below_step (below_step HB0.out HB1.out) HB2.out).size, hb03⟩
  have HE3 : Aside0 (Es 0 W3) := ⟨HN.out.keep 0 _ _ HE0.out (below_step (below_step HB1.out HB2.out) hb3)⟩
  obtain ⟨N2, hN2⟩ : ∃ N2, N2 = w2.heap.size := ⟨_, rfl⟩
  rw [hW3]
  rw [← hN2] at HO3 ⊢
  clear hW3 hb3 hb03 hN2
  go_loopg [23, 10] l.length (fun gk i _ wr => ∃ k : Nat, k ≤ l.length ∧ Aside0 (gk = l.length - k) ∧ i = .int .i64 k ∧ Aside0 (Es k wr) ∧ Aside0 (∃ v, OutAt w0 N2 v (hostD vol l D k) wr))
  case atStart => exact ⟨0, Nat.zero_le _, ⟨rfl⟩, rfl, HE3, HO3⟩
  case round =>
    obtain ⟨k, hk, HGK, rfl, HEk, HOk⟩ := hrel
    by_cases hlt : k < l.length
    · have hkl : (k : Int) < (l.length : Int) := by omega
      obtain ⟨v, hv⟩ := HOk.out
      have HC := Aside0.mk (HN.out.call k wr N2 v _ hlt HEk.out hv (by have := HDL.out k; omega))
      clear hv
      go_wp2_with fail
      refine HC.out.mono ?_
      rintro e W4 ⟨⟨u, rfl⟩, hE4, v4, hO4⟩
      rw [← hostD_succ] at hO4
      have HE4 := Aside0.mk hE4
      have HO4 : Aside0 (∃ v, OutAt w0 N2 v (hostD vol l D (k + 1)) W4) := ⟨_, hO4⟩
      clear hE4 hO4
      go_wp2_with fail
      go_roundg (l.length - (k + 1))
      case measure => have := HGK.out; omega
      case rel => exact ⟨k + 1, by omega, ⟨rfl⟩, by go_num, HE4, HO4⟩
    · have hkl : ¬ (k : Int) < (l.length : Int) := by omega
      obtain ⟨v, hv⟩ := HOk.out
      have hc := hv.box.cell
      rw [show k = l.length by omega] at hv
      have HV := Aside0.mk hv
      clear hv
      go_wp2_with fail
      go_ret
      exact ⟨v, rfl, HV.out.row, HV.out.out⟩
end Go.Proofs.YtdobjbdkfammbaaDoor
