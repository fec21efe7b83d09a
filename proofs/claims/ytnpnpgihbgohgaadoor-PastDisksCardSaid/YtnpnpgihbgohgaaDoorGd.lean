/-
  Chapter 50: past.Of, over whatever closure tells the files of a moment.
-/
import Derived.Test.YtnpnpgihbgohgaaDoorGc
import Derived.Lib.SlBytesConst
/-
  Chapter 50: past.Of, the history of a name, over the closure that tells the files of a moment.
-/
namespace Go.Proofs.YtnpnpgihbgohgaaDoor
open Go.RowKit Go.Proofs.YtnpnpgihbgohgaaDoorW.PrintWords Go.Proofs.YtnpnpgihbgohgaaDoorW.PrintLast Go.Proofs.YtnpnpgihbgohgaaDoorW.PrintMore
set_option linter.unusedVariables false
set_option linter.unusedSimpArgs false

set_option maxHeartbeats 800000 in
theorem alike_any (m1 m2 : Int) (t1 t2 : Bool) (A B : Option Addr) (xs ys : List UInt8) (c1 c2 : Nat) (w : World) (h1 : byte.C w A xs.length xs) (h2 : byte.C w B ys.length ys) :
    Calls Tryd.prog 30 #[.agg #[.int .u64 m1, .bool t1, .slice A xs.length c1], .agg #[.int .u64 m2, .bool t2, .slice B ys.length c2]] w fun e w' => e = .returned (.bool (t1 == t2 && decide (xs = ys))) ∧ Below w.heap.size w w' := by
  have H1 := Aside0.mk h1
  have H2 := Aside0.mk h2
  clear h1 h2
  cases ht : (t1 == t2)
  · go_enter Tryd.func30, Tryd.ntmps30
    go_wp2
    go_ret
    exact ⟨rfl, below_alloc (below_alloc (Below.refl _ _) _) _⟩
  · go_enter Tryd.func30, Tryd.ntmps30
    go_wp2_with (go_at_call 23; refine (bequal A B xs ys c1 c2 _ (Kd.C_below H1.out (below_alloc (below_alloc (Below.refl _ _) _) _)) (Kd.C_below H2.out (below_alloc (below_alloc (Below.refl _ _) _) _))).mono ?_; rintro e w1 ⟨rfl, rfl⟩)
    go_ret
    exact ⟨rfl, below_alloc (below_alloc (Below.refl _ _) _) _⟩

theorem find_no (A : Option Addr) (l : List File) (c : Nat) (nm : ByteArray) (w : World) (h : kFile.C w A l.length l) (hl : ∀ k, k < l.length → (gt l k).data.length ≤ 140737488355328) (hn : look49 l nm = none) :
    Calls Tryd.prog 28 #[.slice A l.length c, .string nm] w fun e w' => e = .returned (.tuple #[.agg #[.string ⟨#[]⟩, .slice none 0 0], .bool false]) ∧ Below w.heap.size w w' :=
  (find_any A l c nm w h hl).mono fun e w' hp => by
    rcases hp with ⟨_, h1, h2⟩ | ⟨x, v, h1, _⟩
    · exact ⟨h1, h2⟩
    · rw [hn] at h1; cases h1
theorem find_yes (A : Option Addr) (l : List File) (c : Nat) (nm : ByteArray) (w : World) (h : kFile.C w A l.length l) (hl : ∀ k, k < l.length → (gt l k).data.length ≤ 140737488355328) (x : File) (hn : look49 l nm = some x) :
    Calls Tryd.prog 28 #[.slice A l.length c, .string nm] w fun e w' => ∃ B c', e = .returned (.tuple #[.agg #[.string nm, .slice B x.data.length c'], .bool true]) ∧ byte.R 5 w' w.heap.size (fun _ => True) (.slice B x.data.length c') x.data ∧ Below w.heap.size w w' :=
  (find_any A l c nm w h hl).mono fun e w' hp => by
    rcases hp with ⟨h1, _⟩ | ⟨y, v, h1, h2, h3, h4⟩
    · rw [hn] at h1; cases h1
    · rw [hn] at h1
      cases h1
      obtain ⟨B, c', rfl⟩ := Kd.R_slice h3
      exact ⟨B, c', h2, h3, h4⟩

def alikeV (a b : Vers) : Bool := a.there == b.there && decide (a.data = b.data)
def versOf (r : List File) (nm : ByteArray) (m : Int) : Vers := match look49 r nm with | some x => ⟨m, true, x.data⟩ | none => ⟨m, false, []⟩
def ofStep (f : Int → List File × Bool) (nm : ByteArray) (out : List Vers) (m : Int) : List Vers :=
  if (f m).2 = true then
    match out.getLast? with
    | none => out ++ [versOf (f m).1 nm m]
    | some u => if alikeV u (versOf (f m).1 nm m) = true then out else out ++ [versOf (f m).1 nm m]
  else out
def ofSpec (f : Int → List File × Bool) (nm : ByteArray) (ms : List Int) : List Vers := ms.foldl (ofStep f nm) []
theorem ofStep_le (f : Int → List File × Bool) (nm : ByteArray) (out : List Vers) (m : Int) : (ofStep f nm out m).length ≤ out.length + 1 := by
  unfold ofStep
  split
  · split
    · simp
    · split <;> simp
  · simp
theorem ofSpec_succ (f : Int → List File × Bool) (nm : ByteArray) (ms : List Int) (k : Nat) (hk : k < ms.length) : ofSpec f nm (ms.take (k + 1)) = ofStep f nm (ofSpec f nm (ms.take k)) (gt ms k) := by
  unfold ofSpec
  rw [List.take_add_one, gt_some ms k hk, List.foldl_append]
  rfl
theorem ofSpec_le (f : Int → List File × Bool) (nm : ByteArray) (ms : List Int) (k : Nat) (hk : k ≤ ms.length) : (ofSpec f nm (ms.take k)).length ≤ k := by
  induction k with
  | zero => simp [ofSpec]
  | succ k ih =>
    rw [ofSpec_succ f nm ms k (by omega)]
    have := ofStep_le f nm (ofSpec f nm (ms.take k)) (gt ms k)
    have := ih (by omega)
    omega

theorem find_uni (A : Option Addr) (l : List File) (c : Nat) (nm : ByteArray) (m : Int) (w : World) (h : kFile.C w A l.length l) (hl : ∀ k, k < l.length → (gt l k).data.length ≤ 140737488355328) :
    Calls Tryd.prog 28 #[.slice A l.length c, .string nm] w fun e w' => ∃ s B c', e = .returned (.tuple #[.agg #[.string s, .slice B (versOf l nm m).data.length c'], .bool (versOf l nm m).there]) ∧
      byte.R 5 w' w.heap.size (fun _ => True) (.slice B (versOf l nm m).data.length c') (versOf l nm m).data ∧ Below w.heap.size w w' :=
  (find_any A l c nm w h hl).mono fun e w' hp => by
    rcases hp with ⟨h1, h2, h3⟩ | ⟨x, v, h1, h2, h3, h4⟩
    · have : versOf l nm m = ⟨m, false, []⟩ := by simp [versOf, h1]
      rw [this]
      exact ⟨⟨#[]⟩, none, 0, h2, Kd.R_nil _ _ _ _ _, h3⟩
    · have : versOf l nm m = ⟨m, true, x.data⟩ := by simp [versOf, h1]
      rw [this]
      obtain ⟨B, c', rfl⟩ := Kd.R_slice h3
      exact ⟨nm, B, c', h2, h3, h4⟩
/-- What the closure tells of a moment. -/
def tells (l : List Seen) (m : Int) : List File × Bool := (filesOf (look l m), toldOf (look l m))
theorem tells_short (l : List Seen) (n : Nat) (h : ∀ k, k < l.length → (gt l k).data.length ≤ n) (m : Int) : ∀ k, k < (tells l m).1.length → (gt (tells l m).1 k).data.length ≤ n := by
  unfold tells
  cases hf : look l m with
  | none => intro k hk; simp [filesOf] at hk
  | some s =>
    have hs : s ∈ l := List.mem_of_find?_eq_some hf
    obtain ⟨j, hj, rfl⟩ := List.getElem_of_mem hs
    have hj' := h j hj
    rw [gt_eq l j hj] at hj'
    intro k hk
    by_cases ht : l[j].there = true
    · simp only [filesOf, ht, if_true] at hk ⊢
      rcases k with _ | _ | k
      · simp [gt]
      · simpa [gt] using hj'
      · simp at hk; omega
    · simp only [filesOf, ht] at hk ⊢
      rcases k with _ | k
      · simpa [gt] using hj'
      · simp at hk

theorem info_vers : (Tryd.prog.info? 47).map (fun i => (i.zero, i.size, i.bytes)) = some (some (.agg #[.int .u64 0, .bool false, .slice none 0 0]), 3, 40) := by kernel_rfl
theorem byteE (t : Nat) (ht : 5 ≠ t) : ∀ q, q ∈ 5 :: byte.E → q ≠ t := by
  intro q hq
  simp [byte, Kd.scalar] at hq
  subst hq
  exact ht

theorem ofBound {wr : World} {base : Nat} {v : Value} {xs : List Vers} (h : kVers.R 47 wr base (fun _ => True) v xs) : kVers.R 47 wr base (fun k => k < wr.heap.size) v xs := Kd.R_mono (Kd.R_bound h) (fun _ hk => hk.2.2.1)
theorem readsS {e : Nat} {w : World} {base n c : Nat} {ok : Nat → Prop} {A : Option Addr} {xs : List UInt8} (h : byte.R e w base ok (.slice A n c) xs) : n = xs.length ∧ xs.length ≤ c ∧ byte.C w A xs.length xs := by
  obtain ⟨A', c', he, hl, hC⟩ := Kd.R_reads h
  cases he
  exact ⟨rfl, hl, hC⟩
theorem readsV {e : Nat} {w : World} {base n c : Nat} {ok : Nat → Prop} {A : Option Addr} {xs : List Vers} (h : kVers.R e w base ok (.slice A n c) xs) : kVers.C w A xs.length xs := by
  obtain ⟨A', c', he, hl, hC⟩ := Kd.R_reads h
  cases he
  exact hC
theorem versOf_nil (r : List File) (nm : ByteArray) (m : Int) (h : (versOf r nm m).there = false) : (versOf r nm m).data = [] := by
  unfold versOf at h ⊢
  split <;> simp_all
theorem versOf_from (r : List File) (nm : ByteArray) (m : Int) : (versOf r nm m).from_ = m := by
  unfold versOf
  split <;> rfl
theorem versOf_short (r : List File) (nm : ByteArray) (m : Int) (n : Nat) (h : ∀ k, k < r.length → (gt r k).data.length ≤ n) : (versOf r nm m).data.length ≤ n := by
  unfold versOf
  split
  · rename_i x hx
    obtain ⟨j, hj, rfl⟩ := List.getElem_of_mem (List.mem_of_find?_eq_some hx)
    have := h j hj
    rwa [gt_eq r j hj] at this
  · simp
theorem getLast_gt {α : Type} [Inhabited α] (l : List α) (h : l ≠ []) : l.getLast? = some (gt l (l.length - 1)) := by
  have : 0 < l.length := List.length_pos_iff.mpr h
  rw [List.getLast?_eq_getElem?, gt_some l _ (by omega)]
/-- What stands when a moment's version has been made: its box, its bytes, what was gathered before. -/
structure OfMade (w wr w1 : World) (m : Int) (v : Value) (out : List Vers) (x : Vers) (B3 : Option Addr) (c3 : Nat) (wx : World) : Prop where
  box : wx.heap[w1.heap.size]? = some (.cells #[.int .u64 m, .bool x.there, .slice B3 x.data.length c3] 47 (0, 0))
  dat : byte.R 5 wx w.heap.size (fun k => wr.heap.size ≤ k) (.slice B3 x.data.length c3) x.data
  out : kVers.R 47 wx w.heap.size (fun k => k < wr.heap.size) v out
  below : Below w.heap.size w wx
  size : wr.heap.size ≤ w1.heap.size
theorem OfMade.step {w wr w1 wx wy : World} {m : Int} {v : Value} {out : List Vers} {x : Vers} {B3 : Option Addr} {c3 : Nat} (h : OfMade w wr w1 m v out x B3 c3 wx) (hb : Below wx.heap.size wx wy) : OfMade w wr w1 m v out x B3 c3 wy :=
  ⟨blk_below h.box hb, Kd.R_below h.dat hb, Kd.R_below h.out hb, below_step h.below hb, h.size⟩
theorem OfMade.mk_ {w wr w1 wx : World} {m : Int} {v : Value} {out : List Vers} {x : Vers} {B3 : Option Addr} {c3 : Nat} (h : OfMade w wr w1 m v out x B3 c3 wx) (hm : x.from_ = m) :
    kVers.M wx w.heap.size (fun k => wr.heap.size ≤ k) x [.int .u64 m, .bool x.there, .slice B3 x.data.length c3] := by
  rw [← hm]
  exact kVers_mkM wx w.heap.size _ x h.dat
theorem OfMade.apart {w wr w1 wx : World} {m : Int} {v : Value} {out : List Vers} {x : Vers} {B3 : Option Addr} {c3 : Nat} (h : OfMade w wr w1 m v out x B3 c3 wx) (k : Nat) (hk : wr.heap.size ≤ k) : True ∧ some k ≠ v.ownBlock :=
  ⟨trivial, fun e => by have := h.out.1 k e.symm; omega⟩
theorem eql_fn (f : Fn) (a b : Array Value) (w : World) : (binOp .eql 31 (.func f a b) .nilFunc).run Tryd.prog w = .ok (.bool false) w := by
  kernel_rfl
set_option maxHeartbeats 4000000 in
theorem of_any (A : Option Addr) (ms : List Int) (c : Nat) (g : Nat) (A2 : Option Addr) (l : List Seen) (c2 : Nat) (nm : ByteArray) (w : World)
    (hA : (Kd.int .u64).C w A ms.length ms) (hg : w.heap[g]? = some (.cells #[.slice A2 l.length c2] 22 (0, 0))) (hL : kSeen.C w A2 l.length l)
    (hd : ∀ k, k < l.length → (gt l k).data.length ≤ 140737488355328) (hms : ms.length ≤ 1000000000) :
    Calls Tryd.prog 12 #[.slice A ms.length c, atFn g, .string nm] w fun e w' => ∃ v, e = .returned v ∧ kVers.R 47 w' w.heap.size (fun _ => True) v (ofSpec (tells l) nm ms) ∧ Below w.heap.size w w' := by
  have HG := Aside0.mk hg
  have HL := Aside0.mk hL
  have HD := Aside0.mk hd
  clear hg hL hd
  unfold atFn
  have qn := eql_fn (.func 16) #[] #[.pointer (some ⟨g, 0, none⟩)]
  go_enter Tryd.func12, Tryd.ntmps12
  go_wp2
  go_loopw [7, 19] (fun v i wr => ∃ k : Nat, k ≤ ms.length ∧ i = .int .i64 k ∧ Aside0 (kVers.R 47 wr w.heap.size (fun _ => True) v (ofSpec (tells l) nm (ms.take k))) ∧ Aside0 (Below w.heap.size w wr)) (fun _ i _ => ms.length - (intOf i).toNat)
  case atStart => exact ⟨0, Nat.zero_le _, rfl, ⟨Kd.R_nil _ _ _ _ _⟩, ⟨Below.refl _ _⟩⟩
  case round =>
    obtain ⟨k, hk, rfl, HO, HB⟩ := hrel
    by_cases hlt : k < ms.length
    · obtain ⟨ad, rfl, g0⟩ := int_at hA hlt
      replace g0 := cell_old HB.out g0
      obtain ⟨out, hout⟩ : ∃ o, o = ofSpec (tells l) nm (ms.take k) := ⟨_, rfl⟩
      have hol : out.length ≤ k := by rw [hout]; exact ofSpec_le _ _ _ _ hk
      rw [← hout] at HO
      have HOUT := Aside0.mk hout
      clear hout
      obtain ⟨Av, cv, rfl⟩ := Kd.R_slice HO.out
      cases ht : toldOf (look l (gt ms k))
      · go_wp2_with (go_at_call 16; refine (at1_any g A2 l c2 (gt ms k) wr (blk_below HG.out HB.out) (Kd.C_below HL.out HB.out)).mono ?_; rintro e w1 ⟨B, c', rfl, hC, hle, hb⟩; rw [ht]; have HB1 := Aside0.mk (below_step HB.out hb); have HO1 := Aside0.mk (Kd.R_below HO.out hb); clear hb hC)
        go_roundw
        case rel => exact ⟨k + 1, by omega, by go_num, ⟨by rw [ofSpec_succ _ _ _ _ hlt, ← HOUT.out]; simpa [ofStep, tells, ht] using HO1.out⟩, HB1⟩
        case measure => simp [intOf]; omega
      · obtain ⟨m, hm⟩ : ∃ m, m = gt ms k := ⟨_, rfl⟩
        rw [← hm] at g0 ht
        have HM := Aside0.mk hm
        clear hm
        go_upto_if 39 with (first | (go_at_call 16; refine (at1_any g A2 l c2 m wr (blk_below HG.out HB.out) (Kd.C_below HL.out HB.out)).mono ?_; rintro e w1 ⟨B, c', rfl, hC, hle, hb⟩; rw [ht]; have HB1 := Aside0.mk (below_step HB.out hb); have HO1 := Aside0.mk (Kd.R_below (ofBound HO.out) hb); have hsz := hb.size; have HC1 := Aside0.mk hC; clear hb hC) | (go_at_call 28; refine (find_uni B _ c' nm m _ (Kd.C_alloc HC1.out _) (tells_short l _ HD.out m)).mono ?_; rintro e w2 ⟨s, B2, c2', rfl, ho2, hb2⟩; have BV2 := Aside0.mk (blk_below (blk_new w1 (.cells #[.int .u64 m, .bool false, .slice none 0 0] 47)) hb2); have HO2 := Aside0.mk (Kd.R_below (Kd.R_alloc HO1.out _) hb2); have HB2 := Aside0.mk (below_step (below_alloc HB1.out _) hb2); have HDt := Aside0.mk ho2; clear ho2 hb2))
        obtain ⟨x, hx⟩ : ∃ x, x = versOf (filesOf (look l m)) nm m := ⟨_, rfl⟩
        have hxs : x.data.length ≤ 140737488355328 := by rw [hx]; exact versOf_short _ _ _ _ (tells_short l _ HD.out m)
        have hxn : x.there = false → x.data = [] := by rw [hx]; exact versOf_nil _ _ _
        rw [← hx] at HDt ⊢
        have HX := Aside0.mk hx
        have HXN := Aside0.mk hxn
        clear hx hxn
        go_cut [14] (fun _ wx => ∃ B3 c3, OfMade w wr w1 m (.slice Av out.length cv) out x B3 c3 wx)
        case first =>
          obtain ⟨hn2, hl2, hC2⟩ := readsS HDt.out
          have HC2 := Aside0.mk hC2
          clear hC2 hn2
          cases hv : x.there
          · have hd0 := HXN.out hv
            rw [hd0] at HDt ⊢
            go_wp2
            go_meet
            refine ⟨none, 0, ⟨?_, ?_, ?_, below_alloc HB2.out _, hsz⟩⟩
            · rw [hv, hd0]; exact blk_alloc BV2.out _
            · rw [hd0]; exact Kd.R_nil _ _ _ _ _
            · exact Kd.R_alloc HO2.out _
          · go_wp2_with (go_at_call 29; refine (bclone B2 x.data c2' _ (Kd.C_alloc HC2.out _) hl2 hxs).mono ?_; rintro e w3 ⟨v3, rfl, ho3, hb3⟩; obtain ⟨B3, c3, rfl⟩ := Kd.R_slice ho3; have HD3 := Aside0.mk ho3; have BV3 := Aside0.mk (blk_below (blk_alloc BV2.out _) hb3); have HO3 := Aside0.mk (Kd.R_below (Kd.R_alloc HO2.out _) hb3); have HB3 := Aside0.mk (below_step (below_alloc HB2.out _) hb3); have hs3 := HB2.out.size; have r1 := blk_cell BV3.out 1; have r2 := blk_cell BV3.out 2; have f1 := blk_frozen BV3.out 1; have f2 := blk_frozen BV3.out 2; simp only [List.getElem?_toArray, List.getElem?_cons_zero, List.getElem?_cons_succ] at r1 r2; clear ho3 hb3)
            go_meet
            refine ⟨B3, c3, ⟨?_, ?_, ?_, ?_, hsz⟩⟩
            · rw [hv]; exact blk_set (blk_set BV3.out 1 (.bool true)) 2 (.slice B3 x.data.length c3)
            · refine Kd.R_set (Kd.R_set (Kd.R_lower (Kd.R_mono (Kd.R_bound HD3.out) (fun k hk => ?_)) ?_) BV3.out (byteE _ (by decide)) 1 _) (blk_set BV3.out 1 _) (byteE _ (by decide)) 2 _
              · have := hk.2.1; simp at this; have := HB.out.size; have := below_size HB1.out; have := blk_lt BV2.out; omega
              · simp; have := HB2.out.size; omega
            · exact Kd.R_far (p := ⟨w1.heap.size, 2, none⟩) (Kd.R_far (p := ⟨w1.heap.size, 1, none⟩) HO3.out (fun k hk => by simp only; omega) _) (fun k hk => by simp only; omega) _
            · exact (HB3.out.setCell (p := ⟨w1.heap.size, 1, none⟩) HB1.out.size _).setCell (p := ⟨w1.heap.size, 2, none⟩) HB1.out.size _
        case rest =>
          obtain ⟨B3, c3, hO⟩ := hcut
          have HOM := Aside0.mk hO
          clear hO
          have hxf : x.from_ = m := by rw [HX.out]; exact versOf_from _ _ _
          have hstep : ofSpec (tells l) nm (ms.take (k + 1)) = ofStep (tells l) nm out m := by rw [ofSpec_succ _ _ _ _ hlt, ← HOUT.out, HM.out]
          have hstep2 : ofStep (tells l) nm out m = match out.getLast? with
              | none => out ++ [x]
              | some u => if alikeV u x = true then out else out ++ [x] := by
            rw [HX.out]; unfold ofStep; rw [if_pos (show (tells l m).2 = true from ht)]; rfl
          have HST := Aside0.mk (hstep.trans hstep2)
          have HXF := Aside0.mk hxf
          clear hstep hstep2 hxf
          rcases Nat.eq_zero_or_pos out.length with h0 | h0
          · have he : out = [] := List.eq_nil_of_length_eq_zero h0
            have HST2 : Aside0 (ofSpec (tells l) nm (ms.take (k + 1)) = out ++ [x]) := ⟨by rw [HST.out, he]; rfl⟩
            have HZ : ((out.length : Int) == 0) = true := by simp [he]
            clear h0 he
            go_wp2
            go_quiet (fail)
            obtain ⟨W5, hW5⟩ : ∃ W, W = wc.drewN nq := ⟨_, rfl⟩
            rw [← hW5]
            have HOM5 : Aside0 (OfMade w wr w1 m (.slice Av out.length cv) out x B3 c3 W5) := ⟨by rw [hW5]; exact HOM.out.step (pw_below_drewN (Below.refl _ _) _)⟩
            clear hW5
            have r0 := blk_cell HOM5.out.box 0
            have r1 := blk_cell HOM5.out.box 1
            have r2 := blk_cell HOM5.out.box 2
            simp only [List.getElem?_toArray, List.getElem?_cons_zero, List.getElem?_cons_succ] at r0 r1 r2
            go_wp2_with ((with_reducible refine gate_builtin (b := .append) (xs := #[.tmp 59, .tmp 61]) rfl ?_); at_builtin; refine Kd.R_append kVers (w0 := w) w.heap.size rfl (.tmp 59) (.tmp 61) 43 47 (.agg #[.int .u64 0, .bool false, .slice none 0 0]) 40 rfl Tryd.underlying43 info_vers rfl (by first | decide | exact Nat.succ_pos _) (by omega) _ out x [.int .u64 m, .bool x.there, .slice B3 x.data.length c3] (fun _ => True) (fun k => wr.heap.size ≤ k) rfl ?aX6 ?aP6 ?aK6 ?aF6 ?aO6 ?aB6 ?aS6 ?aL6 ?_; (case aX6 => first | rfl | (go_simp; done) | (simp [go_sem]; done)); (case aP6 => exact (HOM5.out.mk_ HXF.out)); (case aK6 => exact (fun k hk => HOM5.out.apart k hk)); (case aB6 => exact HOM5.out.below); (case aF6 => exact (fun _ _ => trivial)); (case aO6 => exact (Kd.R_mono HOM5.out.out (fun _ _ => trivial))); (case aS6 => exact (HOM5.out.below).size); (case aL6 => (omega)); intro v6 w6 ho6 hb6 hg6 hat6; have HO6 := Aside0.mk ho6; have HB6 := Aside0.mk hb6; clear ho6 hb6 hg6 hat6)
            go_roundw
            case rel => exact ⟨k + 1, by omega, by go_num, ⟨by rw [HST2.out]; exact HO6.out⟩, HB6⟩
            case measure => simp [intOf]; omega
          · have hne : out ≠ [] := fun e => by rw [e] at h0; simp at h0
            have hgl := getLast_gt out hne
            have HZ : ((out.length : Int) == 0) = false := by simp; omega
            have HZ2 : decide ((out.length : Int) = 0) = false := by simp; omega
            obtain ⟨u, hu⟩ : ∃ u, u = gt out (out.length - 1) := ⟨_, rfl⟩
            obtain ⟨ad2, A4, c4, e4, q0, q1, q2, hc4, hd4⟩ := vers_at (readsV HOM.out.out) (show out.length - 1 < out.length by omega)
            cases e4
            rw [← hu] at q0 q1 q2 hc4 hd4 hgl
            have HD4 := Aside0.mk hd4
            obtain ⟨_, hl3, hC3⟩ := readsS HOM.out.dat
            have HC3 := Aside0.mk hC3
            have HGL := Aside0.mk hgl
            have r0 := blk_cell HOM.out.box 0
            have r1 := blk_cell HOM.out.box 1
            have r2 := blk_cell HOM.out.box 2
            simp only [List.getElem?_toArray, List.getElem?_cons_zero, List.getElem?_cons_succ] at r0 r1 r2
            clear hne hu hd4 hC3 hgl
            cases ha : (u.there == x.there && decide (u.data = x.data))
            · have HST2 : Aside0 (ofSpec (tells l) nm (ms.take (k + 1)) = out ++ [x]) := ⟨by rw [HST.out, HGL.out]; simp only [alikeV, ha]; rfl⟩
              have HA := Aside0.mk ha
              clear ha
              go_wp2_with fail
              have i0 : IntKind.i64.wrap ((out.length : Int) - 1) = (out.length : Int) - 1 := IntWalk.i64_in _ (by omega)
              have i1 : (0 : Int) ≤ (out.length : Int) - 1 := by omega
              have i2 : (out.length : Int) - 1 < (out.length : Int) := by omega
              have i3 : ((out.length : Int) - 1).toNat = out.length - 1 := by omega
              have i4 : (1 : Int) ≤ (out.length : Int) := by omega
              go_region_held3 (fun W => W.cell? (ad2.add ((out.length - 1) * 3)) = some (.int .u64 u.from_) ∧ W.cell? ⟨(ad2.add ((out.length - 1) * 3)).block, (ad2.add ((out.length - 1) * 3)).off + 1, none⟩ = some (.bool u.there) ∧ W.cell? ⟨(ad2.add ((out.length - 1) * 3)).block, (ad2.add ((out.length - 1) * 3)).off + 2, none⟩ = some (.slice A4 u.data.length c4) ∧ W.cell? ⟨w1.heap.size, 0, none⟩ = some (.int .u64 m) ∧ W.cell? ⟨w1.heap.size, 1, none⟩ = some (.bool x.there) ∧ W.cell? ⟨w1.heap.size, 2, none⟩ = some (.slice B3 x.data.length c3)) (first | exact ⟨q0, q1, q2, r0, r1, r2⟩ | exact K5) (first | (go_at_call 30; refine (alike_any u.from_ m u.there x.there A4 B3 u.data x.data c4 c3 wc.drew (Kd.C_drew HD4.out) (Kd.C_drew HC3.out)).mono ?_; rw [HA.out]; rintro e w5 ⟨rfl, hb⟩; have hb2 := below_step (below_drew1 (Below.refl wc.heap.size wc)) hb; have HOM5 := Aside0.mk (HOM.out.step hb2); have K5 := And.intro (pw_cell_below hb2 q0) (And.intro (pw_cell_below hb2 q1) (And.intro (pw_cell_below hb2 q2) (And.intro (pw_cell_below hb2 r0) (And.intro (pw_cell_below hb2 r1) (pw_cell_below hb2 r2))))); clear hb hb2))
              clear i0 i1 i2 i3 i4
              all_goals
                have z0 := blk_cell HOM5.out.box 0
                have z1 := blk_cell HOM5.out.box 1
                have z2 := blk_cell HOM5.out.box 2
                simp only [List.getElem?_toArray, List.getElem?_cons_zero, List.getElem?_cons_succ] at z0 z1 z2
                clear K5
                go_wp2_with ((with_reducible refine gate_builtin (b := .append) (xs := #[.tmp 59, .tmp 61]) rfl ?_); at_builtin; refine Kd.R_append kVers (w0 := w) w.heap.size rfl (.tmp 59) (.tmp 61) 43 47 (.agg #[.int .u64 0, .bool false, .slice none 0 0]) 40 rfl Tryd.underlying43 info_vers rfl (by first | decide | exact Nat.succ_pos _) (by omega) _ out x [.int .u64 m, .bool x.there, .slice B3 x.data.length c3] (fun _ => True) (fun k => wr.heap.size ≤ k) rfl ?aX6 ?aP6 ?aK6 ?aF6 ?aO6 ?aB6 ?aS6 ?aL6 ?_; (case aX6 => first | rfl | (go_simp; done) | (simp [go_sem]; done)); (case aP6 => exact (HOM5.out.mk_ HXF.out)); (case aK6 => exact (fun k hk => HOM5.out.apart k hk)); (case aB6 => exact HOM5.out.below); (case aF6 => exact (fun _ _ => trivial)); (case aO6 => exact (Kd.R_mono HOM5.out.out (fun _ _ => trivial))); (case aS6 => exact (HOM5.out.below).size); (case aL6 => (omega)); intro v6 w6 ho6 hb6 hg6 hat6; have HO6 := Aside0.mk ho6; have HB6 := Aside0.mk hb6; clear ho6 hb6 hg6 hat6)
                go_roundw
                case rel => exact ⟨k + 1, by omega, by go_num, ⟨by rw [HST2.out]; exact HO6.out⟩, HB6⟩
                case measure => simp [intOf]; omega
            · have HST2 : Aside0 (ofSpec (tells l) nm (ms.take (k + 1)) = out) := ⟨by rw [HST.out, HGL.out]; simp only [alikeV, ha, if_true]⟩
              have HA := Aside0.mk ha
              clear ha
              go_wp2_with fail
              have i0 : IntKind.i64.wrap ((out.length : Int) - 1) = (out.length : Int) - 1 := IntWalk.i64_in _ (by omega)
              have i1 : (0 : Int) ≤ (out.length : Int) - 1 := by omega
              have i2 : (out.length : Int) - 1 < (out.length : Int) := by omega
              have i3 : ((out.length : Int) - 1).toNat = out.length - 1 := by omega
              have i4 : (1 : Int) ≤ (out.length : Int) := by omega
              go_region_held3 (fun W => W.cell? (ad2.add ((out.length - 1) * 3)) = some (.int .u64 u.from_) ∧ W.cell? ⟨(ad2.add ((out.length - 1) * 3)).block, (ad2.add ((out.length - 1) * 3)).off + 1, none⟩ = some (.bool u.there) ∧ W.cell? ⟨(ad2.add ((out.length - 1) * 3)).block, (ad2.add ((out.length - 1) * 3)).off + 2, none⟩ = some (.slice A4 u.data.length c4) ∧ W.cell? ⟨w1.heap.size, 0, none⟩ = some (.int .u64 m) ∧ W.cell? ⟨w1.heap.size, 1, none⟩ = some (.bool x.there) ∧ W.cell? ⟨w1.heap.size, 2, none⟩ = some (.slice B3 x.data.length c3)) (first | exact ⟨q0, q1, q2, r0, r1, r2⟩ | exact K5) (first | (go_at_call 30; refine (alike_any u.from_ m u.there x.there A4 B3 u.data x.data c4 c3 wc.drew (Kd.C_drew HD4.out) (Kd.C_drew HC3.out)).mono ?_; rw [HA.out]; rintro e w5 ⟨rfl, hb⟩; have hb2 := below_step (below_drew1 (Below.refl wc.heap.size wc)) hb; have HOM5 := Aside0.mk (HOM.out.step hb2); have K5 := And.intro (pw_cell_below hb2 q0) (And.intro (pw_cell_below hb2 q1) (And.intro (pw_cell_below hb2 q2) (And.intro (pw_cell_below hb2 r0) (And.intro (pw_cell_below hb2 r1) (pw_cell_below hb2 r2))))); clear hb hb2))
              clear i0 i1 i2 i3 i4
              all_goals
                clear K5
                go_wp2
                go_roundw
                case rel => exact ⟨k + 1, by omega, by go_num, ⟨by rw [HST2.out]; exact Kd.R_mono HOM5.out.out (fun _ _ => trivial)⟩, ⟨HOM5.out.below⟩⟩
                case measure => simp [intOf]; omega
    · go_wp2
      go_ret
      exact ⟨_, rfl, by have := HO.out; rwa [List.take_of_length_le (by omega)] at this, HB.out⟩

/-- The same, of the moments of what was seen, in the world behind 'at'. -/
theorem of_n (A : Option Addr) (n : Nat) (ms : List Int) (hn : n = ms.length) (c : Nat) (g : Nat) (A2 : Option Addr) (l : List Seen) (c2 : Nat) (nm : ByteArray) (vs : List Vers) (w : World) (hv : ofSpec (tells l) nm ms = vs)
    (hA : (Kd.int .u64).C w A ms.length ms) (hg : w.heap[g]? = some (.cells #[.slice A2 l.length c2] 22 (0, 0))) (hL : kSeen.C w A2 l.length l)
    (hd : ∀ k, k < l.length → (gt l k).data.length ≤ 140737488355328) (hms : ms.length ≤ 1000000000) :
    Calls Tryd.prog 12 #[.slice A n c, atFn g, .string nm] w fun e w' => ∃ B c', e = .returned (.slice B vs.length c') ∧ kVers.R 47 w' w.heap.size (fun _ => True) (.slice B vs.length c') vs ∧ Below w.heap.size w w' := by
  subst hn hv
  refine (of_any A ms c g A2 l c2 nm w hA hg hL hd hms).mono ?_
  rintro e w' ⟨v, rfl, ho, hb⟩
  obtain ⟨B, c', rfl⟩ := Kd.R_slice ho
  exact ⟨B, c', rfl, ho, hb⟩
end Go.Proofs.YtnpnpgihbgohgaaDoor
/-
  Chapter 50: the document's example, walked: it answers true.
-/
namespace Go.Proofs.YtnpnpgihbgohgaaDoor
open Go.RowKit Go.Proofs.YtnpnpgihbgohgaaDoorW.PrintWords Go.Proofs.YtnpnpgihbgohgaaDoorW.PrintLast Go.Proofs.YtnpnpgihbgohgaaDoorW.PrintMore
set_option linter.unusedVariables false
set_option linter.unusedSimpArgs false

theorem readsI {e : Nat} {k : IntKind} {w : World} {base n c : Nat} {ok : Nat → Prop} {A : Option Addr} {xs : List Int} (h : (Kd.int k).R e w base ok (.slice A n c) xs) : (Kd.int k).C w A xs.length xs := by
  obtain ⟨A', c', he, hl, hC⟩ := Kd.R_reads h
  cases he
  exact hC
theorem addr0 (a : Addr) : a.add 0 = a := by simp [Addr.add]
def exS : List Seen := [⟨1, true, false, []⟩, ⟨2, true, true, [120]⟩, ⟨3, true, true, [120]⟩, ⟨4, true, true, [121]⟩]
def exV : List Vers := [⟨1, false, []⟩, ⟨2, true, [120]⟩, ⟨4, true, [121]⟩]
theorem ex_of : ofSpec (tells exS) nmA (exS.map Seen.moment) = exV := by
  simp [ofSpec, exS, exV, ofStep, tells, look, look49, filesOf, toldOf, versOf, alikeV, nmA, nmB]
/-- The world of the example's literal. -/
def exW (w : World) : World := ((((w.alloc (.cells #[.int .u8 120] 5 (1, 2))).alloc (.cells #[.int .u8 120] 5 (1, 2))).alloc (.cells #[.int .u8 121] 5 (1, 2))).alloc (.cells #[.int .u64 1, .bool true, .bool false, .slice none 0 0, .int .u64 2, .bool true, .bool true, .slice (some ⟨w.heap.size, 0, none⟩) 1 1, .int .u64 3, .bool true, .bool true, .slice (some ⟨w.heap.size + 1, 0, none⟩) 1 1, .int .u64 4, .bool true, .bool true, .slice (some ⟨w.heap.size + 2, 0, none⟩) 1 1] 50))
theorem byte_one {w : World} {g : Nat} {x : UInt8} {t : TypeId} {fr : Nat × Nat} (h : w.heap[g]? = some (.cells #[.int .u8 (x.toNat : Int)] t fr)) : byte.C w (some ⟨g, 0, none⟩) [x].length [x] :=
  C_block h (reps_one (R := byte.K w) (x := x) (c := [.int .u8 (x.toNat : Int)]) rfl) (by simp)
theorem kSeen_mk (w : World) (x : Seen) {A : Option Addr} {c : Nat} (l : x.data.length ≤ c) (g : byte.C w A x.data.length x.data) : kSeen.K w x [.int .u64 x.moment, .bool x.told, .bool x.there, .slice A x.data.length c] :=
  ⟨[.int .u64 x.moment], [.bool x.told, .bool x.there, .slice A x.data.length c], rfl, rfl, ⟨[.bool x.told], [.bool x.there, .slice A x.data.length c], rfl, rfl, ⟨[.bool x.there], [.slice A x.data.length c], rfl, rfl, ⟨A, c, rfl, l, g⟩⟩⟩⟩
theorem ex_reads (w : World) : kSeen.C (exW w) (some ⟨w.heap.size + 1 + 1 + 1, 0, none⟩) 4 exS := by
  have b0 : (exW w).heap[w.heap.size]? = some (.cells #[.int .u8 120] 5 (1, 2)) := blk_alloc (blk_alloc (blk_alloc (blk_new w _) _) _) _
  have b1 : (exW w).heap[w.heap.size + 1]? = some (.cells #[.int .u8 120] 5 (1, 2)) := blk_alloc (blk_alloc (blk_new2 w _ _) _) _
  have b2 : (exW w).heap[w.heap.size + 1 + 1]? = some (.cells #[.int .u8 121] 5 (1, 2)) := by
    have := blk_alloc (blk_new2 (w.alloc (.cells #[.int .u8 120] 5 (1, 2))) (.cells #[.int .u8 120] 5 (1, 2)) (.cells #[.int .u8 121] 5 (1, 2)))
    simp only [World.size_alloc] at this
    exact this _
  have b3 : (exW w).heap[w.heap.size + 1 + 1 + 1]? = some (.cells #[.int .u64 1, .bool true, .bool false, .slice none 0 0, .int .u64 2, .bool true, .bool true, .slice (some ⟨w.heap.size, 0, none⟩) 1 1, .int .u64 3, .bool true, .bool true, .slice (some ⟨w.heap.size + 1, 0, none⟩) 1 1, .int .u64 4, .bool true, .bool true, .slice (some ⟨w.heap.size + 2, 0, none⟩) 1 1] 50) := by
    have := blk_new2 ((w.alloc (.cells #[.int .u8 120] 5 (1, 2))).alloc (.cells #[.int .u8 120] 5 (1, 2))) (.cells #[.int .u8 121] 5 (1, 2)) (.cells #[.int .u64 1, .bool true, .bool false, .slice none 0 0, .int .u64 2, .bool true, .bool true, .slice (some ⟨w.heap.size, 0, none⟩) 1 1, .int .u64 3, .bool true, .bool true, .slice (some ⟨w.heap.size + 1, 0, none⟩) 1 1, .int .u64 4, .bool true, .bool true, .slice (some ⟨w.heap.size + 2, 0, none⟩) 1 1] 50)
    simp only [World.size_alloc] at this
    exact this
  refine C_block (d := kSeen) b3 ⟨rfl, fun j p hj => ?_⟩ (by decide)
  rcases j with _ | _ | _ | _ | j
  · obtain rfl : (⟨1, true, false, []⟩ : Seen) = p := by simpa [exS] using hj
    exact kSeen_mk _ ⟨1, true, false, []⟩ (Nat.le_refl _) (Kd.C_nil _ _)
  · obtain rfl : (⟨2, true, true, [120]⟩ : Seen) = p := by simpa [exS] using hj
    exact kSeen_mk _ ⟨2, true, true, [120]⟩ (Nat.le_refl _) (byte_one (x := 120) b0)
  · obtain rfl : (⟨3, true, true, [120]⟩ : Seen) = p := by simpa [exS] using hj
    exact kSeen_mk _ ⟨3, true, true, [120]⟩ (Nat.le_refl _) (byte_one (x := 120) b1)
  · obtain rfl : (⟨4, true, true, [121]⟩ : Seen) = p := by simpa [exS] using hj
    exact kSeen_mk _ ⟨4, true, true, [121]⟩ (Nat.le_refl _) (byte_one (x := 121) b2)
  · simp [exS] at hj
theorem ex_below (w : World) : Below w.heap.size w (exW w) := below_alloc (below_alloc (below_alloc (below_alloc (Below.refl _ _) _) _) _) _
set_option maxHeartbeats 1600000 in
theorem awake_any (w : World) : Calls Tryd.prog 4 #[] w fun e w' => e = .returned (.bool true) ∧ Below w.heap.size w w' := by
  have hel : exV.length = 3 := rfl
  have kc := fun (w : World) (C : Array Value) (n c : Nat) => Lib.run_convert_bytes_const (P := Tryd.prog) w 45 5 C n c Tryd.underlying45 Tryd.underlying5
  have kc1 := fun (o1 : Obj) (C : Array Value) (n c : Nat) => by have := kc (w.alloc o1) C n c; simp only [World.size_alloc] at this; exact this
  have kc2 := fun (o1 o2 : Obj) (C : Array Value) (n c : Nat) => by have := kc ((w.alloc o1).alloc o2) C n c; simp only [World.size_alloc, Nat.add_assoc, Nat.reduceAdd] at this; exact this
  go_enter Tryd.func4, Tryd.ntmps4
  go_wp2_with (first | (go_at_call 6; refine (moments_any (some ⟨w.heap.size + 1 + 1 + 1, 0, none⟩) exS 4 _ rfl (exW w) (ex_reads w) (by decide)).mono ?_; rintro e w1 ⟨v, rfl, ho, hb⟩; obtain ⟨Am, cm, rfl⟩ := Kd.R_slice ho; have HM := Aside0.mk ho; have HB1 := Aside0.mk (below_step (ex_below w) hb); have HE1 := Aside0.mk (Kd.C_below (ex_reads w) hb); clear ho hb) | (go_at_call 7; refine (at_any _ _ rfl).mono ?_; rintro e w2 ⟨rfl, rfl⟩) | (go_at_call 12; refine (of_n Am exS.length (exS.map Seen.moment) rfl cm w1.heap.size _ exS 4 nmA exV _ ex_of (Kd.C_alloc (readsI HM.out) _) (blk_new w1 _) (Kd.C_alloc HE1.out _) (by decide) (by decide)).mono ?_; rintro e w3 ⟨B, c', rfl, ho, hb⟩; have HV := Aside0.mk ho; have HB3 := Aside0.mk (below_step (below_alloc HB1.out _) hb); clear ho hb; have HC := Aside0.mk (readsV HV.out); obtain ⟨ad, D0, d0, rfl, p0, p1, p2, hd0, HD0⟩ := vers_at HC.out (k := 0) (by decide); obtain ⟨_, D1, d1, he1, q0, q1, q2, hd1, HD1⟩ := vers_at HC.out (k := 1) (by decide); cases he1; obtain ⟨_, D2, d2, he2, r0, r1, r2, hd2, HD2⟩ := vers_at HC.out (k := 2) (by decide); cases he2; have HD2' := Aside0.mk HD2; clear hd0 HD0 hd1 HD1 HD2; simp [exV, gt, Addr.add] at p0 p1 p2 q0 q1 q2 r0 r1 r2) | (go_at_call 13; refine (same50 D2 (some ⟨w3.heap.size, 0, none⟩) [121] [121] d2 1 _ (Kd.C_alloc HD2'.out _) (byte_one (x := 121) (blk_new w3 _))).mono ?_; rintro e w4 ⟨rfl, n4, hw4⟩; have HB4 : Aside0 (Below w3.heap.size w3 w4) := ⟨by rw [hw4]; exact pw_below_drewN (below_alloc (Below.refl _ _) _) _⟩; clear hw4) | (go_at_call 15; refine (changed_any (some ad) exV c' [2, 4] rfl w4 (Kd.C_below HC.out HB4.out) (by decide)).mono ?_; rintro e w5 ⟨v5, rfl, ho, hb⟩; obtain ⟨A5, c5, rfl⟩ := Kd.R_slice ho; have H5 := Aside0.mk (readsI ho); have HB5 := Aside0.mk (below_step HB4.out hb); clear ho hb) | (go_at_call 14; refine (same18 A5 (some ⟨w5.heap.size, 0, none⟩) [2, 4] [2, 4] c5 2 _ (Kd.C_alloc H5.out _) (C_block (blk_new w5 _) (reps_two (R := (Kd.int .u64).K _) (x := 2) (y := 4) (c := [.int .u64 2]) (d := [.int .u64 4]) rfl rfl) (by decide))).mono ?_; rintro e w6 ⟨rfl, n6, hw6⟩; have HB6 : Aside0 (Below w5.heap.size w5 w6) := ⟨by rw [hw6]; exact pw_below_drewN (below_alloc (Below.refl _ _) _) _⟩; clear hw6))
  go_ret
  exact ⟨rfl, below_step HB3.out (below_step HB5.out HB6.out)⟩
end Go.Proofs.YtnpnpgihbgohgaaDoor
/-
  Chapter 50, plain laws of the history: no program in sight but the specifications of the walks.
-/
namespace Go.Proofs.YtnpnpgihbgohgaaDoor
open Go.RowKit Go.Proofs.YtnpnpgihbgohgaaDoorW.PrintWords Go.Proofs.YtnpnpgihbgohgaaDoorW.PrintLast Go.Proofs.YtnpnpgihbgohgaaDoorW.PrintMore
set_option linter.unusedVariables false
set_option linter.unusedSimpArgs false

theorem look_at {l : List Seen} (hS : Small l) {k : Nat} (hk : k < l.length) : look l (gt l k).moment = some (gt l k) :=
  find_first _ l k hk (by simp) (fun j hj => by simpa using hS.apart k hk j hj)
theorem gt_map {α β : Type} [Inhabited α] [Inhabited β] (f : α → β) (l : List α) (k : Nat) (hk : k < l.length) : gt (l.map f) k = f (gt l k) := by
  rw [gt_eq _ _ (by simpa using hk), gt_eq _ _ hk]; simp
theorem ofSpec_at {l : List Seen} (hS : Small l) (nm : ByteArray) {k : Nat} (hk : k < l.length) : ofSpec (tells l) nm ((l.map Seen.moment).take (k + 1)) =
    ofStep (fun _ => (filesOf (some (gt l k)), (gt l k).told)) nm (ofSpec (tells l) nm ((l.map Seen.moment).take k)) (gt l k).moment := by
  rw [ofSpec_succ _ _ _ _ (by simpa using hk), gt_map _ _ _ hk]
  unfold ofStep tells
  rw [look_at hS hk]
  rfl
/-- A name that no file bears. -/
theorem look49_none (o : Option Seen) (nm : ByteArray) (h1 : (nm.toList == [97]) = false) (h2 : (nm.toList == [98]) = false) : look49 (filesOf o) nm = none := by
  have e1 : nmA.toList = [97] := by simp [nmA]
  have e2 : nmB.toList = [98] := by simp [nmB]
  have h1' : ¬ nm.toList = [97] := by simpa using h1
  have h2' : ¬ nm.toList = [98] := by simpa using h2
  unfold look49
  rw [List.find?_eq_none]
  intro x hx
  have hx' : x.name = nmA ∨ x.name = nmB := by
    cases o with
    | none => simp [filesOf] at hx
    | some s =>
      unfold filesOf at hx
      simp only at hx
      split at hx
      · simp only [List.mem_cons, List.not_mem_nil, or_false] at hx
        rcases hx with rfl | rfl
        · exact .inr rfl
        · exact .inl rfl
      · simp only [List.mem_cons, List.not_mem_nil, or_false] at hx
        subst hx
        exact .inr rfl
  rcases hx' with e | e
  · rw [e, e1]; simp only [beq_iff_eq]; exact fun h => h1' h.symm
  · rw [e, e2]; simp only [beq_iff_eq]; exact fun h => h2' h.symm
theorem any_take_succ (l : List Seen) (k : Nat) (hk : k < l.length) : (l.take (k + 1)).any Seen.told = ((l.take k).any Seen.told || (gt l k).told) := by
  rw [List.take_add_one, gt_some l k hk]
  simp
theorem none_to {l : List Seen} (hS : Small l) (nm : ByteArray) (h1 : (nm.toList == [97]) = false) (h2 : (nm.toList == [98]) = false) (k : Nat) (hk : k ≤ l.length) :
    ((l.take k).any Seen.told = false ∧ ofSpec (tells l) nm ((l.map Seen.moment).take k) = []) ∨ ((l.take k).any Seen.told = true ∧ ∃ m, ofSpec (tells l) nm ((l.map Seen.moment).take k) = [⟨m, false, []⟩]) := by
  induction k with
  | zero => left; simp [ofSpec]
  | succ k ih =>
    have hv : versOf (filesOf (some (gt l k))) nm (gt l k).moment = ⟨(gt l k).moment, false, []⟩ := by simp [versOf, look49_none _ nm h1 h2]
    rw [any_take_succ l k (by omega), ofSpec_at hS nm (by omega)]
    rcases ih (by omega) with ⟨e1, e2⟩ | ⟨e1, m, e2⟩
    · rw [e1, e2]
      cases ht : (gt l k).told
      · left; simp [ofStep, ht]
      · right
        refine ⟨rfl, (gt l k).moment, ?_⟩
        simp [ofStep, ht, hv]
    · right
      rw [e1, e2]
      refine ⟨rfl, m, ?_⟩
      cases ht : (gt l k).told <;> simp [ofStep, ht, hv, alikeV]
theorem none_all {l : List Seen} (hS : Small l) (nm : ByteArray) (h1 : (nm.toList == [97]) = false) (h2 : (nm.toList == [98]) = false) :
    (l.any Seen.told = false ∧ ofSpec (tells l) nm (l.map Seen.moment) = []) ∨ (l.any Seen.told = true ∧ ∃ m, ofSpec (tells l) nm (l.map Seen.moment) = [⟨m, false, []⟩]) := by
  have := none_to hS nm h1 h2 l.length (Nat.le_refl _)
  rwa [List.take_length, List.take_of_length_le (by simp)] at this
theorem changed_n (A : Option Addr) (n : Nat) (l : List Vers) (hn : l.length = n) (c : Nat) (L : List Int) (hL : (l.drop 1).map Vers.from_ = L) (w : World) (h : kVers.C w A l.length l) (hl : l.length ≤ 1000000000) :
    Calls Tryd.prog 15 #[.slice A n c] w fun e w' => ∃ B c', e = .returned (.slice B L.length c') ∧ (Kd.int .u64).C w' B L.length L ∧ Below w.heap.size w w' := by
  subst hn
  refine (changed_any A l c L hL w h hl).mono ?_
  rintro e w' ⟨v, rfl, ho, hb⟩
  obtain ⟨B, c', rfl⟩ := Kd.R_slice ho
  exact ⟨B, c', rfl, readsI ho, hb⟩
end Go.Proofs.YtnpnpgihbgohgaaDoor
namespace Go.Proofs.YtnpnpgihbgohgaaDoor
open Go.RowKit Go.Proofs.YtnpnpgihbgohgaaDoorW.PrintWords Go.Proofs.YtnpnpgihbgohgaaDoorW.PrintLast Go.Proofs.YtnpnpgihbgohgaaDoorW.PrintMore
set_option linter.unusedVariables false
set_option linter.unusedSimpArgs false

/-- What a closure tells of a moment, in whatever world behind w. -/
def TellsAt (w : World) (cl : FuncId) (bnd : Array Value) (f : Int → List File × Bool) (m : Int) : Prop := ∀ W, Below w.heap.size w W → Calls Tryd.prog cl (#[.int .u64 m] ++ bnd) W fun e W' => ∃ B c', e = .returned (.tuple #[.slice B (f m).1.length c', .bool (f m).2]) ∧ kFile.C W' B (f m).1.length (f m).1 ∧ Below W.heap.size W W'
set_option maxHeartbeats 4000000 in
theorem ofg_any (cl : FuncId) (bnd : Array Value) (hen : ∀ args w, (callFunc cl args).run Tryd.prog w = .ok (.enter cl args) w) (f : Int → List File × Bool) (A : Option Addr) (ms : List Int) (c : Nat) (nm : ByteArray) (w : World)
    (hA : (Kd.int .u64).C w A ms.length ms) (hT : ∀ k, k < ms.length → TellsAt w cl bnd f (gt ms k)) (hd : ∀ k, k < ms.length → ∀ j, j < (f (gt ms k)).1.length → (gt (f (gt ms k)).1 j).data.length ≤ 140737488355328) (hms : ms.length ≤ 1000000000) :
    Calls Tryd.prog 12 #[.slice A ms.length c, .func (.func cl) #[] bnd, .string nm] w fun e w' => ∃ v, e = .returned v ∧ kVers.R 47 w' w.heap.size (fun _ => True) v (ofSpec f nm ms) ∧ Below w.heap.size w w' := by
  have HT := Aside0.mk hT
  have HD := Aside0.mk hd
  clear hT hd
  have qn := eql_fn (.func cl) #[] bnd
  go_enter Tryd.func12, Tryd.ntmps12
  go_wp2
  go_loopw [7, 19] (fun v i wr => ∃ k : Nat, k ≤ ms.length ∧ i = .int .i64 k ∧ Aside0 (kVers.R 47 wr w.heap.size (fun _ => True) v (ofSpec f nm (ms.take k))) ∧ Aside0 (Below w.heap.size w wr)) (fun _ i _ => ms.length - (intOf i).toNat)
  case atStart => exact ⟨0, Nat.zero_le _, rfl, ⟨Kd.R_nil _ _ _ _ _⟩, ⟨Below.refl _ _⟩⟩
  case round =>
    obtain ⟨k, hk, rfl, HO, HB⟩ := hrel
    by_cases hlt : k < ms.length
    · obtain ⟨ad, rfl, g0⟩ := int_at hA hlt
      replace g0 := cell_old HB.out g0
      obtain ⟨out, hout⟩ : ∃ o, o = ofSpec f nm (ms.take k) := ⟨_, rfl⟩
      have hol : out.length ≤ k := by rw [hout]; exact ofSpec_le _ _ _ _ hk
      rw [← hout] at HO
      have HOUT := Aside0.mk hout
      clear hout
      obtain ⟨Av, cv, rfl⟩ := Kd.R_slice HO.out
      have hTk := HT.out k hlt
      unfold TellsAt at hTk
      have HTk := Aside0.mk hTk
      clear hTk
      cases ht : (f (gt ms k)).2
      · go_wp2_with (with_reducible refine (HTk.out wr HB.out).mono ?_; rintro e w1 ⟨B, c', rfl, hC, hb⟩; rw [ht]; have HB1 := Aside0.mk (below_step HB.out hb); have HO1 := Aside0.mk (Kd.R_below HO.out hb); clear hb hC)
        go_roundw
        case rel => exact ⟨k + 1, by omega, by go_num, ⟨by rw [ofSpec_succ _ _ _ _ hlt, ← HOUT.out]; simpa [ofStep, ht] using HO1.out⟩, HB1⟩
        case measure => simp [intOf]; omega
      · have hTm := HTk.out
        have hDm := HD.out k hlt
        obtain ⟨m, hm⟩ : ∃ m, m = gt ms k := ⟨_, rfl⟩
        rw [← hm] at g0 ht hTm hDm
        have HTm := Aside0.mk hTm
        have HDm := Aside0.mk hDm
        clear hTm hDm HTk
        have HM := Aside0.mk hm
        clear hm
        go_upto_if 39 with (first | (with_reducible refine (HTm.out wr HB.out).mono ?_; rintro e w1 ⟨B, c', rfl, hC, hb⟩; rw [ht]; have HB1 := Aside0.mk (below_step HB.out hb); have HO1 := Aside0.mk (Kd.R_below (ofBound HO.out) hb); have hsz := hb.size; have HC1 := Aside0.mk hC; clear hb hC) | (go_at_call 28; refine (find_uni B _ c' nm m _ (Kd.C_alloc HC1.out _) HDm.out).mono ?_; rintro e w2 ⟨s, B2, c2', rfl, ho2, hb2⟩; have BV2 := Aside0.mk (blk_below (blk_new w1 (.cells #[.int .u64 m, .bool false, .slice none 0 0] 47)) hb2); have HO2 := Aside0.mk (Kd.R_below (Kd.R_alloc HO1.out _) hb2); have HB2 := Aside0.mk (below_step (below_alloc HB1.out _) hb2); have HDt := Aside0.mk ho2; clear ho2 hb2))
        obtain ⟨x, hx⟩ : ∃ x, x = versOf (f m).1 nm m := ⟨_, rfl⟩
        have hxs : x.data.length ≤ 140737488355328 := by rw [hx]; exact versOf_short _ _ _ _ HDm.out
        have hxn : x.there = false → x.data = [] := by rw [hx]; exact versOf_nil _ _ _
        rw [← hx] at HDt ⊢
        have HX := Aside0.mk hx
        have HXN := Aside0.mk hxn
        clear hx hxn
        go_cut [14] (fun _ wx => ∃ B3 c3, OfMade w wr w1 m (.slice Av out.length cv) out x B3 c3 wx)
        case first =>
          obtain ⟨hn2, hl2, hC2⟩ := readsS HDt.out
          have HC2 := Aside0.mk hC2
          clear hC2 hn2
          cases hv : x.there
          · have hd0 := HXN.out hv
            rw [hd0] at HDt ⊢
            go_wp2
            go_meet
            refine ⟨none, 0, ⟨?_, ?_, ?_, below_alloc HB2.out _, hsz⟩⟩
            · rw [hv, hd0]; exact blk_alloc BV2.out _
            · rw [hd0]; exact Kd.R_nil _ _ _ _ _
            · exact Kd.R_alloc HO2.out _
          · go_wp2_with (go_at_call 29; refine (bclone B2 x.data c2' _ (Kd.C_alloc HC2.out _) hl2 hxs).mono ?_; rintro e w3 ⟨v3, rfl, ho3, hb3⟩; obtain ⟨B3, c3, rfl⟩ := Kd.R_slice ho3; have HD3 := Aside0.mk ho3; have BV3 := Aside0.mk (blk_below (blk_alloc BV2.out _) hb3); have HO3 := Aside0.mk (Kd.R_below (Kd.R_alloc HO2.out _) hb3); have HB3 := Aside0.mk (below_step (below_alloc HB2.out _) hb3); have hs3 := HB2.out.size; have r1 := blk_cell BV3.out 1; have r2 := blk_cell BV3.out 2; have f1 := blk_frozen BV3.out 1; have f2 := blk_frozen BV3.out 2; simp only [List.getElem?_toArray, List.getElem?_cons_zero, List.getElem?_cons_succ] at r1 r2; clear ho3 hb3)
            go_meet
            refine ⟨B3, c3, ⟨?_, ?_, ?_, ?_, hsz⟩⟩
            · rw [hv]; exact blk_set (blk_set BV3.out 1 (.bool true)) 2 (.slice B3 x.data.length c3)
            · refine Kd.R_set (Kd.R_set (Kd.R_lower (Kd.R_mono (Kd.R_bound HD3.out) (fun k hk => ?_)) ?_) BV3.out (byteE _ (by decide)) 1 _) (blk_set BV3.out 1 _) (byteE _ (by decide)) 2 _
              · have := hk.2.1; simp at this; have := HB.out.size; have := below_size HB1.out; have := blk_lt BV2.out; omega
              · simp; have := HB2.out.size; omega
            · exact Kd.R_far (p := ⟨w1.heap.size, 2, none⟩) (Kd.R_far (p := ⟨w1.heap.size, 1, none⟩) HO3.out (fun k hk => by simp only; omega) _) (fun k hk => by simp only; omega) _
            · exact (HB3.out.setCell (p := ⟨w1.heap.size, 1, none⟩) HB1.out.size _).setCell (p := ⟨w1.heap.size, 2, none⟩) HB1.out.size _
        case rest =>
          obtain ⟨B3, c3, hO⟩ := hcut
          have HOM := Aside0.mk hO
          clear hO
          have hxf : x.from_ = m := by rw [HX.out]; exact versOf_from _ _ _
          have hstep : ofSpec f nm (ms.take (k + 1)) = ofStep f nm out m := by rw [ofSpec_succ _ _ _ _ hlt, ← HOUT.out, HM.out]
          have hstep2 : ofStep f nm out m = match out.getLast? with
              | none => out ++ [x]
              | some u => if alikeV u x = true then out else out ++ [x] := by
            rw [HX.out]; unfold ofStep; rw [if_pos (show (f m).2 = true from ht)]; first | done | rfl
          have HST := Aside0.mk (hstep.trans hstep2)
          have HXF := Aside0.mk hxf
          clear hstep hstep2 hxf
          rcases Nat.eq_zero_or_pos out.length with h0 | h0
          · have he : out = [] := List.eq_nil_of_length_eq_zero h0
            have HST2 : Aside0 (ofSpec f nm (ms.take (k + 1)) = out ++ [x]) := ⟨by rw [HST.out, he]; rfl⟩
            have HZ : ((out.length : Int) == 0) = true := by simp [he]
            clear h0 he
            go_wp2
            go_quiet (fail)
            obtain ⟨W5, hW5⟩ : ∃ W, W = wc.drewN nq := ⟨_, rfl⟩
            rw [← hW5]
            have HOM5 : Aside0 (OfMade w wr w1 m (.slice Av out.length cv) out x B3 c3 W5) := ⟨by rw [hW5]; exact HOM.out.step (pw_below_drewN (Below.refl _ _) _)⟩
            clear hW5
            have r0 := blk_cell HOM5.out.box 0
            have r1 := blk_cell HOM5.out.box 1
            have r2 := blk_cell HOM5.out.box 2
            simp only [List.getElem?_toArray, List.getElem?_cons_zero, List.getElem?_cons_succ] at r0 r1 r2
            go_wp2_with ((with_reducible refine gate_builtin (b := .append) (xs := #[.tmp 59, .tmp 61]) rfl ?_); at_builtin; refine Kd.R_append kVers (w0 := w) w.heap.size rfl (.tmp 59) (.tmp 61) 43 47 (.agg #[.int .u64 0, .bool false, .slice none 0 0]) 40 rfl Tryd.underlying43 info_vers rfl (by first | decide | exact Nat.succ_pos _) (by omega) _ out x [.int .u64 m, .bool x.there, .slice B3 x.data.length c3] (fun _ => True) (fun k => wr.heap.size ≤ k) rfl ?aX6 ?aP6 ?aK6 ?aF6 ?aO6 ?aB6 ?aS6 ?aL6 ?_; (case aX6 => first | rfl | (go_simp; done) | (simp [go_sem]; done)); (case aP6 => exact (HOM5.out.mk_ HXF.out)); (case aK6 => exact (fun k hk => HOM5.out.apart k hk)); (case aB6 => exact HOM5.out.below); (case aF6 => exact (fun _ _ => trivial)); (case aO6 => exact (Kd.R_mono HOM5.out.out (fun _ _ => trivial))); (case aS6 => exact (HOM5.out.below).size); (case aL6 => (omega)); intro v6 w6 ho6 hb6 hg6 hat6; have HO6 := Aside0.mk ho6; have HB6 := Aside0.mk hb6; clear ho6 hb6 hg6 hat6)
            go_roundw
            case rel => exact ⟨k + 1, by omega, by go_num, ⟨by rw [HST2.out]; exact HO6.out⟩, HB6⟩
            case measure => simp [intOf]; omega
          · have hne : out ≠ [] := fun e => by rw [e] at h0; simp at h0
            have hgl := getLast_gt out hne
            have HZ : ((out.length : Int) == 0) = false := by simp; omega
            have HZ2 : decide ((out.length : Int) = 0) = false := by simp; omega
            obtain ⟨u, hu⟩ : ∃ u, u = gt out (out.length - 1) := ⟨_, rfl⟩
            obtain ⟨ad2, A4, c4, e4, q0, q1, q2, hc4, hd4⟩ := vers_at (readsV HOM.out.out) (show out.length - 1 < out.length by omega)
            cases e4
            rw [← hu] at q0 q1 q2 hc4 hd4 hgl
            have HD4 := Aside0.mk hd4
            obtain ⟨_, hl3, hC3⟩ := readsS HOM.out.dat
            have HC3 := Aside0.mk hC3
            have HGL := Aside0.mk hgl
            have r0 := blk_cell HOM.out.box 0
            have r1 := blk_cell HOM.out.box 1
            have r2 := blk_cell HOM.out.box 2
            simp only [List.getElem?_toArray, List.getElem?_cons_zero, List.getElem?_cons_succ] at r0 r1 r2
            clear hne hu hd4 hC3 hgl
            cases ha : (u.there == x.there && decide (u.data = x.data))
            · have HST2 : Aside0 (ofSpec f nm (ms.take (k + 1)) = out ++ [x]) := ⟨by rw [HST.out, HGL.out]; simp only [alikeV, ha]; rfl⟩
              have HA := Aside0.mk ha
              clear ha
              go_wp2_with fail
              have i0 : IntKind.i64.wrap ((out.length : Int) - 1) = (out.length : Int) - 1 := IntWalk.i64_in _ (by omega)
              have i1 : (0 : Int) ≤ (out.length : Int) - 1 := by omega
              have i2 : (out.length : Int) - 1 < (out.length : Int) := by omega
              have i3 : ((out.length : Int) - 1).toNat = out.length - 1 := by omega
              have i4 : (1 : Int) ≤ (out.length : Int) := by omega
              go_region_held3 (fun W => W.cell? (ad2.add ((out.length - 1) * 3)) = some (.int .u64 u.from_) ∧ W.cell? ⟨(ad2.add ((out.length - 1) * 3)).block, (ad2.add ((out.length - 1) * 3)).off + 1, none⟩ = some (.bool u.there) ∧ W.cell? ⟨(ad2.add ((out.length - 1) * 3)).block, (ad2.add ((out.length - 1) * 3)).off + 2, none⟩ = some (.slice A4 u.data.length c4) ∧ W.cell? ⟨w1.heap.size, 0, none⟩ = some (.int .u64 m) ∧ W.cell? ⟨w1.heap.size, 1, none⟩ = some (.bool x.there) ∧ W.cell? ⟨w1.heap.size, 2, none⟩ = some (.slice B3 x.data.length c3)) (first | exact ⟨q0, q1, q2, r0, r1, r2⟩ | exact K5) (first | (go_at_call 30; refine (alike_any u.from_ m u.there x.there A4 B3 u.data x.data c4 c3 wc.drew (Kd.C_drew HD4.out) (Kd.C_drew HC3.out)).mono ?_; rw [HA.out]; rintro e w5 ⟨rfl, hb⟩; have hb2 := below_step (below_drew1 (Below.refl wc.heap.size wc)) hb; have HOM5 := Aside0.mk (HOM.out.step hb2); have K5 := And.intro (pw_cell_below hb2 q0) (And.intro (pw_cell_below hb2 q1) (And.intro (pw_cell_below hb2 q2) (And.intro (pw_cell_below hb2 r0) (And.intro (pw_cell_below hb2 r1) (pw_cell_below hb2 r2))))); clear hb hb2))
              clear i0 i1 i2 i3 i4
              all_goals
                have z0 := blk_cell HOM5.out.box 0
                have z1 := blk_cell HOM5.out.box 1
                have z2 := blk_cell HOM5.out.box 2
                simp only [List.getElem?_toArray, List.getElem?_cons_zero, List.getElem?_cons_succ] at z0 z1 z2
                clear K5
                go_wp2_with ((with_reducible refine gate_builtin (b := .append) (xs := #[.tmp 59, .tmp 61]) rfl ?_); at_builtin; refine Kd.R_append kVers (w0 := w) w.heap.size rfl (.tmp 59) (.tmp 61) 43 47 (.agg #[.int .u64 0, .bool false, .slice none 0 0]) 40 rfl Tryd.underlying43 info_vers rfl (by first | decide | exact Nat.succ_pos _) (by omega) _ out x [.int .u64 m, .bool x.there, .slice B3 x.data.length c3] (fun _ => True) (fun k => wr.heap.size ≤ k) rfl ?aX6 ?aP6 ?aK6 ?aF6 ?aO6 ?aB6 ?aS6 ?aL6 ?_; (case aX6 => first | rfl | (go_simp; done) | (simp [go_sem]; done)); (case aP6 => exact (HOM5.out.mk_ HXF.out)); (case aK6 => exact (fun k hk => HOM5.out.apart k hk)); (case aB6 => exact HOM5.out.below); (case aF6 => exact (fun _ _ => trivial)); (case aO6 => exact (Kd.R_mono HOM5.out.out (fun _ _ => trivial))); (case aS6 => exact (HOM5.out.below).size); (case aL6 => (omega)); intro v6 w6 ho6 hb6 hg6 hat6; have HO6 := Aside0.mk ho6; have HB6 := Aside0.mk hb6; clear ho6 hb6 hg6 hat6)
                go_roundw
                case rel => exact ⟨k + 1, by omega, by go_num, ⟨by rw [HST2.out]; exact HO6.out⟩, HB6⟩
                case measure => simp [intOf]; omega
            · have HST2 : Aside0 (ofSpec f nm (ms.take (k + 1)) = out) := ⟨by rw [HST.out, HGL.out]; simp only [alikeV, ha, if_true]⟩
              have HA := Aside0.mk ha
              clear ha
              go_wp2_with fail
              have i0 : IntKind.i64.wrap ((out.length : Int) - 1) = (out.length : Int) - 1 := IntWalk.i64_in _ (by omega)
              have i1 : (0 : Int) ≤ (out.length : Int) - 1 := by omega
              have i2 : (out.length : Int) - 1 < (out.length : Int) := by omega
              have i3 : ((out.length : Int) - 1).toNat = out.length - 1 := by omega
              have i4 : (1 : Int) ≤ (out.length : Int) := by omega
              go_region_held3 (fun W => W.cell? (ad2.add ((out.length - 1) * 3)) = some (.int .u64 u.from_) ∧ W.cell? ⟨(ad2.add ((out.length - 1) * 3)).block, (ad2.add ((out.length - 1) * 3)).off + 1, none⟩ = some (.bool u.there) ∧ W.cell? ⟨(ad2.add ((out.length - 1) * 3)).block, (ad2.add ((out.length - 1) * 3)).off + 2, none⟩ = some (.slice A4 u.data.length c4) ∧ W.cell? ⟨w1.heap.size, 0, none⟩ = some (.int .u64 m) ∧ W.cell? ⟨w1.heap.size, 1, none⟩ = some (.bool x.there) ∧ W.cell? ⟨w1.heap.size, 2, none⟩ = some (.slice B3 x.data.length c3)) (first | exact ⟨q0, q1, q2, r0, r1, r2⟩ | exact K5) (first | (go_at_call 30; refine (alike_any u.from_ m u.there x.there A4 B3 u.data x.data c4 c3 wc.drew (Kd.C_drew HD4.out) (Kd.C_drew HC3.out)).mono ?_; rw [HA.out]; rintro e w5 ⟨rfl, hb⟩; have hb2 := below_step (below_drew1 (Below.refl wc.heap.size wc)) hb; have HOM5 := Aside0.mk (HOM.out.step hb2); have K5 := And.intro (pw_cell_below hb2 q0) (And.intro (pw_cell_below hb2 q1) (And.intro (pw_cell_below hb2 q2) (And.intro (pw_cell_below hb2 r0) (And.intro (pw_cell_below hb2 r1) (pw_cell_below hb2 r2))))); clear hb hb2))
              clear i0 i1 i2 i3 i4
              all_goals
                clear K5
                go_wp2
                go_roundw
                case rel => exact ⟨k + 1, by omega, by go_num, ⟨by rw [HST2.out]; exact Kd.R_mono HOM5.out.out (fun _ _ => trivial)⟩, ⟨HOM5.out.below⟩⟩
                case measure => simp [intOf]; omega
    · go_wp2
      go_ret
      exact ⟨_, rfl, by have := HO.out; rwa [List.take_of_length_le (by omega)] at this, HB.out⟩
end Go.Proofs.YtnpnpgihbgohgaaDoor
