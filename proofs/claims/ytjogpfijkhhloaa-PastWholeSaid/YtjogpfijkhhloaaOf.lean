/-
  Chapter 50: past.Of, the history of a name, over the closure that tells the files of a moment.
-/
import Derived.Test.YtjogpfijkhhloaaPastB
import Derived.Test.YtjogpfijkhhloaaFind
namespace Go.Proofs.Ytjogpfijkhhloaa
open Go.RowKit Go.Proofs.YtjogpfijkhhloaaW.PrintWords Go.Proofs.YtjogpfijkhhloaaW.PrintLast Go.Proofs.YtjogpfijkhhloaaW.PrintMore
set_option linter.unusedVariables false

set_option maxHeartbeats 800000 in
theorem alike_any (m1 m2 : Int) (t1 t2 : Bool) (A B : Option Addr) (xs ys : List UInt8) (c1 c2 : Nat) (w : World) (h1 : byte.C w A xs.length xs) (h2 : byte.C w B ys.length ys) :
    Calls Try.prog 26 #[.agg #[.int .u64 m1, .bool t1, .slice A xs.length c1], .agg #[.int .u64 m2, .bool t2, .slice B ys.length c2]] w fun e w' => e = .returned (.bool (t1 == t2 && decide (xs = ys))) ∧ Below w.heap.size w w' := by
  have H1 := Aside0.mk h1
  have H2 := Aside0.mk h2
  clear h1 h2
  cases ht : (t1 == t2)
  · go_enter Try.func26, Try.ntmps26
    go_wp2
    go_ret
    exact ⟨rfl, below_alloc (below_alloc (Below.refl _ _) _) _⟩
  · go_enter Try.func26, Try.ntmps26
    go_wp2_with (go_at_call 31; refine (bequal A B xs ys c1 c2 _ (Kd.C_below H1.out (below_alloc (below_alloc (Below.refl _ _) _) _)) (Kd.C_below H2.out (below_alloc (below_alloc (Below.refl _ _) _) _))).mono ?_; rintro e w1 ⟨rfl, rfl⟩)
    go_ret
    exact ⟨rfl, below_alloc (below_alloc (Below.refl _ _) _) _⟩

theorem find_no (A : Option Addr) (l : List File) (c : Nat) (nm : ByteArray) (w : World) (h : kFile.C w A l.length l) (hl : ∀ k, k < l.length → (gt l k).data.length ≤ 140737488355328) (hn : look49 l nm = none) :
    Calls Try.prog 24 #[.slice A l.length c, .string nm] w fun e w' => e = .returned (.tuple #[.agg #[.string ⟨#[]⟩, .slice none 0 0], .bool false]) ∧ Below w.heap.size w w' :=
  (find_any A l c nm w h hl).mono fun e w' hp => by
    rcases hp with ⟨_, h1, h2⟩ | ⟨x, v, h1, _⟩
    · exact ⟨h1, h2⟩
    · rw [hn] at h1; cases h1
theorem find_yes (A : Option Addr) (l : List File) (c : Nat) (nm : ByteArray) (w : World) (h : kFile.C w A l.length l) (hl : ∀ k, k < l.length → (gt l k).data.length ≤ 140737488355328) (x : File) (hn : look49 l nm = some x) :
    Calls Try.prog 24 #[.slice A l.length c, .string nm] w fun e w' => ∃ B c', e = .returned (.tuple #[.agg #[.string nm, .slice B x.data.length c'], .bool true]) ∧ byte.R 5 w' w.heap.size (fun _ => True) (.slice B x.data.length c') x.data ∧ Below w.heap.size w w' :=
  (find_any A l c nm w h hl).mono fun e w' hp => by
    rcases hp with ⟨h1, _⟩ | ⟨y, v, h1, h2, h3, h4⟩
    · rw [hn] at h1; cases h1
    · rw [hn] at h1
      cases h1
      obtain ⟨B, c', rfl⟩ := Kd.R_slice h3
      exact ⟨B, c', h2, h3, h4⟩

def alikeV (a b : Vers) : Bool := a.there == b.there && decide (a.data = b.data)
def versOf (r : List File) (nm : ByteArray) (m : Int) : Vers := match look49 r nm with | some x => ⟨m, true, x.data⟩ | none => ⟨m, false, []⟩
def ofStep (f : Int → List File × Bool) (nm : ByteArray) (out : List Vers) (m : Int) : List Vers :=
  if (f m).2 = true then
    match out.getLast? with
    | none => out ++ [versOf (f m).1 nm m]
    | some u => if alikeV u (versOf (f m).1 nm m) = true then out else out ++ [versOf (f m).1 nm m]
  else out
def ofSpec (f : Int → List File × Bool) (nm : ByteArray) (ms : List Int) : List Vers := ms.foldl (ofStep f nm) []
theorem ofStep_le (f : Int → List File × Bool) (nm : ByteArray) (out : List Vers) (m : Int) : (ofStep f nm out m).length ≤ out.length + 1 := by
  unfold ofStep
  split
  · split
    · simp
    · split <;> simp
  · simp
theorem ofSpec_succ (f : Int → List File × Bool) (nm : ByteArray) (ms : List Int) (k : Nat) (hk : k < ms.length) : ofSpec f nm (ms.take (k + 1)) = ofStep f nm (ofSpec f nm (ms.take k)) (gt ms k) := by
  unfold ofSpec
  rw [List.take_add_one, gt_some ms k hk, List.foldl_append]
  rfl
theorem ofSpec_le (f : Int → List File × Bool) (nm : ByteArray) (ms : List Int) (k : Nat) (hk : k ≤ ms.length) : (ofSpec f nm (ms.take k)).length ≤ k := by
  induction k with
  | zero => simp [ofSpec]
  | succ k ih =>
    rw [ofSpec_succ f nm ms k (by omega)]
    have := ofStep_le f nm (ofSpec f nm (ms.take k)) (gt ms k)
    have := ih (by omega)
    omega

theorem find_uni (A : Option Addr) (l : List File) (c : Nat) (nm : ByteArray) (m : Int) (w : World) (h : kFile.C w A l.length l) (hl : ∀ k, k < l.length → (gt l k).data.length ≤ 140737488355328) :
    Calls Try.prog 24 #[.slice A l.length c, .string nm] w fun e w' => ∃ s B c', e = .returned (.tuple #[.agg #[.string s, .slice B (versOf l nm m).data.length c'], .bool (versOf l nm m).there]) ∧
      byte.R 5 w' w.heap.size (fun _ => True) (.slice B (versOf l nm m).data.length c') (versOf l nm m).data ∧ Below w.heap.size w w' :=
  (find_any A l c nm w h hl).mono fun e w' hp => by
    rcases hp with ⟨h1, h2, h3⟩ | ⟨x, v, h1, h2, h3, h4⟩
    · have : versOf l nm m = ⟨m, false, []⟩ := by simp [versOf, h1]
      rw [this]
      exact ⟨⟨#[]⟩, none, 0, h2, Kd.R_nil _ _ _ _ _, h3⟩
    · have : versOf l nm m = ⟨m, true, x.data⟩ := by simp [versOf, h1]
      rw [this]
      obtain ⟨B, c', rfl⟩ := Kd.R_slice h3
      exact ⟨nm, B, c', h2, h3, h4⟩
/-- What the closure tells of a moment. -/
def tells (l : List Seen) (m : Int) : List File × Bool := (filesOf (look l m), toldOf (look l m))
theorem tells_short (l : List Seen) (n : Nat) (h : ∀ k, k < l.length → (gt l k).data.length ≤ n) (m : Int) : ∀ k, k < (tells l m).1.length → (gt (tells l m).1 k).data.length ≤ n := by
  unfold tells
  cases hf : look l m with
  | none => intro k hk; simp [filesOf] at hk
  | some s =>
    have hs : s ∈ l := List.mem_of_find?_eq_some hf
    obtain ⟨j, hj, rfl⟩ := List.getElem_of_mem hs
    have hj' := h j hj
    rw [gt_eq l j hj] at hj'
    intro k hk
    by_cases ht : l[j].there = true
    · simp only [filesOf, ht, if_true] at hk ⊢
      rcases k with _ | _ | k
      · simp [gt]
      · simpa [gt] using hj'
      · simp at hk; omega
    · simp only [filesOf, ht] at hk ⊢
      rcases k with _ | k
      · simpa [gt] using hj'
      · simp at hk

theorem info_vers : (Try.prog.info? 35).map (fun i => (i.zero, i.size, i.bytes)) = some (some (.agg #[.int .u64 0, .bool false, .slice none 0 0]), 3, 40) := by kernel_rfl
theorem byteE (t : Nat) (ht : 5 ≠ t) : ∀ q, q ∈ 5 :: byte.E → q ≠ t := by
  intro q hq
  simp [byte, Kd.scalar] at hq
  subst hq
  exact ht

theorem ofBound {wr : World} {base : Nat} {v : Value} {xs : List Vers} (h : kVers.R 35 wr base (fun _ => True) v xs) : kVers.R 35 wr base (fun k => k < wr.heap.size) v xs := Kd.R_mono (Kd.R_bound h) (fun _ hk => hk.2.2.1)
theorem readsS {e : Nat} {w : World} {base n c : Nat} {ok : Nat → Prop} {A : Option Addr} {xs : List UInt8} (h : byte.R e w base ok (.slice A n c) xs) : n = xs.length ∧ xs.length ≤ c ∧ byte.C w A xs.length xs := by
  obtain ⟨A', c', he, hl, hC⟩ := Kd.R_reads h
  cases he
  exact ⟨rfl, hl, hC⟩
theorem readsV {e : Nat} {w : World} {base n c : Nat} {ok : Nat → Prop} {A : Option Addr} {xs : List Vers} (h : kVers.R e w base ok (.slice A n c) xs) : kVers.C w A xs.length xs := by
  obtain ⟨A', c', he, hl, hC⟩ := Kd.R_reads h
  cases he
  exact hC
theorem versOf_nil (r : List File) (nm : ByteArray) (m : Int) (h : (versOf r nm m).there = false) : (versOf r nm m).data = [] := by
  unfold versOf at h ⊢
  split <;> simp_all
theorem versOf_from (r : List File) (nm : ByteArray) (m : Int) : (versOf r nm m).from_ = m := by
  unfold versOf
  split <;> rfl
theorem versOf_short (r : List File) (nm : ByteArray) (m : Int) (n : Nat) (h : ∀ k, k < r.length → (gt r k).data.length ≤ n) : (versOf r nm m).data.length ≤ n := by
  unfold versOf
  split
  · rename_i x hx
    obtain ⟨j, hj, rfl⟩ := List.getElem_of_mem (List.mem_of_find?_eq_some hx)
    have := h j hj
    rwa [gt_eq r j hj] at this
  · simp
theorem getLast_gt {α : Type} [Inhabited α] (l : List α) (h : l ≠ []) : l.getLast? = some (gt l (l.length - 1)) := by
  have : 0 < l.length := List.length_pos_iff.mpr h
  rw [List.getLast?_eq_getElem?, gt_some l _ (by omega)]
/-- What stands when a moment's version has been made: its box, its bytes, what was gathered before. -/
structure OfMade (w wr w1 : World) (m : Int) (v : Value) (out : List Vers) (x : Vers) (B3 : Option Addr) (c3 : Nat) (wx : World) : Prop where
  box : wx.heap[w1.heap.size]? = some (.cells #[.int .u64 m, .bool x.there, .slice B3 x.data.length c3] 35 (0, 0))
  dat : byte.R 5 wx w.heap.size (fun k => wr.heap.size ≤ k) (.slice B3 x.data.length c3) x.data
  out : kVers.R 35 wx w.heap.size (fun k => k < wr.heap.size) v out
  below : Below w.heap.size w wx
  size : wr.heap.size ≤ w1.heap.size
theorem OfMade.step {w wr w1 wx wy : World} {m : Int} {v : Value} {out : List Vers} {x : Vers} {B3 : Option Addr} {c3 : Nat} (h : OfMade w wr w1 m v out x B3 c3 wx) (hb : Below wx.heap.size wx wy) : OfMade w wr w1 m v out x B3 c3 wy :=
  ⟨blk_below h.box hb, Kd.R_below h.dat hb, Kd.R_below h.out hb, below_step h.below hb, h.size⟩
theorem OfMade.mk_ {w wr w1 wx : World} {m : Int} {v : Value} {out : List Vers} {x : Vers} {B3 : Option Addr} {c3 : Nat} (h : OfMade w wr w1 m v out x B3 c3 wx) (hm : x.from_ = m) :
    kVers.M wx w.heap.size (fun k => wr.heap.size ≤ k) x [.int .u64 m, .bool x.there, .slice B3 x.data.length c3] := by
  rw [← hm]
  exact kVers_mkM wx w.heap.size _ x h.dat
theorem OfMade.apart {w wr w1 wx : World} {m : Int} {v : Value} {out : List Vers} {x : Vers} {B3 : Option Addr} {c3 : Nat} (h : OfMade w wr w1 m v out x B3 c3 wx) (k : Nat) (hk : wr.heap.size ≤ k) : True ∧ some k ≠ v.ownBlock :=
  ⟨trivial, fun e => by have := h.out.1 k e.symm; omega⟩
theorem eql_fn (f : Fn) (a b : Array Value) (w : World) : (binOp .eql 29 (.func f a b) .nilFunc).run Try.prog w = .ok (.bool false) w := by
  kernel_rfl
set_option maxHeartbeats 4000000 in
theorem of_any (A : Option Addr) (ms : List Int) (c : Nat) (g : Nat) (A2 : Option Addr) (l : List Seen) (c2 : Nat) (nm : ByteArray) (w : World)
    (hA : (Kd.int .u64).C w A ms.length ms) (hg : w.heap[g]? = some (.cells #[.slice A2 l.length c2] 22 (0, 0))) (hL : kSeen.C w A2 l.length l)
    (hd : ∀ k, k < l.length → (gt l k).data.length ≤ 140737488355328) (hms : ms.length ≤ 1000000000) :
    Calls Try.prog 13 #[.slice A ms.length c, atFn g, .string nm] w fun e w' => ∃ v, e = .returned v ∧ kVers.R 35 w' w.heap.size (fun _ => True) v (ofSpec (tells l) nm ms) ∧ Below w.heap.size w w' := by
  have HG := Aside0.mk hg
  have HL := Aside0.mk hL
  have HD := Aside0.mk hd
  clear hg hL hd
  unfold atFn
  have qn := eql_fn (.func 27) #[] #[.pointer (some ⟨g, 0, none⟩)]
  go_enter Try.func13, Try.ntmps13
  go_wp2
  go_loopw [7, 19] (fun v i wr => ∃ k : Nat, k ≤ ms.length ∧ i = .int .i64 k ∧ Aside0 (kVers.R 35 wr w.heap.size (fun _ => True) v (ofSpec (tells l) nm (ms.take k))) ∧ Aside0 (Below w.heap.size w wr)) (fun _ i _ => ms.length - (intOf i).toNat)
  case atStart => exact ⟨0, Nat.zero_le _, rfl, ⟨Kd.R_nil _ _ _ _ _⟩, ⟨Below.refl _ _⟩⟩
  case round =>
    obtain ⟨k, hk, rfl, HO, HB⟩ := hrel
    by_cases hlt : k < ms.length
    · obtain ⟨ad, rfl, g0⟩ := int_at hA hlt
      replace g0 := cell_old HB.out g0
      obtain ⟨out, hout⟩ : ∃ o, o = ofSpec (tells l) nm (ms.take k) := ⟨_, rfl⟩
      have hol : out.length ≤ k := by rw [hout]; exact ofSpec_le _ _ _ _ hk
      rw [← hout] at HO
      have HOUT := Aside0.mk hout
      clear hout
      obtain ⟨Av, cv, rfl⟩ := Kd.R_slice HO.out
      cases ht : toldOf (look l (gt ms k))
      · go_wp2_with (go_at_call 27; refine (at1_any g A2 l c2 (gt ms k) wr (blk_below HG.out HB.out) (Kd.C_below HL.out HB.out)).mono ?_; rintro e w1 ⟨B, c', rfl, hC, hle, hb⟩; rw [ht]; have HB1 := Aside0.mk (below_step HB.out hb); have HO1 := Aside0.mk (Kd.R_below HO.out hb); clear hb hC)
        go_roundw
        case rel => exact ⟨k + 1, by omega, by go_num, ⟨by rw [ofSpec_succ _ _ _ _ hlt, ← HOUT.out]; simpa [ofStep, tells, ht] using HO1.out⟩, HB1⟩
        case measure => simp [intOf]; omega
      · obtain ⟨m, hm⟩ : ∃ m, m = gt ms k := ⟨_, rfl⟩
        rw [← hm] at g0 ht
        have HM := Aside0.mk hm
        clear hm
        go_upto_if 39 with (first | (go_at_call 27; refine (at1_any g A2 l c2 m wr (blk_below HG.out HB.out) (Kd.C_below HL.out HB.out)).mono ?_; rintro e w1 ⟨B, c', rfl, hC, hle, hb⟩; rw [ht]; have HB1 := Aside0.mk (below_step HB.out hb); have HO1 := Aside0.mk (Kd.R_below (ofBound HO.out) hb); have hsz := hb.size; have HC1 := Aside0.mk hC; clear hb hC) | (go_at_call 24; refine (find_uni B _ c' nm m _ (Kd.C_alloc HC1.out _) (tells_short l _ HD.out m)).mono ?_; rintro e w2 ⟨s, B2, c2', rfl, ho2, hb2⟩; have BV2 := Aside0.mk (blk_below (blk_new w1 (.cells #[.int .u64 m, .bool false, .slice none 0 0] 35)) hb2); have HO2 := Aside0.mk (Kd.R_below (Kd.R_alloc HO1.out _) hb2); have HB2 := Aside0.mk (below_step (below_alloc HB1.out _) hb2); have HDt := Aside0.mk ho2; clear ho2 hb2))
        obtain ⟨x, hx⟩ : ∃ x, x = versOf (filesOf (look l m)) nm m := ⟨_, rfl⟩
        have hxs : x.data.length ≤ 140737488355328 := by rw [hx]; exact versOf_short _ _ _ _ (tells_short l _ HD.out m)
        have hxn : x.there = false → x.data = [] := by rw [hx]; exact versOf_nil _ _ _
        rw [← hx] at HDt ⊢
        have HX := Aside0.mk hx
        have HXN := Aside0.mk hxn
        clear hx hxn
        go_cut [14] (fun _ wx => ∃ B3 c3, OfMade w wr w1 m (.slice Av out.length cv) out x B3 c3 wx)
        case first =>
          obtain ⟨hn2, hl2, hC2⟩ := readsS HDt.out
          have HC2 := Aside0.mk hC2
          clear hC2 hn2
          cases hv : x.there
          · have hd0 := HXN.out hv
            rw [hd0] at HDt ⊢
            go_wp2
            go_meet
            refine ⟨none, 0, ⟨?_, ?_, ?_, below_alloc HB2.out _, hsz⟩⟩
            · rw [hv, hd0]; exact blk_alloc BV2.out _
            · rw [hd0]; exact Kd.R_nil _ _ _ _ _
            · exact Kd.R_alloc HO2.out _
          · go_wp2_with (go_at_call 25; refine (bclone B2 x.data c2' _ (Kd.C_alloc HC2.out _) hl2 hxs).mono ?_; rintro e w3 ⟨v3, rfl, ho3, hb3⟩; obtain ⟨B3, c3, rfl⟩ := Kd.R_slice ho3; have HD3 := Aside0.mk ho3; have BV3 := Aside0.mk (blk_below (blk_alloc BV2.out _) hb3); have HO3 := Aside0.mk (Kd.R_below (Kd.R_alloc HO2.out _) hb3); have HB3 := Aside0.mk (below_step (below_alloc HB2.out _) hb3); have hs3 := HB2.out.size; have r1 := blk_cell BV3.out 1; have r2 := blk_cell BV3.out 2; have f1 := blk_frozen BV3.out 1; have f2 := blk_frozen BV3.out 2; simp only [List.getElem?_toArray, List.getElem?_cons_zero, List.getElem?_cons_succ] at r1 r2; clear ho3 hb3)
            go_meet
            refine ⟨B3, c3, ⟨?_, ?_, ?_, ?_, hsz⟩⟩
            · rw [hv]; exact blk_set (blk_set BV3.out 1 (.bool true)) 2 (.slice B3 x.data.length c3)
            · refine Kd.R_set (Kd.R_set (Kd.R_lower (Kd.R_mono (Kd.R_bound HD3.out) (fun k hk => ?_)) ?_) BV3.out (byteE _ (by decide)) 1 _) (blk_set BV3.out 1 _) (byteE _ (by decide)) 2 _
              · have := hk.2.1; simp at this; have := HB.out.size; have := below_size HB1.out; have := blk_lt BV2.out; omega
              · simp; have := HB2.out.size; omega
            · exact Kd.R_far (p := ⟨w1.heap.size, 2, none⟩) (Kd.R_far (p := ⟨w1.heap.size, 1, none⟩) HO3.out (fun k hk => by simp only; omega) _) (fun k hk => by simp only; omega) _
            · exact (HB3.out.setCell (p := ⟨w1.heap.size, 1, none⟩) HB1.out.size _).setCell (p := ⟨w1.heap.size, 2, none⟩) HB1.out.size _
        case rest =>
          obtain ⟨B3, c3, hO⟩ := hcut
          have HOM := Aside0.mk hO
          clear hO
          have hxf : x.from_ = m := by rw [HX.out]; exact versOf_from _ _ _
          have hstep : ofSpec (tells l) nm (ms.take (k + 1)) = ofStep (tells l) nm out m := by rw [ofSpec_succ _ _ _ _ hlt, ← HOUT.out, HM.out]
          have hstep2 : ofStep (tells l) nm out m = match out.getLast? with
              | none => out ++ [x]
              | some u => if alikeV u x = true then out else out ++ [x] := by
            rw [HX.out]; unfold ofStep; rw [if_pos (show (tells l m).2 = true from ht)]; rfl
          have HST := Aside0.mk (hstep.trans hstep2)
          have HXF := Aside0.mk hxf
          clear hstep hstep2 hxf
          rcases Nat.eq_zero_or_pos out.length with h0 | h0
          · have he : out = [] := List.eq_nil_of_length_eq_zero h0
            have HST2 : Aside0 (ofSpec (tells l) nm (ms.take (k + 1)) = out ++ [x]) := ⟨by rw [HST.out, he]; rfl⟩
            have HZ : ((out.length : Int) == 0) = true := by simp [he]
            clear h0 he
            go_wp2
            go_quiet (fail)
            obtain ⟨W5, hW5⟩ : ∃ W, W = wc.drewN nq := ⟨_, rfl⟩
            rw [← hW5]
            have HOM5 : Aside0 (OfMade w wr w1 m (.slice Av out.length cv) out x B3 c3 W5) := ⟨by rw [hW5]; exact HOM.out.step (pw_below_drewN (Below.refl _ _) _)⟩
            clear hW5
            have r0 := blk_cell HOM5.out.box 0
            have r1 := blk_cell HOM5.out.box 1
            have r2 := blk_cell HOM5.out.box 2
            simp only [List.getElem?_toArray, List.getElem?_cons_zero, List.getElem?_cons_succ] at r0 r1 r2
            go_wp2_with ((with_reducible refine gate_builtin (b := .append) (xs := #[.tmp 59, .tmp 61]) rfl ?_); at_builtin; refine Kd.R_append kVers (w0 := w) w.heap.size rfl (.tmp 59) (.tmp 61) 25 35 (.agg #[.int .u64 0, .bool false, .slice none 0 0]) 40 rfl Try.underlying25 info_vers rfl (by decide) (by omega) _ out x [.int .u64 m, .bool x.there, .slice B3 x.data.length c3] (fun _ => True) (fun k => wr.heap.size ≤ k) rfl ?aX6 ?aP6 ?aK6 ?aF6 ?aO6 ?aB6 ?aS6 ?aL6 ?_; (case aX6 => first | rfl | (go_simp; done) | (simp [go_sem]; done)); (case aP6 => exact (HOM5.out.mk_ HXF.out)); (case aK6 => exact (fun k hk => HOM5.out.apart k hk)); (case aB6 => exact HOM5.out.below); (case aF6 => exact (fun _ _ => trivial)); (case aO6 => exact (Kd.R_mono HOM5.out.out (fun _ _ => trivial))); (case aS6 => exact (HOM5.out.below).size); (case aL6 => (omega)); intro v6 w6 ho6 hb6 hg6 hat6; have HO6 := Aside0.mk ho6; have HB6 := Aside0.mk hb6; clear ho6 hb6 hg6 hat6)
            go_roundw
            case rel => exact ⟨k + 1, by omega, by go_num, ⟨by rw [HST2.out]; exact HO6.out⟩, HB6⟩
            case measure => simp [intOf]; omega
          · have hne : out ≠ [] := fun e => by rw [e] at h0; simp at h0
            have hgl := getLast_gt out hne
            have HZ : ((out.length : Int) == 0) = false := by simp; omega
            have HZ2 : decide ((out.length : Int) = 0) = false := by simp; omega
            obtain ⟨u, hu⟩ : ∃ u, u = gt out (out.length - 1) := ⟨_, rfl⟩
            obtain ⟨ad2, A4, c4, e4, q0, q1, q2, hc4, hd4⟩ := vers_at (readsV HOM.out.out) (show out.length - 1 < out.length by omega)
            cases e4
            rw [← hu] at q0 q1 q2 hc4 hd4 hgl
            have HD4 := Aside0.mk hd4
            obtain ⟨_, hl3, hC3⟩ := readsS HOM.out.dat
            have HC3 := Aside0.mk hC3
            have HGL := Aside0.mk hgl
            have r0 := blk_cell HOM.out.box 0
            have r1 := blk_cell HOM.out.box 1
            have r2 := blk_cell HOM.out.box 2
            simp only [List.getElem?_toArray, List.getElem?_cons_zero, List.getElem?_cons_succ] at r0 r1 r2
            clear hne hu hd4 hC3 hgl
            cases ha : (u.there == x.there && decide (u.data = x.data))
            · have HST2 : Aside0 (ofSpec (tells l) nm (ms.take (k + 1)) = out ++ [x]) := ⟨by rw [HST.out, HGL.out]; simp only [alikeV, ha]; rfl⟩
              have HA := Aside0.mk ha
              clear ha
              go_wp2_with fail
              have i0 : IntKind.i64.wrap ((out.length : Int) - 1) = (out.length : Int) - 1 := IntWalk.i64_in _ (by omega)
              have i1 : (0 : Int) ≤ (out.length : Int) - 1 := by omega
              have i2 : (out.length : Int) - 1 < (out.length : Int) := by omega
              have i3 : ((out.length : Int) - 1).toNat = out.length - 1 := by omega
              have i4 : (1 : Int) ≤ (out.length : Int) := by omega
              go_region_held3 (fun W => W.cell? (ad2.add ((out.length - 1) * 3)) = some (.int .u64 u.from_) ∧ W.cell? ⟨(ad2.add ((out.length - 1) * 3)).block, (ad2.add ((out.length - 1) * 3)).off + 1, none⟩ = some (.bool u.there) ∧ W.cell? ⟨(ad2.add ((out.length - 1) * 3)).block, (ad2.add ((out.length - 1) * 3)).off + 2, none⟩ = some (.slice A4 u.data.length c4) ∧ W.cell? ⟨w1.heap.size, 0, none⟩ = some (.int .u64 m) ∧ W.cell? ⟨w1.heap.size, 1, none⟩ = some (.bool x.there) ∧ W.cell? ⟨w1.heap.size, 2, none⟩ = some (.slice B3 x.data.length c3)) (first | exact ⟨q0, q1, q2, r0, r1, r2⟩ | exact K5) (first | (go_at_call 26; refine (alike_any u.from_ m u.there x.there A4 B3 u.data x.data c4 c3 wc.drew (Kd.C_drew HD4.out) (Kd.C_drew HC3.out)).mono ?_; rw [HA.out]; rintro e w5 ⟨rfl, hb⟩; have hb2 := below_step (below_drew1 (Below.refl wc.heap.size wc)) hb; have HOM5 := Aside0.mk (HOM.out.step hb2); have K5 := And.intro (pw_cell_below hb2 q0) (And.intro (pw_cell_below hb2 q1) (And.intro (pw_cell_below hb2 q2) (And.intro (pw_cell_below hb2 r0) (And.intro (pw_cell_below hb2 r1) (pw_cell_below hb2 r2))))); clear hb hb2))
              clear i0 i1 i2 i3 i4
              all_goals
                have z0 := blk_cell HOM5.out.box 0
                have z1 := blk_cell HOM5.out.box 1
                have z2 := blk_cell HOM5.out.box 2
                simp only [List.getElem?_toArray, List.getElem?_cons_zero, List.getElem?_cons_succ] at z0 z1 z2
                clear K5
                go_wp2_with ((with_reducible refine gate_builtin (b := .append) (xs := #[.tmp 59, .tmp 61]) rfl ?_); at_builtin; refine Kd.R_append kVers (w0 := w) w.heap.size rfl (.tmp 59) (.tmp 61) 25 35 (.agg #[.int .u64 0, .bool false, .slice none 0 0]) 40 rfl Try.underlying25 info_vers rfl (by decide) (by omega) _ out x [.int .u64 m, .bool x.there, .slice B3 x.data.length c3] (fun _ => True) (fun k => wr.heap.size ≤ k) rfl ?aX6 ?aP6 ?aK6 ?aF6 ?aO6 ?aB6 ?aS6 ?aL6 ?_; (case aX6 => first | rfl | (go_simp; done) | (simp [go_sem]; done)); (case aP6 => exact (HOM5.out.mk_ HXF.out)); (case aK6 => exact (fun k hk => HOM5.out.apart k hk)); (case aB6 => exact HOM5.out.below); (case aF6 => exact (fun _ _ => trivial)); (case aO6 => exact (Kd.R_mono HOM5.out.out (fun _ _ => trivial))); (case aS6 => exact (HOM5.out.below).size); (case aL6 => (omega)); intro v6 w6 ho6 hb6 hg6 hat6; have HO6 := Aside0.mk ho6; have HB6 := Aside0.mk hb6; clear ho6 hb6 hg6 hat6)
                go_roundw
                case rel => exact ⟨k + 1, by omega, by go_num, ⟨by rw [HST2.out]; exact HO6.out⟩, HB6⟩
                case measure => simp [intOf]; omega
            · have HST2 : Aside0 (ofSpec (tells l) nm (ms.take (k + 1)) = out) := ⟨by rw [HST.out, HGL.out]; simp only [alikeV, ha, if_true]⟩
              have HA := Aside0.mk ha
              clear ha
              go_wp2_with fail
              have i0 : IntKind.i64.wrap ((out.length : Int) - 1) = (out.length : Int) - 1 := IntWalk.i64_in _ (by omega)
              have i1 : (0 : Int) ≤ (out.length : Int) - 1 := by omega
              have i2 : (out.length : Int) - 1 < (out.length : Int) := by omega
              have i3 : ((out.length : Int) - 1).toNat = out.length - 1 := by omega
              have i4 : (1 : Int) ≤ (out.length : Int) := by omega
              go_region_held3 (fun W => W.cell? (ad2.add ((out.length - 1) * 3)) = some (.int .u64 u.from_) ∧ W.cell? ⟨(ad2.add ((out.length - 1) * 3)).block, (ad2.add ((out.length - 1) * 3)).off + 1, none⟩ = some (.bool u.there) ∧ W.cell? ⟨(ad2.add ((out.length - 1) * 3)).block, (ad2.add ((out.length - 1) * 3)).off + 2, none⟩ = some (.slice A4 u.data.length c4) ∧ W.cell? ⟨w1.heap.size, 0, none⟩ = some (.int .u64 m) ∧ W.cell? ⟨w1.heap.size, 1, none⟩ = some (.bool x.there) ∧ W.cell? ⟨w1.heap.size, 2, none⟩ = some (.slice B3 x.data.length c3)) (first | exact ⟨q0, q1, q2, r0, r1, r2⟩ | exact K5) (first | (go_at_call 26; refine (alike_any u.from_ m u.there x.there A4 B3 u.data x.data c4 c3 wc.drew (Kd.C_drew HD4.out) (Kd.C_drew HC3.out)).mono ?_; rw [HA.out]; rintro e w5 ⟨rfl, hb⟩; have hb2 := below_step (below_drew1 (Below.refl wc.heap.size wc)) hb; have HOM5 := Aside0.mk (HOM.out.step hb2); have K5 := And.intro (pw_cell_below hb2 q0) (And.intro (pw_cell_below hb2 q1) (And.intro (pw_cell_below hb2 q2) (And.intro (pw_cell_below hb2 r0) (And.intro (pw_cell_below hb2 r1) (pw_cell_below hb2 r2))))); clear hb hb2))
              clear i0 i1 i2 i3 i4
              all_goals
                clear K5
                go_wp2
                go_roundw
                case rel => exact ⟨k + 1, by omega, by go_num, ⟨by rw [HST2.out]; exact Kd.R_mono HOM5.out.out (fun _ _ => trivial)⟩, ⟨HOM5.out.below⟩⟩
                case measure => simp [intOf]; omega
    · go_wp2
      go_ret
      exact ⟨_, rfl, by have := HO.out; rwa [List.take_of_length_le (by omega)] at this, HB.out⟩

/-- The same, of the moments of what was seen, in the world behind 'at'. -/
theorem of_n (A : Option Addr) (n : Nat) (ms : List Int) (hn : n = ms.length) (c : Nat) (g : Nat) (A2 : Option Addr) (l : List Seen) (c2 : Nat) (nm : ByteArray) (vs : List Vers) (w : World) (hv : ofSpec (tells l) nm ms = vs)
    (hA : (Kd.int .u64).C w A ms.length ms) (hg : w.heap[g]? = some (.cells #[.slice A2 l.length c2] 22 (0, 0))) (hL : kSeen.C w A2 l.length l)
    (hd : ∀ k, k < l.length → (gt l k).data.length ≤ 140737488355328) (hms : ms.length ≤ 1000000000) :
    Calls Try.prog 13 #[.slice A n c, atFn g, .string nm] w fun e w' => ∃ B c', e = .returned (.slice B vs.length c') ∧ kVers.R 35 w' w.heap.size (fun _ => True) (.slice B vs.length c') vs ∧ Below w.heap.size w w' := by
  subst hn hv
  refine (of_any A ms c g A2 l c2 nm w hA hg hL hd hms).mono ?_
  rintro e w' ⟨v, rfl, ho, hb⟩
  obtain ⟨B, c', rfl⟩ := Kd.R_slice ho
  exact ⟨B, c', rfl, ho, hb⟩
end Go.Proofs.Ytjogpfijkhhloaa
