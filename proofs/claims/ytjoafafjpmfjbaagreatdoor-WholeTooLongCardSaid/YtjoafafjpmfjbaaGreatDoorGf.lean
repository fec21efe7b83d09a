/-
  WholeTooLong: is a moment promised?
-/
import Derived.Test.YtjoafafjpmfjbaaGreatDoorGe
namespace Go.Proofs.YtjoafafjpmfjbaaGreatDoor
open Go.RowKit Go.Shelf Go.Proofs.YtjoafafjpmfjbaaGreatDoorW.PrintWords Go.Proofs.YtjoafafjpmfjbaaGreatDoorW.PrintLast Go.Proofs.YtjoafafjpmfjbaaGreatDoorW.PrintMore
set_option linter.unusedVariables false
set_option linter.unusedSimpArgs false

/-- A law that lies in memory: its table, its keepers; no hold, no branch. -/
structure LawAt (w : World) (g bk fo : Nat) (A : Option Addr) (nk : Nat) (ks : List Ru) (ms : List Int) (TA : Option Addr) (n c : Nat) : Prop where
  tab : TabAt w g ms TA n c
  keep : kKeep.C w A nk ks
  book : w.heap[bk]? = some (.cells #[.slice none 0 0] 95 (0, 0))
  forest : w.heap[fo]? = some (.cells forestZ.toArray 100 (0, 0))
theorem LawAt.below {w w' : World} {g bk fo : Nat} {A : Option Addr} {nk : Nat} {ks : List Ru} {ms : List Int} {TA : Option Addr} {n c : Nat} (h : LawAt w g bk fo A nk ks ms TA n c) (hb : Below w.heap.size w w') : LawAt w' g bk fo A nk ks ms TA n c :=
  ⟨h.tab.below hb, Kd.C_below h.keep hb, blk_below h.book hb, blk_below h.forest hb⟩
/-- The value of a law. -/
def lawV (g bk fo : Nat) (A : Option Addr) (nk ck : Nat) (nv : Int) (ns : Bool) : Value := .agg #[.pointer (some ⟨g, 0, none⟩), .slice A nk ck, .int .i64 nv, .bool ns, .pointer (some ⟨bk, 0, none⟩), .pointer (some ⟨fo, 0, none⟩)]
/-- Is the p-th moment promised? -/
def hasB (ms : List Int) (n p : Nat) (nv : Int) (ns : Bool) (ks : List Ru) (now : Int) : Bool := if p + 1 = n then true else decide (now < tillOf (minsOf ms n p nv ns ks))
set_option maxHeartbeats 1600000 in
theorem has_any (g bk fo : Nat) (A : Option Addr) (nk ck : Nat) (ks : List Ru) (hks : ks.length = nk) (nv : Int) (ns : Bool) (hnv : 0 ≤ nv ∧ nv ≤ 1073741824) (hok : ∀ x ∈ ks, RuOk x ∧ x.kind ≤ 3) (h6 : nk ≤ 12)
    (ms : List Int) (TA : Option Addr) (n c p : Nat) (hp : p < n) (hm : ∀ m ∈ ms, 0 ≤ m ∧ m ≤ 1073741824) (now : Int) (w : World) (h : LawAt w g bk fo A nk ks ms TA n c) :
    Calls Tryz.prog 8 #[lawV g bk fo A nk ck nv ns, .int .u64 ((p : Int) + 1), .int .i64 now] w fun e w' => e = .returned (.bool (hasB ms n p nv ns ks now)) ∧ Below w.heap.size w w' := by
  have hn1000 := h.tab.few
  have HMIN := Aside0.mk (fun (W : World) (hb : Below w.heap.size w W) => min_tab g ms TA n c p hp W (h.tab.below hb))
  have HOUT := Aside0.mk (fun (W : World) (hb : Below w.heap.size w W) => out_tab g ms TA n c p hp W (h.tab.below hb))
  have HLAST := Aside0.mk (fun (W : World) (hb : Below w.heap.size w W) => last_tab g ms TA n c (by omega) W (h.tab.below hb))
  have HST := Aside0.mk (fun (W : World) (hb : Below w.heap.size w W) => stays_any A nk ck ks hks nv ns hnv hok h6 g ms TA n c p hp hm now W (Kd.C_below h.keep hb) (h.tab.below hb))
  have HHE := Aside0.mk (fun (W : World) (hb : Below w.heap.size w W) (m : Int) => held_any (.slice A nk ck) g bk fo nv ns ((p : Int) + 1) m now W (blk_below h.book hb))
  have HBA := Aside0.mk (fun (W : World) (hb : Below w.heap.size w W) => bases_nil fo W (blk_below h.forest hb))
  have HB0 := Aside0.mk (below_alloc (Below.refl w.heap.size w) (.cells #[.pointer (some ⟨g, 0, none⟩), .slice A nk ck, .int .i64 nv, .bool ns, .pointer (some ⟨bk, 0, none⟩), .pointer (some ⟨fo, 0, none⟩)] 32))
  have hbx := blk_new w (.cells #[.pointer (some ⟨g, 0, none⟩), .slice A nk ck, .int .i64 nv, .bool ns, .pointer (some ⟨bk, 0, none⟩), .pointer (some ⟨fo, 0, none⟩)] 32)
  have HBX := Aside0.mk hbx
  clear h hks hnv hok hm hbx
  unfold lawV hasB
  obtain ⟨T, hT⟩ : ∃ T, T = decide (now < tillOf (minsOf ms n p nv ns ks)) := ⟨_, rfl⟩
  obtain ⟨mi, hmi⟩ : ∃ mi, mi = gt ms p := ⟨_, rfl⟩
  rw [← hT] at HST ⊢
  rw [← hmi] at HMIN
  obtain ⟨P, hP⟩ : ∃ P, P = (p : Int) + 1 := ⟨_, rfl⟩
  rw [← hP] at HMIN HOUT HST HHE ⊢
  have i1 : 1 ≤ P := by omega
  have i2 : P ≤ 1000 := by omega
  by_cases hl : p + 1 = n
  · rw [if_pos hl]
    have i3 : (n : Int) = P := by omega
    rw [i3] at HLAST
    clear hT hmi hP
    go_enter Tryz.func8, Tryz.ntmps8
    go_wp2_with (first | (go_at_call 17; with_reducible refine (HMIN.out _ HB0.out).mono ?_; rintro e w1 ⟨rfl, hb⟩; have HB1 := Aside0.mk (below_step HB0.out hb); have HX1 := Aside0.mk (blk_below HBX.out hb); clear hb; (have bx := HX1.out; have d0 := blk_cell bx 0; have d1 := blk_cell bx 1; have d2 := blk_cell bx 2; have d3 := blk_cell bx 3; have d4 := blk_cell bx 4; have d5 := blk_cell bx 5; simp only [List.getElem?_toArray, List.getElem?_cons_zero, List.getElem?_cons_succ] at d0 d1 d2 d3 d4 d5; clear bx)) | (go_at_call 18; with_reducible refine (HOUT.out _ HB1.out).mono ?_; rintro e w2 ⟨rfl, hb⟩; have HB2 := Aside0.mk (below_step HB1.out hb); have HX2 := Aside0.mk (blk_below HX1.out hb); clear hb d0 d1 d2 d3 d4 d5; (have bx := HX2.out; have d0 := blk_cell bx 0; have d1 := blk_cell bx 1; have d2 := blk_cell bx 2; have d3 := blk_cell bx 3; have d4 := blk_cell bx 4; have d5 := blk_cell bx 5; simp only [List.getElem?_toArray, List.getElem?_cons_zero, List.getElem?_cons_succ] at d0 d1 d2 d3 d4 d5; clear bx)) | (go_at_call 19; with_reducible refine (HLAST.out _ HB2.out).mono ?_; rintro e w3 ⟨rfl, hb⟩; have HB3 := Aside0.mk (below_step HB2.out hb); have HX3 := Aside0.mk (blk_below HX2.out hb); clear hb d0 d1 d2 d3 d4 d5; (have bx := HX3.out; have d0 := blk_cell bx 0; have d1 := blk_cell bx 1; have d2 := blk_cell bx 2; have d3 := blk_cell bx 3; have d4 := blk_cell bx 4; have d5 := blk_cell bx 5; simp only [List.getElem?_toArray, List.getElem?_cons_zero, List.getElem?_cons_succ] at d0 d1 d2 d3 d4 d5; clear bx)))
    go_ret
    exact ⟨rfl, HB3.out⟩
  · rw [if_neg hl]
    have i3 : ¬ ((n : Int) = P) := by omega
    have i4 : ((n : Int) == P) = false := by simpa using i3
    clear hT hmi hP
    go_enter Tryz.func8, Tryz.ntmps8
    cases T
    · go_wp2_with (first | (go_at_call 17; with_reducible refine (HMIN.out _ HB0.out).mono ?_; rintro e w1 ⟨rfl, hb⟩; have HB1 := Aside0.mk (below_step HB0.out hb); have HX1 := Aside0.mk (blk_below HBX.out hb); clear hb; (have bx := HX1.out; have d0 := blk_cell bx 0; have d1 := blk_cell bx 1; have d2 := blk_cell bx 2; have d3 := blk_cell bx 3; have d4 := blk_cell bx 4; have d5 := blk_cell bx 5; simp only [List.getElem?_toArray, List.getElem?_cons_zero, List.getElem?_cons_succ] at d0 d1 d2 d3 d4 d5; clear bx)) | (go_at_call 18; with_reducible refine (HOUT.out _ HB1.out).mono ?_; rintro e w2 ⟨rfl, hb⟩; have HB2 := Aside0.mk (below_step HB1.out hb); have HX2 := Aside0.mk (blk_below HX1.out hb); clear hb d0 d1 d2 d3 d4 d5; (have bx := HX2.out; have d0 := blk_cell bx 0; have d1 := blk_cell bx 1; have d2 := blk_cell bx 2; have d3 := blk_cell bx 3; have d4 := blk_cell bx 4; have d5 := blk_cell bx 5; simp only [List.getElem?_toArray, List.getElem?_cons_zero, List.getElem?_cons_succ] at d0 d1 d2 d3 d4 d5; clear bx)) | (go_at_call 19; with_reducible refine (HLAST.out _ HB2.out).mono ?_; rintro e w3 ⟨rfl, hb⟩; have HB3 := Aside0.mk (below_step HB2.out hb); have HX3 := Aside0.mk (blk_below HX2.out hb); clear hb d0 d1 d2 d3 d4 d5; (have bx := HX3.out; have d0 := blk_cell bx 0; have d1 := blk_cell bx 1; have d2 := blk_cell bx 2; have d3 := blk_cell bx 3; have d4 := blk_cell bx 4; have d5 := blk_cell bx 5; simp only [List.getElem?_toArray, List.getElem?_cons_zero, List.getElem?_cons_succ] at d0 d1 d2 d3 d4 d5; clear bx)) | (go_at_call 20; with_reducible refine (HST.out _ HB3.out).mono ?_; rintro e w4 ⟨rfl, hb⟩; have HB4 := Aside0.mk (below_step HB3.out hb); have HX4 := Aside0.mk (blk_below HX3.out hb); clear hb d0 d1 d2 d3 d4 d5; (have bx := HX4.out; have d0 := blk_cell bx 0; have d1 := blk_cell bx 1; have d2 := blk_cell bx 2; have d3 := blk_cell bx 3; have d4 := blk_cell bx 4; have d5 := blk_cell bx 5; simp only [List.getElem?_toArray, List.getElem?_cons_zero, List.getElem?_cons_succ] at d0 d1 d2 d3 d4 d5; clear bx)) | (go_at_call 21; with_reducible refine (HHE.out _ HB4.out _).mono ?_; rintro e w5 ⟨rfl, hb⟩; have HB5 := Aside0.mk (below_step HB4.out hb); have HX5 := Aside0.mk (blk_below HX4.out hb); clear hb d0 d1 d2 d3 d4 d5; (have bx := HX5.out; have d0 := blk_cell bx 0; have d1 := blk_cell bx 1; have d2 := blk_cell bx 2; have d3 := blk_cell bx 3; have d4 := blk_cell bx 4; have d5 := blk_cell bx 5; simp only [List.getElem?_toArray, List.getElem?_cons_zero, List.getElem?_cons_succ] at d0 d1 d2 d3 d4 d5; clear bx)) | (go_at_call 23; with_reducible refine (HBA.out _ HB5.out).mono ?_; rintro e w6 ⟨rfl, hb⟩; have HB6 := Aside0.mk (below_step HB5.out hb); clear hb d0 d1 d2 d3 d4 d5) | (go_at_call 22; refine (contains64_nil _ _).mono ?_; rintro e w7 ⟨rfl, hb⟩; have HB7 := Aside0.mk (below_step HB6.out hb); clear hb))
      go_ret
      exact ⟨rfl, HB7.out⟩
    · go_wp2_with (first | (go_at_call 17; with_reducible refine (HMIN.out _ HB0.out).mono ?_; rintro e w1 ⟨rfl, hb⟩; have HB1 := Aside0.mk (below_step HB0.out hb); have HX1 := Aside0.mk (blk_below HBX.out hb); clear hb; (have bx := HX1.out; have d0 := blk_cell bx 0; have d1 := blk_cell bx 1; have d2 := blk_cell bx 2; have d3 := blk_cell bx 3; have d4 := blk_cell bx 4; have d5 := blk_cell bx 5; simp only [List.getElem?_toArray, List.getElem?_cons_zero, List.getElem?_cons_succ] at d0 d1 d2 d3 d4 d5; clear bx)) | (go_at_call 18; with_reducible refine (HOUT.out _ HB1.out).mono ?_; rintro e w2 ⟨rfl, hb⟩; have HB2 := Aside0.mk (below_step HB1.out hb); have HX2 := Aside0.mk (blk_below HX1.out hb); clear hb d0 d1 d2 d3 d4 d5; (have bx := HX2.out; have d0 := blk_cell bx 0; have d1 := blk_cell bx 1; have d2 := blk_cell bx 2; have d3 := blk_cell bx 3; have d4 := blk_cell bx 4; have d5 := blk_cell bx 5; simp only [List.getElem?_toArray, List.getElem?_cons_zero, List.getElem?_cons_succ] at d0 d1 d2 d3 d4 d5; clear bx)) | (go_at_call 19; with_reducible refine (HLAST.out _ HB2.out).mono ?_; rintro e w3 ⟨rfl, hb⟩; have HB3 := Aside0.mk (below_step HB2.out hb); have HX3 := Aside0.mk (blk_below HX2.out hb); clear hb d0 d1 d2 d3 d4 d5; (have bx := HX3.out; have d0 := blk_cell bx 0; have d1 := blk_cell bx 1; have d2 := blk_cell bx 2; have d3 := blk_cell bx 3; have d4 := blk_cell bx 4; have d5 := blk_cell bx 5; simp only [List.getElem?_toArray, List.getElem?_cons_zero, List.getElem?_cons_succ] at d0 d1 d2 d3 d4 d5; clear bx)) | (go_at_call 20; with_reducible refine (HST.out _ HB3.out).mono ?_; rintro e w4 ⟨rfl, hb⟩; have HB4 := Aside0.mk (below_step HB3.out hb); have HX4 := Aside0.mk (blk_below HX3.out hb); clear hb d0 d1 d2 d3 d4 d5; (have bx := HX4.out; have d0 := blk_cell bx 0; have d1 := blk_cell bx 1; have d2 := blk_cell bx 2; have d3 := blk_cell bx 3; have d4 := blk_cell bx 4; have d5 := blk_cell bx 5; simp only [List.getElem?_toArray, List.getElem?_cons_zero, List.getElem?_cons_succ] at d0 d1 d2 d3 d4 d5; clear bx)))
      go_ret
      exact ⟨rfl, HB4.out⟩
end Go.Proofs.YtjoafafjpmfjbaaGreatDoor
