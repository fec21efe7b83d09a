/-
  Chapter 50: the document's example, walked: it answers true.
-/
import Derived.Test.YtjogpfijkhhloaaOf
import Derived.Lib.SlBytesConst
namespace Go.Proofs.Ytjogpfijkhhloaa
open Go.RowKit Go.Proofs.YtjogpfijkhhloaaW.PrintWords Go.Proofs.YtjogpfijkhhloaaW.PrintLast Go.Proofs.YtjogpfijkhhloaaW.PrintMore
set_option linter.unusedVariables false

theorem readsI {e : Nat} {k : IntKind} {w : World} {base n c : Nat} {ok : Nat → Prop} {A : Option Addr} {xs : List Int} (h : (Kd.int k).R e w base ok (.slice A n c) xs) : (Kd.int k).C w A xs.length xs := by
  obtain ⟨A', c', he, hl, hC⟩ := Kd.R_reads h
  cases he
  exact hC
theorem addr0 (a : Addr) : a.add 0 = a := by simp [Addr.add]
def exS : List Seen := [⟨1, true, false, []⟩, ⟨2, true, true, [120]⟩, ⟨3, true, true, [120]⟩, ⟨4, true, true, [121]⟩]
def exV : List Vers := [⟨1, false, []⟩, ⟨2, true, [120]⟩, ⟨4, true, [121]⟩]
theorem ex_of : ofSpec (tells exS) nmA (exS.map Seen.moment) = exV := by
  simp [ofSpec, exS, exV, ofStep, tells, look, look49, filesOf, toldOf, versOf, alikeV, nmA, nmB]
/-- The world of the example's literal. -/
def exW (w : World) : World := ((((w.alloc (.cells #[.int .u8 120] 5 (1, 2))).alloc (.cells #[.int .u8 120] 5 (1, 2))).alloc (.cells #[.int .u8 121] 5 (1, 2))).alloc (.cells #[.int .u64 1, .bool true, .bool false, .slice none 0 0, .int .u64 2, .bool true, .bool true, .slice (some ⟨w.heap.size, 0, none⟩) 1 1, .int .u64 3, .bool true, .bool true, .slice (some ⟨w.heap.size + 1, 0, none⟩) 1 1, .int .u64 4, .bool true, .bool true, .slice (some ⟨w.heap.size + 2, 0, none⟩) 1 1] 37))
theorem byte_one {w : World} {g : Nat} {x : UInt8} {t : TypeId} {fr : Nat × Nat} (h : w.heap[g]? = some (.cells #[.int .u8 (x.toNat : Int)] t fr)) : byte.C w (some ⟨g, 0, none⟩) [x].length [x] :=
  C_block h (reps_one (R := byte.K w) (x := x) (c := [.int .u8 (x.toNat : Int)]) rfl) (by simp)
theorem kSeen_mk (w : World) (x : Seen) {A : Option Addr} {c : Nat} (l : x.data.length ≤ c) (g : byte.C w A x.data.length x.data) : kSeen.K w x [.int .u64 x.moment, .bool x.told, .bool x.there, .slice A x.data.length c] :=
  ⟨[.int .u64 x.moment], [.bool x.told, .bool x.there, .slice A x.data.length c], rfl, rfl, ⟨[.bool x.told], [.bool x.there, .slice A x.data.length c], rfl, rfl, ⟨[.bool x.there], [.slice A x.data.length c], rfl, rfl, ⟨A, c, rfl, l, g⟩⟩⟩⟩
theorem ex_reads (w : World) : kSeen.C (exW w) (some ⟨w.heap.size + 1 + 1 + 1, 0, none⟩) 4 exS := by
  have b0 : (exW w).heap[w.heap.size]? = some (.cells #[.int .u8 120] 5 (1, 2)) := blk_alloc (blk_alloc (blk_alloc (blk_new w _) _) _) _
  have b1 : (exW w).heap[w.heap.size + 1]? = some (.cells #[.int .u8 120] 5 (1, 2)) := blk_alloc (blk_alloc (blk_new2 w _ _) _) _
  have b2 : (exW w).heap[w.heap.size + 1 + 1]? = some (.cells #[.int .u8 121] 5 (1, 2)) := by
    have := blk_alloc (blk_new2 (w.alloc (.cells #[.int .u8 120] 5 (1, 2))) (.cells #[.int .u8 120] 5 (1, 2)) (.cells #[.int .u8 121] 5 (1, 2)))
    simp only [World.size_alloc] at this
    exact this _
  have b3 : (exW w).heap[w.heap.size + 1 + 1 + 1]? = some (.cells #[.int .u64 1, .bool true, .bool false, .slice none 0 0, .int .u64 2, .bool true, .bool true, .slice (some ⟨w.heap.size, 0, none⟩) 1 1, .int .u64 3, .bool true, .bool true, .slice (some ⟨w.heap.size + 1, 0, none⟩) 1 1, .int .u64 4, .bool true, .bool true, .slice (some ⟨w.heap.size + 2, 0, none⟩) 1 1] 37) := by
    have := blk_new2 ((w.alloc (.cells #[.int .u8 120] 5 (1, 2))).alloc (.cells #[.int .u8 120] 5 (1, 2))) (.cells #[.int .u8 121] 5 (1, 2)) (.cells #[.int .u64 1, .bool true, .bool false, .slice none 0 0, .int .u64 2, .bool true, .bool true, .slice (some ⟨w.heap.size, 0, none⟩) 1 1, .int .u64 3, .bool true, .bool true, .slice (some ⟨w.heap.size + 1, 0, none⟩) 1 1, .int .u64 4, .bool true, .bool true, .slice (some ⟨w.heap.size + 2, 0, none⟩) 1 1] 37)
    simp only [World.size_alloc] at this
    exact this
  refine C_block (d := kSeen) b3 ⟨rfl, fun j p hj => ?_⟩ (by decide)
  rcases j with _ | _ | _ | _ | j
  · obtain rfl : (⟨1, true, false, []⟩ : Seen) = p := by simpa [exS] using hj
    exact kSeen_mk _ ⟨1, true, false, []⟩ (Nat.le_refl _) (Kd.C_nil _ _)
  · obtain rfl : (⟨2, true, true, [120]⟩ : Seen) = p := by simpa [exS] using hj
    exact kSeen_mk _ ⟨2, true, true, [120]⟩ (Nat.le_refl _) (byte_one (x := 120) b0)
  · obtain rfl : (⟨3, true, true, [120]⟩ : Seen) = p := by simpa [exS] using hj
    exact kSeen_mk _ ⟨3, true, true, [120]⟩ (Nat.le_refl _) (byte_one (x := 120) b1)
  · obtain rfl : (⟨4, true, true, [121]⟩ : Seen) = p := by simpa [exS] using hj
    exact kSeen_mk _ ⟨4, true, true, [121]⟩ (Nat.le_refl _) (byte_one (x := 121) b2)
  · simp [exS] at hj
theorem ex_below (w : World) : Below w.heap.size w (exW w) := below_alloc (below_alloc (below_alloc (below_alloc (Below.refl _ _) _) _) _) _
set_option maxHeartbeats 1600000 in
theorem awake_any (w : World) : Calls Try.prog 11 #[] w fun e w' => e = .returned (.bool true) ∧ Below w.heap.size w w' := by
  have hel : exV.length = 3 := rfl
  have kc := fun (w : World) (C : Array Value) (n c : Nat) => Lib.run_convert_bytes_const (P := Try.prog) w 33 5 C n c Try.underlying33 Try.underlying5
  have kc1 := fun (o1 : Obj) (C : Array Value) (n c : Nat) => by have := kc (w.alloc o1) C n c; simp only [World.size_alloc] at this; exact this
  have kc2 := fun (o1 o2 : Obj) (C : Array Value) (n c : Nat) => by have := kc ((w.alloc o1).alloc o2) C n c; simp only [World.size_alloc, Nat.add_assoc, Nat.reduceAdd] at this; exact this
  go_enter Try.func11, Try.ntmps11
  go_wp2_with (first | (go_at_call 14; refine (moments_any (some ⟨w.heap.size + 1 + 1 + 1, 0, none⟩) exS 4 _ rfl (exW w) (ex_reads w) (by decide)).mono ?_; rintro e w1 ⟨v, rfl, ho, hb⟩; obtain ⟨Am, cm, rfl⟩ := Kd.R_slice ho; have HM := Aside0.mk ho; have HB1 := Aside0.mk (below_step (ex_below w) hb); have HE1 := Aside0.mk (Kd.C_below (ex_reads w) hb); clear ho hb) | (go_at_call 15; refine (at_any _ _ rfl).mono ?_; rintro e w2 ⟨rfl, rfl⟩) | (go_at_call 13; refine (of_n Am exS.length (exS.map Seen.moment) rfl cm w1.heap.size _ exS 4 nmA exV _ ex_of (Kd.C_alloc (readsI HM.out) _) (blk_new w1 _) (Kd.C_alloc HE1.out _) (by decide) (by decide)).mono ?_; rintro e w3 ⟨B, c', rfl, ho, hb⟩; have HV := Aside0.mk ho; have HB3 := Aside0.mk (below_step (below_alloc HB1.out _) hb); clear ho hb; have HC := Aside0.mk (readsV HV.out); obtain ⟨ad, D0, d0, rfl, p0, p1, p2, hd0, HD0⟩ := vers_at HC.out (k := 0) (by decide); obtain ⟨_, D1, d1, he1, q0, q1, q2, hd1, HD1⟩ := vers_at HC.out (k := 1) (by decide); cases he1; obtain ⟨_, D2, d2, he2, r0, r1, r2, hd2, HD2⟩ := vers_at HC.out (k := 2) (by decide); cases he2; have HD2' := Aside0.mk HD2; clear hd0 HD0 hd1 HD1 HD2; simp [exV, gt, Addr.add] at p0 p1 p2 q0 q1 q2 r0 r1 r2) | (go_at_call 17; refine (same50 D2 (some ⟨w3.heap.size, 0, none⟩) [121] [121] d2 1 _ (Kd.C_alloc HD2'.out _) (byte_one (x := 121) (blk_new w3 _))).mono ?_; rintro e w4 ⟨rfl, n4, hw4⟩; have HB4 : Aside0 (Below w3.heap.size w3 w4) := ⟨by rw [hw4]; exact pw_below_drewN (below_alloc (Below.refl _ _) _) _⟩; clear hw4) | (go_at_call 19; refine (changed_any (some ad) exV c' [2, 4] rfl w4 (Kd.C_below HC.out HB4.out) (by decide)).mono ?_; rintro e w5 ⟨v5, rfl, ho, hb⟩; obtain ⟨A5, c5, rfl⟩ := Kd.R_slice ho; have H5 := Aside0.mk (readsI ho); have HB5 := Aside0.mk (below_step HB4.out hb); clear ho hb) | (go_at_call 18; refine (same18 A5 (some ⟨w5.heap.size, 0, none⟩) [2, 4] [2, 4] c5 2 _ (Kd.C_alloc H5.out _) (C_block (blk_new w5 _) (reps_two (R := (Kd.int .u64).K _) (x := 2) (y := 4) (c := [.int .u64 2]) (d := [.int .u64 4]) rfl rfl) (by decide))).mono ?_; rintro e w6 ⟨rfl, n6, hw6⟩; have HB6 : Aside0 (Below w5.heap.size w5 w6) := ⟨by rw [hw6]; exact pw_below_drewN (below_alloc (Below.refl _ _) _) _⟩; clear hw6))
  go_ret
  exact ⟨rfl, below_step HB3.out (below_step HB5.out HB6.out)⟩
end Go.Proofs.Ytjogpfijkhhloaa
