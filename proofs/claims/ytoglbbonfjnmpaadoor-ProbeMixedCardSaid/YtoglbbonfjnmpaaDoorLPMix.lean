/-
  ProbeMixed, walked: it returns true.
-/
import Derived.Test.YtoglbbonfjnmpaaDoorPm
import Derived.Test.YtoglbbonfjnmpaaDoorPj
namespace Go.Proofs.YtoglbbonfjnmpaaDoor
open Go.RowKit Go.Proofs.YtoglbbonfjnmpaaDoorW.PrintWords Go.Proofs.YtoglbbonfjnmpaaDoorW.PrintLast Go.Proofs.YtoglbbonfjnmpaaDoorW.PrintMore
set_option linter.unusedVariables false
set_option linter.unusedSimpArgs false

theorem bits_xor51 (a b : UInt8) : bits .xor .u8 (a.toNat : Int) (b.toNat : Int) = (((a ^^^ b : UInt8).toNat : Nat) : Int) := by
  have ha := a.toNat_lt
  have hb := b.toNat_lt
  have hx : a.toNat ^^^ b.toNat < 2 ^ 8 := Nat.xor_lt_two_pow (by omega) (by omega)
  have h1 : (BitVec.ofInt 8 (a.toNat : Int)).toNat = a.toNat := by
    rw [BitVec.ofInt_natCast, BitVec.toNat_ofNat]; exact Nat.mod_eq_of_lt (by omega)
  have h2 : (BitVec.ofInt 8 (b.toNat : Int)).toNat = b.toNat := by
    rw [BitVec.ofInt_natCast, BitVec.toNat_ofNat]; exact Nat.mod_eq_of_lt (by omega)
  show IntKind.u8.wrap ((BitVec.ofInt 8 (a.toNat : Int) ^^^ BitVec.ofInt 8 (b.toNat : Int)).toNat : Int) = _
  rw [BitVec.toNat_xor, h1, h2, UInt8.toNat_xor]
  exact IntWalk.u8_in _ (by omega)
set_option maxRecDepth 4000 in
set_option maxHeartbeats 3200000 in
theorem law_pmixed (A : Option Addr) (xs : List UInt8) (c : Nat) (key : UInt8) (tn : Nat) (htn : tn ≤ 65535) (w : World) (h : byte.C w A xs.length xs) (he : EndAt w) (hn : NumAt w) :
    Calls Tryd.prog 7 #[.slice A xs.length c, .int .u8 (key.toNat : Int), .int .u16 (tn : Int)] w fun e w' => e = .returned (.bool true) ∧ Below w.heap.size w w' := by
  have hmx := Kd.C_max h
  have HE := Aside0.mk he
  have HNM := Aside0.mk hn
  have HX := Aside0.mk h
  clear h he hn
  obtain ⟨n, hn⟩ : ∃ n, n = xs.length := ⟨_, rfl⟩
  rw [← hn] at HX hmx ⊢
  have HN := Aside0.mk hn
  by_cases h0 : n = 0
  · subst h0
    clear hn
    go_enter Tryd.func7, Tryd.ntmps7
    go_wp2_with (go_at_call 12; refine (awake_any _ HE.out HNM.out).mono ?_; rintro e w1 ⟨rfl, hb⟩; have HB1 := Aside0.mk hb; clear hb)
    go_ret
    exact ⟨rfl, HB1.out⟩
  · by_cases h500 : 500 < n
    · have h500' : (500 : Int) < (n : Int) := by omega
      have h0' : ((n : Int) == 0) = false := by simp; omega
      clear hn
      go_enter Tryd.func7, Tryd.ntmps7
      go_wp2_with (go_at_call 12; refine (awake_any _ HE.out HNM.out).mono ?_; rintro e w1 ⟨rfl, hb⟩; have HB1 := Aside0.mk hb; clear hb)
      go_ret
      exact ⟨rfl, HB1.out⟩
    · have h500' : ¬ (500 : Int) < (n : Int) := by omega
      have h0' : ((n : Int) == 0) = false := by simp; omega
      have h0n : (n : Int) ≠ 0 := by omega
      have hkn : tn % n < n := Nat.mod_lt _ (by omega)
      obtain ⟨k, hk⟩ : ∃ k, k = tn % n := ⟨_, rfl⟩
      rw [← hk] at hkn
      have hrem : IntKind.i64.wrap ((tn : Int).tmod (n : Int)) = (k : Int) := by rw [hk, ← Int.ofNat_tmod, IntWalk.i64_in _ (by have := Nat.mod_lt tn (show n > 0 by omega); omega)]
      have hrem2 : (tn : Int).tmod (n : Int) = (k : Int) := by rw [hk]; exact (Int.ofNat_tmod _ _).symm
      have HSX := Aside0.mk (turn_spread xs key k (by rw [← hn]; exact hkn))
      clear hn hk
      go_enter Tryd.func7, Tryd.ntmps7
      go_wp2_with (go_at_call 12; refine (awake_any _ HE.out HNM.out).mono ?_; rintro e w1 ⟨rfl, hb⟩; have HB1 := Aside0.mk hb; clear hb)
      go_loopg [28, 7, 9] n (fun gk i v7 _ wr => ∃ q : Nat, q ≤ n ∧ Aside0 (gk = n - q) ∧ i = .int .i64 q ∧ Aside0 (byte.R 5 wr w.heap.size (fun _ => True) v7 (turnTo xs key k q)) ∧ Aside0 (Below w.heap.size w wr))
      case atStart => exact ⟨0, Nat.zero_le _, ⟨rfl⟩, rfl, ⟨Kd.R_nil _ _ _ _ _⟩, HB1⟩
      case round =>
        obtain ⟨q, hq, HGK, rfl, HR, HB⟩ := hrel
        by_cases hlt : q < n
        · have hlt' : (q : Int) < (n : Int) := by omega
          obtain ⟨j, hj⟩ : ∃ j, j = (q + k) % n := ⟨_, rfl⟩
          have hjn : j < n := by rw [hj]; exact Nat.mod_lt _ (by omega)
          have hr1 : ((q : Int) + (k : Int)).tmod (n : Int) = (j : Int) := by rw [hj, ← Int.natCast_add]; exact (Int.ofNat_tmod _ _).symm
          have hj0 : (0 : Int) ≤ (j : Int) := by omega
          have hj1 : (j : Int) < (n : Int) := by omega
          obtain ⟨ad, rfl, g0⟩ := byte_at (Kd.C_below HX.out HB.out) hjn
          obtain ⟨y, hy⟩ : ∃ y, y = gt xs j := ⟨_, rfl⟩
          rw [← hy] at g0
          obtain ⟨z, hz⟩ : ∃ z, z = y ^^^ key := ⟨_, rfl⟩
          have hxor : bits .xor .u8 (y.toNat : Int) (key.toNat : Int) = (z.toNat : Int) := by rw [bits_xor51, hz]
          have HTS : Aside0 (turnTo xs key k (q + 1) = turnTo xs key k q ++ [z]) := ⟨by rw [turn_succ, hz, hy, hj, ← HN.out]⟩
          have HLEN : Aside0 ((turnTo xs key k q).length = q) := ⟨turn_len xs key k q⟩
          clear hj hy hz
          go_wp2_with ((with_reducible refine gate_builtin (b := .append) (xs := #[.tmp 31, .tmp 43]) rfl ?_); at_builtin; refine Kd.R_append byte (w0 := w) w.heap.size rfl (.tmp 31) (.tmp 43) 22 5 (.int .u8 0) 1 rfl Tryd.underlying22 info_byte rfl (by first | decide | exact Nat.succ_pos _) (by omega) _ (turnTo xs key k q) z [.int .u8 (z.toNat : Int)] (fun _ => True) (fun _ => False) rfl ?aX1 ?aP1 (fun _ hk => hk.elim) ?aF1 ?aO1 ?aB1 ?aS1 ?aL1 ?_; (case aX1 => first | rfl | (go_simp; done) | (simp [go_sem]; done)); (case aP1 => exact rfl); (case aB1 => exact HB.out); (case aF1 => exact (fun _ _ => trivial)); (case aO1 => exact HR.out); (case aS1 => exact (HB.out).size); (case aL1 => (rw [HLEN.out]; omega)); intro v1 w1 ho1 hb1 hg1 hat1; have HO := Aside0.mk ho1; have HB1 := Aside0.mk hb1; clear ho1 hb1 hg1 hat1)
          go_roundg (n - (q + 1))
          case measure => have := HGK.out; omega
          case rel => exact ⟨q + 1, by omega, ⟨rfl⟩, by go_num, ⟨by rw [HTS.out]; exact HO.out⟩, HB1⟩
        · have hqn : q = n := by omega
          subst hqn
          obtain ⟨Ax, cx, rfl⟩ : ∃ A c, u7 = .slice A q c := by
            obtain ⟨A, c, e⟩ := Kd.R_slice HR.out
            exact ⟨A, c, by rw [e, turn_len]⟩
          obtain ⟨s, hs⟩ : ∃ s, spreadN xs = s := ⟨_, rfl⟩
          obtain ⟨b, hb⟩ : ∃ b, wildB xs = b := ⟨_, rfl⟩
          obtain ⟨X, hX⟩ : ∃ X, X = turnTo xs key k q := ⟨_, rfl⟩
          have hXL : q = X.length := by rw [hX, turn_len]
          have HXL := Aside0.mk hXL
          have HXC : Aside0 (byte.C wr Ax q X) := ⟨by have := (Kd.R_reads' HR.out).2.2; rw [turn_len, ← hX] at this; exact this⟩
          have HS := Aside0.mk hs
          have HW := Aside0.mk hb
          have HSXX : Aside0 (spreadN X = s) := ⟨by rw [hX, ← hs, HN.out]; exact HSX.out⟩
          have HWX : Aside0 (wildB X = b) := ⟨by rw [← hb]; exact wild_of (by rw [HSXX.out, hs]) (by rw [← hXL, ← HN.out]) (by rw [← hXL, ← HN.out])⟩
          have HST : Aside0 (spreadN (xs ++ xs) = s) := ⟨by rw [← hs]; exact spread_same (fun x => by simp)⟩
          obtain ⟨m, hm⟩ : ∃ m, m = 2 * q := ⟨_, rfl⟩
          have HTL : Aside0 (m = (xs ++ xs).length) := ⟨by rw [List.length_append, ← HN.out]; omega⟩
          have hm1 : m ≤ 1000 := by omega
          have HWT : Aside0 (64 ≤ q → wildB (xs ++ xs) = b) := ⟨fun h => by rw [← hb]; exact wild_of (by rw [HST.out, hs]) (by rw [← HTL.out, ← HN.out]; omega) (by rw [← HTL.out, ← HN.out]; omega)⟩
          have hs1 : s ≤ q := by rw [HN.out, ← hs]; exact spread_le xs
          have hs2 : s ≤ 256 := by rw [← hs]; exact spread_256 xs
          have HXd := Aside0.mk (Kd.C_below HX.out HB.out)
          obtain ⟨N, hN⟩ : ∃ N, N = wr.heap.size := ⟨_, rfl⟩
          have HO0 : Aside0 (byte.R 5 (wr.alloc (.cells #[] 5)) w.heap.size (fun z => N ≤ z) (.slice (some ⟨wr.heap.size, 0, none⟩) 0 0) []) := ⟨byteR_lit' wr w.heap.size (fun z => N ≤ z) [] HB.out.size (by simp) (by omega)⟩
          have HB2 := Aside0.mk (below_alloc HB.out (.cells #[] 5))
          have HXd2 := Aside0.mk (Kd.C_below HX.out HB2.out)
          have HRX : Aside0 (byte.R 5 (wr.alloc (.cells #[] 5)) w.heap.size (fun z => z < N) (.slice Ax q cx) X) := ⟨Kd.R_alloc (by have := Kd.R_mono (Kd.R_bound HR.out) (ok' := fun z => z < N) (fun z hz => by rw [hN]; exact hz.2.2.1); rw [← hX] at this; exact this) _⟩
          have HFR : Aside0 (∀ z, (wr.alloc (.cells #[] 5)).heap.size ≤ z → N ≤ z) := ⟨fun z hz => by rw [World.size_alloc] at hz; omega⟩
          have HNN := Aside0.mk hN
          have hsl : 2 * q ≤ 1000 := by omega
          clear hs hb hX hXL HSX hN hm
          go_wp2_with (first | ((with_reducible refine gate_builtin (b := .append) (xs := #[.tmp 46, .tmp 47]) rfl ?_); at_builtin; refine Kd.R_append_rows byte (Rr := byte.K (wr.alloc (.cells #[] 5))) (w0 := w) w.heap.size rfl (.tmp 46) (.tmp 47) 22 5 (.int .u8 0) 1 rfl Tryd.underlying22 info_byte rfl (by decide) (by omega) _ [] xs A q c (fun z => N ≤ z) (fun _ => False) rfl rfl HO0.out HXd2.out (fun _ _ hx => hx) (fun _ hk => hk.elim) HFR.out HB2.out HB2.out.size (by simp; omega) ?_; intro v2 w2 ho hb hg hat; have HO2 := Aside0.mk ho; have HB3 := Aside0.mk hb; have HXd3 := Aside0.mk (Kd.C_below HX.out hb); have HRX3 := Aside0.mk (Kd.R_grown HRX.out hg (fun z hz e => by have h1 := HO0.out.1 z e.symm; have h2 : z < N := hz; omega)); have HFR3 : Aside0 (∀ z, w2.heap.size ≤ z → N ≤ z) := ⟨fun z hz => by have h1 := hg.size; have h2 := HFR.out z (Nat.le_trans h1 hz); exact h2⟩; clear ho hb hg hat) | ((with_reducible refine gate_builtin (b := .append) (xs := #[.tmp 48, .tmp 49]) rfl ?_); at_builtin; refine Kd.R_append_rows byte (Rr := byte.K w2) (w0 := w) w.heap.size rfl (.tmp 48) (.tmp 49) 22 5 (.int .u8 0) 1 rfl Tryd.underlying22 info_byte rfl (by decide) (by omega) v2 ([] ++ xs) xs A q c (fun z => N ≤ z) (fun _ => False) rfl rfl HO2.out HXd3.out (fun _ _ hx => hx) (fun _ hk => hk.elim) HFR3.out HB3.out HB3.out.size (by rw [List.nil_append, ← HN.out]; omega) ?_; intro v3 w3 ho hb hg hat; rw [List.nil_append] at ho; obtain ⟨At, ct, rfl⟩ : ∃ A c, v3 = .slice A m c := (by obtain ⟨A, c, e⟩ := Kd.R_slice ho; exact ⟨A, c, by rw [e, ← HTL.out]⟩); have HTC := Aside0.mk (Kd.R_reads' ho).2.2; rw [← HTL.out] at HTC; have HXC := Aside0.mk (Kd.R_reads' (Kd.R_grown HRX3.out hg (fun z hz e => by have h1 := HO2.out.1 z e.symm; have h2 : z < N := hz; omega))).2.2; rw [← HXL.out] at HXC; have HXA := Aside0.mk (Kd.C_below HX.out hb); have HB4 := Aside0.mk hb; have HBc := Aside0.mk (Below.refl w3.heap.size w3); clear ho hb hg hat))
          have hsq : (s : Int) ≤ (q : Int) := by omega
          have hs256 : (s : Int) ≤ 256 := by omega
          by_cases h64 : q < 64
          · have h64' : (q : Int) < 64 := by omega
            go_wp2_with (first | (go_at_call_of 15 (Value.slice Ax q cx); refine (spread_as Ax X q HXL.out cx s HSXX.out _ (Kd.C_below HXC.out HBc.out) (by omega)).mono ?_; rintro e wq ⟨rfl, hb⟩; have HBn := Aside0.mk (below_step HBc.out hb); clear hb HBc; have HBc := HBn; clear HBn) | (go_at_call_of 15 (Value.slice A q c); refine (spread_as A xs q HN.out c s HS.out _ (Kd.C_below HXA.out HBc.out) (by omega)).mono ?_; rintro e wq ⟨rfl, hb⟩; have HBn := Aside0.mk (below_step HBc.out hb); clear hb HBc; have HBc := HBn; clear HBn) | (go_at_call_of 15 (Value.slice At m ct); refine (spread_as At (xs ++ xs) m HTL.out ct s HST.out _ (Kd.C_below HTC.out HBc.out) (by omega)).mono ?_; rintro e wq ⟨rfl, hb⟩; have HBn := Aside0.mk (below_step HBc.out hb); clear hb HBc; have HBc := HBn; clear HBn) | (go_at_call_of 17 (Value.slice Ax q cx); refine (wild_as Ax X q HXL.out cx b HWX.out _ (Kd.C_below HXC.out HBc.out) (by omega)).mono ?_; rintro e wq ⟨rfl, hb⟩; have HBn := Aside0.mk (below_step HBc.out hb); clear hb HBc; have HBc := HBn; clear HBn) | (go_at_call_of 17 (Value.slice A q c); refine (wild_as A xs q HN.out c b HW.out _ (Kd.C_below HXA.out HBc.out) (by omega)).mono ?_; rintro e wq ⟨rfl, hb⟩; have HBn := Aside0.mk (below_step HBc.out hb); clear hb HBc; have HBc := HBn; clear HBn) | (go_at_call_of 17 (Value.slice At m ct); refine (wild_as At (xs ++ xs) m HTL.out ct b HWT2.out _ (Kd.C_below HTC.out HBc.out) (by omega)).mono ?_; rintro e wq ⟨rfl, hb⟩; have HBn := Aside0.mk (below_step HBc.out hb); clear hb HBc; have HBc := HBn; clear HBn))
            go_ret
            exact ⟨rfl, below_step HB4.out HBc.out⟩
          · have h64' : ¬ (q : Int) < 64 := by omega
            have HWT2 : Aside0 (wildB (xs ++ xs) = b) := ⟨HWT.out (by omega)⟩
            go_wp2_with (first | (go_at_call_of 15 (Value.slice Ax q cx); refine (spread_as Ax X q HXL.out cx s HSXX.out _ (Kd.C_below HXC.out HBc.out) (by omega)).mono ?_; rintro e wq ⟨rfl, hb⟩; have HBn := Aside0.mk (below_step HBc.out hb); clear hb HBc; have HBc := HBn; clear HBn) | (go_at_call_of 15 (Value.slice A q c); refine (spread_as A xs q HN.out c s HS.out _ (Kd.C_below HXA.out HBc.out) (by omega)).mono ?_; rintro e wq ⟨rfl, hb⟩; have HBn := Aside0.mk (below_step HBc.out hb); clear hb HBc; have HBc := HBn; clear HBn) | (go_at_call_of 15 (Value.slice At m ct); refine (spread_as At (xs ++ xs) m HTL.out ct s HST.out _ (Kd.C_below HTC.out HBc.out) (by omega)).mono ?_; rintro e wq ⟨rfl, hb⟩; have HBn := Aside0.mk (below_step HBc.out hb); clear hb HBc; have HBc := HBn; clear HBn) | (go_at_call_of 17 (Value.slice Ax q cx); refine (wild_as Ax X q HXL.out cx b HWX.out _ (Kd.C_below HXC.out HBc.out) (by omega)).mono ?_; rintro e wq ⟨rfl, hb⟩; have HBn := Aside0.mk (below_step HBc.out hb); clear hb HBc; have HBc := HBn; clear HBn) | (go_at_call_of 17 (Value.slice A q c); refine (wild_as A xs q HN.out c b HW.out _ (Kd.C_below HXA.out HBc.out) (by omega)).mono ?_; rintro e wq ⟨rfl, hb⟩; have HBn := Aside0.mk (below_step HBc.out hb); clear hb HBc; have HBc := HBn; clear HBn) | (go_at_call_of 17 (Value.slice At m ct); refine (wild_as At (xs ++ xs) m HTL.out ct b HWT2.out _ (Kd.C_below HTC.out HBc.out) (by omega)).mono ?_; rintro e wq ⟨rfl, hb⟩; have HBn := Aside0.mk (below_step HBc.out hb); clear hb HBc; have HBc := HBn; clear HBn))
            go_ret
            exact ⟨rfl, below_step HB4.out HBc.out⟩
end Go.Proofs.YtoglbbonfjnmpaaDoor
