/-
  Chapter 51, names and their endings, good beginnings: plain, and the small functions of both sides.
-/
import Derived.Test.YtoglbbonfjnmpaaDoorPa
namespace Go.Proofs.YtoglbbonfjnmpaaDoor
open Go.RowKit Go.Proofs.YtoglbbonfjnmpaaDoorW.PrintWords Go.Proofs.YtoglbbonfjnmpaaDoorW.PrintLast Go.Proofs.YtoglbbonfjnmpaaDoorW.PrintMore
set_option linter.unusedVariables false
set_option linter.unusedSimpArgs false

/-- The last point among the first k bytes of a name; -1. -/
def dotTo (s : ByteArray) : Nat → Int
  | 0 => -1
  | k + 1 => if bt s (k : Int) = 46 then (k : Int) else dotTo s k
def dotAt (s : ByteArray) : Int := dotTo s s.size
theorem dotTo_hit {s : ByteArray} {k : Nat} (h : bt s (k : Int) = 46) : dotTo s (k + 1) = (k : Int) := by unfold dotTo; rw [if_pos h]
theorem dotTo_miss {s : ByteArray} {k : Nat} (h : ¬ bt s (k : Int) = 46) : dotTo s (k + 1) = dotTo s k := by
  show (if bt s (k : Int) = 46 then (k : Int) else dotTo s k) = _
  rw [if_neg h]
theorem dotTo_lt (s : ByteArray) (k : Nat) : -1 ≤ dotTo s k ∧ dotTo s k < k := by
  induction k with
  | zero => simp [dotTo]
  | succ k ih =>
    unfold dotTo
    split <;> omega
set_option maxHeartbeats 800000 in
theorem lastb_any (s : ByteArray) (r : Int) (hr : dotAt s = r) (w : World) (hs : s.size ≤ 1000000) :
    Calls Tryd.prog 73 #[.string s, .int .u8 46] w fun e w' => e = .returned (.int .i64 r) ∧ w = w' := by
  have HR := Aside0.mk hr
  clear hr
  go_enter Tryd.func73, Tryd.ntmps73
  go_wp2
  go_loopg [5] s.size (fun gk i wr => ∃ k : Nat, k ≤ s.size ∧ Aside0 (gk = k) ∧ i = .int .i64 ((k : Int) - 1) ∧ Aside0 (dotTo s k = r) ∧ wr = w)
  case atStart => exact ⟨s.size, Nat.le_refl _, ⟨rfl⟩, by go_num, HR, rfl⟩
  case round =>
    obtain ⟨k, hk, HGK, rfl, HT, rfl⟩ := hrel
    rcases k with _ | k
    · have HE : Aside0 (r = -1) := ⟨HT.out.symm⟩
      go_wp2
      go_ret
      exact ⟨by rw [HE.out]; rfl, rfl⟩
    · have e0 : ((k + 1 : Nat) : Int) - 1 = (k : Int) := by omega
      rw [e0]
      obtain ⟨ch, hc⟩ : ∃ ch, bt s (k : Int) = ch := ⟨_, rfl⟩
      have hx : ∀ h : k < s.size, ((s[k]'h).toNat : Int) = ch := fun h => by have := bt_at s (k : Int) (by simpa using h); rw [← hc, ← this]; rfl
      have hks : (k : Int) < (s.size : Int) := by omega
      by_cases h46 : ch = 46
      · have HE : Aside0 (r = (k : Int)) := ⟨by rw [← HT.out, dotTo_hit (by rw [hc]; exact h46)]⟩
        subst h46
        clear hc
        go_wp2
        go_ret
        exact ⟨by rw [HE.out]; rfl, rfl⟩
      · have HE : Aside0 (dotTo s k = r) := ⟨by rw [← HT.out, dotTo_miss (by rw [hc]; exact h46)]⟩
        have h46' : (ch == 46) = false := by simpa using h46
        clear hc
        go_wp2
        go_roundg k
        case measure => have := HGK.out; omega
        case rel => exact ⟨k, by omega, ⟨rfl⟩, by go_num, HE, rfl⟩
theorem last_any (s : ByteArray) (r : Int) (hr : dotAt s = r) (w : World) (hs : s.size ≤ 1000000) :
    Calls Tryd.prog 65 #[.string s, .int .u8 46] w fun e w' => e = .returned (.int .i64 r) ∧ w = w' := by
  go_enter Tryd.func65, Tryd.ntmps65
  go_wp2_with (go_at_call 73; refine (lastb_any s r hr w hs).mono ?_; rintro e w1 ⟨rfl, rfl⟩)
  go_ret
  exact ⟨rfl, rfl⟩
/-- What stands behind the last point of a name. -/
def endB (s : ByteArray) : ByteArray := if dotAt s < 0 then ⟨#[]⟩ else s.extract (dotAt s + 1).toNat s.size
set_option maxHeartbeats 800000 in
theorem ending_any (s e0 : ByteArray) (hr : endB s = e0) (w : World) (hs : s.size ≤ 1000000) :
    Calls Tryd.prog 59 #[.string s] w fun e w' => e = .returned (.string e0) ∧ w = w' := by
  obtain ⟨d, hd⟩ : ∃ d, dotAt s = d := ⟨_, rfl⟩
  have HR : Aside0 ((if d < 0 then ⟨#[]⟩ else s.extract (d + 1).toNat s.size) = e0) := ⟨by rw [← hr, ← hd]; rfl⟩
  have HD := Aside0.mk hd
  clear hr hd
  go_enter Tryd.func59, Tryd.ntmps59
  go_wp2
  go_loopg [3] s.size (fun gk i wr => ∃ k : Nat, k ≤ s.size ∧ Aside0 (gk = k) ∧ i = .int .i64 ((k : Int) - 1) ∧ Aside0 (dotTo s k = d) ∧ wr = w)
  case atStart => exact ⟨s.size, Nat.le_refl _, ⟨rfl⟩, by go_num, HD, rfl⟩
  case round =>
    obtain ⟨k, hk, HGK, rfl, HT, rfl⟩ := hrel
    rcases k with _ | k
    · have HE : Aside0 (e0 = ⟨#[]⟩) := ⟨by rw [← HR.out, ← HT.out]; rfl⟩
      go_wp2
      go_ret
      exact ⟨by rw [HE.out]; rfl, rfl⟩
    · have e0' : ((k + 1 : Nat) : Int) - 1 = (k : Int) := by omega
      rw [e0']
      obtain ⟨ch, hc⟩ : ∃ ch, bt s (k : Int) = ch := ⟨_, rfl⟩
      have hx : ∀ h : k < s.size, ((s[k]'h).toNat : Int) = ch := fun h => by have := bt_at s (k : Int) (by simpa using h); rw [← hc, ← this]; rfl
      have hks : (k : Int) < (s.size : Int) := by omega
      by_cases h46 : ch = 46
      · have HE : Aside0 (e0 = s.extract (k + 1) s.size) := ⟨by
          have hdk : d = (k : Int) := by rw [← HT.out, dotTo_hit (by rw [hc]; exact h46)]
          rw [← HR.out, hdk, if_neg (by omega)]
          congr 1⟩
        subst h46
        clear hc
        go_wp2
        go_ret
        exact ⟨by rw [HE.out]; rfl, rfl⟩
      · have HE : Aside0 (dotTo s k = d) := ⟨by rw [← HT.out, dotTo_miss (by rw [hc]; exact h46)]⟩
        have h46' : (ch == 46) = false := by simpa using h46
        clear hc
        go_wp2
        go_roundg k
        case measure => have := HGK.out; omega
        case rel => exact ⟨k, by omega, ⟨rfl⟩, by go_num, HE, rfl⟩
/-! ### good beginnings -/
def sPdf : ByteArray := ⟨#[112, 100, 102]⟩
def sZip : ByteArray := ⟨#[122, 105, 112]⟩
def sPng : ByteArray := ⟨#[112, 110, 103]⟩
def sElf : ByteArray := ⟨#[101, 108, 102]⟩
/-- Which of the endings a string is; none of them: -1. -/
def kindOf (e : ByteArray) : Int := if e = sPdf then 0 else if e = sZip then 1 else if e = sPng then 2 else if e = sElf then 3 else -1
def magicK : Nat → List UInt8
  | 0 => [37, 80, 68, 70]
  | 1 => [80, 75, 3, 4]
  | 2 => [137, 80, 78, 71]
  | _ => [127, 69, 76, 70]
theorem magicK_len (k : Nat) : (magicK k).length = 4 := by
  unfold magicK
  split <;> rfl
/-- The good beginning of an ending; nothing, if it has none. -/
def magicB51 (e : ByteArray) : List UInt8 := if kindOf e < 0 then [] else magicK (kindOf e).toNat
theorem str_eql (a b : ByteArray) : (a.toList == b.toList) = decide (a = b) := by
  rw [ByteArray.toList_eq, ByteArray.toList_eq, Bool.eq_iff_iff]
  simp only [beq_iff_eq, decide_eq_true_eq]
  constructor
  · intro h
    have : a.data = b.data := Array.toList_inj.1 h
    cases a; cases b; cases this; rfl
  · rintro rfl; rfl
theorem str_ne {e s : ByteArray} {l : List UInt8} (hs : s.data.toList = l) (h : e ≠ s) : (e.toList == l) = false := by
  subst hs
  rw [← ByteArray.toList_eq s, str_eql]
  exact decide_eq_false h
theorem str_is {e s : ByteArray} {l : List UInt8} (hs : s.data.toList = l) (h : e = s) : (e.toList == l) = true := by
  subst hs h
  rw [← ByteArray.toList_eq e]
  simp
theorem kind_cases (e : ByteArray) : (e = sPdf ∧ kindOf e = 0) ∨ (e = sZip ∧ kindOf e = 1) ∨ (e = sPng ∧ kindOf e = 2) ∨ (e = sElf ∧ kindOf e = 3) ∨ (e ≠ sPdf ∧ e ≠ sZip ∧ e ≠ sPng ∧ e ≠ sElf ∧ kindOf e = -1) := by
  unfold kindOf
  by_cases h0 : e = sPdf
  · exact .inl ⟨h0, by rw [if_pos h0]⟩
  by_cases h1 : e = sZip
  · exact .inr (.inl ⟨h1, by rw [if_neg h0, if_pos h1]⟩)
  by_cases h2 : e = sPng
  · exact .inr (.inr (.inl ⟨h2, by rw [if_neg h0, if_neg h1, if_pos h2]⟩))
  by_cases h3 : e = sElf
  · exact .inr (.inr (.inr (.inl ⟨h3, by rw [if_neg h0, if_neg h1, if_neg h2, if_pos h3]⟩)))
  exact .inr (.inr (.inr (.inr ⟨h0, h1, h2, h3, by rw [if_neg h0, if_neg h1, if_neg h2, if_neg h3]⟩)))
theorem byteR_lit (w : World) (base : Nat) (M : List UInt8) (hb : base ≤ w.heap.size) (hm : M.length ≤ 9223372036854775807) : byte.R 5 (w.alloc (.cells (bytesV M).toArray 5)) base (fun _ => True) (.slice (some ⟨w.heap.size, 0, none⟩) M.length M.length) M := by
  refine ⟨fun k hk => trivial, bytesV M, ?_, ?_⟩
  · have hl : (bytesV M).length = M.length := by simp [bytesV]
    have h2 := World.ownsRow_lit (base := base) (e := 5) (size := 1) w (bytesV M).toArray M.length hb (by simpa [maxLen] using hm) (by simp [hl])
    have h3 : (bytesV M).toArray.toList = bytesV M := by simp
    rw [h3] at h2
    exact h2
  · rw [← encs_bytes]
    exact Kd.reps_scalar M
set_option maxHeartbeats 1600000 in
theorem rmagic_any (e : ByteArray) (M : List UInt8) (hM : magicB51 e = M) (w : World) :
    Calls Tryd.prog 14 #[.string e] w fun e w' => ∃ v, e = .returned v ∧ byte.R 5 w' w.heap.size (fun _ => True) v M ∧ Below w.heap.size w w' := by
  rcases kind_cases e with ⟨rfl, hk⟩ | ⟨rfl, hk⟩ | ⟨rfl, hk⟩ | ⟨rfl, hk⟩ | ⟨h0, h1, h2, h3, hk⟩
  · have HM : Aside0 (M = [37, 80, 68, 70]) := ⟨by rw [← hM]; unfold magicB51; rw [hk]; rfl⟩
    clear hk hM
    unfold sPdf
    go_enter Tryd.func14, Tryd.ntmps14
    (go_wp2; go_ret; refine ⟨_, rfl, ?_, below_alloc (Below.refl _ _) _⟩; rw [HM.out]; exact byteR_lit w w.heap.size [37, 80, 68, 70] (Nat.le_refl _) (by decide))
  · have HM : Aside0 (M = [80, 75, 3, 4]) := ⟨by rw [← hM]; unfold magicB51; rw [hk]; rfl⟩
    clear hk hM
    unfold sZip
    go_enter Tryd.func14, Tryd.ntmps14
    (go_wp2; go_ret; refine ⟨_, rfl, ?_, below_alloc (Below.refl _ _) _⟩; rw [HM.out]; exact byteR_lit w w.heap.size [80, 75, 3, 4] (Nat.le_refl _) (by decide))
  · have HM : Aside0 (M = [137, 80, 78, 71]) := ⟨by rw [← hM]; unfold magicB51; rw [hk]; rfl⟩
    clear hk hM
    unfold sPng
    go_enter Tryd.func14, Tryd.ntmps14
    (go_wp2; go_ret; refine ⟨_, rfl, ?_, below_alloc (Below.refl _ _) _⟩; rw [HM.out]; exact byteR_lit w w.heap.size [137, 80, 78, 71] (Nat.le_refl _) (by decide))
  · have HM : Aside0 (M = [127, 69, 76, 70]) := ⟨by rw [← hM]; unfold magicB51; rw [hk]; rfl⟩
    clear hk hM
    unfold sElf
    go_enter Tryd.func14, Tryd.ntmps14
    (go_wp2; go_ret; refine ⟨_, rfl, ?_, below_alloc (Below.refl _ _) _⟩; rw [HM.out]; exact byteR_lit w w.heap.size [127, 69, 76, 70] (Nat.le_refl _) (by decide))
  · have HM : Aside0 (M = []) := ⟨by rw [← hM]; unfold magicB51; rw [hk]; rfl⟩
    clear hk hM
    have q0 : (e.toList == [112, 100, 102]) = false := str_ne rfl h0
    have q1 : (e.toList == [122, 105, 112]) = false := str_ne rfl h1
    have q2 : (e.toList == [112, 110, 103]) = false := str_ne rfl h2
    have q3 : (e.toList == [101, 108, 102]) = false := str_ne rfl h3
    go_enter Tryd.func14, Tryd.ntmps14
    go_wp2
    go_ret
    exact ⟨_, rfl, by rw [HM.out]; exact Kd.R_nil _ _ _ _ _, Below.refl _ _⟩
theorem string_at {w : World} {A : Option Addr} {n : Nat} {xs : List ByteArray} (h : Kd.string.C w A n xs) {k : Nat} (hk : k < n) : ∃ ad, A = some ad ∧ w.cell? (ad.add k) = some (.string (gt xs k)) := by
  obtain ⟨ad, cs, e, hK, hc⟩ := C_at h hk
  have hK' : cs = [.string (gt xs k)] := hK
  subst hK'
  have h0 : w.cell? (ad.add (k * 1 + 0)) = _ := hc 0 _ rfl
  exact ⟨ad, e, by rwa [Nat.mul_one, Nat.add_zero] at h0⟩
def endL : List ByteArray := [sPdf, sZip, sPng, sElf]
theorem kind_hit {e : ByteArray} {k : Nat} (hk : k < 4) (h : e = gt endL k) : kindOf e = (k : Int) := by
  subst h
  rcases (show k = 0 ∨ k = 1 ∨ k = 2 ∨ k = 3 by omega) with rfl | rfl | rfl | rfl <;> decide
theorem kind_miss {e : ByteArray} (h : ∀ j, j < 4 → e ≠ gt endL j) : kindOf e = -1 := by
  have h0 : e ≠ sPdf := h 0 (by omega)
  have h1 : e ≠ sZip := h 1 (by omega)
  have h2 : e ≠ sPng := h 2 (by omega)
  have h3 : e ≠ sElf := h 3 (by omega)
  unfold kindOf
  rw [if_neg h0, if_neg h1, if_neg h2, if_neg h3]
def EndAt (w : World) : Prop := Kd.string.C w (some ⟨2, 0, none⟩) 4 endL
/-- The four good beginnings, one behind the other. -/
def numL : List UInt8 := magicK 0 ++ magicK 1 ++ magicK 2 ++ magicK 3
def NumAt (w : World) : Prop := byte.C w (some ⟨0, 0, none⟩) 16 numL
theorem add_pl (g o j : Nat) : (⟨g, o, none⟩ : Addr).add j = ⟨g, o + j, none⟩ := by unfold Addr.add; split <;> simp_all
theorem num_row {w : World} (h : NumAt w) (k : Nat) (hk : k < 4) : byte.C w (some ⟨0, k * 4, none⟩) 4 (magicK k) := by
  refine ⟨magicK_len k, by decide, fun _ => ⟨_, rfl, fun j p hj => ?_⟩⟩
  have hj4 : j < 4 := by have := (List.getElem?_eq_some_iff.1 hj).1; rw [magicK_len] at this; exact this
  obtain ⟨ad, e, h0⟩ := byte_at h (k := 4 * k + j) (by omega)
  cases e
  refine ⟨[.int .u8 (p.toNat : Int)], rfl, rfl, fun i u hu => ?_⟩
  rcases i with _ | i
  · simp only [List.getElem?_cons_zero, Option.some.injEq] at hu
    subst hu
    have hp : gt numL (4 * k + j) = p := by
      have hg : (magicK k)[j]? = numL[4 * k + j]? := by
        rcases (show k = 0 ∨ k = 1 ∨ k = 2 ∨ k = 3 by omega) with rfl | rfl | rfl | rfl <;> rcases (show j = 0 ∨ j = 1 ∨ j = 2 ∨ j = 3 by omega) with rfl | rfl | rfl | rfl <;> rfl
      rw [hg] at hj
      unfold gt
      rw [List.getD_eq_getElem?_getD, hj]
      rfl
    rw [hp] at h0
    rw [add_pl] at h0 ⊢
    have e : k * 4 + (j * byte.sz + 0) = 0 + (4 * k + j) := by show k * 4 + (j * 1 + 0) = _; omega
    rw [e]
    exact h0
  · simp at hu
set_option maxHeartbeats 800000 in
theorem idxs_any (A : Option Addr) (e : ByteArray) (r : Int) (hr : kindOf e = r) (w : World) (h : Kd.string.C w A 4 endL) :
    Calls Tryd.prog 66 #[.slice A 4 4, .string e] w fun e w' => e = .returned (.int .i64 r) ∧ w = w' := by
  have HR := Aside0.mk hr
  clear hr
  go_enter Tryd.func66, Tryd.ntmps66
  go_wp2
  go_loopg [8, 5] 4 (fun gk i _ wr => ∃ k : Nat, k ≤ 4 ∧ Aside0 (gk = 4 - k) ∧ i = .int .i64 k ∧ Aside0 (∀ j, j < k → e ≠ gt endL j) ∧ wr = w)
  case atStart => exact ⟨0, by omega, ⟨rfl⟩, rfl, ⟨fun _ h => absurd h (by omega)⟩, rfl⟩
  case round =>
    obtain ⟨k, hk, HGK, rfl, HN, rfl⟩ := hrel
    by_cases hlt : k < 4
    · obtain ⟨ad, rfl, g0⟩ := string_at h hlt
      obtain ⟨x, hx⟩ : ∃ x, x = gt endL k := ⟨_, rfl⟩
      rw [← hx] at g0
      have HX := Aside0.mk hx
      clear hx
      cases he : (e.toList == x.toList)
      · have HE := Aside0.mk he
        go_wp2
        go_roundg (4 - (k + 1))
        case measure => have := HGK.out; omega
        case rel => exact ⟨k + 1, by omega, ⟨rfl⟩, by go_num, ⟨fun j hj hc => by
          by_cases hq : j = k
          · have := HE.out
            rw [hc, hq, ← HX.out] at this
            simp at this
          · exact HN.out j (by omega) hc⟩, rfl⟩
      · have HE := Aside0.mk he
        go_wp2
        go_ret
        refine ⟨?_, rfl⟩
        have h1 := HE.out
        rw [str_eql] at h1
        rw [← HR.out, kind_hit hlt ((of_decide_eq_true h1).trans HX.out)]
        rfl
    · have hk4 : k = 4 := by omega
      have HE : Aside0 (r = -1) := ⟨by rw [← HR.out]; exact kind_miss (fun j hj => HN.out j (by omega))⟩
      go_wp2
      go_ret
      exact ⟨by rw [HE.out]; rfl, rfl⟩
/-- Do bytes begin with others? -/
def begB (xs ys : List UInt8) : Bool := decide (ys.length ≤ xs.length ∧ xs.take ys.length = ys)
theorem C_front {w : World} {A : Option Addr} {n : Nat} {xs : List UInt8} (h : byte.C w A n xs) {m : Nat} (hm : m ≤ n) : byte.C w A (xs.take m).length (xs.take m) := by
  have hl := Kd.C_len h
  exact Kd.C_take (by rw [hl]; exact h) (m := m) (by omega : m ≤ xs.length)
set_option maxHeartbeats 800000 in
theorem bprefix_any (A B : Option Addr) (xs ys : List UInt8) (c1 c2 : Nat) (r : Bool) (hr : begB xs ys = r) (w : World) (h1 : byte.C w A xs.length xs) (hc : xs.length ≤ c1) (h2 : byte.C w B ys.length ys) :
    Calls Tryd.prog 67 #[.slice A xs.length c1, .slice B ys.length c2] w fun e w' => e = .returned (.bool r) ∧ w = w' := by
  obtain ⟨n, hn⟩ : ∃ n, n = xs.length := ⟨_, rfl⟩
  obtain ⟨m, hm⟩ : ∃ m, m = ys.length := ⟨_, rfl⟩
  have hmx1 := Kd.C_max h1
  have hmx2 := Kd.C_max h2
  by_cases hle : m ≤ n
  · have hq := C_front h1 (m := m) (by omega)
    have HEQ := Aside0.mk (bequal A B (xs.take m) ys c1 c2 w hq h2)
    have HLT : Aside0 ((xs.take m).length = m) := ⟨by rw [List.length_take]; omega⟩
    have HR : Aside0 (decide (xs.take m = ys) = r) := ⟨by rw [← hr]; unfold begB; exact decide_eq_decide.mpr ⟨fun h => ⟨by omega, by rw [← hm]; exact h⟩, fun h => by rw [hm]; exact h.2⟩⟩
    rw [HLT.out, ← hm] at HEQ
    rw [← hn, ← hm]
    rw [← hn] at hc hmx1
    rw [← hm] at hmx2
    clear hq hr h1 h2 hn hm HLT
    go_enter Tryd.func67, Tryd.ntmps67
    go_wp2_with (go_at_call 48; refine HEQ.out.mono ?_; rintro e w1 ⟨rfl, rfl⟩)
    go_ret
    exact ⟨ret_bool HR.out, rfl⟩
  · have HR : Aside0 (r = false) := ⟨by rw [← hr]; unfold begB; exact decide_eq_false (fun h => hle (by omega))⟩
    rw [← hn, ← hm]
    rw [← hn] at hmx1
    rw [← hm] at hmx2
    clear hr h1 h2 hn hm
    go_enter Tryd.func67, Tryd.ntmps67
    go_wp2_with fail
    go_ret
    exact ⟨by rw [HR.out]; rfl, rfl⟩
theorem begB_take (xs ys : List UInt8) (h : ys.length ≤ xs.length) : begB xs ys = decide (xs.take ys.length = ys.take ys.length) := by
  unfold begB
  rw [List.take_length]
  exact decide_eq_decide.mpr ⟨fun h => h.2, fun h' => ⟨h, h'⟩⟩
set_option maxHeartbeats 800000 in
theorem begins_any (A B : Option Addr) (xs ys : List UInt8) (c1 c2 : Nat) (r : Bool) (hr : begB xs ys = r) (w : World) (h1 : byte.C w A xs.length xs) (h2 : byte.C w B ys.length ys) :
    Calls Tryd.prog 13 #[.slice A xs.length c1, .slice B ys.length c2] w fun e w' => e = .returned (.bool r) ∧ ∃ q, w' = w.drewN q := by
  have hmx1 := Kd.C_max h1
  have hmx2 := Kd.C_max h2
  by_cases hle : ys.length ≤ xs.length
  · have hle' : ¬ (xs.length : Int) < (ys.length : Int) := by omega
    have HR : Aside0 (decide (xs.take ys.length = ys.take ys.length) = r) := ⟨by rw [← hr, begB_take xs ys hle]⟩
    have H1 := Aside0.mk h1
    have H2 := Aside0.mk h2
    clear hr h1 h2
    go_enter Tryd.func13, Tryd.ntmps13
    go_wp2
    go_loopg [5] ys.length (fun gk i wr => ∃ k : Nat, k ≤ ys.length ∧ Aside0 (gk = ys.length - k) ∧ i = .int .i64 k ∧ Aside0 (xs.take k = ys.take k) ∧ Aside0 (∃ q, wr = w.drewN q))
    case atStart => exact ⟨0, Nat.zero_le _, ⟨rfl⟩, rfl, ⟨by simp⟩, ⟨0, rfl⟩⟩
    case round =>
      obtain ⟨k, hk, HGK, rfl, HT, HW⟩ := hrel
      by_cases hlt : k < ys.length
      · have hlt2 : k < xs.length := by omega
        obtain ⟨a1, rfl, g1⟩ := byte_at (C_drewE H1.out HW.out) hlt2
        obtain ⟨a2, rfl, g2⟩ := byte_at (C_drewE H2.out HW.out) hlt
        have hk1 : (k : Int) < (xs.length : Int) := by omega
        have hk2 : (k : Int) < (ys.length : Int) := by omega
        by_cases he : gt xs k = gt ys k
        · have he' : (((gt xs k).toNat : Int) != ((gt ys k).toNat : Int)) = false := by rw [he]; simp
          have HE := Aside0.mk he
          have HLK := Aside0.mk (And.intro hlt2 hlt)
          clear he
          go_wp2_with fail
          go_quiet (fail)
          go_wp2_with fail
          go_roundg (ys.length - (k + 1))
          case measure => have := HGK.out; omega
          case rel => exact ⟨k + 1, by omega, ⟨rfl⟩, by go_num, ⟨take_step HT.out HLK.out.1 HLK.out.2 HE.out⟩, ⟨drewN_step HW.out _⟩⟩
        · have he' : (((gt xs k).toNat : Int) != ((gt ys k).toNat : Int)) = true := by simpa using fun h => he (byte_inj h)
          have HF : Aside0 (r = false) := ⟨by
            rw [← HR.out]
            refine decide_eq_false fun hc => he ?_
            rw [List.take_length] at hc
            have : gt (xs.take ys.length) k = gt ys k := by rw [hc]
            rw [← this]
            unfold gt
            rw [List.getD_eq_getElem?_getD, List.getD_eq_getElem?_getD, List.getElem?_take_of_lt hlt]⟩
          clear he
          go_wp2_with fail
          go_quiet (fail)
          go_wp2_with fail
          go_ret
          exact ⟨by rw [HF.out]; rfl, drewN_step HW.out _⟩
      · have HE : Aside0 (r = true) := ⟨by
          rw [← HR.out, show ys.length = k by omega]
          exact decide_eq_true HT.out⟩
        go_wp2
        go_ret
        exact ⟨by rw [HE.out]; rfl, HW.out⟩
  · have hle' : (xs.length : Int) < (ys.length : Int) := by omega
    have HR : Aside0 (r = false) := ⟨by rw [← hr]; unfold begB; exact decide_eq_false (fun h => hle h.1)⟩
    go_enter Tryd.func13, Tryd.ntmps13
    go_wp2
    go_ret
    exact ⟨by rw [HR.out]; rfl, 0, rfl⟩
end Go.Proofs.YtoglbbonfjnmpaaDoor
