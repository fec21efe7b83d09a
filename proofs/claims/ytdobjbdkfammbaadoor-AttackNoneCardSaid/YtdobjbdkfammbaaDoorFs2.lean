/-
  Chapter 49, fs.together: whether files may stand together: each is right, no name twice. A map of names.
-/
import Derived.Test.YtdobjbdkfammbaaDoorFs1
import Derived.Maps.OwnSet
import Derived.Maps.Views
import Derived.StringKeys
namespace Go.Proofs.YtdobjbdkfammbaaDoor
open Go.RowKit Go.Proofs.YtdobjbdkfammbaaDoorW.PrintWords Go.Proofs.YtdobjbdkfammbaaDoorW.PrintLast Go.Proofs.YtdobjbdkfammbaaDoorW.PrintMore
set_option linter.unusedVariables false
set_option linter.unusedSimpArgs false

/-- A map of the call's own that holds just these names. -/
def Names (w : World) (b n : Nat) (L : List (List UInt8)) : Prop := ∃ D : DataW Unit, w.ownsMap Tryd.prog 9 (plainElem Tryd.prog 4) b n D ∧
  ∀ s : ByteArray, s.size ≤ maxLen → D.atKey (.string s.data.toList) (.lit (.bool false)) = .lit (.bool (decide (s.data.toList ∈ L)))
theorem Names.made (w : World) : Names (w.alloc (.map #[] 0)) w.heap.size 0 [] :=
  ⟨.map [], World.ownsMap_made w _ _ _, fun s _ => by simp [DataW.atKey]⟩
theorem Names.below {w w1 : World} {b n : Nat} {L : List (List UInt8)} (h : Names w b n L) (hb : Below w.heap.size w w1) : Names w1 b n L := by
  obtain ⟨D, ho, hD⟩ := h
  have hlt := ho.lt
  obtain ⟨es, clock, hbk, F, hs, hDe⟩ := ho
  exact ⟨D, ⟨es, clock, (hb.block b hlt).trans hbk, F, hs, hDe⟩, hD⟩
theorem zero_bool (w : World) : (zeroValue 4).run Tryd.prog w = .ok (.bool false) w := by kernel_rfl
theorem Names.look {w : World} {b n : Nat} {L : List (List UInt8)} (h : Names w b n L) (s : ByteArray) (hs : s.size ≤ maxLen) : (Instr.lookup 130 (.map (some b)) (.string s) false).run Tryd.prog w = .ok (.bool (decide (s.data.toList ∈ L))) w := by
  obtain ⟨D, ho, hD⟩ := h
  obtain ⟨v, ps, hrun, hv⟩ := ho.lookup (Maps.string_keyed Tryd.underlying9) Tryd.underlying130 (zero_bool w) (plainElem_bool Tryd.underlying4 false) (WideMaps.keyOf_string_mk Tryd.underlying9 hs)
  rw [hD s hs] at hv
  rw [hrun]
  have : v = .bool (decide (s.data.toList ∈ L)) := by
    have hu := Tryd.underlying4
    unfold plainElem at hv
    cases v <;> simp_all
  rw [this]
theorem Names.put {w : World} {b n : Nat} {L : List (List UInt8)} (h : Names w b n L) (s : ByteArray) (hs : s.size ≤ maxLen) (hn : n < maxLen) :
    ∃ w', (Instr.mapUpdate 130 (.map (some b)) (.string s) (.bool true)).run Tryd.prog w = .ok () w' ∧ Names w' b (n + 1) (s.data.toList :: L) ∧ w.grownBy w' (some b) := by
  obtain ⟨D, ho, hD⟩ := h
  obtain ⟨w', h1, h2, h3⟩ := ho.update (Maps.string_keyed Tryd.underlying9) Tryd.underlying130 hn (WideMaps.keyOf_string_mk Tryd.underlying9 hs) (plainElem_bool Tryd.underlying4 true)
  refine ⟨w', h1, ⟨_, h2, fun s' hs' => ?_⟩, h3⟩
  by_cases he : s'.data.toList = s.data.toList
  · rw [he, Maps.atKey_put_same ho.isMap (by first | trivial | exact ⟨_, rfl⟩ | constructor)]
    simp
  · rw [Maps.atKey_put_other (fun e => he (by injection e)), hD s' hs']
    simp [he]
def nmL (x : File) : List UInt8 := x.name.data.toList
def togTo (l : List File) : Nat → Bool
  | 0 => true
  | k + 1 => togTo l k && (rightB (gt l k) && !(decide (nmL (gt l k) ∈ ((l.take k).map nmL).reverse)))
def togB (l : List File) : Bool := togTo l l.length
theorem togTo_false {l : List File} {k : Nat} (h : togTo l (k + 1) = false) : ∀ j, k < j → togTo l j = false := by
  intro j hj
  induction j with
  | zero => omega
  | succ j ih =>
    by_cases he : j = k
    · subst he; exact h
    · unfold togTo
      rw [ih (by omega)]
      rfl
theorem nm_succ (l : List File) (k : Nat) (hk : k < l.length) : ((l.take (k + 1)).map nmL).reverse = nmL (gt l k) :: ((l.take k).map nmL).reverse := by
  rw [List.take_add_one, gt_some l k hk]
  simp
set_option maxHeartbeats 1600000 in
theorem together_any (A : Option Addr) (l : List File) (c : Nat) (r : Bool) (hr : togB l = r) (w : World) (h : kFile.C w A l.length l) (hs : ∀ k, k < l.length → (gt l k).name.size ≤ 9223372036854775807) (hlen : l.length ≤ 1000000) :
    Calls Tryd.prog 56 #[.slice A l.length c] w fun e w' => e = .returned (.bool r) ∧ Below w.heap.size w w' := by
  have hmx := Kd.C_max h
  have hmm := @run_makeMap Tryd.prog
  have HR := Aside0.mk hr
  have HS := Aside0.mk hs
  clear hr hs
  go_enter Tryd.func56, Tryd.ntmps56
  go_wp2
  go_loopw [9, 5] (fun i _ wr => ∃ k : Nat, k ≤ l.length ∧ i = .int .i64 k ∧ Aside0 (togTo l k = true) ∧ Aside0 (Names wr w.heap.size k ((l.take k).map nmL).reverse) ∧ Aside0 (Below w.heap.size w wr)) (fun i _ _ => l.length - (intOf i).toNat)
  case atStart => exact ⟨0, Nat.zero_le _, rfl, ⟨rfl⟩, ⟨Names.made w⟩, ⟨below_alloc (Below.refl _ _) _⟩⟩
  case round =>
    obtain ⟨k, hk, rfl, HT, HN, HB⟩ := hrel
    by_cases hlt : k < l.length
    · obtain ⟨ad, A3, c3, rfl, g0, g1, hc3, hd⟩ := file_at h hlt
      obtain ⟨x, hx⟩ : ∃ x, x = gt l k := ⟨_, rfl⟩
      have HSX := HS.out k hlt
      have HTS : Aside0 (togTo l (k + 1) = (rightB x && !(decide (nmL x ∈ ((l.take k).map nmL).reverse)))) := ⟨by rw [hx]; show (togTo l k && _) = _; rw [HT.out]; rfl⟩
      have HNS := Aside0.mk (nm_succ l k hlt)
      rw [← hx] at g0 g1 HSX HNS
      replace g0 := cell_old HB.out g0
      replace g1 := cell_old HB.out g1
      have hbad : togTo l (k + 1) = false → togB l = false := fun h => togTo_false h _ (by omega)
      have HBAD := Aside0.mk hbad
      have hwk : w.heap.size ≤ wr.heap.size := HB.out.size
      clear hd hx hbad
      cases hb : rightB x
      · go_wp2_with (go_at_call 76; refine (right_any x.name A3 x.data c3 false hb _ HSX).mono ?_; rintro e w1 ⟨rfl, hb1⟩; have HB1 := Aside0.mk (below_step (below_alloc HB.out _) hb1); clear hb1)
        go_ret
        exact ⟨ret_bool (by rw [← HR.out, HBAD.out (by rw [HTS.out, hb]; rfl)]), HB1.out⟩
      · cases hin : decide (nmL x ∈ ((l.take k).map nmL).reverse)
        · go_wp2_with (go_at_call 76; refine (right_any x.name A3 x.data c3 true hb _ HSX).mono ?_; rintro e w1 ⟨rfl, hb1⟩; have HB1 := Aside0.mk (below_step (below_alloc HB.out _) hb1); have HX1 := Aside0.mk (blk_below (blk_new wr (.cells #[.string x.name, .slice A3 x.data.length c3] 56)) hb1); have z0 := blk_cell HX1.out 0; simp only [List.getElem?_toArray, List.getElem?_cons_zero] at z0; have HN1 := Aside0.mk ((HN.out.below (below_alloc (Below.refl _ _) _)).below hb1); have hlk := HN1.out.look x.name HSX; rw [show decide (x.name.data.toList ∈ ((l.take k).map nmL).reverse) = false from hin] at hlk; obtain ⟨w2, hup, hN2, hg2⟩ := HN1.out.put x.name HSX (by simp [maxLen]; omega); have HN2 := Aside0.mk hN2; have HB2 : Aside0 (Below w.heap.size w w2) := ⟨pw_below_grown HB1.out (some w.heap.size) HB1.out.size hg2 (fun k e => by cases e; exact Nat.le_refl _)⟩; clear hb1 hN2 hg2)
          go_roundw
          case rel => exact ⟨k + 1, by omega, by go_num, ⟨by rw [HTS.out, hb, hin]; rfl⟩, ⟨by rw [HNS.out]; exact HN2.out⟩, HB2⟩
          case measure => simp [intOf]; omega
        · go_wp2_with (go_at_call 76; refine (right_any x.name A3 x.data c3 true hb _ HSX).mono ?_; rintro e w1 ⟨rfl, hb1⟩; have HB1 := Aside0.mk (below_step (below_alloc HB.out _) hb1); have HX1 := Aside0.mk (blk_below (blk_new wr (.cells #[.string x.name, .slice A3 x.data.length c3] 56)) hb1); have z0 := blk_cell HX1.out 0; simp only [List.getElem?_toArray, List.getElem?_cons_zero] at z0; have HN1 := Aside0.mk ((HN.out.below (below_alloc (Below.refl _ _) _)).below hb1); have hlk := HN1.out.look x.name HSX; rw [show decide (x.name.data.toList ∈ ((l.take k).map nmL).reverse) = true from hin] at hlk; clear hb1)
          go_ret
          exact ⟨ret_bool (by rw [← HR.out, HBAD.out (by rw [HTS.out, hb, hin]; rfl)]), HB1.out⟩
    · go_wp2
      go_ret
      exact ⟨ret_bool (by rw [← HR.out]; unfold togB; rw [show l.length = k by omega]; exact HT.out.symm), HB.out⟩
end Go.Proofs.YtdobjbdkfammbaaDoor
