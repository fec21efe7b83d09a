/-
  WholeTooLong: does a token stand where a line has a word? the rule of a line.
-/
import Derived.Test.YtjoafafjpmfjbaaGreatDoorGp
/-
  WholeTooLong: a line's reader: a new one.
-/
namespace Go.Proofs.YtjoafafjpmfjbaaGreatDoor
open Go.RowKit Go.Shelf Go.Proofs.YtjoafafjpmfjbaaGreatDoorW.PrintWords Go.Proofs.YtjoafafjpmfjbaaGreatDoorW.PrintLast Go.Proofs.YtjoafafjpmfjbaaGreatDoorW.PrintMore
set_option linter.unusedVariables false
set_option linter.unusedSimpArgs false

/-- A set of numbers, as a map. -/
def setF (S : Int → Bool) : Int → Option Value := fun m => if S m = true then some (.bool true) else none
theorem LinesAt.below {w w1 : World} {M : Nat} (h : LinesAt w M) (hb : Below w.heap.size w w1) : LinesAt w1 M := by
  obtain ⟨f, hf, hs⟩ := h
  refine ⟨f, hf.below hb, fun i hi => ⟨fun h => ?_, (hs i hi).2⟩⟩
  obtain ⟨b, c, e, hC⟩ := (hs i hi).1 h
  exact ⟨b, c, e, blk_below hC hb⟩
/-- A cell of a reader is written. -/
theorem LinesAt.set {w : World} {M X : Nat} {cs : Array Value} (h : LinesAt w M) (hx : w.heap[X]? = some (.cells cs 85 (0, 0))) (i : Nat) (u : Value) : LinesAt (w.setCell ⟨X, i, none⟩ u) M := by
  obtain ⟨f, hf, hs⟩ := h
  refine ⟨f, hf.same (Below.heap_setCell w _ u M (hf.ne hx)), fun j hj => ⟨fun h => ?_, (hs j hj).2⟩⟩
  obtain ⟨b, c, e, hC⟩ := (hs j hj).1 h
  exact ⟨b, c, e, blk_far hC (p := ⟨X, i, none⟩) (blk_ne hC hx (by decide)) u⟩
/-- A reader in memory. -/
structure RdAt (w : World) (X M K : Nat) (S : Int → Bool) (p rk rl rf : Int) : Prop where
  box : w.heap[X]? = some (.cells #[.map (some M), .map (some K), .int .i64 p, .int .i64 rk, .int .i64 rl, .int .i64 rf] 85 (0, 0))
  all : LinesAt w M
  kinds : ∃ n, n ≤ 4 ∧ MapAt w K n (setF S)
  sub : ∀ m, S m = true → 1 ≤ m ∧ m ≤ 4
theorem RdAt.below {w w1 : World} {X M K : Nat} {S : Int → Bool} {p rk rl rf : Int} (h : RdAt w X M K S p rk rl rf) (hb : Below w.heap.size w w1) : RdAt w1 X M K S p rk rl rf := by
  obtain ⟨n, hn, hm⟩ := h.kinds
  exact ⟨blk_below h.box hb, h.all.below hb, ⟨n, hn, hm.below hb⟩, h.sub⟩
def all4 (m : Int) : Bool := decide (1 ≤ m) && decide (m ≤ 4)
theorem setF_put (S : Int → Bool) (x : Int) : putM (setF S) x (.bool true) = setF (fun m => S m || (m == x)) := by
  funext m
  unfold putM setF
  by_cases e : m = x
  · simp [e]
  · simp [e]
theorem setF_congr {S S' : Int → Bool} {w : World} {b n : Nat} (h : MapAt w b n (setF S)) (hS : ∀ m, I64V m → S m = S' m) : MapAt w b n (setF S') := by
  obtain ⟨D, ho, hD⟩ := h
  refine ⟨D, ho, fun m hm => ?_⟩
  have := hD m hm
  unfold setF at this ⊢
  rwa [hS m hm] at this
set_option maxHeartbeats 1600000 in
set_option maxRecDepth 20000 in
theorem begin_any (w : World) : Calls Tryz.prog 26 #[] w fun e w' => ∃ X, e = .returned (.pointer (some ⟨X, 0, none⟩)) ∧ w.heap.size ≤ X ∧ (∃ M K, RdAt w' X M K all4 0 0 0 0) ∧ Below w.heap.size w w' := by
  have hmm := @run_makeMap Tryz.prog
  go_enter Tryz.func26, Tryz.ntmps26
  go_upto_region 2 with (go_at_call 55; refine (lines_any _).mono ?_; rintro e w1 ⟨M, rfl, hle, hl, hb⟩; have HLE := Aside0.mk hle; have HLI := Aside0.mk hl; have HB1 := Aside0.mk hb; clear hle hl hb)
  obtain ⟨W2, hW2⟩ : ∃ W2, (w1.alloc (.map #[] 0)).alloc (.cells #[.map (some M), .map (some w1.heap.size), .int .i64 0, .int .i64 0, .int .i64 0, .int .i64 0] 85) = W2 := ⟨_, rfl⟩
  have e1 := World.size_alloc w1 (.map #[] 0)
  have e2 := World.size_alloc (w1.alloc (.map #[] 0)) (.cells #[.map (some M), .map (some w1.heap.size), .int .i64 0, .int .i64 0, .int .i64 0, .int .i64 0] 85)
  have hx := blk_new (w1.alloc (.map #[] 0)) (.cells #[.map (some M), .map (some w1.heap.size), .int .i64 0, .int .i64 0, .int .i64 0, .int .i64 0] 85)
  have hk := (MapAt.made w1).below (below_alloc (Below.refl _ _) (.cells #[.map (some M), .map (some w1.heap.size), .int .i64 0, .int .i64 0, .int .i64 0, .int .i64 0] 85))
  have hb12 := below_alloc (below_alloc (Below.refl w1.heap.size w1) (.map #[] 0)) (.cells #[.map (some M), .map (some w1.heap.size), .int .i64 0, .int .i64 0, .int .i64 0, .int .i64 0] 85)
  rw [e1] at hx e2
  rw [hW2] at hx hk hb12 e2 ⊢
  obtain ⟨f, hfM, hfs⟩ := HLI.out
  have hM1 := hfM.lt
  obtain ⟨w5, cnt, hrg, hra, hc4, hb5, hs5⟩ := (hfM.below hb12).range Tryz.underlying82
  have HFS := Aside0.mk hfs
  have HRA := Aside0.mk hra
  have HX5 := Aside0.mk (blk_below hx hb5)
  have HK5 := Aside0.mk (hk.below hb5)
  have HB5 := Aside0.mk (below_step hb12 hb5)
  have HHB := Aside0.mk hb5
  have c0 := blk_cell hx 0
  simp only [List.getElem?_toArray, List.getElem?_cons_zero] at c0
  rw [e2] at HRA hrg
  clear hW2 e1 e2 hx hk hb12 hfM hfs hra hb5 hs5 hmm
  go_upto_region 3 with fail
  go_loopg [2] cnt (fun gk _ wr => ∃ (left : Int → Bool) (cnt' n : Nat), Aside0 (gk = cnt') ∧ Aside0 (RangeAt wr M (w1.heap.size + 1 + 1) 4 f left cnt') ∧ Aside0 (MapAt wr w1.heap.size n (setF (fun m => all4 m && !left m))) ∧ Aside0 (n + cnt' ≤ 4) ∧ Aside0 (∀ m, I64V m → left m = true → all4 m = true) ∧
    Aside0 (wr.heap[w1.heap.size + 1]? = some (.cells #[.map (some M), .map (some w1.heap.size), .int .i64 0, .int .i64 0, .int .i64 0, .int .i64 0] 85 (0, 0))) ∧ Aside0 (Below w1.heap.size w1 wr))
  case atStart =>
    have hall : ∀ m, I64V m → (f m).isSome = all4 m := fun m hm => by
      unfold all4
      by_cases h : 1 ≤ m ∧ m ≤ 4
      · obtain ⟨A, c, e, _⟩ := (HFS.out m hm).1 h
        rw [e, decide_eq_true h.1, decide_eq_true h.2]; rfl
      · rw [(HFS.out m hm).2 h]
        by_cases h1 : 1 ≤ m
        · rw [decide_eq_true h1, decide_eq_false (fun h4 => h ⟨h1, h4⟩)]; rfl
        · rw [decide_eq_false h1]; rfl
    refine ⟨_, cnt, 0, ⟨rfl⟩, HRA, ⟨?_⟩, ⟨by omega⟩, ⟨fun m hm h => by rw [← hall m hm]; exact h⟩, HX5, HB5⟩
    have h0 : (fun _ : Int => (none : Option Value)) = setF (fun _ => false) := by funext m; unfold setF; rw [if_neg (by simp)]
    have hk := HK5.out
    rw [h0] at hk
    exact setF_congr hk (fun m hm => by show false = _; rw [hall m hm]; cases all4 m <;> rfl)
  case round =>
    obtain ⟨left, cnt', n, HGK, HRr, HKr, HN, HSUB, HXr, HBr⟩ := hrel
    have c0 := blk_cell HXr.out 0
    have c1 := blk_cell HXr.out 1
    simp only [List.getElem?_toArray, List.getElem?_cons_zero, List.getElem?_cons_succ] at c0 c1
    rcases HRr.out.next 0 with ⟨hdone, hrun⟩ | ⟨x, v, w', cnt2, hxv, hlx, hfx, hrun, hr2, hc2, hg2, hent⟩
    · have HD := Aside0.mk hdone
      clear hdone
      go_wp2_with fail
      go_ret
      refine ⟨w1.heap.size + 1, rfl, Nat.le_trans HB1.out.size (Nat.le_succ _), ⟨M, w1.heap.size, HXr.out, HLI.out.below HBr.out, ⟨n, by have := HN.out; omega, setF_congr HKr.out (fun m hm => by rw [HD.out m hm]; simp)⟩, fun m h => ?_⟩, below_step HB1.out HBr.out⟩
      unfold all4 at h
      simpa using h
    · have hx4 := HSUB.out x hxv hlx
      have HR2 := Aside0.mk hr2
      have HC2 := Aside0.mk hc2
      have HXV := Aside0.mk hxv
      have hrne : w1.heap.size ≠ w1.heap.size + 1 + 1 := by omega
      have HK2 := Aside0.mk (HKr.out.grown hg2 (fun e => by injection e with e; omega))
      have hx2 := blk_grown HXr.out hg2 (fun e => by injection e with e; omega)
      have HX2 := Aside0.mk hx2
      have HB2 := Aside0.mk (pw_below_grown HBr.out (some (w1.heap.size + 1 + 1)) HBr.out.size hg2 (fun k hk => by cases hk; omega))
      have d1 := blk_cell hx2 1
      simp only [List.getElem?_toArray, List.getElem?_cons_zero, List.getElem?_cons_succ] at d1
      have HX4 := Aside0.mk hx4
      clear hr2 hc2 hg2 hxv hx2 hlx hx4 hfx
      go_wp2_with (refine put_map rfl 83 (.tmp 19) (.tmp 20) (.const (.bool true)) (.inl rfl) Tryz.underlying83 w1.heap.size n _ HK2.out (by have := HN.out; omega) rfl x HXV.out rfl (.bool true) rfl ?_; intro w3 hm3 hg3; have HK3 := Aside0.mk hm3; have HG3 := Aside0.mk hg3; clear hm3 hg3)
      go_roundg cnt2
      case measure => rw [HGK.out]; exact HC2.out
      case rel =>
        refine ⟨_, cnt2, n + 1, ⟨rfl⟩, ⟨HR2.out.same HG3.out (fun e => by injection e with e; omega) (fun e => by injection e with e; omega)⟩, ⟨?_⟩, ⟨by have := HN.out; have := HC2.out; omega⟩, ⟨fun m hm h => HSUB.out m hm (by simp only [Bool.and_eq_true] at h; exact h.1)⟩, ⟨blk_grown HX2.out HG3.out (fun e => by injection e with e; omega)⟩, ⟨pw_below_grown HB2.out (some w1.heap.size) HB2.out.size HG3.out (fun k hk => by cases hk; exact Nat.le_refl _)⟩⟩
        have h3 := HK3.out
        rw [setF_put] at h3
        refine setF_congr h3 (fun m hm => ?_)
        by_cases e : m = x
        · subst e
          rw [HX4.out]; simp
        · have e2 : (m == x) = false := by simpa using e
          rw [e2]; simp
end Go.Proofs.YtjoafafjpmfjbaaGreatDoor
namespace Go.Proofs.YtjoafafjpmfjbaaGreatDoor
open Go.RowKit Go.Shelf Go.Proofs.YtjoafafjpmfjbaaGreatDoorW.PrintWords Go.Proofs.YtjoafafjpmfjbaaGreatDoorW.PrintLast Go.Proofs.YtjoafafjpmfjbaaGreatDoorW.PrintMore
set_option linter.unusedVariables false
set_option linter.unusedSimpArgs false

/-- Does a token stand where a line has a word? -/
def fitsB (kind : Int) (text w : ByteArray) : Bool := if w = ⟨#[35]⟩ ∨ w = ⟨#[33]⟩ then decide (kind = 2) else (decide (kind = 1) && decide (text = w))
theorem str_eql (a b : ByteArray) : (a.toList == b.toList) = decide (a = b) := by
  rw [ByteArray.toList_eq, ByteArray.toList_eq, Bool.eq_iff_iff]
  simp only [beq_iff_eq, decide_eq_true_eq]
  constructor
  · intro h
    have : a.data = b.data := Array.toList_inj.1 h
    cases a; cases b; cases this; rfl
  · rintro rfl; rfl
theorem str_ne {e s : ByteArray} {l : List UInt8} (hs : s.data.toList = l) (h : e ≠ s) : (e.toList == l) = false := by
  subst hs
  rw [← ByteArray.toList_eq s, str_eql]
  exact decide_eq_false h
theorem str_same {e s : ByteArray} {l : List UInt8} (hs : s.data.toList = l) (h : e = s) : (e.toList == l) = true := by
  subst hs h
  rw [← ByteArray.toList_eq e]
  simp
set_option maxHeartbeats 1600000 in
theorem fits_any (kind : Int) (text : ByteArray) (n a : Int) (s : ByteArray) (w : World) : Calls Tryz.prog 56 #[.agg #[.int .i64 kind, .string text, .int .i64 n, .int .i64 a], .string s] w fun e w' => e = .returned (.bool (fitsB kind text s)) ∧ Below w.heap.size w w' := by
  have HB := Aside0.mk (below_alloc (Below.refl w.heap.size w) (.cells #[.int .i64 kind, .string text, .int .i64 n, .int .i64 a] 81))
  have q35 : (s.toList == [35]) = decide (s = ⟨#[35]⟩) := by
    by_cases h : s = ⟨#[35]⟩
    · rw [str_same rfl h, decide_eq_true h]
    · rw [str_ne rfl h, decide_eq_false h]
  have q33 : (s.toList == [33]) = decide (s = ⟨#[33]⟩) := by
    by_cases h : s = ⟨#[33]⟩
    · rw [str_same rfl h, decide_eq_true h]
    · rw [str_ne rfl h, decide_eq_false h]
  have qt := str_eql text s
  unfold fitsB
  by_cases h1 : s = ⟨#[35]⟩
  · rw [if_pos (.inl h1)]
    rw [decide_eq_true h1] at q35
    clear qt q33 h1
    go_enter Tryz.func56, Tryz.ntmps56
    go_wp2_with fail
    go_ret
    exact ⟨rfl, HB.out⟩
  · by_cases h2 : s = ⟨#[33]⟩
    · rw [if_pos (.inr h2)]
      rw [decide_eq_false h1] at q35
      rw [decide_eq_true h2] at q33
      clear qt h1 h2
      go_enter Tryz.func56, Tryz.ntmps56
      go_wp2_with fail
      go_ret
      exact ⟨rfl, HB.out⟩
    · rw [if_neg (by rintro (h | h); exact h1 h; exact h2 h)]
      rw [decide_eq_false h1] at q35
      rw [decide_eq_false h2] at q33
      by_cases h3 : kind = 1
      · subst h3
        by_cases h4 : text = s
        · rw [decide_eq_true h4] at qt ⊢
          clear h1 h2 h4
          go_enter Tryz.func56, Tryz.ntmps56
          go_wp2_with fail
          go_ret
          exact ⟨rfl, HB.out⟩
        · rw [decide_eq_false h4] at qt ⊢
          clear h1 h2 h4
          go_enter Tryz.func56, Tryz.ntmps56
          go_wp2_with fail
          go_ret
          exact ⟨rfl, HB.out⟩
      · rw [decide_eq_false h3, Bool.false_and]
        have h3' : (kind == 1) = false := by simpa using h3
        clear h1 h2 qt
        go_enter Tryz.func56, Tryz.ntmps56
        go_wp2_with fail
        go_ret
        exact ⟨rfl, HB.out⟩
end Go.Proofs.YtjoafafjpmfjbaaGreatDoor
