/-
  WholeTooLong: the plain law: what a Never takes away, and where none does.
-/
import Derived.Test.YtjoafafjpmfjbaaGreatDoorGt
/-
  WholeTooLong: the calendar that is tried first does what it says.
-/
namespace Go.Proofs.YtjoafafjpmfjbaaGreatDoor
open Go.RowKit Go.Shelf Go.Proofs.YtjoafafjpmfjbaaGreatDoorW.PrintWords Go.Proofs.YtjoafafjpmfjbaaGreatDoorW.PrintLast Go.Proofs.YtjoafafjpmfjbaaGreatDoorW.PrintMore
set_option linter.unusedVariables false
set_option linter.unusedSimpArgs false

theorem rightB_ok {x : Ru} (h : rightB x = true) : RuOk x := by
  have sp : ∀ n : Int, spanB n = true → 1 ≤ n ∧ n ≤ 1073741824 := fun n h => by
    unfold spanB at h
    simpa using h
  unfold rightB at h
  split at h
  · rename_i hk
    split at h
    · rename_i hl
      have := sp _ h
      exact ⟨by omega, by omega, fun h2 h3 => by omega, by omega, this.1, this.2⟩
    · cases h
  · split at h
    · split at h
      · rename_i hk _ hs
        have h1 := sp _ h
        have h2 := sp _ hs
        exact ⟨by omega, by omega, fun _ _ => h2.1, h2.2, h1.1, h1.2⟩
      · cases h
    · cases h
theorem keepers_ok {xs : List Ru} (h : ∀ x ∈ xs, rightB x = true) : ∀ x ∈ keepers xs, RuOk x ∧ x.kind ≤ 3 := by
  intro x hx
  unfold keepers at hx
  rw [List.mem_filter] at hx
  have := rightB_ok (h x hx.1)
  have hk := hx.2
  have h4 := this.k4
  refine ⟨this, ?_⟩
  by_cases e : x.kind = 4
  · rw [e] at hk; cases hk
  · omega
theorem nevOf_ok {xs : List Ru} (h : ∀ x ∈ xs, rightB x = true) : 0 ≤ (nevOf xs).1 ∧ (nevOf xs).1 ≤ 1073741824 := by
  unfold nevOf
  have : ∀ (l : List Ru) (s : Int × Bool), (∀ x ∈ l, rightB x = true) → 0 ≤ s.1 ∧ s.1 ≤ 1073741824 → 0 ≤ (l.foldl nevStep s).1 ∧ (l.foldl nevStep s).1 ≤ 1073741824 := by
    intro l
    induction l with
    | nil => intro s _ hs; exact hs
    | cons a l ih =>
      intro s hl hs
      refine ih _ (fun x hx => hl x (List.mem_cons_of_mem _ hx)) ?_
      have ha := rightB_ok (hl a (List.mem_cons_self ..))
      unfold nevStep
      split
      · split
        · have := ha.f1; have := ha.f2; exact ⟨by omega, by omega⟩
        · exact hs
      · exact hs
  exact this xs (0, false) h ⟨Int.le_refl _, by decide⟩
theorem minsTo_ok (gs : List UInt8) (k : Nat) (hk : k ≤ 1000) : ∀ m ∈ minsTo gs k, 0 ≤ m ∧ m ≤ 1073741824 := fun m hm => by
  have := minsTo_le gs k m hm
  have := sumTo_bound gs k
  omega
theorem LawPost.made {xs : List Ru} {gs : List UInt8} {n m : Nat} {w w' : World} {e : Ending} (h : LawPost xs gs n m w e w') (h6 : n ≤ 6) (h12 : m ≤ 12) (hr : ∀ x ∈ xs, rightB x = true) :
    Below w.heap.size w w' ∧ ∃ g bk fo A' ck v2, e = .returned (.tuple #[lawV g bk fo A' (keepers xs).length ck (nevOf xs).1 (nevOf xs).2, v2, .bool true]) ∧ LawOwn w' w.heap.size (fun _ => True) g bk fo A' ck (keepers xs) (minsTo gs m) := by
  obtain ⟨hb, h | ⟨_, _, _, h⟩⟩ := h
  · exfalso
    rcases h.2 with h | h | ⟨x, hx, h⟩
    · omega
    · omega
    · rw [hr x hx] at h; cases h
  · exact ⟨hb, h⟩
theorem calR_right : ∀ x ∈ calR, rightB x = true := by decide
theorem byte_blk {W : World} {b : Nat} {cs : Array Value} {t : TypeId} (xs : List UInt8) (h : W.heap[b]? = some (.cells cs t (0, 0))) (hc : cs.toList = xs.map (fun x => Value.int .u8 (x.toNat : Int))) (hm : xs.length ≤ 1000) : byte.C W (some ⟨b, 0, none⟩) xs.length xs := by
  refine ⟨rfl, by omega, fun _ => ⟨_, rfl, fun j p hj => ?_⟩⟩
  obtain ⟨hjl, hp⟩ := List.getElem?_eq_some_iff.1 hj
  refine ⟨[.int .u8 (p.toNat : Int)], rfl, rfl, fun i u hu => ?_⟩
  rcases i with _ | i
  · simp only [List.getElem?_cons_zero, Option.some.injEq] at hu
    subst hu
    have e : j * byte.sz + 0 = j := by show j * 1 + 0 = j; omega
    rw [e, Go.Proofs.YtjoafafjpmfjbaaGreatDoorW.PrintWords.add_plain, blk_cell h j, ← Array.getElem?_toList, hc, List.getElem?_map, List.getElem?_eq_getElem hjl, hp]
    rfl
  · simp at hu
/-- What a law tells at the world in which it was made, and later. -/
theorem has_law {w0 W : World} {base : Nat} {ok : Nat → Prop} {g bk fo : Nat} {A : Option Addr} {ck : Nat} {xs : List Ru} {ms : List Int} (h : LawOwn W base ok g bk fo A ck (keepers xs) ms) (hr : ∀ x ∈ xs, rightB x = true) (h6 : xs.length ≤ 6) (hm : ∀ m ∈ ms, 0 ≤ m ∧ m ≤ 1073741824) (n : Nat) (hn : ms.length = n) (hn9 : n ≤ 100) (p : Nat) (hp : p < n) (now : Int) :
    Calls Tryz.prog 8 #[lawV g bk fo A (keepers xs).length ck (nevOf xs).1 (nevOf xs).2, .int .u64 ((p : Int) + 1), .int .i64 now] W fun e w' => e = .returned (.bool (hasB ms n p (nevOf xs).1 (nevOf xs).2 (keepers xs) now)) ∧ Below W.heap.size W w' := by
  obtain ⟨TA, c, hat⟩ := h.at (by omega)
  rw [hn] at hat
  exact has_any g bk fo A (keepers xs).length ck (keepers xs) rfl (nevOf xs).1 (nevOf xs).2 (nevOf_ok hr) (keepers_ok hr) (by have := keepers_len xs; omega) ms TA n c p hp hm now W hat
set_option maxHeartbeats 3200000 in
set_option maxRecDepth 20000 in
theorem awake_any (b : Nat) (w : World) (h : UnitsAt w b) : Calls Tryz.prog 4 #[] w fun e w' => e = .returned (.bool true) ∧ Below w.heap.size w w' := by
  have HPA := Aside0.mk (parse_cal b w h)
  clear h
  go_enter Tryz.func4, Tryz.ntmps4
  go_upto_region 2 with (go_at_call 11; refine HPA.out.mono ?_; rintro e w1 ⟨v, rfl, hr, hb⟩; obtain ⟨A, c, rfl, hle, hC⟩ := Kd.R_reads hr; have HR := Aside0.mk hC; have HB1 := Aside0.mk hb; clear hr hb hC hle)
  rw [show calR.length = 2 from rfl] at HR ⊢
  have hb1 := below_alloc (Below.refl w1.heap.size w1) (.cells #[.int .u8 0, .int .u8 10] 5)
  have HLW := Aside0.mk (law_any A 2 c calR rfl (some ⟨w1.heap.size, 0, none⟩) 2 2 [0, 10] rfl (w1.alloc (.cells #[.int .u8 0, .int .u8 10] 5)) (Kd.C_below HR.out hb1) (byte_blk [0, 10] (blk_new w1 _) rfl (by decide)))
  have HB2 := Aside0.mk (below_alloc HB1.out (.cells #[.int .u8 0, .int .u8 10] 5))
  clear hb1
  go_upto_region 3 with (go_at_call 5; refine HLW.out.mono ?_; rintro e w3 hlp; obtain ⟨hbb, g, bk, fo, A', ck, v2, rfl, hlo⟩ := hlp.made (by decide) (by decide) calR_right; rw [show lawV g bk fo A' (keepers calR).length ck (nevOf calR).1 (nevOf calR).2 = .agg #[.pointer (some ⟨g, 0, none⟩), .slice A' 2 ck, .int .i64 0, .bool false, .pointer (some ⟨bk, 0, none⟩), .pointer (some ⟨fo, 0, none⟩)] from rfl]; have HLO := Aside0.mk hlo; have HB3 := Aside0.mk (below_step HB2.out hbb); clear hlp hlo hbb)
  have H59 : Aside0 (∀ W, Below w3.heap.size w3 W → Calls Tryz.prog 8 #[.agg #[.pointer (some ⟨g, 0, none⟩), .slice A' 2 ck, .int .i64 0, .bool false, .pointer (some ⟨bk, 0, none⟩), .pointer (some ⟨fo, 0, none⟩)], .int .u64 1, .int .i64 59] W fun e w' => e = .returned (.bool true) ∧ Below W.heap.size W w') := ⟨fun W hb => has_law (w0 := W) (HLO.out.below hb) calR_right (by decide) (minsTo_ok _ _ (by decide)) 2 rfl (by decide) 0 (by decide) 59⟩
  have H60 : Aside0 (∀ W, Below w3.heap.size w3 W → Calls Tryz.prog 8 #[.agg #[.pointer (some ⟨g, 0, none⟩), .slice A' 2 ck, .int .i64 0, .bool false, .pointer (some ⟨bk, 0, none⟩), .pointer (some ⟨fo, 0, none⟩)], .int .u64 1, .int .i64 60] W fun e w' => e = .returned (.bool false) ∧ Below W.heap.size W w') := ⟨fun W hb => has_law (w0 := W) (HLO.out.below hb) calR_right (by decide) (minsTo_ok _ _ (by decide)) 2 rfl (by decide) 0 (by decide) 60⟩
  have H2 : Aside0 (∀ W, Below w3.heap.size w3 W → Calls Tryz.prog 8 #[.agg #[.pointer (some ⟨g, 0, none⟩), .slice A' 2 ck, .int .i64 0, .bool false, .pointer (some ⟨bk, 0, none⟩), .pointer (some ⟨fo, 0, none⟩)], .int .u64 2, .int .i64 60] W fun e w' => e = .returned (.bool true) ∧ Below W.heap.size W w') := ⟨fun W hb => has_law (w0 := W) (HLO.out.below hb) calR_right (by decide) (minsTo_ok _ _ (by decide)) 2 rfl (by decide) 1 (by decide) 60⟩
  have HX3 := Aside0.mk (blk_new w3 (.cells #[.pointer (some ⟨g, 0, none⟩), .slice A' 2 ck, .int .i64 0, .bool false, .pointer (some ⟨bk, 0, none⟩), .pointer (some ⟨fo, 0, none⟩)] 32))
  have HB30 := Aside0.mk (below_alloc (Below.refl w3.heap.size w3) (.cells #[.pointer (some ⟨g, 0, none⟩), .slice A' 2 ck, .int .i64 0, .bool false, .pointer (some ⟨bk, 0, none⟩), .pointer (some ⟨fo, 0, none⟩)] 32))
  (have bx := HX3.out; have d0 := blk_cell bx 0; have d1 := blk_cell bx 1; have d2 := blk_cell bx 2; have d3 := blk_cell bx 3; have d4 := blk_cell bx 4; have d5 := blk_cell bx 5; simp only [List.getElem?_toArray, List.getElem?_cons_zero, List.getElem?_cons_succ] at d0 d1 d2 d3 d4 d5; clear bx)
  go_wp2_with (first | (go_at_call 8; (with_reducible refine (H59.out _ HB30.out).mono ?_); rintro e w4 ⟨rfl, hbb⟩; have HB4 := Aside0.mk (below_step HB30.out hbb); have HX4 := Aside0.mk (blk_below HX3.out hbb); clear hbb d0 d1 d2 d3 d4 d5; (have bx := HX4.out; have d0 := blk_cell bx 0; have d1 := blk_cell bx 1; have d2 := blk_cell bx 2; have d3 := blk_cell bx 3; have d4 := blk_cell bx 4; have d5 := blk_cell bx 5; simp only [List.getElem?_toArray, List.getElem?_cons_zero, List.getElem?_cons_succ] at d0 d1 d2 d3 d4 d5; clear bx)) | (go_at_call 8; (with_reducible refine (H60.out _ HB4.out).mono ?_); rintro e w5 ⟨rfl, hbb⟩; have HB5 := Aside0.mk (below_step HB4.out hbb); have HX5 := Aside0.mk (blk_below HX4.out hbb); clear hbb d0 d1 d2 d3 d4 d5; (have bx := HX5.out; have d0 := blk_cell bx 0; have d1 := blk_cell bx 1; have d2 := blk_cell bx 2; have d3 := blk_cell bx 3; have d4 := blk_cell bx 4; have d5 := blk_cell bx 5; simp only [List.getElem?_toArray, List.getElem?_cons_zero, List.getElem?_cons_succ] at d0 d1 d2 d3 d4 d5; clear bx)) | (go_at_call 8; (with_reducible refine (H2.out _ HB5.out).mono ?_); rintro e w6 ⟨rfl, hbb⟩; have HB6 := Aside0.mk (below_step HB5.out hbb); clear hbb))
  go_ret
  exact ⟨rfl, below_step HB3.out HB6.out⟩
end Go.Proofs.YtjoafafjpmfjbaaGreatDoor
namespace Go.Proofs.YtjoafafjpmfjbaaGreatDoor
open Go.RowKit Go.Shelf Go.Proofs.YtjoafafjpmfjbaaGreatDoorW.PrintWords Go.Proofs.YtjoafafjpmfjbaaGreatDoorW.PrintLast Go.Proofs.YtjoafafjpmfjbaaGreatDoorW.PrintMore
set_option linter.unusedVariables false
set_option linter.unusedSimpArgs false

theorem keepers_keepers (xs : List Ru) : keepers (keepers xs) = keepers xs := by
  unfold keepers
  rw [List.filter_filter]
  simp
theorem keepers_mem {xs : List Ru} {x : Ru} (h : x ∈ keepers xs) : x ∈ xs ∧ x.kind ≠ 4 := by
  unfold keepers at h
  rw [List.mem_filter] at h
  exact ⟨h.1, fun e => by have := h.2; rw [e] at this; cases this⟩
theorem foldl_nev (xs : List Ru) (h : ∀ x ∈ xs, x.kind ≠ 4) (s : Int × Bool) : xs.foldl nevStep s = s := by
  induction xs generalizing s with
  | nil => rfl
  | cons a l ih =>
    rw [List.foldl_cons, nevStep_ne s a (h a (List.mem_cons_self ..))]
    exact ih (fun x hx => h x (List.mem_cons_of_mem _ hx)) s
theorem nevOf_keepers (xs : List Ru) : nevOf (keepers xs) = (0, false) := foldl_nev _ (fun x hx => (keepers_mem hx).2) _
theorem nevOf_mem (xs : List Ru) (h : (nevOf xs).2 = true) : ∃ y ∈ xs, y.kind = 4 ∧ y.fr = (nevOf xs).1 := by
  unfold nevOf at h ⊢
  have key : ∀ (l : List Ru) (s : Int × Bool), (l.foldl nevStep s).2 = true → (s.2 = true ∧ l.foldl nevStep s = s) ∨ ∃ y ∈ l, y.kind = 4 ∧ y.fr = (l.foldl nevStep s).1 := by
    intro l
    induction l with
    | nil => intro s hs; exact .inl ⟨hs, rfl⟩
    | cons a l ih =>
      intro s hs
      rw [List.foldl_cons] at hs ⊢
      rcases ih _ hs with ⟨h1, h2⟩ | ⟨y, hy, h1, h2⟩
      · rw [h2]
        unfold nevStep at h1 ⊢
        split
        · rename_i hk
          split
          · exact .inr ⟨a, List.mem_cons_self .., hk, rfl⟩
          · rename_i hn
            rw [if_pos hk, if_neg hn] at h1
            exact .inl ⟨h1, rfl⟩
        · rename_i hk
          rw [if_neg hk] at h1
          exact .inl ⟨h1, rfl⟩
      · exact .inr ⟨y, List.mem_cons_of_mem _ hy, h1, h2⟩
  rcases key xs (0, false) h with ⟨h1, _⟩ | h1
  · cases h1
  · exact h1
theorem keepsB_right {x : Ru} (h : rightB x = true) (h4 : x.kind ≠ 4) : keepsB x = true := by
  have ok := rightB_ok h
  have k1 := ok.k1
  have k4 := ok.k4
  unfold keepsB
  by_cases e1 : x.kind = 1
  · rw [if_pos e1]
  · rw [if_neg e1]
    by_cases e2 : x.kind = 2
    · rw [if_pos e2]
      have := ok.l1 (by omega) (by omega)
      exact decide_eq_true (by omega)
    · rw [if_neg e2, if_pos (by omega)]
      have := ok.l1 (by omega) (by omega)
      exact decide_eq_true (by omega)
/-- Where no rule is too long no Never takes anything away. -/
theorem span_same {xs : List Ru} (hr : ∀ x ∈ xs, rightB x = true) (hno : ∀ i j : Nat, i < xs.length → j < xs.length → i ≠ j → longB (gt xs i) (gt xs j) = false) {x : Ru} (hx : x ∈ keepers xs) : spanOf (nevOf xs).1 (nevOf xs).2 x = spanOf 0 false x := by
  show (if (nevOf xs).2 = true then min x.fr (nevOf xs).1 else x.fr) = x.fr
  cases hn : (nevOf xs).2
  · rw [if_neg (by simp)]
  · rw [if_pos rfl]
    obtain ⟨y, hy, hy4, hyf⟩ := nevOf_mem xs hn
    obtain ⟨hxm, hx4⟩ := keepers_mem hx
    obtain ⟨i, hi, hie⟩ := List.mem_iff_getElem.1 hxm
    obtain ⟨j, hj, hje⟩ := List.mem_iff_getElem.1 hy
    have hij : i ≠ j := by rintro rfl; rw [hie] at hje; subst hje; exact hx4 hy4
    have := hno i j hi hj hij
    rw [gt_eq _ _ hi, gt_eq _ _ hj, hie, hje] at this
    unfold longB at this
    rw [keepsB_right (hr x hxm) hx4, decide_eq_true hy4, Bool.true_and, Bool.true_and] at this
    have := of_decide_eq_false this
    omega
theorem has_same {xs : List Ru} (hr : ∀ x ∈ xs, rightB x = true) (hno : ∀ i j : Nat, i < xs.length → j < xs.length → i ≠ j → longB (gt xs i) (gt xs j) = false) (ms : List Int) (n p : Nat) (now : Int) :
    hasB ms n p (nevOf xs).1 (nevOf xs).2 (keepers xs) now = hasB ms n p 0 false (keepers xs) now := by
  unfold hasB minsOf
  have : ((keepers xs).filter (keepB ms n p)).map (fun x => gt ms p + spanOf (nevOf xs).1 (nevOf xs).2 x) = ((keepers xs).filter (keepB ms n p)).map (fun x => gt ms p + spanOf 0 false x) :=
    List.map_congr_left (fun x hx => by rw [span_same hr hno ((List.mem_filter.1 hx).1)])
  rw [this]
/-! ### the witness -/
theorem keep_far {x : Ru} (hr : rightB x = true) (h4 : x.kind ≠ 4) : keepB [0, x.len + 1] 2 0 x = true := by
  have ok := rightB_ok hr
  have k1 := ok.k1
  have k4 := ok.k4
  unfold keepB
  by_cases e1 : x.kind = 1
  · rw [if_pos e1]
  · rw [if_neg e1]
    by_cases e2 : x.kind = 2
    · rw [if_pos e2]
      have hl := ok.l1 (by omega) (by omega)
      show (!((0 : Int).tdiv x.len == (x.len + 1).tdiv x.len)) = true
      have h0 : (0 : Int).tdiv x.len = 0 := Int.zero_tdiv _
      have h1 : 1 ≤ (x.len + 1).tdiv x.len := by
        rw [Int.tdiv_eq_ediv_of_nonneg (by omega)]
        exact (Int.le_ediv_iff_mul_le (by omega)).2 (by omega)
      rw [h0]
      have h2 : ((0 : Int) == (x.len + 1).tdiv x.len) = false := by
        apply beq_eq_false_iff_ne.2
        omega
      rw [h2]
      rfl
    · rw [if_neg e2]
      show decide (x.len < x.len + 1 - 0) = true
      exact decide_eq_true (by omega)
theorem has_alone {x : Ru} (hr : rightB x = true) (h4 : x.kind ≠ 4) (now : Int) (h : now < x.fr) : hasB [0, x.len + 1] 2 0 (nevOf [x]).1 (nevOf [x]).2 (keepers [x]) now = true := by
  have hk : keepers [x] = [x] := by
    unfold keepers
    rw [List.filter_cons_of_pos (by simpa using h4)]
    rfl
  have hn : nevOf [x] = (0, false) := foldl_nev [x] (fun y hy => by rw [List.mem_singleton] at hy; rw [hy]; exact h4) _
  rw [hk, hn]
  unfold hasB minsOf
  rw [if_neg (by decide), List.filter_cons_of_pos (keep_far hr h4)]
  show decide (now < 0 + x.fr) = true
  exact decide_eq_true (by omega)
theorem has_beside {x y : Ru} (hr : rightB x = true) (h4 : x.kind ≠ 4) (hy : y.kind = 4) (hlt : y.fr < x.fr) : hasB [0, x.len + 1] 2 0 (nevOf [x, y]).1 (nevOf [x, y]).2 (keepers [x, y]) y.fr = false := by
  have hk : keepers [x, y] = [x] := by
    unfold keepers
    rw [List.filter_cons_of_pos (by simpa using h4), List.filter_cons_of_neg (by simpa using hy)]
    rfl
  have hn : nevOf [x, y] = (y.fr, true) := by
    unfold nevOf
    rw [List.foldl_cons, nevStep_ne _ x h4, List.foldl_cons]
    unfold nevStep
    rw [if_pos hy, if_pos (.inl rfl)]
    rfl
  rw [hk, hn]
  unfold hasB minsOf
  rw [if_neg (by decide), List.filter_cons_of_pos (keep_far hr h4)]
  show decide (y.fr < 0 + spanOf y.fr true x) = false
  unfold spanOf
  rw [if_pos rfl]
  exact decide_eq_false (by omega)
end Go.Proofs.YtjoafafjpmfjbaaGreatDoor
