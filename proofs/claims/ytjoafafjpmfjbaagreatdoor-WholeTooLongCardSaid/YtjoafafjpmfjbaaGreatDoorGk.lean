/-
  WholeTooLong: a law of rules and of moments at rising minutes.
-/
import Derived.Test.YtjoafafjpmfjbaaGreatDoorGj
/-
  WholeTooLong: a law of one's own; one moment more.
-/
namespace Go.Proofs.YtjoafafjpmfjbaaGreatDoor
open Go.RowKit Go.Shelf Go.Proofs.YtjoafafjpmfjbaaGreatDoorW.PrintWords Go.Proofs.YtjoafafjpmfjbaaGreatDoorW.PrintLast Go.Proofs.YtjoafafjpmfjbaaGreatDoorW.PrintMore
set_option linter.unusedVariables false
set_option linter.unusedSimpArgs false

/-- A law of one's own: its table, its keepers; no hold, no branch. -/
structure LawOwn (w : World) (base : Nat) (ok : Nat → Prop) (g bk fo : Nat) (A : Option Addr) (ck : Nat) (ks : List Ru) (ms : List Int) : Prop where
  tab : ∃ v, TabOwn w base ok g ms v
  okg : ok g
  keep : kKeep.R 92 w base ok (.slice A ks.length ck) ks
  book : w.heap[bk]? = some (.cells #[.slice none 0 0] 95 (0, 0))
  okb : ok bk
  leb : base ≤ bk
  forest : w.heap[fo]? = some (.cells forestZ.toArray 100 (0, 0))
  okf : ok fo
  lef : base ≤ fo
theorem TabOwn.mono {w : World} {base : Nat} {ok ok' : Nat → Prop} {g : Nat} {ms : List Int} {v : Value} (h : TabOwn w base ok g ms v) (hm : ∀ k, ok k → ok' k) : TabOwn w base ok' g ms v := ⟨h.box, Kd.R_mono h.row hm, h.le⟩
theorem LawOwn.mono {w : World} {base : Nat} {ok ok' : Nat → Prop} {g bk fo : Nat} {A : Option Addr} {ck : Nat} {ks : List Ru} {ms : List Int} (h : LawOwn w base ok g bk fo A ck ks ms) (hm : ∀ k, ok k → ok' k) : LawOwn w base ok' g bk fo A ck ks ms :=
  ⟨by obtain ⟨v, hv⟩ := h.tab; exact ⟨v, hv.mono hm⟩, hm _ h.okg, Kd.R_mono h.keep hm, h.book, hm _ h.okb, h.leb, h.forest, hm _ h.okf, h.lef⟩
theorem LawOwn.bound {w : World} {base : Nat} {ok : Nat → Prop} {g bk fo : Nat} {A : Option Addr} {ck : Nat} {ks : List Ru} {ms : List Int} (h : LawOwn w base ok g bk fo A ck ks ms) : LawOwn w base (fun k => ok k ∧ base ≤ k ∧ k < w.heap.size) g bk fo A ck ks ms := by
  obtain ⟨v, hv⟩ := h.tab
  exact ⟨⟨v, hv.box, Kd.R_mono (Kd.R_bound hv.row) (fun k hk => ⟨hk.1, hk.2.1, hk.2.2.1⟩), hv.le⟩, ⟨h.okg, hv.le, blk_lt hv.box⟩, Kd.R_mono (Kd.R_bound h.keep) (fun k hk => ⟨hk.1, hk.2.1, hk.2.2.1⟩), h.book, ⟨h.okb, h.leb, blk_lt h.book⟩, h.leb, h.forest, ⟨h.okf, h.lef, blk_lt h.forest⟩, h.lef⟩
theorem LawOwn.kept {w w' : World} {base : Nat} {ok S : Nat → Prop} {g bk fo : Nat} {A : Option Addr} {ck : Nat} {ks : List Ru} {ms : List Int} (h : LawOwn w base ok g bk fo A ck ks ms) (hk : Kept w w' S) (hS : ∀ k, ok k → ¬ S k) : LawOwn w' base ok g bk fo A ck ks ms :=
  ⟨by obtain ⟨v, hv⟩ := h.tab; exact ⟨v, hv.kept hk (hS _ h.okg) hS⟩, h.okg, Kd.R_kept h.keep hk hS, blk_kept h.book hk (hS _ h.okb), h.okb, h.leb, blk_kept h.forest hk (hS _ h.okf), h.okf, h.lef⟩
theorem LawOwn.below {w w' : World} {base : Nat} {ok : Nat → Prop} {g bk fo : Nat} {A : Option Addr} {ck : Nat} {ks : List Ru} {ms : List Int} (h : LawOwn w base ok g bk fo A ck ks ms) (hb : Below w.heap.size w w') : LawOwn w' base ok g bk fo A ck ks ms :=
  h.kept (Kept.of_below hb (fun _ => False)) (fun _ _ h => h)
theorem LawOwn.at {w : World} {base : Nat} {ok : Nat → Prop} {g bk fo : Nat} {A : Option Addr} {ck : Nat} {ks : List Ru} {ms : List Int} (h : LawOwn w base ok g bk fo A ck ks ms) (hl : ms.length ≤ 1000) : ∃ TA c, LawAt w g bk fo A ks.length ks ms TA ms.length c := by
  obtain ⟨v, hv⟩ := h.tab
  obtain ⟨TA, c, _, ht⟩ := hv.at hl
  exact ⟨TA, c, ht, (Kd.R_reads' h.keep).2.2, h.book, h.forest⟩
theorem LawOwn.gblk {w : World} {base : Nat} {ok : Nat → Prop} {g bk fo : Nat} {A : Option Addr} {ck : Nat} {ks : List Ru} {ms : List Int} (h : LawOwn w base ok g bk fo A ck ks ms) : ∃ v, w.heap[g]? = some (.cells #[v] 60 (0, 0)) := by
  obtain ⟨v, hv⟩ := h.tab
  exact ⟨v, hv.box⟩
def lawTys : List TypeId := [62, 92, 41, 60, 95, 100]
/-- A law's blocks are of a law's types. -/
def LawTy (w : World) (k : Nat) : Prop := ∃ q, q ∈ lawTys ∧ ∃ cells, w.heap[k]? = some (.cells cells q (0, 0))
theorem LawOwn.typed {w : World} {base : Nat} {ok : Nat → Prop} {g bk fo : Nat} {A : Option Addr} {ck : Nat} {ks : List Ru} {ms : List Int} (h : LawOwn w base ok g bk fo A ck ks ms) : LawOwn w base (fun k => ok k ∧ LawTy w k) g bk fo A ck ks ms := by
  obtain ⟨v, hv⟩ := h.tab
  refine ⟨⟨v, hv.box, Kd.R_mono (Kd.R_bound hv.row) (fun k hk => ?_), hv.le⟩, ⟨h.okg, _, by decide, _, hv.box⟩, Kd.R_mono (Kd.R_bound h.keep) (fun k hk => ?_), h.book, ⟨h.okb, _, by decide, _, h.book⟩, h.leb, h.forest, ⟨h.okf, _, by decide, _, h.forest⟩, h.lef⟩
  · obtain ⟨h1, h2, h3, q, hq, cells, hc⟩ := hk
    have hq' : q ∈ [62] := hq
    rw [List.mem_singleton] at hq'
    subst hq'
    exact ⟨h1, _, by decide, _, hc⟩
  · obtain ⟨h1, h2, h3, q, hq, cells, hc⟩ := hk
    have hq' : q ∈ [92, 41] := hq
    simp only [List.mem_cons, List.not_mem_nil, or_false] at hq'
    rcases hq' with rfl | rfl
    · exact ⟨h1, _, by decide, _, hc⟩
    · exact ⟨h1, _, by decide, _, hc⟩
theorem LawTy.not {w : World} {k : Nat} {cs : Array Value} {t : TypeId} (h : LawTy w k) (hc : w.heap[k]? = some (.cells cs t (0, 0))) (ht : t ∉ lawTys) : False := by
  obtain ⟨q, hq, cells, hc2⟩ := h
  rw [hc] at hc2
  injection hc2 with hc2
  injection hc2 with _ hc2
  subst hc2
  exact ht hq
/-- A row of another type has grown. -/
theorem LawOwn.grown {w w' : World} {base : Nat} {ok : Nat → Prop} {g bk fo : Nat} {A : Option Addr} {ck : Nat} {ks : List Ru} {ms : List Int} (h : LawOwn w base ok g bk fo A ck ks ms) {row : Option Nat} (hg : w.grownBy w' row) {t : TypeId} (ht : t ∉ lawTys) (hr : ∀ k, row = some k → ∃ cells, w.heap[k]? = some (.cells cells t (0, 0))) : LawOwn w' base ok g bk fo A ck ks ms :=
  (h.typed.kept (Kept.of_grown (S := fun k => row = some k) hg (Kept.refl _ _) (fun k hk => .inl hk)) (fun k hk e => by obtain ⟨cells, hc⟩ := hr k e; exact hk.2.not hc ht)).mono (fun k hk => hk.1)
/-- A cell of a block of another type is written. -/
theorem LawOwn.set {w : World} {base : Nat} {ok : Nat → Prop} {g bk fo : Nat} {A : Option Addr} {ck : Nat} {ks : List Ru} {ms : List Int} (h : LawOwn w base ok g bk fo A ck ks ms) {b : Nat} {cs : Array Value} {t : TypeId} (hb : w.heap[b]? = some (.cells cs t (0, 0))) (ht : t ∉ lawTys) (i : Nat) (u : Value) : LawOwn (w.setCell ⟨b, i, none⟩ u) base ok g bk fo A ck ks ms :=
  (h.typed.kept (Kept.setCell (S := fun k => k = b) (Kept.refl _ _) (p := ⟨b, i, none⟩) (.inl rfl) u) (fun k hk e => by subst e; exact hk.2.not hb ht)).mono (fun k hk => hk.1)
/-- What one moment more may write: the table's box, its row. -/
def AddW (w : World) (ok : Nat → Prop) (g k : Nat) : Prop := k = g ∨ (ok k ∧ ∃ cells, w.heap[k]? = some (.cells cells 62 (0, 0))) ∨ w.heap.size ≤ k
theorem AddW.other {w : World} {ok : Nat → Prop} {g k : Nat} {cs cg : Array Value} {t : TypeId} (hg : w.heap[g]? = some (.cells cg 60 (0, 0))) (h : w.heap[k]? = some (.cells cs t (0, 0))) (h1 : t ≠ 60) (h2 : t ≠ 62) : ¬ AddW w ok g k := by
  rintro (rfl | ⟨_, cells, hc⟩ | hk)
  · rw [hg] at h; injection h with h; injection h with _ h; exact h1 h.symm
  · rw [hc] at h; injection h with h; injection h with _ h; exact h2 h.symm
  · have := blk_lt h; omega
theorem add_law (w0 : World) (base : Nat) (ok : Nat → Prop) (g bk fo : Nat) (A : Option Addr) (ck : Nat) (ks : List Ru) (ms : List Int) (n : Nat) (hn : ms.length = n) (m : Int) (w : World) (h : LawOwn w base ok g bk fo A ck ks ms) (hok : ∀ k, w.heap.size ≤ k → ok k) (hB : Below base w0 w) (hbase : base ≤ w.heap.size)
    (hl : n < 1000) (hm0 : 0 ≤ m) (hm1 : m ≤ 1073741824) (hup : ∀ x ∈ ms, x ≤ m) :
    Calls Tryz.prog 7 #[.pointer (some ⟨g, 0, none⟩), .int .u64 ((n : Int) + 1), .int .i64 m] w fun e w' => e = .returned (.int .i64 0) ∧ LawOwn w' base ok g bk fo A ck ks (ms ++ [m]) ∧ Kept w w' (AddW w ok g) ∧ Below base w0 w' := by
  obtain ⟨v, hv⟩ := h.tab
  obtain ⟨TA, c, rfl⟩ := Kd.R_slice hv.row
  rw [items_len, hn] at hv
  have hv' : TabOwn w base (fun k => (ok k ∧ ∃ cells, w.heap[k]? = some (.cells cells 62 (0, 0))) ∨ w.heap.size ≤ k) g ms (.slice TA n c) := ⟨hv.box, Kd.R_mono (Kd.R_bound hv.row) (fun k hk => by
    obtain ⟨h1, h2, h3, q, hq, cells, hc⟩ := hk
    have hq' : q ∈ [62] := hq
    rw [List.mem_singleton] at hq'
    subst hq'
    exact .inl ⟨h1, cells, hc⟩), hv.le⟩
  refine (add_tab w0 base _ g ms TA n c hn m w hv' (fun k hk => .inr hk) hB hbase hl hm0 hm1 hup).mono ?_
  rintro e w' ⟨rfl, TA', c', ht, hk, hb⟩
  have hk' : Kept w w' (AddW w ok g) := hk
  refine ⟨rfl, ⟨⟨_, ht.mono (fun k hk => by rcases hk with hk | hk; exact hk.1; exact hok k hk)⟩, h.okg, ?_, ?_, h.okb, h.leb, ?_, h.okf, h.lef⟩, hk', hb⟩
  · refine Kd.R_mono (Kd.R_kept (Kd.R_bound h.keep) hk' (fun k hk => ?_)) (fun k hk => hk.1)
    obtain ⟨h1, h2, h3, q, hq, cells, hc⟩ := hk
    have hq' : q ∈ [92, 41] := hq
    simp only [List.mem_cons, List.not_mem_nil, or_false] at hq'
    rcases hq' with rfl | rfl
    · exact AddW.other hv.box hc (by decide) (by decide)
    · exact AddW.other hv.box hc (by decide) (by decide)
  · exact blk_kept h.book hk' (AddW.other hv.box h.book (by decide) (by decide))
  · exact blk_kept h.forest hk' (AddW.other hv.box h.forest (by decide) (by decide))
/-! ### minutes -/
def sumTo (gs : List UInt8) : Nat → Int
  | 0 => 0
  | k + 1 => sumTo gs k + (((gt gs k).toNat % 50 : Nat) : Int)
def minsTo (gs : List UInt8) : Nat → List Int
  | 0 => []
  | k + 1 => minsTo gs k ++ [sumTo gs (k + 1)]
theorem minsTo_len (gs : List UInt8) (k : Nat) : (minsTo gs k).length = k := by
  induction k with
  | zero => rfl
  | succ k ih => unfold minsTo; rw [List.length_append, ih]; rfl
theorem sumTo_bound (gs : List UInt8) (k : Nat) : 0 ≤ sumTo gs k ∧ sumTo gs k ≤ 49 * k := by
  induction k with
  | zero => exact ⟨Int.le_refl _, Int.le_refl _⟩
  | succ k ih => unfold sumTo; omega
theorem sumTo_le (gs : List UInt8) (k : Nat) : sumTo gs k ≤ sumTo gs (k + 1) := by
  have : sumTo gs (k + 1) = sumTo gs k + (((gt gs k).toNat % 50 : Nat) : Int) := rfl
  omega
theorem minsTo_le (gs : List UInt8) (k : Nat) : ∀ x ∈ minsTo gs k, 0 ≤ x ∧ x ≤ sumTo gs k := by
  induction k with
  | zero => intro x hx; simp [minsTo] at hx
  | succ k ih =>
    intro x hx
    unfold minsTo at hx
    rw [List.mem_append, List.mem_singleton] at hx
    rcases hx with hx | rfl
    · have := ih x hx; have := sumTo_le gs k; omega
    · have := sumTo_bound gs (k + 1); omega
end Go.Proofs.YtjoafafjpmfjbaaGreatDoor
namespace Go.Proofs.YtjoafafjpmfjbaaGreatDoor
open Go.RowKit Go.Shelf Go.Proofs.YtjoafafjpmfjbaaGreatDoorW.PrintWords Go.Proofs.YtjoafafjpmfjbaaGreatDoorW.PrintLast Go.Proofs.YtjoafafjpmfjbaaGreatDoorW.PrintMore
set_option linter.unusedVariables false
set_option linter.unusedSimpArgs false

/-- No law. -/
def lawZ : Array Value := #[.pointer none, .slice none 0 0, .int .i64 0, .bool false, .pointer none, .pointer none]
/-- What making a law answers. -/
def LawPost (xs : List Ru) (gs : List UInt8) (n m : Nat) (w : World) (e : Ending) (w' : World) : Prop :=
  Below w.heap.size w w' ∧ ((e = .returned (.tuple #[.agg lawZ, .slice none 0 0, .bool false]) ∧ (6 < n ∨ 12 < m ∨ ∃ x ∈ xs, rightB x = false)) ∨
    (n ≤ 6 ∧ m ≤ 12 ∧ (∀ x ∈ xs, rightB x = true) ∧ ∃ g bk fo A' ck v2, e = .returned (.tuple #[lawV g bk fo A' (keepers xs).length ck (nevOf xs).1 (nevOf xs).2, v2, .bool true]) ∧ LawOwn w' w.heap.size (fun _ => True) g bk fo A' ck (keepers xs) (minsTo gs m)))
theorem keep3 {V W : World} {a b c : Addr} {x y z : Value} (q0 : V.cell? a = some x) (q1 : V.cell? b = some y) (q2 : V.cell? c = some z) (hb : Below V.heap.size V W) : W.cell? a = some x ∧ W.cell? b = some y ∧ W.cell? c = some z := ⟨cell_old hb q0, cell_old hb q1, cell_old hb q2⟩
theorem four_box (V : World) (o0 o1 o2 o3 : Obj) : ((((V.alloc o0).alloc o1).alloc o2).alloc o3).drew.heap[V.heap.size]? = some o0 ∧ ((((V.alloc o0).alloc o1).alloc o2).alloc o3).drew.heap[V.heap.size + 1]? = some o1 ∧ ((((V.alloc o0).alloc o1).alloc o2).alloc o3).drew.heap[V.heap.size + 1 + 1]? = some o2 ∧
    ((((V.alloc o0).alloc o1).alloc o2).alloc o3).drew.heap[V.heap.size + 1 + 1 + 1]? = some o3 ∧ Below V.heap.size V ((((V.alloc o0).alloc o1).alloc o2).alloc o3).drew := by
  have e1 := World.size_alloc V o0
  have e2 := World.size_alloc (V.alloc o0) o1
  have e3 := World.size_alloc ((V.alloc o0).alloc o1) o2
  have b1 := blk_new (V.alloc o0) o1
  have b2 := blk_new ((V.alloc o0).alloc o1) o2
  have b3 := blk_new (((V.alloc o0).alloc o1).alloc o2) o3
  rw [e3, e2, e1] at b3
  rw [e2, e1] at b2
  rw [e1] at b1
  exact ⟨blk_alloc (blk_alloc (blk_alloc (blk_new V o0) o1) o2) o3, blk_alloc (blk_alloc b1 o2) o3, blk_alloc b2 o3, b3, below_drew (below_alloc (below_alloc (below_alloc (below_alloc (Below.refl _ _) _) _) _) _)⟩
theorem info_lawS : (Tryz.prog.info? 32).map (·.size) = some 6 := by kernel_rfl
set_option maxHeartbeats 3200000 in
theorem law_any (A : Option Addr) (n c : Nat) (xs : List Ru) (hn : xs.length = n) (G : Option Addr) (m cg : Nat) (gs : List UInt8) (hm : gs.length = m) (w : World) (h : kRu.C w A n xs) (hG : byte.C w G m gs) :
    Calls Tryz.prog 5 #[.slice A n c, .slice G m cg] w (LawPost xs gs n m w) := by
  have hnm : n ≤ 9223372036854775807 := h.2.1
  have hmm : m ≤ 9223372036854775807 := hG.2.1
  have HB0 := Aside0.mk (below_alloc (Below.refl w.heap.size w) (.cells lawZ 32))
  have H4 := Aside0.mk (blk_new w (.cells lawZ 32))
  have HCO := Aside0.mk (comp_any A n c xs hn (w.alloc (.cells lawZ 32)) (Kd.C_below h HB0.out))
  have HG := Aside0.mk hG
  have HM := Aside0.mk hm
  clear h hG hn hm
  unfold lawZ at HCO H4 HB0
  by_cases h6 : n ≤ 6
  · by_cases h12 : m ≤ 12
    · have j1 : ¬ ((n : Int) > 6) := by omega
      have j1' : decide (6 < (n : Int)) = false := decide_eq_false j1
      have j2 : ¬ ((m : Int) > 12) := by omega
      have j2' : decide (12 < (m : Int)) = false := decide_eq_false j2
      go_enter Tryz.func5, Tryz.ntmps5
      go_upto_region 4 with (((go_at_call 12; refine HCO.out.mono ?_; unfold CompPost; rintro e w1 ⟨hbb, (⟨er, her, rfl, hwhy⟩ | ⟨hn16, hrt, A', c', rfl, hks⟩)⟩) <;> (first | (have HWHY := Aside0.mk hwhy; have HX := Aside0.mk (blk_alloc (blk_below H4.out hbb) (.cells #[.slice none 0 0, .int .i64 0, .bool false] 28)); have HB2 := Aside0.mk (below_alloc (below_step HB0.out hbb) (.cells #[.slice none 0 0, .int .i64 0, .bool false] 28)); clear hbb hwhy; (have bx := HX.out; have d0 := blk_cell bx 0; have d1 := blk_cell bx 1; have d2 := blk_cell bx 2; have d3 := blk_cell bx 3; have d4 := blk_cell bx 4; have d5 := blk_cell bx 5; simp only [lawZ, List.getElem?_toArray, List.getElem?_cons_zero, List.getElem?_cons_succ] at d0 d1 d2 d3 d4 d5; have f0 := blk_frozen bx 0; have f1 := blk_frozen bx 1; have f2 := blk_frozen bx 2; have f3 := blk_frozen bx 3; have f4 := blk_frozen bx 4; have f5 := blk_frozen bx 5; clear bx)) | go_loud (obtain ⟨nv, hnv⟩ : ∃ nv, nv = nevOf xs := ⟨_, rfl⟩; rw [← hnv]; have HNV := Aside0.mk hnv; have HRT := Aside0.mk hrt; have HKS := Aside0.mk hks; obtain ⟨nv, ns⟩ := nv; obtain ⟨nk, hnk⟩ : ∃ nk, nk = (keepers xs).length := ⟨_, rfl⟩; rw [← hnk]; have HNK := Aside0.mk hnk; dsimp only; have HX := Aside0.mk (blk_alloc (blk_below H4.out hbb) (.cells #[.slice A' nk c', .int .i64 nv, .bool ns] 28)); have HB1 := Aside0.mk (below_step HB0.out hbb); have HB2 := Aside0.mk (below_alloc (below_step HB0.out hbb) (.cells #[.slice A' nk c', .int .i64 nv, .bool ns] 28)); have HBB := Aside0.mk hbb; clear hbb hnv hrt hks hnk; (have bx := HX.out; have d0 := blk_cell bx 0; have d1 := blk_cell bx 1; have d2 := blk_cell bx 2; have d3 := blk_cell bx 3; have d4 := blk_cell bx 4; have d5 := blk_cell bx 5; simp only [lawZ, List.getElem?_toArray, List.getElem?_cons_zero, List.getElem?_cons_succ] at d0 d1 d2 d3 d4 d5; have f0 := blk_frozen bx 0; have f1 := blk_frozen bx 1; have f2 := blk_frozen bx 2; have f3 := blk_frozen bx 3; have f4 := blk_frozen bx 4; have f5 := blk_frozen bx 5; clear bx)))))
      · have hwhy2 : 6 < n ∨ 12 < m ∨ ∃ x ∈ xs, rightB x = false := by rcases HWHY.out with h | h; exact .inl (by omega); exact .inr (.inr h)
        (refine bodyPost_ret (results_ctt rfl _ _ w.heap.size 32 lawZ (0, 0) _ rfl (blk_put (blk_put (blk_put (blk_put (blk_put (blk_put HX.out 0 _ rfl) 1 _ rfl) 2 _ rfl) 3 _ rfl) 4 _ rfl) 5 _ rfl) Tryz.underlying32 rfl info_lawS) rfl ?_; exact ⟨(((((HB2.out.setCell (p := ⟨w.heap.size, 0, none⟩) (Nat.le_refl _) _).setCell (p := ⟨w.heap.size, 1, none⟩) (Nat.le_refl _) _).setCell (p := ⟨w.heap.size, 2, none⟩) (Nat.le_refl _) _).setCell (p := ⟨w.heap.size, 3, none⟩) (Nat.le_refl _) _).setCell (p := ⟨w.heap.size, 4, none⟩) (Nat.le_refl _) _).setCell (p := ⟨w.heap.size, 5, none⟩) (Nat.le_refl _) _, .inl ⟨rfl, hwhy2⟩⟩)
      · clear d0 d1 d2 d3 d4 d5 f0 f1 f2 f3 f4 f5
        have h7 := blk_new w1 (.cells #[.slice A' nk c', .int .i64 nv, .bool ns] 28)
        obtain ⟨V, hV⟩ : ∃ V, w1.alloc (.cells #[.slice A' nk c', .int .i64 nv, .bool ns] 28) = V := ⟨_, rfl⟩
        rw [hV] at HX HB2 h7 ⊢
        have HV := Aside0.mk hV
        clear hV
        have q0 := blk_cell h7 0
        have q1 := blk_cell h7 1
        have q2 := blk_cell h7 2
        simp only [List.getElem?_toArray, List.getElem?_cons_zero, List.getElem?_cons_succ] at q0 q1 q2
        clear h7
        go_cut [9] (fun v9 wd => ∃ p9 g bk fo : Nat, v9 = .pointer (some ⟨p9, 0, none⟩) ∧ Aside0 (wd.heap[p9]? = some (.cells #[.pointer (some ⟨g, 0, none⟩), .slice A' nk c', .int .i64 nv, .bool ns, .pointer (some ⟨bk, 0, none⟩), .pointer (some ⟨fo, 0, none⟩)] 32 (0, 0))) ∧
          Aside0 (wd.heap[g]? = some (.cells #[.slice none 0 0] 60 (0, 0))) ∧ Aside0 (wd.heap[bk]? = some (.cells #[.slice none 0 0] 95 (0, 0))) ∧ Aside0 (wd.heap[fo]? = some (.cells forestZ.toArray 100 (0, 0))) ∧ Aside0 (V.heap.size ≤ p9 ∧ V.heap.size ≤ g ∧ V.heap.size ≤ bk ∧ V.heap.size ≤ fo) ∧ Aside0 (Below V.heap.size V wd))
        case first =>
          go_region_held3 (fun W => W.cell? ⟨w1.heap.size, 0, none⟩ = some (.slice A' nk c') ∧ W.cell? ⟨w1.heap.size, 1, none⟩ = some (.int .i64 nv) ∧ W.cell? ⟨w1.heap.size, 2, none⟩ = some (.bool ns)) (exact keep3 q0 q1 q2 (by repeat (first | exact Below.refl _ _ | apply below_drew | apply below_alloc))) (first | (go_at_call 13; refine (new_tab _).mono ?_; rintro e w5 ⟨rfl, rfl⟩) | (go_at_call 14; refine (new_book _).mono ?_; rintro e w5 ⟨rfl, rfl⟩) | (go_at_call 15; refine (new_forest _).mono ?_; rintro e w5 ⟨rfl, rfl⟩))
          all_goals (go_wp2_with fail)
          all_goals go_meet
          all_goals (first | (exact ⟨V.heap.size, V.heap.size + 1, V.heap.size + 1 + 1, V.heap.size + 1 + 1 + 1, rfl, ⟨(four_box V _ _ _ _).1⟩, ⟨(four_box V _ _ _ _).2.1⟩, ⟨(four_box V _ _ _ _).2.2.1⟩, ⟨(four_box V _ _ _ _).2.2.2.1⟩, ⟨by omega, by omega, by omega, by omega⟩, ⟨(four_box V _ _ _ _).2.2.2.2⟩⟩) | (exact ⟨V.heap.size + 1, V.heap.size, V.heap.size + 1 + 1, V.heap.size + 1 + 1 + 1, rfl, ⟨(four_box V _ _ _ _).2.1⟩, ⟨(four_box V _ _ _ _).1⟩, ⟨(four_box V _ _ _ _).2.2.1⟩, ⟨(four_box V _ _ _ _).2.2.2.1⟩, ⟨by omega, by omega, by omega, by omega⟩, ⟨(four_box V _ _ _ _).2.2.2.2⟩⟩) | (exact ⟨V.heap.size + 1 + 1, V.heap.size, V.heap.size + 1, V.heap.size + 1 + 1 + 1, rfl, ⟨(four_box V _ _ _ _).2.2.1⟩, ⟨(four_box V _ _ _ _).1⟩, ⟨(four_box V _ _ _ _).2.1⟩, ⟨(four_box V _ _ _ _).2.2.2.1⟩, ⟨by omega, by omega, by omega, by omega⟩, ⟨(four_box V _ _ _ _).2.2.2.2⟩⟩) | (exact ⟨V.heap.size + 1 + 1 + 1, V.heap.size, V.heap.size + 1, V.heap.size + 1 + 1, rfl, ⟨(four_box V _ _ _ _).2.2.2.1⟩, ⟨(four_box V _ _ _ _).1⟩, ⟨(four_box V _ _ _ _).2.1⟩, ⟨(four_box V _ _ _ _).2.2.1⟩, ⟨by omega, by omega, by omega, by omega⟩, ⟨(four_box V _ _ _ _).2.2.2.2⟩⟩))
        obtain ⟨p9, g, bk, fo, rfl, HP9, HTG, HBK, HFO, HLE, HBV⟩ := hcut
        clear q0 q1 q2
        have HBW := Aside0.mk (below_step HB2.out HBV.out)
        have H4c := Aside0.mk (blk_below HX.out HBV.out)
        have HLO : Aside0 (LawOwn wc w.heap.size (fun _ => True) g bk fo A' c' (keepers xs) []) := ⟨⟨⟨_, HTG.out, Kd.R_nil _ _ _ _ _, Nat.le_trans HB2.out.size HLE.out.2.1⟩, trivial, Kd.R_below (by rw [← HV.out]; exact Kd.R_alloc (Kd.R_lower HKS.out (by rw [World.size_alloc]; exact Nat.le_succ _)) _) HBV.out, HBK.out, trivial, Nat.le_trans HB2.out.size HLE.out.2.2.1, HFO.out, trivial, Nat.le_trans HB2.out.size HLE.out.2.2.2⟩⟩
        clear HV HKS HTG HBK HFO HLE HBV HX HB2 HB1 HBB H4 HB0
        go_wp2_with fail
        go_loopg [10, 11, 12] m (fun gk v10 v11 v12 wr => ∃ k : Nat, k ≤ m ∧ Aside0 (gk = m - k) ∧ v12 = .int .i64 k ∧ v11 = .int .i64 (sumTo gs k) ∧ Aside0 (LawOwn wr w.heap.size (fun _ => True) g bk fo A' c' (keepers xs) (minsTo gs k)) ∧ Aside0 (wr.heap[w.heap.size]? = some (.cells lawZ 32 (0, 0))) ∧
          Aside0 (wr.heap[p9]? = some (.cells #[.pointer (some ⟨g, 0, none⟩), .slice A' nk c', .int .i64 nv, .bool ns, .pointer (some ⟨bk, 0, none⟩), .pointer (some ⟨fo, 0, none⟩)] 32 (0, 0))) ∧ Aside0 ((Kd.int .i64).R 3 wr w.heap.size (fun _ => True) v10 (minsTo gs k)) ∧ Aside0 (Below w.heap.size w wr))
        case atStart => exact ⟨0, Nat.zero_le _, ⟨rfl⟩, rfl, rfl, HLO, H4c, HP9, ⟨Kd.R_nil _ _ _ _ _⟩, HBW⟩
        case round =>
          clear HLO H4c HP9 HBW
          obtain ⟨k, hk, HGK, rfl, rfl, HLO, H4, HP9, HR, HB⟩ := hrel
          by_cases hlt : k < m
          · have i1 : (k : Int) < (m : Int) := by omega
            obtain ⟨ad, rfl, b0⟩ := byte_at (Kd.C_below HG.out HB.out) hlt
            have hs := sumTo_bound gs k
            have hs1 := sumTo_bound gs (k + 1)
            have hst : sumTo gs (k + 1) = sumTo gs k + (((gt gs k).toNat % 50 : Nat) : Int) := rfl
            have hmt : minsTo gs (k + 1) = minsTo gs k ++ [sumTo gs (k + 1)] := rfl
            have HAD := Aside0.mk (fun (h0 : 0 ≤ sumTo gs (k + 1)) (h1 : sumTo gs (k + 1) ≤ 1073741824) => add_law w w.heap.size (fun _ => True) g bk fo A' c' (keepers xs) (minsTo gs k) k (minsTo_len gs k) (sumTo gs (k + 1)) wr HLO.out (fun _ _ => trivial) HB.out HB.out.size (by omega) h0 h1 (fun x hx => by have := (minsTo_le gs k x hx).2; have := sumTo_le gs k; omega))
            have hy : (gt gs k).toNat < 256 := (gt gs k).toNat_lt
            obtain ⟨y, hye⟩ : ∃ y, y = (gt gs k).toNat := ⟨_, rfl⟩
            rw [← hye] at b0 hst hy
            have HMT := Aside0.mk hmt
            have HME := Aside0.mk (show sumTo gs (k + 1) = sumTo gs (k + 1) from rfl)
            obtain ⟨S1, hS1⟩ : ∃ S1, S1 = sumTo gs (k + 1) := ⟨_, rfl⟩
            have HS1 := Aside0.mk hS1
            rw [← hS1] at hs1 hst HAD HMT
            obtain ⟨S0, hS0⟩ : ∃ S0, S0 = sumTo gs k := ⟨_, rfl⟩
            rw [← hS0] at hs hst ⊢
            clear hye hmt hS1 hS0 HME
            have c0 := blk_cell HP9.out 0
            simp only [List.getElem?_toArray, List.getElem?_cons_zero] at c0
            have e50 : S0 + (y : Int) % 50 = S1 := by omega
            have HAD2 := Aside0.mk (HAD.out hs1.1 (by omega))
            clear hst HAD
            go_wp2_with (first | (go_at_call 7; refine HAD2.out.mono ?_; rintro e w2 ⟨rfl, hlo, hkp, hbb⟩; have hgb := HLO.out.gblk; have HB2 := Aside0.mk hbb; have HLO2 := Aside0.mk hlo; have H42 := Aside0.mk (blk_kept H4.out hkp (AddW.other hgb.choose_spec H4.out (by decide) (by decide))); have hp2 := blk_kept HP9.out hkp (AddW.other hgb.choose_spec HP9.out (by decide) (by decide)); have HP92 := Aside0.mk hp2; have HR2 : Aside0 ((Kd.int .i64).R 3 w2 w.heap.size (fun _ => True) u10 (minsTo gs k)) := ⟨Kd.R_mono (Kd.R_kept (Kd.R_bound HR.out) hkp (fun q hq => by (obtain ⟨_, _, _, t, ht, cells, hc⟩ := hq); (have ht' : t ∈ [3] := ht); rw [List.mem_singleton] at ht'; subst ht'; exact AddW.other hgb.choose_spec hc (by decide) (by decide))) (fun q hq => trivial)⟩; clear hlo hkp hbb hgb hp2 c0) | ((with_reducible refine gate_builtin (b := .append) (xs := #[.tmp 59, .tmp 61]) rfl ?_); at_builtin; refine Kd.R_append (Kd.int .i64) (w0 := w) w.heap.size rfl (.tmp 59) (.tmp 61) 33 3 (.int .i64 0) 8 rfl Tryz.underlying33 info_int rfl (Nat.succ_pos _) (by omega) u10 (minsTo gs k) S1 [.int .i64 S1] (fun _ => True) (fun _ => False) rfl rfl (kInt_M _ _ _ _) (fun _ hk => hk.elim) (fun _ _ => trivial) HR2.out HB2.out HB2.out.size (by rw [minsTo_len]; omega) ?_; intro v4 w4 ho hb hg hat; have HR4 := Aside0.mk ho; have HB4 := Aside0.mk hb; have HG4 := Aside0.mk hg; clear ho hb hg hat))
            go_roundg (m - (k + 1))
            case measure => have := HGK.out; omega
            case rel => exact ⟨k + 1, by omega, ⟨rfl⟩, by go_num, by rw [HS1.out], ⟨by rw [HMT.out]; exact HLO2.out.grown HG4.out (t := 3) (by decide) (Kd.R_typed HR2.out)⟩, ⟨blk_grown H42.out HG4.out (Kd.R_ne HR2.out H42.out (by decide))⟩, ⟨blk_grown HP92.out HG4.out (Kd.R_ne HR2.out HP92.out (by decide))⟩, ⟨by rw [HMT.out]; exact HR4.out⟩, HB4⟩
          · have i1 : ¬ (k : Int) < (m : Int) := by omega
            obtain rfl : k = m := by omega
            (have bx := H4.out; have d0 := blk_cell bx 0; have d1 := blk_cell bx 1; have d2 := blk_cell bx 2; have d3 := blk_cell bx 3; have d4 := blk_cell bx 4; have d5 := blk_cell bx 5; simp only [lawZ, List.getElem?_toArray, List.getElem?_cons_zero, List.getElem?_cons_succ] at d0 d1 d2 d3 d4 d5; have f0 := blk_frozen bx 0; have f1 := blk_frozen bx 1; have f2 := blk_frozen bx 2; have f3 := blk_frozen bx 3; have f4 := blk_frozen bx 4; have f5 := blk_frozen bx 5; clear bx)
            have bx := HP9.out
            have c0 := blk_cell bx 0
            have c1 := blk_cell bx 1
            have c2 := blk_cell bx 2
            have c3 := blk_cell bx 3
            have c4 := blk_cell bx 4
            have c5 := blk_cell bx 5
            simp only [List.getElem?_toArray, List.getElem?_cons_zero, List.getElem?_cons_succ] at c0 c1 c2 c3 c4 c5
            clear bx
            obtain ⟨s0, hs0⟩ : ∃ s0, s0 = sumTo gs k := ⟨_, rfl⟩
            rw [← hs0]
            clear hs0
            obtain ⟨Ai, ci, rfl⟩ := Kd.R_slice HR.out
            rw [minsTo_len]
            clear HR HGK
            go_wp2_with fail
            refine bodyPost_ret (results_ctt rfl _ _ w.heap.size 32 #[.pointer (some ⟨g, 0, none⟩), .slice A' nk c', .int .i64 nv, .bool ns, .pointer (some ⟨bk, 0, none⟩), .pointer (some ⟨fo, 0, none⟩)] (0, 0) _ rfl (blk_put (blk_put (blk_put (blk_put (blk_put (blk_put H4.out 0 _ rfl) 1 _ rfl) 2 _ rfl) 3 _ rfl) 4 _ rfl) 5 _ rfl) Tryz.underlying32 rfl info_lawS) rfl ?_
            have x1 := blk_set H4.out 0 (.pointer (some ⟨g, 0, none⟩))
            have x2 := blk_set x1 1 (.slice A' nk c')
            have x3 := blk_set x2 2 (.int .i64 nv)
            have x4 := blk_set x3 3 (.bool ns)
            have x5 := blk_set x4 4 (.pointer (some ⟨bk, 0, none⟩))
            refine ⟨(((((HB.out.setCell (p := ⟨w.heap.size, 0, none⟩) (Nat.le_refl _) _).setCell (p := ⟨w.heap.size, 1, none⟩) (Nat.le_refl _) _).setCell (p := ⟨w.heap.size, 2, none⟩) (Nat.le_refl _) _).setCell (p := ⟨w.heap.size, 3, none⟩) (Nat.le_refl _) _).setCell (p := ⟨w.heap.size, 4, none⟩) (Nat.le_refl _) _).setCell (p := ⟨w.heap.size, 5, none⟩) (Nat.le_refl _) _, .inr ⟨h6, h12, HRT.out, g, bk, fo, A', c', .slice Ai k ci, ?_, ((((((HLO.out.set H4.out (by decide) 0 _).set x1 (by decide) 1 _).set x2 (by decide) 2 _).set x3 (by decide) 3 _).set x4 (by decide) 4 _).set x5 (by decide) 5 _)⟩⟩
            rw [← HNV.out, ← HNK.out]
            rfl
    · have j1 : ¬ ((n : Int) > 6) := by omega
      have j1' : decide (6 < (n : Int)) = false := decide_eq_false j1
      have j2 : (m : Int) > 12 := by omega
      have j2' : decide (12 < (m : Int)) = true := decide_eq_true j2
      have hwhy2 : 6 < n ∨ 12 < m ∨ ∃ x ∈ xs, rightB x = false := .inr (.inl (by omega))
      go_enter Tryz.func5, Tryz.ntmps5
      go_wp2_with (((go_at_call 12; refine HCO.out.mono ?_; unfold CompPost; rintro e w1 ⟨hbb, (⟨er, her, rfl, hwhy⟩ | ⟨hn16, hrt, A', c', rfl, hks⟩)⟩) <;> (first | (have HWHY := Aside0.mk hwhy; have HX := Aside0.mk (blk_alloc (blk_below H4.out hbb) (.cells #[.slice none 0 0, .int .i64 0, .bool false] 28)); have HB2 := Aside0.mk (below_alloc (below_step HB0.out hbb) (.cells #[.slice none 0 0, .int .i64 0, .bool false] 28)); clear hbb hwhy; (have bx := HX.out; have d0 := blk_cell bx 0; have d1 := blk_cell bx 1; have d2 := blk_cell bx 2; have d3 := blk_cell bx 3; have d4 := blk_cell bx 4; have d5 := blk_cell bx 5; simp only [lawZ, List.getElem?_toArray, List.getElem?_cons_zero, List.getElem?_cons_succ] at d0 d1 d2 d3 d4 d5; have f0 := blk_frozen bx 0; have f1 := blk_frozen bx 1; have f2 := blk_frozen bx 2; have f3 := blk_frozen bx 3; have f4 := blk_frozen bx 4; have f5 := blk_frozen bx 5; clear bx)) | go_loud (obtain ⟨nv, hnv⟩ : ∃ nv, nv = nevOf xs := ⟨_, rfl⟩; rw [← hnv]; have HNV := Aside0.mk hnv; have HRT := Aside0.mk hrt; have HKS := Aside0.mk hks; obtain ⟨nv, ns⟩ := nv; obtain ⟨nk, hnk⟩ : ∃ nk, nk = (keepers xs).length := ⟨_, rfl⟩; rw [← hnk]; have HNK := Aside0.mk hnk; dsimp only; have HX := Aside0.mk (blk_alloc (blk_below H4.out hbb) (.cells #[.slice A' nk c', .int .i64 nv, .bool ns] 28)); have HB1 := Aside0.mk (below_step HB0.out hbb); have HB2 := Aside0.mk (below_alloc (below_step HB0.out hbb) (.cells #[.slice A' nk c', .int .i64 nv, .bool ns] 28)); have HBB := Aside0.mk hbb; clear hbb hnv hrt hks hnk; (have bx := HX.out; have d0 := blk_cell bx 0; have d1 := blk_cell bx 1; have d2 := blk_cell bx 2; have d3 := blk_cell bx 3; have d4 := blk_cell bx 4; have d5 := blk_cell bx 5; simp only [lawZ, List.getElem?_toArray, List.getElem?_cons_zero, List.getElem?_cons_succ] at d0 d1 d2 d3 d4 d5; have f0 := blk_frozen bx 0; have f1 := blk_frozen bx 1; have f2 := blk_frozen bx 2; have f3 := blk_frozen bx 3; have f4 := blk_frozen bx 4; have f5 := blk_frozen bx 5; clear bx)))))
      · (refine bodyPost_ret (results_ctt rfl _ _ w.heap.size 32 lawZ (0, 0) _ rfl (blk_put (blk_put (blk_put (blk_put (blk_put (blk_put HX.out 0 _ rfl) 1 _ rfl) 2 _ rfl) 3 _ rfl) 4 _ rfl) 5 _ rfl) Tryz.underlying32 rfl info_lawS) rfl ?_; exact ⟨(((((HB2.out.setCell (p := ⟨w.heap.size, 0, none⟩) (Nat.le_refl _) _).setCell (p := ⟨w.heap.size, 1, none⟩) (Nat.le_refl _) _).setCell (p := ⟨w.heap.size, 2, none⟩) (Nat.le_refl _) _).setCell (p := ⟨w.heap.size, 3, none⟩) (Nat.le_refl _) _).setCell (p := ⟨w.heap.size, 4, none⟩) (Nat.le_refl _) _).setCell (p := ⟨w.heap.size, 5, none⟩) (Nat.le_refl _) _, .inl ⟨rfl, hwhy2⟩⟩)
      · (refine bodyPost_ret (results_ctt rfl _ _ w.heap.size 32 lawZ (0, 0) _ rfl (blk_put (blk_put (blk_put (blk_put (blk_put (blk_put HX.out 0 _ rfl) 1 _ rfl) 2 _ rfl) 3 _ rfl) 4 _ rfl) 5 _ rfl) Tryz.underlying32 rfl info_lawS) rfl ?_; exact ⟨(((((HB2.out.setCell (p := ⟨w.heap.size, 0, none⟩) (Nat.le_refl _) _).setCell (p := ⟨w.heap.size, 1, none⟩) (Nat.le_refl _) _).setCell (p := ⟨w.heap.size, 2, none⟩) (Nat.le_refl _) _).setCell (p := ⟨w.heap.size, 3, none⟩) (Nat.le_refl _) _).setCell (p := ⟨w.heap.size, 4, none⟩) (Nat.le_refl _) _).setCell (p := ⟨w.heap.size, 5, none⟩) (Nat.le_refl _) _, .inl ⟨rfl, hwhy2⟩⟩)
  · have j1 : (n : Int) > 6 := by omega
    have j1' : decide (6 < (n : Int)) = true := decide_eq_true j1
    have hwhy2 : 6 < n ∨ 12 < m ∨ ∃ x ∈ xs, rightB x = false := .inl (by omega)
    go_enter Tryz.func5, Tryz.ntmps5
    go_wp2_with (((go_at_call 12; refine HCO.out.mono ?_; unfold CompPost; rintro e w1 ⟨hbb, (⟨er, her, rfl, hwhy⟩ | ⟨hn16, hrt, A', c', rfl, hks⟩)⟩) <;> (first | (have HWHY := Aside0.mk hwhy; have HX := Aside0.mk (blk_alloc (blk_below H4.out hbb) (.cells #[.slice none 0 0, .int .i64 0, .bool false] 28)); have HB2 := Aside0.mk (below_alloc (below_step HB0.out hbb) (.cells #[.slice none 0 0, .int .i64 0, .bool false] 28)); clear hbb hwhy; (have bx := HX.out; have d0 := blk_cell bx 0; have d1 := blk_cell bx 1; have d2 := blk_cell bx 2; have d3 := blk_cell bx 3; have d4 := blk_cell bx 4; have d5 := blk_cell bx 5; simp only [lawZ, List.getElem?_toArray, List.getElem?_cons_zero, List.getElem?_cons_succ] at d0 d1 d2 d3 d4 d5; have f0 := blk_frozen bx 0; have f1 := blk_frozen bx 1; have f2 := blk_frozen bx 2; have f3 := blk_frozen bx 3; have f4 := blk_frozen bx 4; have f5 := blk_frozen bx 5; clear bx)) | go_loud (obtain ⟨nv, hnv⟩ : ∃ nv, nv = nevOf xs := ⟨_, rfl⟩; rw [← hnv]; have HNV := Aside0.mk hnv; have HRT := Aside0.mk hrt; have HKS := Aside0.mk hks; obtain ⟨nv, ns⟩ := nv; obtain ⟨nk, hnk⟩ : ∃ nk, nk = (keepers xs).length := ⟨_, rfl⟩; rw [← hnk]; have HNK := Aside0.mk hnk; dsimp only; have HX := Aside0.mk (blk_alloc (blk_below H4.out hbb) (.cells #[.slice A' nk c', .int .i64 nv, .bool ns] 28)); have HB1 := Aside0.mk (below_step HB0.out hbb); have HB2 := Aside0.mk (below_alloc (below_step HB0.out hbb) (.cells #[.slice A' nk c', .int .i64 nv, .bool ns] 28)); have HBB := Aside0.mk hbb; clear hbb hnv hrt hks hnk; (have bx := HX.out; have d0 := blk_cell bx 0; have d1 := blk_cell bx 1; have d2 := blk_cell bx 2; have d3 := blk_cell bx 3; have d4 := blk_cell bx 4; have d5 := blk_cell bx 5; simp only [lawZ, List.getElem?_toArray, List.getElem?_cons_zero, List.getElem?_cons_succ] at d0 d1 d2 d3 d4 d5; have f0 := blk_frozen bx 0; have f1 := blk_frozen bx 1; have f2 := blk_frozen bx 2; have f3 := blk_frozen bx 3; have f4 := blk_frozen bx 4; have f5 := blk_frozen bx 5; clear bx)))))
    · (refine bodyPost_ret (results_ctt rfl _ _ w.heap.size 32 lawZ (0, 0) _ rfl (blk_put (blk_put (blk_put (blk_put (blk_put (blk_put HX.out 0 _ rfl) 1 _ rfl) 2 _ rfl) 3 _ rfl) 4 _ rfl) 5 _ rfl) Tryz.underlying32 rfl info_lawS) rfl ?_; exact ⟨(((((HB2.out.setCell (p := ⟨w.heap.size, 0, none⟩) (Nat.le_refl _) _).setCell (p := ⟨w.heap.size, 1, none⟩) (Nat.le_refl _) _).setCell (p := ⟨w.heap.size, 2, none⟩) (Nat.le_refl _) _).setCell (p := ⟨w.heap.size, 3, none⟩) (Nat.le_refl _) _).setCell (p := ⟨w.heap.size, 4, none⟩) (Nat.le_refl _) _).setCell (p := ⟨w.heap.size, 5, none⟩) (Nat.le_refl _) _, .inl ⟨rfl, hwhy2⟩⟩)
    · (refine bodyPost_ret (results_ctt rfl _ _ w.heap.size 32 lawZ (0, 0) _ rfl (blk_put (blk_put (blk_put (blk_put (blk_put (blk_put HX.out 0 _ rfl) 1 _ rfl) 2 _ rfl) 3 _ rfl) 4 _ rfl) 5 _ rfl) Tryz.underlying32 rfl info_lawS) rfl ?_; exact ⟨(((((HB2.out.setCell (p := ⟨w.heap.size, 0, none⟩) (Nat.le_refl _) _).setCell (p := ⟨w.heap.size, 1, none⟩) (Nat.le_refl _) _).setCell (p := ⟨w.heap.size, 2, none⟩) (Nat.le_refl _) _).setCell (p := ⟨w.heap.size, 3, none⟩) (Nat.le_refl _) _).setCell (p := ⟨w.heap.size, 4, none⟩) (Nat.le_refl _) _).setCell (p := ⟨w.heap.size, 5, none⟩) (Nat.le_refl _) _, .inl ⟨rfl, hwhy2⟩⟩)
end Go.Proofs.YtjoafafjpmfjbaaGreatDoor
