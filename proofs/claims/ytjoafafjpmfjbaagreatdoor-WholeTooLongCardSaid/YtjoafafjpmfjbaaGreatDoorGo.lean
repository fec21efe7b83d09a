/-
  WholeTooLong: maps whose keys are numbers: what they hold, a range over them.
-/
import Derived.Test.YtjoafafjpmfjbaaGreatDoorGn
import Derived.Maps.OwnSet
import Derived.Maps.Views
import Derived.Maps.Range
import Derived.Maps.RangeWalk
namespace Go.Proofs.YtjoafafjpmfjbaaGreatDoor
open Go.RowKit Go.Shelf Go.Proofs.YtjoafafjpmfjbaaGreatDoorW.PrintWords Go.Proofs.YtjoafafjpmfjbaaGreatDoorW.PrintLast Go.Proofs.YtjoafafjpmfjbaaGreatDoorW.PrintMore
set_option linter.unusedVariables false
set_option linter.unusedSimpArgs false

def I64V (m : Int) : Prop := -9223372036854775808 ≤ m ∧ m ≤ 9223372036854775807
theorem wf_i64 (m : Int) (h : I64V m) : (Lit.int .i64 m).wf = true := by
  obtain ⟨h1, h2⟩ := h
  simp [Lit.wf, IntKind.min, IntKind.max, IntKind.bits, IntKind.signed]
  omega
theorem wf_i64_inv {m : Int} (h : (Lit.int .i64 m).wf = true) : I64V m := by
  simp [Lit.wf, IntKind.min, IntKind.max, IntKind.bits, IntKind.signed] at h
  exact ⟨by omega, by omega⟩
theorem key_i64 (m : Int) (h : I64V m) : keyOf Tryz.prog 3 (.int .i64 m) = some (.int .i64 m) := Maps.keyOf_int_mk Tryz.underlying3 (wf_i64 m h)
/-- An element reads as itself. -/
def valV (v : Value) : Option (DataW Value × List MemPlace) := some (.held v, [])
def MapD (D : DataW Value) (f : Int → Option Value) : Prop := ∀ m, I64V m → (∀ v, f m = some v → ∀ z, D.atKey (.int .i64 m) z = .held v) ∧ (f m = none → ∀ z, D.atKey (.int .i64 m) z = z)
/-- A map in memory, of at most n entries: what it holds at each number. -/
def MapAt (w : World) (mb n : Nat) (f : Int → Option Value) : Prop := ∃ D : DataW Value, w.ownsMap Tryz.prog 3 valV mb n D ∧ MapD D f
theorem MapD.has {D : DataW Value} {f : Int → Option Value} (h : MapD D f) (m : Int) (hm : I64V m) : Maps.has D (.int .i64 m) = (f m).isSome := by
  obtain ⟨h1, h2⟩ := h m hm
  cases hf : f m with
  | some v => exact Maps.has_true_of_atKey (h1 v hf)
  | none => exact Maps.has_false_of_atKey (h2 hf)
theorem MapAt.made (w : World) : MapAt (w.alloc (.map #[] 0)) w.heap.size 0 (fun _ => none) :=
  ⟨.map [], World.ownsMap_made w _ _ _, fun i _ => ⟨fun b h => (by cases h), fun _ z => Maps.atKey_of_not_has (by simp [Maps.has]) z⟩⟩
theorem MapAt.lt {w : World} {mb n : Nat} {f : Int → Option Value} (h : MapAt w mb n f) : mb < w.heap.size := by
  obtain ⟨D, ho, _⟩ := h
  exact ho.lt
theorem MapAt.mono {w : World} {mb n n' : Nat} {f : Int → Option Value} (h : MapAt w mb n f) (hn : n ≤ n') : MapAt w mb n' f := by
  obtain ⟨D, ho, hD⟩ := h
  exact ⟨D, ho.mono hn, hD⟩
theorem MapAt.same {w w1 : World} {mb n : Nat} {f : Int → Option Value} (h : MapAt w mb n f) (hb : w1.heap[mb]? = w.heap[mb]?) : MapAt w1 mb n f := by
  obtain ⟨D, ho, hD⟩ := h
  obtain ⟨es, clock, hbk, F, hs, hDe⟩ := ho
  exact ⟨D, ⟨es, clock, hb.trans hbk, F, hs, hDe⟩, hD⟩
theorem MapAt.below {w w1 : World} {mb n : Nat} {f : Int → Option Value} (h : MapAt w mb n f) (hb : Below w.heap.size w w1) : MapAt w1 mb n f := h.same (hb.block mb h.lt)
theorem MapAt.grown {w w1 : World} {mb n : Nat} {f : Int → Option Value} (h : MapAt w mb n f) {row : Option Nat} (hg : w.grownBy w1 row) (hne : some mb ≠ row) : MapAt w1 mb n f := h.same (hg.block mb h.lt hne)
/-- A map is no row of cells. -/
theorem MapAt.ne {w : World} {mb n g : Nat} {f : Int → Option Value} {cs : Array Value} {t : TypeId} {fr : Nat × Nat} (h : MapAt w mb n f) (hg : w.heap[g]? = some (.cells cs t fr)) : mb ≠ g := by
  obtain ⟨D, ⟨es, clock, hbk, _⟩, _⟩ := h
  rintro rfl
  rw [hbk] at hg
  cases hg
set_option maxRecDepth 8000 in
theorem MapAt.look {w : World} {mb n : Nat} {f : Int → Option Value} (h : MapAt w mb n f) {t e : TypeId} (ht : Tryz.prog.underlying t = some (.map 3 e)) {z : Value} (hz : (zeroValue e).run Tryz.prog w = .ok z w) (m : Int) (hm : I64V m) :
    (Instr.lookup t (.map (some mb)) (.int .i64 m) false).run Tryz.prog w = .ok ((f m).getD z) w := by
  obtain ⟨D, ⟨es, clock, hb, F, hs, rfl⟩, hD⟩ := h
  obtain ⟨h1, h2⟩ := hD m hm
  rcases Maps.fit_look false (Maps.int_keyed Tryz.underlying3) ht hz hb F (key_i64 m hm) with ⟨hrun, _, hat⟩ | ⟨e0, y, _, _, hrun, hRv, hat, _⟩
  · cases hf : f m with
    | some b =>
      have := h1 b hf .nil
      rw [hat .nil] at this
      cases this
    | none =>
      simp only [Option.getD_none]
      simpa using hrun
  · have hy : y = (.held e0.val, []) := by
      unfold valV at hRv
      injection hRv with e
      exact e.symm
    cases hf : f m with
    | none =>
      have := h2 hf .nil
      rw [hat .nil, hy] at this
      cases this
    | some b =>
      have := h1 b hf .nil
      rw [hat .nil, hy] at this
      injection this with hv2
      rw [hv2] at hrun
      simp only [Option.getD_some]
      simpa using hrun
def putM (f : Int → Option Value) (m : Int) (v : Value) : Int → Option Value := fun j => if j = m then some v else f j
set_option maxRecDepth 8000 in
theorem MapAt.put {w : World} {mb n : Nat} {f : Int → Option Value} (h : MapAt w mb n f) {t e : TypeId} (ht : Tryz.prog.underlying t = some (.map 3 e)) (hn : n ≤ 1000000) (m : Int) (hm : I64V m) (v : Value) :
    ∃ w', (Instr.mapUpdate t (.map (some mb)) (.int .i64 m) v).run Tryz.prog w = .ok () w' ∧ MapAt w' mb (n + 1) (putM f m v) ∧ w.grownBy w' (some mb) := by
  obtain ⟨D, ho, hD⟩ := h
  obtain ⟨w', h1, h2, h3⟩ := ho.update (Maps.int_keyed Tryz.underlying3) ht (by unfold maxLen; omega) (key_i64 m hm) (d := .held v) (ps := []) rfl
  refine ⟨w', h1, ⟨_, h2, fun j hj => ?_⟩, h3⟩
  by_cases he : j = m
  · subst he
    refine ⟨fun b' hb' => ?_, fun hf => ?_⟩
    · unfold putM at hb'
      rw [if_pos rfl] at hb'
      injection hb' with hb'
      subst hb'
      exact fun z => Maps.atKey_put_same ho.isMap (by first | trivial | exact ⟨_, rfl⟩ | constructor) _ _
    · unfold putM at hf
      rw [if_pos rfl] at hf
      cases hf
  · unfold putM
    rw [if_neg he]
    have ho' : ∀ z, (D.put (.int .i64 m) (.held v)).atKey (.int .i64 j) z = D.atKey (.int .i64 j) z := fun z => Maps.atKey_put_other (fun e => he (by injection e with _ e)) _ _
    exact ⟨fun b' hb' z => by rw [ho' z]; exact (hD j hj).1 b' hb' z, fun hf z => by rw [ho' z]; exact (hD j hj).2 hf z⟩
/-- 'm[k] = v' at the operation. -/
theorem put_map {ops : Array Oper} {rest : List Oper} {o : Oper} {a : Act} {w : World} {Q : Exit → Act → World → Prop} (hg : o.guard = none) (t : TypeId) (m x v : Operand) (hop : o.op = Op.mapUpdate t m x v ∨ o.op = Op.insert t m x v) {e : TypeId} (ht : Tryz.prog.underlying t = some (.map 3 e)) (mb n : Nat) (f : Int → Option Value) (h : MapAt w mb n f) (hn : n ≤ 1000000) (hm : a.eval m = .map (some mb)) (i : Int) (hi : I64V i) (hx : a.eval x = .int .i64 i) (b : Value) (hv : a.eval v = b)
    (hK : ∀ w', MapAt w' mb (n + 1) (putM f i b) → w.grownBy w' (some mb) → wpList Tryz.prog ops Q rest (a.put o.dst undef) w') : wpList Tryz.prog ops Q (o :: rest) a w := by
  obtain ⟨w', h1, h2, h3⟩ := h.put ht hn i hi b
  refine wpList_plain hg fun K' hK' => ?_
  unfold Oper.wp
  rcases hop with hop | hop
  · simp [execOp, hop, hm, hx, hv, h1, Result.andThen]
    exact hK' _ _ (hK w' h2 h3)
  · simp [execOp, hop, hm, hx, hv, h1, Result.andThen]
    exact hK' _ _ (hK w' h2 h3)
set_option maxRecDepth 8000 in
theorem MapAt.len {w : World} {mb n : Nat} {f : Int → Option Value} (h : MapAt w mb n f) {t e : TypeId} (ht : Tryz.prog.underlying t = some (.map 3 e)) {i : Int} (hi : I64V i) {v : Value} (hv : f i = some v) :
    ∃ k : Nat, 1 ≤ k ∧ k ≤ n ∧ ∀ ty, (Builtin.len_ #[t] ty #[.map (some mb)]).run Tryz.prog w = .ok (.int .i64 k) w := by
  obtain ⟨D, ho, hD⟩ := h
  refine ⟨Maps.size D, ?_, ho.size_le, fun ty => ho.len ht ty⟩
  have hh := hD.has i hi
  rw [hv] at hh
  match D, hh with
  | .map es, hh =>
    rw [Maps.has_eq] at hh
    obtain ⟨p, hm, _⟩ := List.any_eq_true.1 hh
    exact List.length_pos_of_mem hm
/-! ### a range -/
/-- A range under way: which numbers are still to come. -/
def RangeAt (w : World) (b r n : Nat) (f : Int → Option Value) (left : Int → Bool) (cnt : Nat) : Prop :=
  ∃ (D : DataW Value) (L : Lit → Bool), MapD D f ∧ w.ranges Tryz.prog 3 valV b r n D L cnt ∧ ∀ m, I64V m → L (.int .i64 m) = left m
theorem RangeAt.at {w : World} {b r n : Nat} {f : Int → Option Value} {left : Int → Bool} {cnt : Nat} (h : RangeAt w b r n f left cnt) : MapAt w b n f := by
  obtain ⟨D, L, hD, hr, _⟩ := h
  exact ⟨D, hr.owns, hD⟩
theorem RangeAt.same {w w1 : World} {b r n : Nat} {f : Int → Option Value} {left : Int → Bool} {cnt : Nat} (h : RangeAt w b r n f left cnt) {row : Option Nat} (hg : w.grownBy w1 row) (h1 : some b ≠ row) (h2 : some r ≠ row) : RangeAt w1 b r n f left cnt := by
  obtain ⟨D, L, hD, hr, hl⟩ := h
  exact ⟨D, L, hD, hr.kept hg h1 h2, hl⟩
theorem RangeAt.below {w w1 : World} {b r n : Nat} {f : Int → Option Value} {left : Int → Bool} {cnt : Nat} (h : RangeAt w b r n f left cnt) (hb : Below w.heap.size w w1) : RangeAt w1 b r n f left cnt :=
  h.same (grown_of_below hb none) (by simp) (by simp)
theorem RangeAt.lt {w : World} {b r n : Nat} {f : Int → Option Value} {left : Int → Bool} {cnt : Nat} (h : RangeAt w b r n f left cnt) : r < w.heap.size := by
  obtain ⟨D, L, hD, hr, hl⟩ := h
  exact hr.lt
set_option maxRecDepth 8000 in
theorem MapAt.range {w : World} {b n : Nat} {f : Int → Option Value} (h : MapAt w b n f) {t e : TypeId} (ht : Tryz.prog.underlying t = some (.map 3 e)) :
    ∃ (w' : World) (cnt : Nat), (Instr.range t (.map (some b))).run Tryz.prog w = .ok (.pointer (some ⟨w.heap.size, 0, none⟩)) w' ∧ RangeAt w' b w.heap.size n f (fun m => (f m).isSome) cnt ∧ cnt ≤ n ∧ Below w.heap.size w w' ∧ w'.heap.size = w.heap.size + 1 := by
  obtain ⟨D, ho, hD⟩ := h
  obtain ⟨w', h1, h2, h3, h4⟩ := ho.range (Maps.int_keyed Tryz.underlying3) ht
  exact ⟨w', _, h1, ⟨D, _, hD, h2, fun m hm => hD.has m hm⟩, ho.size_le, ⟨h3.os, h3.tape, h3.output, h3.size, fun k hk => h3.block k hk (by simp)⟩, h4⟩
set_option maxRecDepth 8000 in
theorem RangeAt.next {w : World} {b r n : Nat} {f : Int → Option Value} {left : Int → Bool} {cnt : Nat} (h : RangeAt w b r n f left cnt) (ty : TypeId) :
    ((∀ m, I64V m → left m = false) ∧ (Instr.next (.pointer (some ⟨r, 0, none⟩)) false ty).run Tryz.prog w = .ok (.tuple #[.bool false]) w) ∨
    ∃ (x : Int) (v : Value) (w' : World) (cnt' : Nat), I64V x ∧ left x = true ∧ f x = some v ∧ (Instr.next (.pointer (some ⟨r, 0, none⟩)) false ty).run Tryz.prog w = .ok (.tuple #[.bool true, .int .i64 x, v]) w' ∧
      RangeAt w' b r n f (fun m => left m && !(m == x)) cnt' ∧ cnt' < cnt ∧ w.grownBy w' (some r) ∧ (Instr.entry (.pointer (some ⟨r, 0, none⟩))).run Tryz.prog w' = .ok (.tuple #[.int .i64 x, v]) w' := by
  obtain ⟨D, L, hD, hr, hl⟩ := h
  rcases hr.next (Maps.int_keyed Tryz.underlying3) ty with ⟨_, h0, hrun⟩ | ⟨key, v, kl, y, w', cnt', hkey, hleft, hv, hat, hrun, hr', hc, hg, _, hent⟩
  · exact .inl ⟨fun m hm => (hl m hm).symm.trans (h0 _), hrun⟩
  · obtain ⟨x, rfl, rfl, hwf⟩ := Maps.keyOf_int_inv Tryz.underlying3 hkey
    have hx := wf_i64_inv hwf
    have hy : y = (.held v, []) := by
      unfold valV at hv
      injection hv with e
      exact e.symm
    have hf : f x = some v := by
      cases hfx : f x with
      | none =>
        have := (hD x hx).2 hfx .nil
        rw [hat .nil, hy] at this
        cases this
      | some u =>
        have := (hD x hx).1 u hfx .nil
        rw [hat .nil, hy] at this
        injection this with this
        rw [this]
    refine .inr ⟨x, v, w', cnt', hx, (hl x hx).symm.trans hleft, hf, hrun, ⟨D, _, hD, hr', fun m hm => ?_⟩, hc, hg, hent⟩
    show (L (.int .i64 m) && !(Lit.int .i64 m).sameKey (.int .i64 x)) = _
    rw [hl m hm]
    congr 2
    by_cases e : m = x
    · subst e
      rw [WideAt.sameKey_self (by first | trivial | exact ⟨_, rfl⟩ | constructor)]
      simp
    · rw [Maps.sameKey_ne (fun h => e (by injection h))]
      simp [e]
end Go.Proofs.YtjoafafjpmfjbaaGreatDoor
