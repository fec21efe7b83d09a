/-
  The elements of the slices that come in: what was seen, versions: read off the row's reading.
-/
import Derived.Test.YtjoafafjpmfjbaaGreatDoorGa
import Derived.ProofKit
import Derived.SizedLaws
import Derived.Deep.Slices
/-
  From a row's reading of its arguments to the kinds of the walks, and back: what came in reads as lists; a law's post, where the call only made new memory.
-/
namespace Go.Proofs.YtjoafafjpmfjbaaGreatDoor
open Go.RowKit Go.ChangeShapes Go.WideShapes Go.ChangeAt Go.Proofs.YtjoafafjpmfjbaaGreatDoorW.PrintWords Go.Proofs.YtjoafafjpmfjbaaGreatDoorW.PrintLast Go.Proofs.YtjoafafjpmfjbaaGreatDoorW.PrintMore
set_option linter.unusedVariables false
set_option linter.unusedSimpArgs false

section
variable {H : Type} {enc : TypeId × Value → H} {P : Program}

/-- A list by its elements: if there is one of each index, they are a list. -/
theorem list_of {α : Type} [Inhabited α] {n : Nat} {R : Nat → α → Prop} (h : ∀ i, i < n → ∃ y, R i y) : ∃ l : List α, l.length = n ∧ ∀ i, i < n → R i (gt l i) := by
  obtain ⟨f, hf⟩ := Deep.choose_lt h
  refine ⟨(List.range n).map f, by simp, fun i hi => ?_⟩
  have : gt ((List.range n).map f) i = f i := by simp [gt, hi]
  rw [this]
  exact hf i hi
theorem weightsAll_mem {e : TypeId} {l : List (DataW H)} {d : DataW H} {m : Nat} (hd : d ∈ l) (hm : m ∈ d.weights P e) : m ∈ DataW.weightsAll P e l := by
  induction l with
  | nil => cases hd
  | cons x r ih =>
    simp only [DataW.weightsAll, List.mem_append]
    rcases List.mem_cons.1 hd with rfl | hd
    · exact .inl hm
    · exact .inr (ih hd)
/-- A slice that came in, read as a list of a kind. Q: what is known of each element. -/
theorem open_kd {α : Type} [Inhabited α] {d : Kd α} {W : World} {t e : TypeId} {v : Value} {x : DataW H} {ps : List MemPlace} {Q : α → Prop} {a0 : Option Addr} {len0 cap0 : Nat} (ht : P.underlying t = some (.slice e)) (hc : P.cellsOf e = d.sz) (hv : v = .slice a0 len0 cap0)
    (hel : ∀ (n : Nat) (cs : List Value) (z : DataW H × List MemPlace), DataW.trod enc P W 0 (fun _ => true) true n e cs = some z → cs.length = d.sz → (∀ m ∈ z.1.weights P e, m ≤ reachBytes) → ∃ y, d.K W y cs ∧ Q y)
    (h : DataW.Trod enc P W 0 (fun _ => true) true t v x ps) (hw : ∀ m ∈ x.weights P t, m ≤ reachBytes) :
    ∃ A l c, v = .slice A l.length c ∧ l.length ≤ c ∧ d.C W A l.length l ∧ (∀ i, i < l.length → Q (gt l i)) ∧ l.length * P.bytesOf e ≤ reachBytes := by
  subst hv
  obtain ⟨fuel, hf⟩ := h
  have hf' : DataW.trod enc P W 0 (fun _ => true) true fuel t [.slice a0 len0 cap0] = some (x, ps) := by simpa [Value.cells] using hf
  rcases Deep.open_slice ht hf' with ⟨h1, h2⟩ | ⟨a, len, cap, m, n, D, Pl, h1, _, hl, hm, hmm, h2, hx⟩
  · cases h1
    exact ⟨none, [], 0, rfl, Nat.le_refl _, Kd.C_nil _ _, fun i hi => absurd hi (by simp), by simp⟩
  · cases h1
    simp only [if_true] at hmm
    simp only [Prod.mk.injEq] at h2
    have hw2 : ∀ q ∈ (len0 + (cap0 - len0)) * P.bytesOf e :: (DataW.weightsAll P e ((List.range len0).map D) ++ DataW.weightsAll P e ((List.range (m - len0)).map fun j => D (len0 + j))), q ≤ reachBytes := by
      intro q hq
      refine hw q ?_
      rw [h2.1]
      unfold DataW.weights
      rw [ht]
      simpa [hmm] using hq
    have hone : ∀ i, i < len0 → ∃ y, (∃ cs, cs.length = d.sz ∧ d.K W y cs ∧ ∀ j u, cs[j]? = some u → W.cell? (a.add (i * d.sz + j)) = some u) ∧ Q y := by
      intro i hi
      obtain ⟨cs, hcs, htr⟩ := hx i (by omega)
      rw [hc] at hcs
      obtain ⟨_, hlen, hat⟩ := World.cells?_some hcs
      obtain ⟨y, hy, hq⟩ := hel n cs _ htr hlen (fun q hq => hw2 q (List.mem_cons_of_mem _ (List.mem_append_left _ (weightsAll_mem (List.mem_map.2 ⟨i, by simpa using hi, rfl⟩) hq))))
      refine ⟨y, ⟨cs, hlen, hy, fun j u hu => ?_⟩, hq⟩
      have hj : j < d.sz := by rw [← hlen]; exact (List.getElem?_eq_some_iff.1 hu).1
      rw [← Deep.add_add, hat j hj, hu]
    obtain ⟨l, hll, hl2⟩ := list_of hone
    subst hll
    have hmx : l.length ≤ 9223372036854775807 := by have : cap0 ≤ 2 ^ 63 - 1 := hm; omega
    refine ⟨some a, l, cap0, rfl, hl, ⟨rfl, hmx, fun _ => ⟨a, rfl, fun j p hj => ?_⟩⟩, fun i hi => (hl2 i hi).2, ?_⟩
    · obtain ⟨hjl, hp⟩ := List.getElem?_eq_some_iff.1 hj
      obtain ⟨⟨cs, h3, h4, h5⟩, _⟩ := hl2 j hjl
      rw [gt_eq l j hjl, hp] at h4
      exact ⟨cs, h3, h4, h5⟩
    · have := hw2 _ List.mem_cons_self
      exact Nat.le_trans (Nat.mul_le_mul_right _ (by omega)) this

theorem wf_u8 {n : Int} (h : (Lit.int .u8 n).wf = true) : ∃ y : UInt8, n = (y.toNat : Int) := by
  simp [Lit.wf, IntKind.min, IntKind.max, IntKind.signed, IntKind.bits] at h
  refine ⟨UInt8.ofNat n.toNat, ?_⟩
  rw [UInt8.toNat_ofNat']
  omega
/-- Each byte of a row. -/
theorem el_byte {W : World} {e : TypeId} (he : P.underlying e = some (.int .u8)) (n : Nat) (cs : List Value) (z : DataW H × List MemPlace) (h : DataW.trod enc P W 0 (fun _ => true) true n e cs = some z) : ∃ y, byte.K W y cs ∧ True := by
  obtain ⟨m, rfl, _, hw⟩ := DataW.trod_int he h
  obtain ⟨y, rfl⟩ := wf_u8 hw
  exact ⟨y, rfl, trivial⟩
/-- A slice of bytes in a cell. -/
theorem open_bytes {W : World} {t e : TypeId} {n : Nat} {u : Value} {z : DataW H × List MemPlace} (ht : P.underlying t = some (.slice e)) (he : P.underlying e = some (.int .u8)) (hc : P.cellsOf e = 1) (hb : P.bytesOf e = 1)
    (h : DataW.trod enc P W 0 (fun _ => true) true n t [u] = some z) (hw : ∀ m ∈ z.1.weights P t, m ≤ reachBytes) :
    ∃ A c, ∃ l : List UInt8, u = .slice A l.length c ∧ l.length ≤ c ∧ byte.C W A l.length l ∧ l.length ≤ 140737488351232 := by
  have hu : ∃ a len cap, u = .slice a len cap := by
    rcases DataW.trod_slice ht h with ⟨h1, _⟩ | ⟨a, len, cap, _, _, _, _, h1, _⟩
    · cases h1; exact ⟨_, _, _, rfl⟩
    · cases h1; exact ⟨_, _, _, rfl⟩
  obtain ⟨a, len, cap, rfl⟩ := hu
  obtain ⟨A, l, c, h1, h2, h3, _, h4⟩ := open_kd (d := byte) (Q := fun _ => True) ht hc rfl (fun n cs z hz _ _ => el_byte he n cs z hz) ⟨n, by simpa [Value.cells] using h⟩ hw
  rw [hb] at h4
  exact ⟨A, c, l, h1, h2, h3, by simpa [reachBytes] using h4⟩
theorem weightsEach_mem {ts : List TypeId} {ds : List (DataW H)} {i : Nat} {t : TypeId} {x : DataW H} {m : Nat} (h1 : ts[i]? = some t) (h2 : ds[i]? = some x) (hm : m ∈ x.weights P t) : m ∈ DataW.weightsEach P ts ds := by
  induction ts generalizing ds i with
  | nil => simp at h1
  | cons a ts ih =>
    cases ds with
    | nil => simp at h2
    | cons b ds =>
      simp only [DataW.weightsEach, List.mem_append]
      cases i with
      | zero => simp at h1 h2; subst h1 h2; exact .inl hm
      | succ i => exact .inr (ih (by simpa using h1) (by simpa using h2))

/-! ### back -/
theorem trodAll_below {ts : List TypeId} (hl : laidOutB P = true) : ∀ {vs : List Value} {ds : List (DataW H)} {ps : List MemPlace} {W W' : World} {sp : Nat → Bool}, (ts.all fun t => P.readableRec t && decide (t < P.types.size)) = true →
    DataW.TrodAll enc P W 0 (fun _ => true) true ts vs ds ps → Below W.heap.size W W' → (∀ x ∈ ps, x.block < W.heap.size) → (∀ x ∈ ps, sp x.block = true) → DataW.TrodAll enc P W' 0 sp true ts vs ds ps := by
  induction ts with
  | nil =>
    intro vs ds ps W W' sp _ h _ _ _
    cases vs <;> cases ds <;> first | exact h | exact h.elim
  | cons t ts ih =>
    intro vs ds ps W W' sp hr h hb hlt hs
    cases vs with
    | nil => exact h.elim
    | cons v vs =>
      cases ds with
      | nil => exact h.elim
      | cons d ds =>
        obtain ⟨p, q, h1, h2, rfl⟩ := h
        simp only [List.all_cons, Bool.and_eq_true, decide_eq_true_eq] at hr
        refine ⟨p, q, WideElems.Trod_stays hl hr.1.1 hr.1.2 h1 (fun x hx => hb.same (hlt x (List.mem_append_left _ hx))) (fun x hx => hs x (List.mem_append_left _ hx)), ih hr.2 h2 hb (fun x hx => hlt x (List.mem_append_right _ hx)) (fun x hx => hs x (List.mem_append_right _ hx)), rfl⟩

/-- A law's post: it returned true, and only new memory was made. No named variables. -/
theorem post_law {f : Func} {s : ChangeSpec} {apart fresh handsOn : Bool} {W W' : World} {args : Array Value} {ds : List (DataW H)} {before : List MemPlace} {tb : TypeId}
    (hW : DataW.Whole enc P f.params.toList s.vars apart W args.toList ds [] before) (hsv : s.vars = []) (hres : f.resultTypes = #[tb]) (htb : P.underlying tb = some .bool)
    (hfn : (s.fn H (ds ++ [])).results = [.lit (.bool true)] ∧ (s.fn H (ds ++ [])).args = ds ∧ (s.fn H (ds ++ [])).vars = []) (hl : laidOutB P = true) (hr : (f.params.toList.all fun t => P.readableRec t && decide (t < P.types.size)) = true) (hb : Below W.heap.size W W') :
    s.post enc P f apart fresh handsOn false W args (.bool true) W' := by
  have hW' := hW
  obtain ⟨p, q, hA, hV, rfl, hfz, hnd⟩ := hW
  rw [hsv] at hV
  obtain ⟨_, rfl⟩ := trodVars_none hV
  have hlt : ∀ x ∈ p, x.block < W.heap.size := fun x hx => hW'.lt x (List.mem_append_left _ hx)
  refine ⟨ds, [], _, [], p, [], hW', ?_, ?_, ?_, hb.frame _, fun h => by cases h⟩
  · rw [hfn.1, hres]
    exact ⟨[], [], ⟨1, by simp [DataW.trod, Value.cells, htb]⟩, rfl, rfl⟩
  · rw [hfn.2.1]
    exact trodAll_below hl hr hA hb hlt (fun x hx => by simpa using hlt x hx)
  · rw [hfn.2.2, hsv]
    rfl
end
end Go.Proofs.YtjoafafjpmfjbaaGreatDoor
namespace Go.Proofs.YtjoafafjpmfjbaaGreatDoor
open Go.RowKit Go.ChangeShapes Go.WideShapes Go.ChangeAt Go.Proofs.YtjoafafjpmfjbaaGreatDoorW.PrintWords Go.Proofs.YtjoafafjpmfjbaaGreatDoorW.PrintLast Go.Proofs.YtjoafafjpmfjbaaGreatDoorW.PrintMore
set_option linter.unusedVariables false
set_option linter.unusedSimpArgs false

theorem cells_byte : Tryz.prog.cellsOf 5 = 1 := by kernel_rfl
theorem bytes_byte : Tryz.prog.bytesOf 5 = 1 := by kernel_rfl
section
variable {H : Type} {enc : TypeId × Value → H}
theorem weights_agg {P : Program} {t : TypeId} {fs : Array Field} (ht : P.underlying t = some (.struct fs)) {xs : List (DataW H)} {i : Nat} {f : Field} {x : DataW H} {m : Nat} (h1 : fs[i]? = some f) (h2 : xs[i]? = some x) (hm : m ∈ x.weights P f.type) : m ∈ (DataW.agg xs).weights P t := by
  unfold DataW.weights
  rw [ht]
  exact weightsEach_mem (i := i) (t := f.type) (by simp [h1]) h2 hm
end
end Go.Proofs.YtjoafafjpmfjbaaGreatDoor
