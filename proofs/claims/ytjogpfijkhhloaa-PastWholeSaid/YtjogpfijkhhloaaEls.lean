/-
  The elements of the slices that come in: what was seen, versions: read off the row's reading.
-/
import Derived.Test.YtjogpfijkhhloaaOpen
namespace Go.Proofs.Ytjogpfijkhhloaa
open Go.RowKit Go.ChangeShapes Go.WideShapes Go.ChangeAt Go.Proofs.YtjogpfijkhhloaaW.PrintWords Go.Proofs.YtjogpfijkhhloaaW.PrintLast Go.Proofs.YtjogpfijkhhloaaW.PrintMore
set_option linter.unusedVariables false
set_option linter.unusedSimpArgs false

theorem cells_byte : Try.prog.cellsOf 5 = 1 := by kernel_rfl
theorem bytes_byte : Try.prog.bytesOf 5 = 1 := by kernel_rfl
section
variable {H : Type} {enc : TypeId × Value → H}
theorem weights_agg {P : Program} {t : TypeId} {fs : Array Field} (ht : P.underlying t = some (.struct fs)) {xs : List (DataW H)} {i : Nat} {f : Field} {x : DataW H} {m : Nat} (h1 : fs[i]? = some f) (h2 : xs[i]? = some x) (hm : m ∈ x.weights P f.type) : m ∈ (DataW.agg xs).weights P t := by
  unfold DataW.weights
  rw [ht]
  exact weightsEach_mem (i := i) (t := f.type) (by simp [h1]) h2 hm
theorem cells_vers : Try.prog.cellsOf 35 = 3 := by kernel_rfl
theorem el_vers {W : World} (n : Nat) (cs : List Value) (z : DataW H × List MemPlace) (h : DataW.trod enc Try.prog W 0 (fun _ => true) true n 35 cs = some z) (hw : ∀ m ∈ z.1.weights Try.prog 35, m ≤ reachBytes) :
    ∃ y, kVers.K W y cs ∧ y.data.length ≤ 140737488351232 := by
  obtain ⟨xs, k, _, rfl, hl, hxl, hf⟩ := DataW.trod_struct Try.underlying35 h
  rw [cells_vers] at hl
  match cs, hl with
  | [c0, c1, c2], _ =>
    match xs, hxl with
    | [y0, y1, y2], _ =>
      have e0 : DataW.trod enc Try.prog W 0 (fun _ => true) true k 32 [c0] = some y0 := hf 0 _ rfl
      have e1 : DataW.trod enc Try.prog W 0 (fun _ => true) true k 4 [c1] = some y1 := hf 1 _ rfl
      have e2 : DataW.trod enc Try.prog W 0 (fun _ => true) true k 33 [c2] = some y2 := hf 2 _ rfl
      obtain ⟨m0, h0, _, _⟩ := DataW.trod_int Try.underlying32 e0
      obtain ⟨b1, h1, _⟩ := DataW.trod_bool Try.underlying4 e1
      obtain ⟨A, c, l, rfl, h2, h3, h4⟩ := open_bytes Try.underlying33 Try.underlying5 cells_byte bytes_byte e2 (fun m hm => hw m (weights_agg Try.underlying35 (i := 2) rfl rfl hm))
      cases h0; cases h1
      exact ⟨⟨m0, b1, l⟩, ⟨[.int .u64 m0], [.bool b1, .slice A l.length c], rfl, rfl, ⟨[.bool b1], [.slice A l.length c], rfl, rfl, ⟨A, c, rfl, h2, h3⟩⟩⟩, h4⟩
theorem cells_seen : Try.prog.cellsOf 37 = 4 := by kernel_rfl
theorem el_seen {W : World} (n : Nat) (cs : List Value) (z : DataW H × List MemPlace) (h : DataW.trod enc Try.prog W 0 (fun _ => true) true n 37 cs = some z) (hw : ∀ m ∈ z.1.weights Try.prog 37, m ≤ reachBytes) :
    ∃ y, kSeen.K W y cs ∧ y.data.length ≤ 140737488351232 := by
  obtain ⟨xs, k, _, rfl, hl, hxl, hf⟩ := DataW.trod_struct Try.underlying37 h
  rw [cells_seen] at hl
  match cs, hl with
  | [c0, c1, c2, c3], _ =>
    match xs, hxl with
    | [y0, y1, y2, y3], _ =>
      have e0 : DataW.trod enc Try.prog W 0 (fun _ => true) true k 32 [c0] = some y0 := hf 0 _ rfl
      have e1 : DataW.trod enc Try.prog W 0 (fun _ => true) true k 4 [c1] = some y1 := hf 1 _ rfl
      have e2 : DataW.trod enc Try.prog W 0 (fun _ => true) true k 4 [c2] = some y2 := hf 2 _ rfl
      have e3 : DataW.trod enc Try.prog W 0 (fun _ => true) true k 33 [c3] = some y3 := hf 3 _ rfl
      obtain ⟨m0, h0, _, _⟩ := DataW.trod_int Try.underlying32 e0
      obtain ⟨b1, h1, _⟩ := DataW.trod_bool Try.underlying4 e1
      obtain ⟨b2, h2', _⟩ := DataW.trod_bool Try.underlying4 e2
      obtain ⟨A, c, l, rfl, h2, h3, h4⟩ := open_bytes Try.underlying33 Try.underlying5 cells_byte bytes_byte e3 (fun m hm => hw m (weights_agg Try.underlying37 (i := 3) rfl rfl hm))
      cases h0; cases h1; cases h2'
      exact ⟨⟨m0, b1, b2, l⟩, ⟨[.int .u64 m0], [.bool b1, .bool b2, .slice A l.length c], rfl, rfl, ⟨[.bool b1], [.bool b2, .slice A l.length c], rfl, rfl, ⟨[.bool b2], [.slice A l.length c], rfl, rfl, ⟨A, c, rfl, h2, h3⟩⟩⟩⟩, h4⟩
end
end Go.Proofs.Ytjogpfijkhhloaa
