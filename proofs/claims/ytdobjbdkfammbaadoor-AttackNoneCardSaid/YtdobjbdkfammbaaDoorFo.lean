/-
  A row of files of one's own: its cells, a name or data written into it.
-/
import Derived.Test.YtdobjbdkfammbaaDoorTy
namespace Go.Proofs.YtdobjbdkfammbaaDoor
open Go.RowKit Go.Proofs.YtdobjbdkfammbaaDoorW.PrintWords Go.Proofs.YtdobjbdkfammbaaDoorW.PrintLast Go.Proofs.YtdobjbdkfammbaaDoorW.PrintMore
set_option linter.unusedVariables false
set_option linter.unusedSimpArgs false

theorem kFile_mkM0 (w : World) (base : Nat) (ok : Nat → Prop) (x : File) {v : Value} (g : byte.R 5 w base ok v x.data) : kFile.M w base ok x [.string x.name, v] := ⟨[.string x.name], [v], rfl, rfl, ⟨v, rfl, g⟩⟩
theorem kFile_opM {w : World} {base : Nat} {ok : Nat → Prop} {x : File} {cs : List Value} (h : kFile.M w base ok x cs) : ∃ v, cs = [.string x.name, v] ∧ byte.R 5 w base ok v x.data := by
  obtain ⟨_, _, rfl, rfl, ⟨v, rfl, g⟩⟩ := h
  exact ⟨v, rfl, g⟩
theorem R_formF {α : Type} {d : Kd α} {e base n c : Nat} {W : World} {ok : Nat → Prop} {A : Option Addr} {xs : List α} (h : d.R e W base ok (.slice A n c) xs) (hn : 0 < n) : ∃ g, A = some ⟨g, 0, none⟩ ∧ base ≤ g ∧ g < W.heap.size := by
  obtain ⟨A', c', he, _, _⟩ := Kd.R_reads h
  cases he
  obtain ⟨g, cap, he, h1, h2, _⟩ := Kd.R_form h hn
  cases he
  exact ⟨g, rfl, h1, h2⟩
theorem frozen_R {α : Type} {d : Kd α} {e base n c g : Nat} {W : World} {ok : Nat → Prop} {xs : List α} (h : d.R e W base ok (.slice (some ⟨g, 0, none⟩) n c) xs) (j : Nat) : W.frozen? ⟨g, j, none⟩ = false := by
  obtain ⟨cells, hb⟩ := Kd.R_typed h g (by simp [Value.ownBlock])
  exact blk_frozen hb j
/-- The k-th file of an own row: its cells, its own data. -/
theorem file_own {W : World} {base g n c : Nat} {ok : Nat → Prop} {xs : List File} (h : kFile.R 56 W base ok (.slice (some ⟨g, 0, none⟩) n c) xs) {k : Nat} (hk : k < n) :
    ∃ A1 d1, W.cell? ⟨g, k * 2, none⟩ = some (.string (gt xs k).name) ∧ W.cell? ⟨g, k * 2 + 1, none⟩ = some (.slice A1 (gt xs k).data.length d1) ∧ byte.R 5 W base (fun q => ok q ∧ q ≠ g) (.slice A1 (gt xs k).data.length d1) (gt xs k).data := by
  obtain ⟨A', c', he, _, hr⟩ := OwnRow.reads h.2
  have hn : xs.length = n := (Kd.R_reads' h).1.symm
  cases he
  obtain ⟨ad, cs, ea, _, hM, hc⟩ := hr.get_ default (k : Int) (by omega) (by omega)
  cases ea
  obtain ⟨v, rfl, hv⟩ := kFile_opM hM
  have hv2 : byte.R 5 W base (fun q => ok q ∧ q ≠ g) v (gt xs k).data := by
    have := Kd.R_mono hv (ok' := fun q => ok q ∧ q ≠ g) (fun q hq => ⟨hq.1, fun e => hq.2 (by rw [e]; simp [Value.ownBlock])⟩)
    simpa [gt] using this
  obtain ⟨A1, d1, rfl⟩ := Kd.R_slice hv2
  have c0 := hc 0 _ rfl
  have c1 := hc 1 _ rfl
  rw [Go.Proofs.YtdobjbdkfammbaaDoorW.PrintWords.add_plain] at c0 c1
  refine ⟨A1, d1, ?_, ?_, hv2⟩
  · simpa [gt, kFile, Kd.iso, Kd.pair, Kd.string, Kd.slice, Kd.scalar] using c0
  · simpa [gt, kFile, Kd.iso, Kd.pair, Kd.string, Kd.slice, Kd.scalar] using c1
/-- .. with another name. -/
theorem name_put {W : World} {base g n c : Nat} {ok : Nat → Prop} {xs : List File} (h : kFile.R 56 W base ok (.slice (some ⟨g, 0, none⟩) n c) xs) {k : Nat} (hk : k < n) (s : ByteArray) :
    kFile.R 56 (W.setCell ⟨g, k * 2, none⟩ (.string s)) base ok (.slice (some ⟨g, 0, none⟩) n c) (xs.set k ⟨s, (gt xs k).data⟩) := by
  obtain ⟨A1, d1, c0, c1, hv⟩ := file_own h hk
  have := (Kd.R_seg (j := 0) (seg := [.string s]) (c := [.string (gt xs k).name, .slice A1 (gt xs k).data.length d1]) (x' := ⟨s, (gt xs k).data⟩) (okp := fun q => ok q ∧ q ≠ g) h (k : Int) (by omega) (by omega) rfl (fun j u hu => by
    rcases j with _ | _ | j
    · simp only [List.getElem?_cons_zero, Option.some.injEq] at hu; subst hu; exact c0
    · simp only [List.getElem?_cons_succ, List.getElem?_cons_zero, Option.some.injEq] at hu; subst hu; exact c1
    · simp at hu) (by show 0 + 1 ≤ 2; omega) (kFile_mkM0 W base _ ⟨s, (gt xs k).data⟩ hv) (fun q hq => hq)).1
  exact this
/-- .. with other data. -/
theorem data_put {W : World} {base g n c : Nat} {ok okp : Nat → Prop} {xs : List File} (h : kFile.R 56 W base ok (.slice (some ⟨g, 0, none⟩) n c) xs) {k : Nat} (hk : k < n) {v : Value} (D : List UInt8) (hv : byte.R 5 W base okp v D) (hokp : ∀ q, okp q → ok q ∧ q ≠ g) :
    kFile.R 56 (W.setCell ⟨g, k * 2 + 1, none⟩ v) base ok (.slice (some ⟨g, 0, none⟩) n c) (xs.set k ⟨(gt xs k).name, D⟩) := by
  obtain ⟨A1, d1, c0, c1, _⟩ := file_own h hk
  have := (Kd.R_seg (j := 1) (seg := [v]) (c := [.string (gt xs k).name, .slice A1 (gt xs k).data.length d1]) (x' := ⟨(gt xs k).name, D⟩) (okp := okp) h (k : Int) (by omega) (by omega) rfl (fun j u hu => by
    rcases j with _ | _ | j
    · simp only [List.getElem?_cons_zero, Option.some.injEq] at hu; subst hu; exact c0
    · simp only [List.getElem?_cons_succ, List.getElem?_cons_zero, Option.some.injEq] at hu; subst hu; exact c1
    · simp at hu) (by show 1 + 1 ≤ 2; omega) (kFile_mkM0 W base _ ⟨(gt xs k).name, D⟩ hv) hokp).1
  exact this
end Go.Proofs.YtdobjbdkfammbaaDoor
