/-
  Chapter 49, fs.Make, whole; what the laws of this chapter call first: awake, great.
-/
import Derived.Test.YtdobjbdkfammbaaDoorFs7
namespace Go.Proofs.YtdobjbdkfammbaaDoor
open Go.RowKit Go.Proofs.YtdobjbdkfammbaaDoorW.PrintWords Go.Proofs.YtdobjbdkfammbaaDoorW.PrintLast Go.Proofs.YtdobjbdkfammbaaDoorW.PrintMore
set_option linter.unusedVariables false
set_option linter.unusedSimpArgs false

/-- Why there is no disk; 0: there is one. -/
def makeE (l : List File) : Int := if 8 < l.length then 6 else if togB l then 0 else 3
def makeV (l : List File) : List (List UInt8) := if 8 < l.length then [] else if togB l then makeB l else []
def MakePost (w : World) (l : List File) (e : Ending) (w' : World) : Prop := ∃ A c, e = .returned (.tuple #[.slice A (makeV l).length c, .int .i64 (makeE l)]) ∧ kBlock.R 37 w' w.heap.size (fun _ => True) (.slice A (makeV l).length c) (makeV l) ∧ Below w.heap.size w w'
theorem make_any (A : Option Addr) (l : List File) (c : Nat) (w : World) (h : kFile.C w A l.length l) (hs : ∀ k, k < l.length → (gt l k).name.size ≤ 9223372036854775807) (hmg : MagicAt w) :
    Calls Tryd.prog 35 #[.slice A l.length c] w (MakePost w l) := by
  by_cases h8 : 8 < l.length
  · refine (make_full A l c w h h8).mono ?_
    rintro e w' ⟨rfl, hb⟩
    unfold MakePost makeE makeV
    simp only [if_pos h8]
    exact ⟨none, 0, rfl, Kd.R_nil _ _ _ _ _, hb⟩
  · cases ht : togB l
    · refine (make_form A l c w h (by omega) hs ht).mono ?_
      rintro e w' ⟨rfl, hb⟩
      unfold MakePost makeE makeV
      simp only [if_neg h8, ht]
      exact ⟨none, 0, rfl, Kd.R_nil _ _ _ _ _, hb⟩
    · refine (make_ok A l c w h (by omega) hs ht hmg).mono ?_
      rintro e w' ⟨v, rfl, hr, hb⟩
      obtain ⟨A', c', rfl⟩ := Kd.R_slice hr
      unfold MakePost makeE makeV
      simp only [if_neg h8, ht, if_true]
      exact ⟨A', c', rfl, hr, hb⟩
theorem make_as (A : Option Addr) (l : List File) (c : Nat) (w : World) (h : kFile.C w A l.length l) (hs : ∀ k, k < l.length → (gt l k).name.size ≤ 9223372036854775807) (hmg : MagicAt w) (n : Nat) (hn : (makeV l).length = n) (E : Int) (hE : makeE l = E) :
    Calls Tryd.prog 35 #[.slice A l.length c] w fun e w' => ∃ Aa ca, e = .returned (.tuple #[.slice Aa n ca, .int .i64 E]) ∧ kBlock.R 37 w' w.heap.size (fun _ => True) (.slice Aa n ca) (makeV l) ∧ Below w.heap.size w w' := by
  subst hn hE
  exact make_any A l c w h hs hmg
theorem block_in {w : World} {g n : Nat} {xs : List (List UInt8)} (h : kBlock.C w (some ⟨g, 0, none⟩) n xs) {k : Nat} (hk : k < n) :
    (gt xs k).length = 32 ∧ ∀ j u, (bytesV (gt xs k))[j]? = some u → w.cell? ((⟨g, k * 32, none⟩ : Addr).add j) = some u := by
  obtain ⟨ad, e, h1, h2⟩ := block_at h hk
  cases e
  rw [add_plain] at h2
  exact ⟨h1, h2⟩
/-- A row of one file that is made. -/
theorem file_one {W : World} {N : Nat} {t : TypeId} {x : File} {A : Option Addr} {c : Nat} (hb : W.heap[N]? = some (.cells #[.string x.name, .slice A x.data.length c] t (0, 0))) (hl : x.data.length ≤ c) (hC : byte.C W A x.data.length x.data) : kFile.C W (some ⟨N, 0, none⟩) 1 [x] := by
  refine C_block (d := kFile) (xs := [x]) hb ⟨rfl, fun j p hj => ?_⟩ (by simp)
  rcases j with _ | j
  · simp only [List.getElem?_cons_zero, Option.some.injEq] at hj
    subst hj
    exact kFile_mk W _ hl hC
  · simp at hj
theorem byte_blk {W : World} {N : Nat} {t : TypeId} {xs : List UInt8} (hb : W.heap[N]? = some (.cells (bytesV xs).toArray t (0, 0))) (hm : xs.length ≤ 9223372036854775807) : byte.C W (some ⟨N, 0, none⟩) xs.length xs := by
  refine C_block (d := byte) (xs := xs) hb ?_ hm
  have := Kd.reps_scalar (enc := fun x : UInt8 => Value.int .u8 (x.toNat : Int)) xs
  rw [encs_bytes] at this
  exact this
def f0 : File := ⟨⟨#[97]⟩, [7, 8]⟩
def blkA : List UInt8 := [97, 0, 0, 0, 0, 0, 0, 0, 0, 0, 0, 0, 0, 2, 0, 2, 0, 0, 0, 0, 0, 0, 0, 0, 0, 0, 0, 0, 0, 0, 0, 0]
def blkD : List UInt8 := [7, 8, 0, 0, 0, 0, 0, 0, 0, 0, 0, 0, 0, 0, 0, 0, 0, 0, 0, 0, 0, 0, 0, 0, 0, 0, 0, 0, 0, 0, 0, 0]
theorem f0_E : makeE [f0] = 0 := by decide
theorem f0_1 : gt (makeV [f0]) 1 = blkA := by decide
theorem f0_2 : gt (makeV [f0]) 2 = blkD := by decide
theorem f0_len : (makeV [f0]).length = 3 := by decide
end Go.Proofs.YtdobjbdkfammbaaDoor
