/-
  WholeTooLong: the tokens of the calendar that is tried first.
-/
import Derived.Test.YtjoafafjpmfjbaaGreatDoorGm
namespace Go.Proofs.YtjoafafjpmfjbaaGreatDoor
open Go.RowKit Go.Shelf Go.Proofs.YtjoafafjpmfjbaaGreatDoorW.PrintWords Go.Proofs.YtjoafafjpmfjbaaGreatDoorW.PrintLast Go.Proofs.YtjoafafjpmfjbaaGreatDoorW.PrintMore
set_option linter.unusedVariables false
set_option linter.unusedSimpArgs false

/-- A token. -/
structure Tk where
  kind : Int
  text : ByteArray
  n : Int
  at_ : Int
  deriving Inhabited
def kTok : Kd Tk := Kd.iso (Kd.pair (Kd.int .i64) (Kd.pair Kd.string (Kd.pair (Kd.int .i64) (Kd.int .i64)))) (fun x : Tk => (x.kind, x.text, x.n, x.at_))
theorem kTok_open {w : World} {x : Tk} {cs : List Value} (h : kTok.K w x cs) : cs = [.int .i64 x.kind, .string x.text, .int .i64 x.n, .int .i64 x.at_] := by
  obtain ⟨_, _, rfl, rfl, ⟨_, _, rfl, rfl, ⟨_, _, rfl, rfl, rfl⟩⟩⟩ := h
  rfl
theorem kTok_mk (w : World) (base : Nat) (ok : Nat → Prop) (a : Int) (b : ByteArray) (c d : Int) : kTok.M w base ok ⟨a, b, c, d⟩ [.int .i64 a, .string b, .int .i64 c, .int .i64 d] := ⟨[.int .i64 a], [.string b, .int .i64 c, .int .i64 d], rfl, rfl, ⟨[.string b], [.int .i64 c, .int .i64 d], rfl, rfl, ⟨[.int .i64 c], [.int .i64 d], rfl, rfl, rfl⟩⟩⟩
theorem tok_at {w : World} {A : Option Addr} {n : Nat} {xs : List Tk} (h : kTok.C w A n xs) {k : Nat} (hk : k < n) : ∃ ad, A = some ad ∧ w.cell? (ad.add (k * 4)) = some (.int .i64 (gt xs k).kind) ∧ w.cell? ⟨(ad.add (k * 4)).block, (ad.add (k * 4)).off + 1, none⟩ = some (.string (gt xs k).text) ∧
    w.cell? ⟨(ad.add (k * 4)).block, (ad.add (k * 4)).off + 2, none⟩ = some (.int .i64 (gt xs k).n) ∧ w.cell? ⟨(ad.add (k * 4)).block, (ad.add (k * 4)).off + 3, none⟩ = some (.int .i64 (gt xs k).at_) := by
  obtain ⟨ad, cs, e, hK, hc0⟩ := C_at h hk
  have hc : ∀ j u, cs[j]? = some u → w.cell? (ad.add (k * 4 + j)) = some u := hc0
  have hK' := kTok_open hK
  subst hK'
  exact ⟨ad, e, hc 0 _ rfl, by rw [← add_field _ _ 1 (by omega)]; exact hc 1 _ rfl, by rw [← add_field _ _ 2 (by omega)]; exact hc 2 _ rfl, by rw [← add_field _ _ 3 (by omega)]; exact hc 3 _ rfl⟩
/-- The text that is tried first. -/
def calT : ByteArray := ⟨#[101, 97, 99, 104, 32, 119, 114, 105, 116, 101, 32, 102, 111, 114, 32, 49, 104, 10, 101, 97, 99, 104, 32, 49, 104, 32, 102, 111, 114, 32, 49, 100]⟩
def tokL : List Tk := [⟨1, ⟨#[101, 97, 99, 104]⟩, 0, 0⟩, ⟨1, ⟨#[119, 114, 105, 116, 101]⟩, 0, 5⟩, ⟨1, ⟨#[102, 111, 114]⟩, 0, 11⟩, ⟨2, ⟨#[49, 104]⟩, 60, 15⟩, ⟨3, ⟨#[]⟩, 0, 17⟩, ⟨1, ⟨#[101, 97, 99, 104]⟩, 0, 18⟩, ⟨2, ⟨#[49, 104]⟩, 60, 23⟩, ⟨1, ⟨#[102, 111, 114]⟩, 0, 26⟩, ⟨2, ⟨#[49, 100]⟩, 1440, 30⟩, ⟨0, ⟨#[]⟩, 0, 32⟩]
def posN : List Nat := [0, 4, 5, 10, 11, 14, 15, 17, 18, 22, 23, 25, 26, 29, 30, 32]
def cntN : List Nat := [0, 1, 1, 2, 2, 3, 3, 4, 5, 6, 6, 7, 7, 8, 8, 9]
theorem info_tok : (Tryz.prog.info? 81).map (fun i => (i.zero, i.size, i.bytes)) = some (some (.agg #[.int .i64 0, .string ⟨#[]⟩, .int .i64 0, .int .i64 0]), 4, 40) := by kernel_rfl
theorem ent_letter : ∀ args w, (callFunc 50 args).run Tryz.prog w = .ok (.enter 50 args) w := enters_of Tryz.func50 (by kernel_rfl) rfl
theorem ent_aln : ∀ args w, (callFunc 53 args).run Tryz.prog w = .ok (.enter 53 args) w := enters_of Tryz.func53 (by kernel_rfl) rfl
theorem upto_dec {n : Nat} {q : Nat → Bool} (h : (List.range n).all q = true) : ∀ i : Nat, i < n → q i = true := fun i hi => List.all_eq_true.1 h i (List.mem_range.2 hi)
set_option maxRecDepth 20000 in
set_option maxHeartbeats 8000000 in
theorem lex_cal (b : Nat) (w : World) (h : UnitsAt w b) : Calls Tryz.prog 25 #[.string calT] w fun e w' => ∃ v, e = .returned (.tuple #[v, .int .i64 0, .int .i64 0]) ∧ kTok.R 81 w' w.heap.size (fun _ => True) v tokL ∧ Below w.heap.size w w' := by
  have HU := Aside0.mk h
  obtain ⟨s, hs⟩ : ∃ s, s = calT := ⟨_, rfl⟩
  rw [← hs]
  have HS := Aside0.mk hs
  have hsz : s.size = 32 := by rw [hs]; rfl
  clear h hs
  go_enter Tryz.func25, Tryz.ntmps25
  go_wp2_with fail
  go_loopg [5, 6] 15 (fun gk v5 v6 wr => ∃ k : Nat, k ≤ 15 ∧ Aside0 (gk = 15 - k) ∧ v6 = .int .i64 ((gt posN k : Nat) : Int) ∧ Aside0 (kTok.R 81 wr w.heap.size (fun _ => True) v5 (tokL.take (gt cntN k))) ∧ Aside0 (Below w.heap.size w wr))
  case atStart => exact ⟨0, Nat.zero_le _, ⟨rfl⟩, rfl, ⟨Kd.R_nil _ _ _ _ _⟩, ⟨Below.refl _ _⟩⟩
  case round =>
    obtain ⟨k, hk, HGK, rfl, HR, HB⟩ := hrel
    have hkk : k = 0 ∨ k = 1 ∨ k = 2 ∨ k = 3 ∨ k = 4 ∨ k = 5 ∨ k = 6 ∨ k = 7 ∨ k = 8 ∨ k = 9 ∨ k = 10 ∨ k = 11 ∨ k = 12 ∨ k = 13 ∨ k = 14 ∨ k = 15 := by omega
    rcases hkk with rfl | rfl | rfl | rfl | rfl | rfl | rfl | rfl | rfl | rfl | rfl | rfl | rfl | rfl | rfl | rfl
    · rw [show ((gt posN 0 : Nat) : Int) = 0 from rfl]
      (have hx : ∀ h : 0 < s.size, ((s[0]'h).toNat : Int) = 101 := (by rw [HS.out]; intro h; rfl))
      have hex : s.extract 0 4 = ⟨#[101, 97, 99, 104]⟩ := by rw [HS.out]; decide
      have HL := Aside0.mk (letter_any 101)
      rw [show letB 101 = true by decide] at HL
      have HF := Aside0.mk (front_any 50 letB ent_letter letter_any (s.extract 0 32) 4 (by rw [HS.out]; decide) (by rw [HS.out]; decide) (upto_dec (by rw [HS.out]; decide)) (fun _ => by rw [HS.out]; decide))
      go_wp2_with (first | (go_at_call 50; refine (HL.out _).mono ?_; rintro e w1 ⟨rfl, rfl⟩) | (go_at_call 51; refine (HF.out _).mono ?_; rintro e w1 ⟨rfl, rfl⟩) | ((with_reducible refine gate_builtin (b := .append) (xs := #[.tmp 42, .tmp 51]) rfl ?_); at_builtin; refine Kd.R_append kTok (w0 := w) w.heap.size rfl (.tmp 42) (.tmp 51) 75 81 (.agg #[.int .i64 0, .string ⟨#[]⟩, .int .i64 0, .int .i64 0]) 40 rfl Tryz.underlying75 info_tok rfl (Nat.succ_pos _) (by omega) _ _ ⟨1, (⟨#[101, 97, 99, 104]⟩), 0, 0⟩ [.int .i64 1, .string (⟨#[101, 97, 99, 104]⟩), .int .i64 0, .int .i64 0] (fun _ => True) (fun _ => False) rfl rfl (kTok_mk _ _ _ _ _ _ _) (fun _ hk => hk.elim) (fun _ _ => trivial) HR.out HB.out (HB.out).size (by decide) ?_; intro v2 w2 ho hb hg hat; have HR2 := Aside0.mk ho; have HB2 := Aside0.mk hb; clear ho hb hg hat))
      go_roundg 14
      case measure => rw [HGK.out]; decide
      case rel => exact ⟨1, by omega, ⟨rfl⟩, rfl, ⟨HR2.out⟩, HB2⟩
    · rw [show ((gt posN 1 : Nat) : Int) = 4 from rfl]
      (have hx : ∀ h : 4 < s.size, ((s[4]'h).toNat : Int) = 32 := (by rw [HS.out]; intro h; rfl))
      go_wp2_with fail
      go_roundg 13
      case measure => rw [HGK.out]; decide
      case rel => exact ⟨2, by omega, ⟨rfl⟩, rfl, ⟨HR.out⟩, HB⟩
    · rw [show ((gt posN 2 : Nat) : Int) = 5 from rfl]
      (have hx : ∀ h : 5 < s.size, ((s[5]'h).toNat : Int) = 119 := (by rw [HS.out]; intro h; rfl))
      have hex : s.extract 5 10 = ⟨#[119, 114, 105, 116, 101]⟩ := by rw [HS.out]; decide
      have HL := Aside0.mk (letter_any 119)
      rw [show letB 119 = true by decide] at HL
      have HF := Aside0.mk (front_any 50 letB ent_letter letter_any (s.extract 5 32) 5 (by rw [HS.out]; decide) (by rw [HS.out]; decide) (upto_dec (by rw [HS.out]; decide)) (fun _ => by rw [HS.out]; decide))
      go_wp2_with (first | (go_at_call 50; refine (HL.out _).mono ?_; rintro e w1 ⟨rfl, rfl⟩) | (go_at_call 51; refine (HF.out _).mono ?_; rintro e w1 ⟨rfl, rfl⟩) | ((with_reducible refine gate_builtin (b := .append) (xs := #[.tmp 42, .tmp 51]) rfl ?_); at_builtin; refine Kd.R_append kTok (w0 := w) w.heap.size rfl (.tmp 42) (.tmp 51) 75 81 (.agg #[.int .i64 0, .string ⟨#[]⟩, .int .i64 0, .int .i64 0]) 40 rfl Tryz.underlying75 info_tok rfl (Nat.succ_pos _) (by omega) _ _ ⟨1, (⟨#[119, 114, 105, 116, 101]⟩), 0, 5⟩ [.int .i64 1, .string (⟨#[119, 114, 105, 116, 101]⟩), .int .i64 0, .int .i64 5] (fun _ => True) (fun _ => False) rfl rfl (kTok_mk _ _ _ _ _ _ _) (fun _ hk => hk.elim) (fun _ _ => trivial) HR.out HB.out (HB.out).size (by decide) ?_; intro v2 w2 ho hb hg hat; have HR2 := Aside0.mk ho; have HB2 := Aside0.mk hb; clear ho hb hg hat))
      go_roundg 12
      case measure => rw [HGK.out]; decide
      case rel => exact ⟨3, by omega, ⟨rfl⟩, rfl, ⟨HR2.out⟩, HB2⟩
    · rw [show ((gt posN 3 : Nat) : Int) = 10 from rfl]
      (have hx : ∀ h : 10 < s.size, ((s[10]'h).toNat : Int) = 32 := (by rw [HS.out]; intro h; rfl))
      go_wp2_with fail
      go_roundg 11
      case measure => rw [HGK.out]; decide
      case rel => exact ⟨4, by omega, ⟨rfl⟩, rfl, ⟨HR.out⟩, HB⟩
    · rw [show ((gt posN 4 : Nat) : Int) = 11 from rfl]
      (have hx : ∀ h : 11 < s.size, ((s[11]'h).toNat : Int) = 102 := (by rw [HS.out]; intro h; rfl))
      have hex : s.extract 11 14 = ⟨#[102, 111, 114]⟩ := by rw [HS.out]; decide
      have HL := Aside0.mk (letter_any 102)
      rw [show letB 102 = true by decide] at HL
      have HF := Aside0.mk (front_any 50 letB ent_letter letter_any (s.extract 11 32) 3 (by rw [HS.out]; decide) (by rw [HS.out]; decide) (upto_dec (by rw [HS.out]; decide)) (fun _ => by rw [HS.out]; decide))
      go_wp2_with (first | (go_at_call 50; refine (HL.out _).mono ?_; rintro e w1 ⟨rfl, rfl⟩) | (go_at_call 51; refine (HF.out _).mono ?_; rintro e w1 ⟨rfl, rfl⟩) | ((with_reducible refine gate_builtin (b := .append) (xs := #[.tmp 42, .tmp 51]) rfl ?_); at_builtin; refine Kd.R_append kTok (w0 := w) w.heap.size rfl (.tmp 42) (.tmp 51) 75 81 (.agg #[.int .i64 0, .string ⟨#[]⟩, .int .i64 0, .int .i64 0]) 40 rfl Tryz.underlying75 info_tok rfl (Nat.succ_pos _) (by omega) _ _ ⟨1, (⟨#[102, 111, 114]⟩), 0, 11⟩ [.int .i64 1, .string (⟨#[102, 111, 114]⟩), .int .i64 0, .int .i64 11] (fun _ => True) (fun _ => False) rfl rfl (kTok_mk _ _ _ _ _ _ _) (fun _ hk => hk.elim) (fun _ _ => trivial) HR.out HB.out (HB.out).size (by decide) ?_; intro v2 w2 ho hb hg hat; have HR2 := Aside0.mk ho; have HB2 := Aside0.mk hb; clear ho hb hg hat))
      go_roundg 10
      case measure => rw [HGK.out]; decide
      case rel => exact ⟨5, by omega, ⟨rfl⟩, rfl, ⟨HR2.out⟩, HB2⟩
    · rw [show ((gt posN 5 : Nat) : Int) = 14 from rfl]
      (have hx : ∀ h : 14 < s.size, ((s[14]'h).toNat : Int) = 32 := (by rw [HS.out]; intro h; rfl))
      go_wp2_with fail
      go_roundg 9
      case measure => rw [HGK.out]; decide
      case rel => exact ⟨6, by omega, ⟨rfl⟩, rfl, ⟨HR.out⟩, HB⟩
    · rw [show ((gt posN 6 : Nat) : Int) = 15 from rfl]
      (have hx : ∀ h : 15 < s.size, ((s[15]'h).toNat : Int) = 49 := (by rw [HS.out]; intro h; rfl))
      have hex : s.extract 15 17 = ⟨#[49, 104]⟩ := by rw [HS.out]; decide
      have HL := Aside0.mk (letter_any 49)
      rw [show letB 49 = false by decide] at HL
      have HD := Aside0.mk (digit_any 49)
      rw [show digB 49 = true by decide] at HD
      have HF := Aside0.mk (front_any 53 alnB ent_aln aln_any (s.extract 15 32) 2 (by rw [HS.out]; decide) (by rw [HS.out]; decide) (upto_dec (by rw [HS.out]; decide)) (fun _ => by rw [HS.out]; decide))
      have HMI := Aside0.mk (min_1h b wr (HU.out.below HB.out))
      go_wp2_with (first | (go_at_call 50; refine (HL.out _).mono ?_; rintro e w1 ⟨rfl, rfl⟩) | (go_at_call 52; refine (HD.out _).mono ?_; rintro e w1 ⟨rfl, rfl⟩) | (go_at_call 51; refine (HF.out _).mono ?_; rintro e w1 ⟨rfl, rfl⟩) | (go_at_call 54; refine HMI.out.mono ?_; rintro e w5 ⟨rfl, hbb⟩; have HB5 := Aside0.mk (below_step HB.out hbb); have HR5 := Aside0.mk (Kd.R_below HR.out hbb); clear hbb) | ((with_reducible refine gate_builtin (b := .append) (xs := #[.tmp 76, .tmp 86]) rfl ?_); at_builtin; refine Kd.R_append kTok (w0 := w) w.heap.size rfl (.tmp 76) (.tmp 86) 75 81 (.agg #[.int .i64 0, .string ⟨#[]⟩, .int .i64 0, .int .i64 0]) 40 rfl Tryz.underlying75 info_tok rfl (Nat.succ_pos _) (by omega) _ _ ⟨2, (⟨#[49, 104]⟩), 60, 15⟩ [.int .i64 2, .string (⟨#[49, 104]⟩), .int .i64 60, .int .i64 15] (fun _ => True) (fun _ => False) rfl rfl (kTok_mk _ _ _ _ _ _ _) (fun _ hk => hk.elim) (fun _ _ => trivial) HR5.out HB5.out (HB5.out).size (by decide) ?_; intro v2 w2 ho hb hg hat; have HR2 := Aside0.mk ho; have HB2 := Aside0.mk hb; clear ho hb hg hat))
      go_roundg 8
      case measure => rw [HGK.out]; decide
      case rel => exact ⟨7, by omega, ⟨rfl⟩, rfl, ⟨HR2.out⟩, HB2⟩
    · rw [show ((gt posN 7 : Nat) : Int) = 17 from rfl]
      (have hx : ∀ h : 17 < s.size, ((s[17]'h).toNat : Int) = 10 := (by rw [HS.out]; intro h; rfl))
      go_wp2_with (((with_reducible refine gate_builtin (b := .append) (xs := #[.tmp 28, .tmp 31]) rfl ?_); at_builtin; refine Kd.R_append kTok (w0 := w) w.heap.size rfl (.tmp 28) (.tmp 31) 75 81 (.agg #[.int .i64 0, .string ⟨#[]⟩, .int .i64 0, .int .i64 0]) 40 rfl Tryz.underlying75 info_tok rfl (Nat.succ_pos _) (by omega) _ _ ⟨3, (⟨#[]⟩), 0, 17⟩ [.int .i64 3, .string (⟨#[]⟩), .int .i64 0, .int .i64 17] (fun _ => True) (fun _ => False) rfl rfl (kTok_mk _ _ _ _ _ _ _) (fun _ hk => hk.elim) (fun _ _ => trivial) HR.out HB.out (HB.out).size (by decide) ?_; intro v2 w2 ho hb hg hat; have HR2 := Aside0.mk ho; have HB2 := Aside0.mk hb; clear ho hb hg hat))
      go_roundg 7
      case measure => rw [HGK.out]; decide
      case rel => exact ⟨8, by omega, ⟨rfl⟩, rfl, ⟨HR2.out⟩, HB2⟩
    · rw [show ((gt posN 8 : Nat) : Int) = 18 from rfl]
      (have hx : ∀ h : 18 < s.size, ((s[18]'h).toNat : Int) = 101 := (by rw [HS.out]; intro h; rfl))
      have hex : s.extract 18 22 = ⟨#[101, 97, 99, 104]⟩ := by rw [HS.out]; decide
      have HL := Aside0.mk (letter_any 101)
      rw [show letB 101 = true by decide] at HL
      have HF := Aside0.mk (front_any 50 letB ent_letter letter_any (s.extract 18 32) 4 (by rw [HS.out]; decide) (by rw [HS.out]; decide) (upto_dec (by rw [HS.out]; decide)) (fun _ => by rw [HS.out]; decide))
      go_wp2_with (first | (go_at_call 50; refine (HL.out _).mono ?_; rintro e w1 ⟨rfl, rfl⟩) | (go_at_call 51; refine (HF.out _).mono ?_; rintro e w1 ⟨rfl, rfl⟩) | ((with_reducible refine gate_builtin (b := .append) (xs := #[.tmp 42, .tmp 51]) rfl ?_); at_builtin; refine Kd.R_append kTok (w0 := w) w.heap.size rfl (.tmp 42) (.tmp 51) 75 81 (.agg #[.int .i64 0, .string ⟨#[]⟩, .int .i64 0, .int .i64 0]) 40 rfl Tryz.underlying75 info_tok rfl (Nat.succ_pos _) (by omega) _ _ ⟨1, (⟨#[101, 97, 99, 104]⟩), 0, 18⟩ [.int .i64 1, .string (⟨#[101, 97, 99, 104]⟩), .int .i64 0, .int .i64 18] (fun _ => True) (fun _ => False) rfl rfl (kTok_mk _ _ _ _ _ _ _) (fun _ hk => hk.elim) (fun _ _ => trivial) HR.out HB.out (HB.out).size (by decide) ?_; intro v2 w2 ho hb hg hat; have HR2 := Aside0.mk ho; have HB2 := Aside0.mk hb; clear ho hb hg hat))
      go_roundg 6
      case measure => rw [HGK.out]; decide
      case rel => exact ⟨9, by omega, ⟨rfl⟩, rfl, ⟨HR2.out⟩, HB2⟩
    · rw [show ((gt posN 9 : Nat) : Int) = 22 from rfl]
      (have hx : ∀ h : 22 < s.size, ((s[22]'h).toNat : Int) = 32 := (by rw [HS.out]; intro h; rfl))
      go_wp2_with fail
      go_roundg 5
      case measure => rw [HGK.out]; decide
      case rel => exact ⟨10, by omega, ⟨rfl⟩, rfl, ⟨HR.out⟩, HB⟩
    · rw [show ((gt posN 10 : Nat) : Int) = 23 from rfl]
      (have hx : ∀ h : 23 < s.size, ((s[23]'h).toNat : Int) = 49 := (by rw [HS.out]; intro h; rfl))
      have hex : s.extract 23 25 = ⟨#[49, 104]⟩ := by rw [HS.out]; decide
      have HL := Aside0.mk (letter_any 49)
      rw [show letB 49 = false by decide] at HL
      have HD := Aside0.mk (digit_any 49)
      rw [show digB 49 = true by decide] at HD
      have HF := Aside0.mk (front_any 53 alnB ent_aln aln_any (s.extract 23 32) 2 (by rw [HS.out]; decide) (by rw [HS.out]; decide) (upto_dec (by rw [HS.out]; decide)) (fun _ => by rw [HS.out]; decide))
      have HMI := Aside0.mk (min_1h b wr (HU.out.below HB.out))
      go_wp2_with (first | (go_at_call 50; refine (HL.out _).mono ?_; rintro e w1 ⟨rfl, rfl⟩) | (go_at_call 52; refine (HD.out _).mono ?_; rintro e w1 ⟨rfl, rfl⟩) | (go_at_call 51; refine (HF.out _).mono ?_; rintro e w1 ⟨rfl, rfl⟩) | (go_at_call 54; refine HMI.out.mono ?_; rintro e w5 ⟨rfl, hbb⟩; have HB5 := Aside0.mk (below_step HB.out hbb); have HR5 := Aside0.mk (Kd.R_below HR.out hbb); clear hbb) | ((with_reducible refine gate_builtin (b := .append) (xs := #[.tmp 76, .tmp 86]) rfl ?_); at_builtin; refine Kd.R_append kTok (w0 := w) w.heap.size rfl (.tmp 76) (.tmp 86) 75 81 (.agg #[.int .i64 0, .string ⟨#[]⟩, .int .i64 0, .int .i64 0]) 40 rfl Tryz.underlying75 info_tok rfl (Nat.succ_pos _) (by omega) _ _ ⟨2, (⟨#[49, 104]⟩), 60, 23⟩ [.int .i64 2, .string (⟨#[49, 104]⟩), .int .i64 60, .int .i64 23] (fun _ => True) (fun _ => False) rfl rfl (kTok_mk _ _ _ _ _ _ _) (fun _ hk => hk.elim) (fun _ _ => trivial) HR5.out HB5.out (HB5.out).size (by decide) ?_; intro v2 w2 ho hb hg hat; have HR2 := Aside0.mk ho; have HB2 := Aside0.mk hb; clear ho hb hg hat))
      go_roundg 4
      case measure => rw [HGK.out]; decide
      case rel => exact ⟨11, by omega, ⟨rfl⟩, rfl, ⟨HR2.out⟩, HB2⟩
    · rw [show ((gt posN 11 : Nat) : Int) = 25 from rfl]
      (have hx : ∀ h : 25 < s.size, ((s[25]'h).toNat : Int) = 32 := (by rw [HS.out]; intro h; rfl))
      go_wp2_with fail
      go_roundg 3
      case measure => rw [HGK.out]; decide
      case rel => exact ⟨12, by omega, ⟨rfl⟩, rfl, ⟨HR.out⟩, HB⟩
    · rw [show ((gt posN 12 : Nat) : Int) = 26 from rfl]
      (have hx : ∀ h : 26 < s.size, ((s[26]'h).toNat : Int) = 102 := (by rw [HS.out]; intro h; rfl))
      have hex : s.extract 26 29 = ⟨#[102, 111, 114]⟩ := by rw [HS.out]; decide
      have HL := Aside0.mk (letter_any 102)
      rw [show letB 102 = true by decide] at HL
      have HF := Aside0.mk (front_any 50 letB ent_letter letter_any (s.extract 26 32) 3 (by rw [HS.out]; decide) (by rw [HS.out]; decide) (upto_dec (by rw [HS.out]; decide)) (fun _ => by rw [HS.out]; decide))
      go_wp2_with (first | (go_at_call 50; refine (HL.out _).mono ?_; rintro e w1 ⟨rfl, rfl⟩) | (go_at_call 51; refine (HF.out _).mono ?_; rintro e w1 ⟨rfl, rfl⟩) | ((with_reducible refine gate_builtin (b := .append) (xs := #[.tmp 42, .tmp 51]) rfl ?_); at_builtin; refine Kd.R_append kTok (w0 := w) w.heap.size rfl (.tmp 42) (.tmp 51) 75 81 (.agg #[.int .i64 0, .string ⟨#[]⟩, .int .i64 0, .int .i64 0]) 40 rfl Tryz.underlying75 info_tok rfl (Nat.succ_pos _) (by omega) _ _ ⟨1, (⟨#[102, 111, 114]⟩), 0, 26⟩ [.int .i64 1, .string (⟨#[102, 111, 114]⟩), .int .i64 0, .int .i64 26] (fun _ => True) (fun _ => False) rfl rfl (kTok_mk _ _ _ _ _ _ _) (fun _ hk => hk.elim) (fun _ _ => trivial) HR.out HB.out (HB.out).size (by decide) ?_; intro v2 w2 ho hb hg hat; have HR2 := Aside0.mk ho; have HB2 := Aside0.mk hb; clear ho hb hg hat))
      go_roundg 2
      case measure => rw [HGK.out]; decide
      case rel => exact ⟨13, by omega, ⟨rfl⟩, rfl, ⟨HR2.out⟩, HB2⟩
    · rw [show ((gt posN 13 : Nat) : Int) = 29 from rfl]
      (have hx : ∀ h : 29 < s.size, ((s[29]'h).toNat : Int) = 32 := (by rw [HS.out]; intro h; rfl))
      go_wp2_with fail
      go_roundg 1
      case measure => rw [HGK.out]; decide
      case rel => exact ⟨14, by omega, ⟨rfl⟩, rfl, ⟨HR.out⟩, HB⟩
    · rw [show ((gt posN 14 : Nat) : Int) = 30 from rfl]
      (have hx : ∀ h : 30 < s.size, ((s[30]'h).toNat : Int) = 49 := (by rw [HS.out]; intro h; rfl))
      have hex : s.extract 30 32 = ⟨#[49, 100]⟩ := by rw [HS.out]; decide
      have HL := Aside0.mk (letter_any 49)
      rw [show letB 49 = false by decide] at HL
      have HD := Aside0.mk (digit_any 49)
      rw [show digB 49 = true by decide] at HD
      have HF := Aside0.mk (front_any 53 alnB ent_aln aln_any (s.extract 30 32) 2 (by rw [HS.out]; decide) (by rw [HS.out]; decide) (upto_dec (by rw [HS.out]; decide)) (fun _ => by rw [HS.out]; decide))
      rw [hex] at HF
      have HMI := Aside0.mk (min_1d b wr (HU.out.below HB.out))
      go_wp2_with (first | (go_at_call 50; refine (HL.out _).mono ?_; rintro e w1 ⟨rfl, rfl⟩) | (go_at_call 52; refine (HD.out _).mono ?_; rintro e w1 ⟨rfl, rfl⟩) | (go_at_call 51; refine (HF.out _).mono ?_; rintro e w1 ⟨rfl, rfl⟩) | (go_at_call 54; refine HMI.out.mono ?_; rintro e w5 ⟨rfl, hbb⟩; have HB5 := Aside0.mk (below_step HB.out hbb); have HR5 := Aside0.mk (Kd.R_below HR.out hbb); clear hbb) | ((with_reducible refine gate_builtin (b := .append) (xs := #[.tmp 76, .tmp 86]) rfl ?_); at_builtin; refine Kd.R_append kTok (w0 := w) w.heap.size rfl (.tmp 76) (.tmp 86) 75 81 (.agg #[.int .i64 0, .string ⟨#[]⟩, .int .i64 0, .int .i64 0]) 40 rfl Tryz.underlying75 info_tok rfl (Nat.succ_pos _) (by omega) _ _ ⟨2, (⟨#[49, 100]⟩), 1440, 30⟩ [.int .i64 2, .string (⟨#[49, 100]⟩), .int .i64 1440, .int .i64 30] (fun _ => True) (fun _ => False) rfl rfl (kTok_mk _ _ _ _ _ _ _) (fun _ hk => hk.elim) (fun _ _ => trivial) HR5.out HB5.out (HB5.out).size (by decide) ?_; intro v2 w2 ho hb hg hat; have HR2 := Aside0.mk ho; have HB2 := Aside0.mk hb; clear ho hb hg hat))
      go_roundg 0
      case measure => rw [HGK.out]; decide
      case rel => exact ⟨15, by omega, ⟨rfl⟩, rfl, ⟨HR2.out⟩, HB2⟩
    · rw [show ((gt posN 15 : Nat) : Int) = 32 from rfl]
      go_wp2_with (((with_reducible refine gate_builtin (b := .append) (xs := #[.tmp 91, .tmp 95]) rfl ?_); at_builtin; refine Kd.R_append kTok (w0 := w) w.heap.size rfl (.tmp 91) (.tmp 95) 75 81 (.agg #[.int .i64 0, .string ⟨#[]⟩, .int .i64 0, .int .i64 0]) 40 rfl Tryz.underlying75 info_tok rfl (Nat.succ_pos _) (by omega) _ _ ⟨0, (⟨#[]⟩), 0, 32⟩ [.int .i64 0, .string (⟨#[]⟩), .int .i64 0, .int .i64 32] (fun _ => True) (fun _ => False) rfl rfl (kTok_mk _ _ _ _ _ _ _) (fun _ hk => hk.elim) (fun _ _ => trivial) HR.out HB.out (HB.out).size (by decide) ?_; intro v2 w2 ho hb hg hat; have HR2 := Aside0.mk ho; have HB2 := Aside0.mk hb; clear ho hb hg hat))
      refine bodyPost_ret (results_tmp3 rfl _ _ _) rfl ?_
      exact ⟨_, rfl, HR2.out, HB2.out⟩
end Go.Proofs.YtjoafafjpmfjbaaGreatDoor
