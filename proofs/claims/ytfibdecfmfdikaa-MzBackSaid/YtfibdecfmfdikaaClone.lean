/- slices.Clone of bytes that are not nil. -/
import Derived.Test.YtfibdecfmfdikaaIdx
set_option linter.unusedVariables false
set_option linter.unusedSimpArgs false
namespace Go.Proofs.Ytfibdecfmfdikaa
open Go.RowKit Go.Proofs.YtfibdecfmfdikaaW.PrintWords
set_option maxRecDepth 100000

theorem own_empty (W : World) (e : Nat) (base : Nat) (h : base ≤ W.heap.size) : (Kd.int .u8).R e (W.alloc (.cells #[] e (0, 0))) base (fun _ => True) (.slice (some ⟨W.heap.size, 0, none⟩) 0 0) [] :=
  Kd.R_of_own ⟨by simp [encs], .inr ⟨W.heap.size, 0, #[], rfl, h, blk_new W _, Nat.le_refl _, by simp [maxLen], by simp, by simp [encs]⟩⟩ (fun _ _ => trivial)
theorem clone_any (ad : Addr) (c : Nat) (xs : List Int) (w : World) (hr : (Kd.int .u8).C w (some ad) xs.length xs) (hl : xs.length ≤ 140737488355328) :
    Calls Try.prog 35 #[.slice (some ad) xs.length c] w fun e w' => ∃ v, e = .returned v ∧ (Kd.int .u8).R 5 w' w.heap.size (fun _ => True) v xs ∧ Below w.heap.size w w' := by
  have hq := fun W : World => Lib.run_eql_slice_nil (P := Try.prog) W 23 5 (some ad) xs.length c 0 0 Try.underlying23
  simp only [Option.isNone_some] at hq
  have H := Lib.hid hr
  clear hr
  go_enter Try.func35, Try.ntmps35
  go_wp2_with (at_builtin; go_loud (refine Kd.R_append_row (Value.int .u8) (0 : Int) (h1 := fun _ => rfl) (w0 := w) w.heap.size rfl _ _ 23 5 (.int .u8 0) 1 rfl Try.underlying23 infoB rfl (by decide) (.slice (some ⟨w.heap.size, 0, none⟩) 0 0) [] xs (some ad) _ c (fun _ => True) rfl rfl (fun _ _ => trivial) (own_empty w _ _ (Nat.le_refl _)) (Kd.C_below H.out (below_alloc (Below.refl _ _) _)) (below_alloc (Below.refl _ _) _) (by simp) (by simp; omega) ?_); intro v1 w1 hR hB hG hat; rw [List.nil_append] at hR)
  go_ret
  exact ⟨v1, rfl, hR, hB⟩
theorem clone_sl (ad : Addr) (c : Nat) (xs : List Int) (w : World) (hr : (Kd.int .u8).C w (some ad) xs.length xs) (hl : xs.length ≤ 140737488355328) :
    Calls Try.prog 35 #[.slice (some ad) xs.length c] w fun e w' => ∃ A1 c1, e = .returned (.slice A1 xs.length c1) ∧ Hid (xs.length ≤ c1 ∧ (Kd.int .u8).C w' A1 xs.length xs ∧ (Kd.int .u8).R 5 w' w.heap.size (fun _ => True) (.slice A1 xs.length c1) xs) ∧ Below w.heap.size w w' := by
  refine (clone_any ad c xs w hr hl).mono ?_
  rintro e w' ⟨v, rfl, hR, hB⟩
  obtain ⟨A1, c1, rfl, h1, h2⟩ := Kd.R_reads hR
  exact ⟨A1, c1, rfl, ⟨h1, h2, hR⟩, hB⟩
end Go.Proofs.Ytfibdecfmfdikaa
