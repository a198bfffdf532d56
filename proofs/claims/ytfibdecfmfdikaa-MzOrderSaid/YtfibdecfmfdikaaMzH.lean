/- A program's file, written and read: lemmas for the laws of chapter 44. -/
import Derived.Test.YtfibdecfmfdikaaQAwx1
import Derived.Test.YtfibdecfmfdikaaPSamex1
import Derived.Test.YtfibdecfmfdikaaRefP
import Derived.Test.YtfibdecfmfdikaaMzR
set_option linter.unusedVariables false
set_option linter.unusedSimpArgs false
namespace Go.Proofs.Ytfibdecfmfdikaa
open Go.RowKit Go.Proofs.YtfibdecfmfdikaaW.PrintWords Go.Proofs.Ytfibdecfmfdikaa.Str

theorem same_l0 (b r : List Int) (c2 c3 c4 c5 c6 : Int) (hr : r.length ≤ 1000000) (d : Nat) : ∀ i : Nat, r.length - i = d → i ≤ r.length → Ev (fun k => PSame.hansomref44_Same.l0 k i b r c2 c3 c4 c5 c6 b r c2 c3 c4 c5 c6) true := by
  induction d with
  | zero =>
    intro i hd hi
    refine Ev.up ?_
    simp only [PSame.hansomref44_Same.l0]
    exact Ev.no (by omega) (Ev.now _)
  | succ d ih =>
    intro i hd hi
    have q1 : (i : Int) < (r.length : Int) := by omega
    have q2 : 0 ≤ (i : Int) := by omega
    have p1 : -9223372036854775808 ≤ (i : Int) + 1 ∧ (i : Int) + 1 ≤ 9223372036854775807 := by omega
    have next := ih (i + 1) (by omega) (by omega)
    rw [show ((i + 1 : Nat) : Int) = (i : Int) + 1 from by omega] at next
    refine Ev.up ?_
    simp only [PSame.hansomref44_Same.l0]
    rw [wrap_id p1.1 p1.2]
    exact Ev.yes q1 (Ev.yes q2 (Ev.yes q1 (Ev.yes (by trivial) next)))
theorem same_ev (b r : List Int) (c2 c3 c4 c5 c6 : Int) (hr : r.length ≤ 1000000) : Ev (fun k => PSame.hansomref44_Same.f k b r c2 c3 c4 c5 c6 b r c2 c3 c4 c5 c6) true := by
  unfold PSame.hansomref44_Same.f
  refine Ev.yes rfl (Ev.yes rfl (Ev.yes rfl (Ev.yes rfl (Ev.yes rfl (Ev.yes rfl ?_)))))
  refine Ev.up ?_
  simp only [PSame.hansomref44_Same.j0]
  exact Ev.no (by simp) (same_l0 b r c2 c3 c4 c5 c6 hr r.length 0 rfl (by omega))
section
variable {b r : List Int} {cs ip ss sp mn : Int} (h : mayB b r mn = true) (h1 : 0 ≤ cs ∧ cs ≤ 65535) (h2 : 0 ≤ ip ∧ ip ≤ 65535) (h3 : 0 ≤ ss ∧ ss ≤ 65535) (h4 : 0 ≤ sp ∧ sp ≤ 65535)
include h
theorem may_ev (c1 c2 c3 c4 : Int) : Ev (fun k => PWrite.mz_May.f k b r c1 c2 c3 c4 mn) true := by
  obtain ⟨p1, p2, p3, p4, _⟩ := mayB_parts h
  have hrg := mayB_range h
  have := may_eq b r c1 c2 c3 c4 mn (by omega) (by omega) (fun x hx => by have := hrg x hx; omega) (r.length + 2) (Nat.le_refl _)
  rw [h] at this
  exact Ev.of (fun k => PWrite.mz_May.mono _ _ _ _ _ _ _ k) this
include h1 h2 h3 h4
theorem write_ev : Ev (fun k => PWrite.mz_Write.f k b r cs ip ss sp mn) (fileB b r cs ip ss sp mn, 0) :=
  Ev.of (fun k => PWrite.mz_Write.mono _ _ _ _ _ _ _ k) (write_eq b r cs ip ss sp mn h1 h2 h3 h4 h)
/-- A program's file, whatever stands behind it, is read as it. -/
theorem read_back (hb : isBytes b) (more : List Int) (hm : isBytes more) (hl : more.length ≤ 100000000) : Ext.mz_Read.f (fileB b r cs ip ss sp mn ++ more) = some (b, r, cs, ip, ss, sp, mn, 0) := by
  obtain ⟨e0, eb, er⟩ := file_back b r cs ip ss sp mn h h1 h2 h3 h4 more
  obtain ⟨w1, w2, w3, w4, w5, w7, w8, w10, w11, w12⟩ := file_parts b r cs ip ss sp mn h h1 h2 h3 h4 more
  obtain ⟨p1, p2, p3, p4, _⟩ := mayB_parts h
  have hlen : (fileB b r cs ip ss sp mn ++ more).length ≤ 140737488355328 := by
    have : headOf r.length ≤ 28 + 4 * r.length + 15 := by unfold headOf; omega
    rw [List.length_append, file_length]
    omega
  have hfit : Ext.fitB (fileB b r cs ip ss sp mn ++ more) = true := by
    simp only [Ext.fitB, Bool.and_eq_true, decide_eq_true_eq, List.all_eq_true]
    exact ⟨hlen, fun x hx => (file_isB b r cs ip ss sp mn hb h h1 h2 h3 h4).append hm x hx⟩
  unfold Ext.mz_Read.f Ext.readR
  rw [if_pos hfit, if_pos e0, eb, er, w11, w10, w7, w8, w5]
theorem read_short (hb : isBytes b) : Ext.mz_Read.f ((fileB b r cs ip ss sp mn).take ((fileB b r cs ip ss sp mn).length - 1)) = some ([], [], 0, 0, 0, 0, 0, 2) := by
  have e := file_short b r cs ip ss sp mn h h1 h2 h3 h4
  obtain ⟨p1, p2, p3, p4, _⟩ := mayB_parts h
  have hlen : (fileB b r cs ip ss sp mn).length ≤ 140737488355328 := by
    have : headOf r.length ≤ 28 + 4 * r.length + 15 := by unfold headOf; omega
    rw [file_length]
    omega
  have hfit : Ext.fitB ((fileB b r cs ip ss sp mn).take ((fileB b r cs ip ss sp mn).length - 1)) = true := by
    simp only [Ext.fitB, Bool.and_eq_true, decide_eq_true_eq, List.all_eq_true]
    exact ⟨by rw [List.length_take]; omega, fun x hx => (file_isB b r cs ip ss sp mn hb h h1 h2 h3 h4).take _ x hx⟩
  unfold Ext.mz_Read.f Ext.readR
  rw [if_pos hfit, e, if_neg (by decide)]
end
theorem awake_ev : Ev (fun k => QAw.hansomlaw44_awake.f k) true := by
  have h : mayB [1, 2, 3] [1] 0 = true := by decide
  have hb : isBytes [1, 2, 3] := by unfold isBytes; decide
  have hr := read_back (cs := 0) (ip := 7) (ss := 0) (sp := 0) h (by decide) (by decide) (by decide) (by decide) hb [] isBytes.nil (by decide)
  rw [List.append_nil] at hr
  unfold QAw.hansomlaw44_awake.f
  refine Ev.bind (write_ev h (by decide) (by decide) (by decide) (by decide)) (Ev.use hr ?_)
  refine Ev.yes rfl (Ev.yes rfl (Ev.yes rfl (Ev.yes rfl (Ev.yes rfl ?_))))
  have : ((fileB [1, 2, 3] [1] 0 7 0 0 0).length : Int) = 35 := by rw [file_length]; rfl
  rw [this]
  exact Ev.now _
theorem wf_bytes {l : List Int} (h : ∀ x ∈ l, (Lit.int .u8 x).wf = true) : isBytes l := fun x hx => by
  have := h x hx
  simp [Lit.wf, IntKind.min, IntKind.max, IntKind.signed, IntKind.bits] at this
  omega
theorem wf_u16 {n : Int} (h : (Lit.int .u16 n).wf = true) : 0 ≤ n ∧ n ≤ 65535 := by
  simp [Lit.wf, IntKind.min, IntKind.max, IntKind.signed, IntKind.bits] at h
  omega
theorem wf_i64 {n : Int} (h : (Lit.int .i64 n).wf = true) : -9223372036854775808 ≤ n ∧ n ≤ 9223372036854775807 := by
  simp [Lit.wf, IntKind.min, IntKind.max, IntKind.signed, IntKind.bits] at h
  omega
end Go.Proofs.Ytfibdecfmfdikaa
