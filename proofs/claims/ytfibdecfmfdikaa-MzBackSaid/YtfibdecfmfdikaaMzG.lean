/- A program's file, written and read: what the law MzBack computes is true. -/
import Derived.Test.YtfibdecfmfdikaaQMzx1
import Derived.Test.YtfibdecfmfdikaaRefP
import Derived.Test.YtfibdecfmfdikaaMzX
set_option linter.unusedVariables false
set_option linter.unusedSimpArgs false
namespace Go.Proofs.Ytfibdecfmfdikaa
open Go.RowKit Go.Proofs.YtfibdecfmfdikaaW.PrintWords Go.Proofs.Ytfibdecfmfdikaa.Str

theorem same_l0 (b r : List Int) (c2 c3 c4 c5 c6 : Int) (hr : r.length ≤ 1000000) (d : Nat) : ∀ i : Nat, r.length - i = d → i ≤ r.length → Ev (fun k => PSame.hansomref44_Same.l0 k i b r c2 c3 c4 c5 c6 b r c2 c3 c4 c5 c6) true := by
  induction d with
  | zero =>
    intro i hd hi
    refine Ev.up ?_
    simp only [PSame.hansomref44_Same.l0]
    exact Ev.no (by omega) (Ev.now _)
  | succ d ih =>
    intro i hd hi
    have q1 : (i : Int) < (r.length : Int) := by omega
    have q2 : 0 ≤ (i : Int) := by omega
    have p1 : -9223372036854775808 ≤ (i : Int) + 1 ∧ (i : Int) + 1 ≤ 9223372036854775807 := by omega
    have next := ih (i + 1) (by omega) (by omega)
    rw [show ((i + 1 : Nat) : Int) = (i : Int) + 1 from by omega] at next
    refine Ev.up ?_
    simp only [PSame.hansomref44_Same.l0]
    rw [wrap_id p1.1 p1.2]
    exact Ev.yes q1 (Ev.yes q2 (Ev.yes q1 (Ev.yes (by trivial) next)))
theorem same_ev (b r : List Int) (c2 c3 c4 c5 c6 : Int) (hr : r.length ≤ 1000000) : Ev (fun k => PSame.hansomref44_Same.f k b r c2 c3 c4 c5 c6 b r c2 c3 c4 c5 c6) true := by
  unfold PSame.hansomref44_Same.f
  refine Ev.yes rfl (Ev.yes rfl (Ev.yes rfl (Ev.yes rfl (Ev.yes rfl (Ev.yes rfl ?_)))))
  refine Ev.up ?_
  simp only [PSame.hansomref44_Same.j0]
  exact Ev.no (by simp) (same_l0 b r c2 c3 c4 c5 c6 hr r.length 0 rfl (by omega))
section
variable {b r : List Int} {cs ip ss sp mn : Int} (h : mayB b r mn = true) (h1 : 0 ≤ cs ∧ cs ≤ 65535) (h2 : 0 ≤ ip ∧ ip ≤ 65535) (h3 : 0 ≤ ss ∧ ss ≤ 65535) (h4 : 0 ≤ sp ∧ sp ≤ 65535)
include h
theorem may_ev (c1 c2 c3 c4 : Int) : Ev (fun k => PWrite.mz_May.f k b r c1 c2 c3 c4 mn) true := by
  obtain ⟨p1, p2, p3, p4, _⟩ := mayB_parts h
  have hrg := mayB_range h
  have := may_eq b r c1 c2 c3 c4 mn (by omega) (by omega) (fun x hx => by have := hrg x hx; omega) (r.length + 2) (Nat.le_refl _)
  rw [h] at this
  exact Ev.of (fun k => PWrite.mz_May.mono _ _ _ _ _ _ _ k) this
include h1 h2 h3 h4
theorem write_ev : Ev (fun k => PWrite.mz_Write.f k b r cs ip ss sp mn) (fileB b r cs ip ss sp mn, 0) :=
  Ev.of (fun k => PWrite.mz_Write.mono _ _ _ _ _ _ _ k) (write_eq b r cs ip ss sp mn h1 h2 h3 h4 h)
/-- A program's file, whatever stands behind it, is read as it. -/
theorem read_back (hb : isBytes b) (more : List Int) (hm : isBytes more) (hl : more.length ≤ 100000000) : Ext.mz_Read.f (fileB b r cs ip ss sp mn ++ more) = some (b, r, cs, ip, ss, sp, mn, 0) := by
  obtain ⟨e0, eb, er⟩ := file_back b r cs ip ss sp mn h h1 h2 h3 h4 more
  obtain ⟨w1, w2, w3, w4, w5, w7, w8, w10, w11, w12⟩ := file_parts b r cs ip ss sp mn h h1 h2 h3 h4 more
  obtain ⟨p1, p2, p3, p4, _⟩ := mayB_parts h
  have hlen : (fileB b r cs ip ss sp mn ++ more).length ≤ 140737488355328 := by
    have : headOf r.length ≤ 28 + 4 * r.length + 15 := by unfold headOf; omega
    rw [List.length_append, file_length]
    omega
  have hfit : Ext.fitB (fileB b r cs ip ss sp mn ++ more) = true := by
    simp only [Ext.fitB, Bool.and_eq_true, decide_eq_true_eq, List.all_eq_true]
    exact ⟨hlen, fun x hx => (file_isB b r cs ip ss sp mn hb h h1 h2 h3 h4).append hm x hx⟩
  unfold Ext.mz_Read.f Ext.readR
  rw [if_pos hfit, if_pos e0, eb, er, w11, w10, w7, w8, w5]
theorem read_short (hb : isBytes b) : Ext.mz_Read.f ((fileB b r cs ip ss sp mn).take ((fileB b r cs ip ss sp mn).length - 1)) = some ([], [], 0, 0, 0, 0, 0, 2) := by
  have e := file_short b r cs ip ss sp mn h h1 h2 h3 h4
  obtain ⟨p1, p2, p3, p4, _⟩ := mayB_parts h
  have hlen : (fileB b r cs ip ss sp mn).length ≤ 140737488355328 := by
    have : headOf r.length ≤ 28 + 4 * r.length + 15 := by unfold headOf; omega
    rw [file_length]
    omega
  have hfit : Ext.fitB ((fileB b r cs ip ss sp mn).take ((fileB b r cs ip ss sp mn).length - 1)) = true := by
    simp only [Ext.fitB, Bool.and_eq_true, decide_eq_true_eq, List.all_eq_true]
    exact ⟨by rw [List.length_take]; omega, fun x hx => (file_isB b r cs ip ss sp mn hb h h1 h2 h3 h4).take _ x hx⟩
  unfold Ext.mz_Read.f Ext.readR
  rw [if_pos hfit, e, if_neg (by decide)]
end
theorem awake_ev : Ev (fun k => QMz.hansomlaw44_awake.f k) true := by
  have h : mayB [1, 2, 3] [1] 0 = true := by decide
  have hb : isBytes [1, 2, 3] := by unfold isBytes; decide
  have hr := read_back (cs := 0) (ip := 7) (ss := 0) (sp := 0) h (by decide) (by decide) (by decide) (by decide) hb [] isBytes.nil (by decide)
  rw [List.append_nil] at hr
  unfold QMz.hansomlaw44_awake.f
  refine Ev.bind (write_ev h (by decide) (by decide) (by decide) (by decide)) (Ev.use hr ?_)
  refine Ev.yes rfl (Ev.yes rfl (Ev.yes rfl (Ev.yes rfl (Ev.yes rfl ?_))))
  have : ((fileB [1, 2, 3] [1] 0 7 0 0 0).length : Int) = 35 := by rw [file_length]; rfl
  rw [this]
  exact Ev.now _
theorem MzBack_pure (l L : List Int) (a2 a3 a4 a5 a6 : Int) (s : ByteArray) (hl : isBytes l) (h2 : 0 ≤ a2 ∧ a2 ≤ 65535) (h3 : 0 ≤ a3 ∧ a3 ≤ 65535) (h4 : 0 ≤ a4 ∧ a4 ≤ 65535) (h5 : 0 ≤ a5 ∧ a5 ≤ 65535) :
    ∃ k, QMz.hansomlaw44_MzBack.f k l L a2 a3 a4 a5 a6 s = some true := by
  refine Ev.rounds (g := fun k => QMz.hansomlaw44_MzBack.f k l L a2 a3 a4 a5 a6 s) ?_
  obtain ⟨b, r, he, hn⟩ := near_ev l L a2 a3 a4 a5 a6
  have hm := hn.may
  have hb := hn.isB hl
  have hlen := hn.len
  have hfew := hn.few
  generalize a6 % 256 = mn at *
  obtain ⟨t, ht, rfl⟩ := of_str s
  have em : Go.Proofs.YtfibdecfmfdikaaW.PrintWords.mn (t.length : Int) 20 = ((min t.length 20 : Nat) : Int) := by unfold Go.Proofs.YtfibdecfmfdikaaW.PrintWords.mn; split <;> omega
  have hF : (fileB b r a2 a3 a4 a5 mn).length = headOf r.length + b.length := file_length ..
  have hH : 28 ≤ headOf r.length ∧ headOf r.length ≤ 28 + 4 * r.length + 15 := by unfold headOf; omega
  have hFB := file_isB b r a2 a3 a4 a5 mn hb hm h2 h3 h4 h5
  have hw := refw_ev b r a2 a3 a4 a5 mn (by omega) (by omega) hm h2 h3 h4 h5
  have hw2 := write_ev hm h2 h3 h4 h5
  have hrb := read_back hm h2 h3 h4 h5 hb (t.take (min t.length 20)) (ht.take _) (by rw [List.length_take]; omega)
  have hrs := read_short hm h2 h3 h4 h5 hb
  generalize hFF : fileB b r a2 a3 a4 a5 mn = F at *
  have p1 : -9223372036854775808 ≤ (F.length : Int) - 1 ∧ (F.length : Int) - 1 ≤ 9223372036854775807 := by omega
  have p2 : (0 : Int) ≤ ((min t.length 20 : Nat) : Int) := by omega
  have p3 : ((min t.length 20 : Nat) : Int) ≤ (t.length : Int) := by omega
  have p4 : F.length + min (min t.length 20) t.length ≤ 9223372036854775807 := by omega
  have p5 : (0 : Int) ≤ (F.length : Int) - 1 := by omega
  have p6 : (F.length : Int) - 1 ≤ (F.length : Int) := by omega
  have p7 : min (F.length - 1) F.length ≤ 9223372036854775807 := by omega
  have p8 : ((F.length : Int) - 1).toNat = F.length - 1 := by omega
  unfold QMz.hansomlaw44_MzBack.f
  refine Ev.bind he (Ev.bind hw (Ev.bind hw2 ?_))
  simp only [str_size, em, Int.toNat_natCast, str_extract, str_append, List.length_append, List.length_take, wrap_id p1.1 p1.2, p8, bytes_str _ (hFB.append (ht.take _)), bytes_str _ (hFB.take _)]
  refine Ev.yes p2 (Ev.yes p3 (Ev.yes p4 (Ev.yes p4 (Ev.use hrb (Ev.yes p5 (Ev.yes p6 (Ev.yes p7 (Ev.use hrs (Ev.bind awake_ev (Ev.yes rfl (Ev.bind (may_ev hm _ _ _ _) ?_)))))))))))
  exact Ev.yes rfl (Ev.yes (by first | trivial | rfl) (Ev.yes (by first | trivial | rfl) (Ev.yes (by first | trivial | rfl) (Ev.bind (same_ev b r _ _ _ _ _ (by omega)) (Ev.yes rfl (Ev.now _))))))
theorem wf_bytes {l : List Int} (h : ∀ x ∈ l, (Lit.int .u8 x).wf = true) : isBytes l := fun x hx => by
  have := h x hx
  simp [Lit.wf, IntKind.min, IntKind.max, IntKind.signed, IntKind.bits] at this
  omega
theorem wf_u16 {n : Int} (h : (Lit.int .u16 n).wf = true) : 0 ≤ n ∧ n ≤ 65535 := by
  simp [Lit.wf, IntKind.min, IntKind.max, IntKind.signed, IntKind.bits] at h
  omega
theorem wf_i64 {n : Int} (h : (Lit.int .i64 n).wf = true) : -9223372036854775808 ≤ n ∧ n ≤ 9223372036854775807 := by
  simp [Lit.wf, IntKind.min, IntKind.max, IntKind.signed, IntKind.bits] at h
  omega
theorem MzBack_walk (A0 : Option Addr) (c0 : Nat) (l0 : List Int) (A1 : Option Addr) (c1 : Nat) (l1 : List Int) (a2 a3 a4 a5 a6 : Int) (s : ByteArray) (w : World) (hr0 : Kd.C (Kd.int .u8) w A0 l0.length l0) (hc0 : l0.length ≤ c0) (hm0 : l0.length ≤ maxLen) (hw0 : ∀ x ∈ l0, (Lit.int .u8 x).wf = true)
    (hr1 : Kd.C (Kd.int .i64) w A1 l1.length l1) (hc1 : l1.length ≤ c1) (hm1 : l1.length ≤ maxLen) (hw1 : ∀ x ∈ l1, (Lit.int .i64 x).wf = true) (w2 : (Lit.int .u16 a2).wf = true) (w3 : (Lit.int .u16 a3).wf = true) (w4 : (Lit.int .u16 a4).wf = true) (w5 : (Lit.int .u16 a5).wf = true) (w6 : (Lit.int .i64 a6).wf = true) (ws : s.size ≤ 140737488351232) :
    Calls Try.prog 4 #[.agg #[.slice A0 l0.length c0, .slice A1 l1.length c1, .int .u16 a2, .int .u16 a3, .int .u16 a4, .int .u16 a5, .int .i64 a6], .string s] w fun e w' => e = .returned (.bool true) ∧ Below w.heap.size w w' := by
  obtain ⟨k, h⟩ := MzBack_pure l0 l1 a2 a3 a4 a5 a6 s (wf_bytes hw0) (wf_u16 w2) (wf_u16 w3) (wf_u16 w4) (wf_u16 w5)
  exact QMz.hansomlaw44_MzBack.calls k A0 c0 l0 A1 c1 l1 a2 a3 a4 a5 a6 s w hr0 hc0 hr1 hc1 h
end Go.Proofs.Ytfibdecfmfdikaa
