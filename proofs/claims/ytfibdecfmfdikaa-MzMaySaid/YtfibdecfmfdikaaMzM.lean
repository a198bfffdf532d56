/- What may not be is not written: what the law MzMay computes is true. -/
import Derived.Test.YtfibdecfmfdikaaQMayx1
import Derived.Test.YtfibdecfmfdikaaRefP
import Derived.Test.YtfibdecfmfdikaaMzH
set_option linter.unusedVariables false
set_option linter.unusedSimpArgs false
namespace Go.Proofs.Ytfibdecfmfdikaa
open Go.RowKit Go.Proofs.YtfibdecfmfdikaaW.PrintWords Go.Proofs.Ytfibdecfmfdikaa.Str

theorem may_any (b r : List Int) (c1 c2 c3 c4 mn : Int) (hb : b.length ≤ 10000) (hr : r.length ≤ 1000) (hrg : ∀ x ∈ r, -100000 ≤ x ∧ x ≤ 100000) : Ev (fun k => PWrite.mz_May.f k b r c1 c2 c3 c4 mn) (mayB b r mn) := by
  have q1 : b.length ≤ 140737488355328 := by omega
  have q2 : r.length ≤ 140737488355328 := by omega
  exact Ev.of (fun k => PWrite.mz_May.mono _ _ _ _ _ _ _ k) (may_eq b r c1 c2 c3 c4 mn q1 q2 (fun x hx => by have := hrg x hx; omega) (r.length + 2) (Nat.le_refl _))
theorem may_j0 (b r : List Int) (cs ip ss sp mn want : Int) (hb : b.length ≤ 10000) (hr : r.length ≤ 1000) (hrg : ∀ x ∈ r, -100000 ≤ x ∧ x ≤ 100000) (h1 : 0 ≤ cs ∧ cs ≤ 65535) (h2 : 0 ≤ ip ∧ ip ≤ 65535) (h3 : 0 ≤ ss ∧ ss ≤ 65535) (h4 : 0 ≤ sp ∧ sp ≤ 65535)
    (h : (mayB b r mn = true ∧ want = 0) ∨ (mayB b r mn = false ∧ want = 1)) : Ev (fun k => QMay.hansomlaw44_MzMay.j0 k want b r cs ip ss sp mn) true := by
  have hm := may_any b r cs ip ss sp mn hb hr hrg
  have q1 : b.length ≤ 140737488355328 := by omega
  have q2 : r.length ≤ 140737488355328 := by omega
  refine Ev.up ?_
  simp only [QMay.hansomlaw44_MzMay.j0]
  rcases h with ⟨h, rfl⟩ | ⟨h, rfl⟩
  · rw [h] at hm
    have hl : ((fileB b r cs ip ss sp mn).length : Int) > 0 := by rw [file_length]; unfold headOf; omega
    refine Ev.bind (write_ev h h1 h2 h3 h4) (Ev.bind awake_ev (Ev.yes rfl (Ev.yes rfl (Ev.bind hm (Ev.yes rfl ?_)))))
    rw [decide_eq_true hl]
    exact Ev.now _
  · rw [h] at hm
    have hw : Ev (fun k => PWrite.mz_Write.f k b r cs ip ss sp mn) ([], 1) := by
      obtain ⟨K, hK⟩ := write_no b r cs ip ss sp mn q1 q2 (fun x hx => by have := hrg x hx; omega) h
      exact Ev.of (fun k => PWrite.mz_Write.mono _ _ _ _ _ _ _ k) hK
    exact Ev.bind hw (Ev.bind awake_ev (Ev.yes rfl (Ev.yes rfl (Ev.bind hm (Ev.yes rfl (Ev.now _))))))
theorem may_two (b : List Int) (x y mn : Int) (hb : b.length ≤ 10000) (h0 : 0 ≤ mn) (h1 : mn ≤ 40960 - ((b.length + 15) / 16 : Nat)) (p1 : 0 ≤ x) (p2 : x + 2 ≤ b.length) (p3 : x + 2 ≤ y) (p4 : y + 2 ≤ b.length) : mayB b [x, y] mn = true := by
  simp only [mayB, Bool.and_eq_true, decide_eq_true_eq]
  refine ⟨by omega, h0, h1, by simp, all_true fun i hi => ?_⟩
  have hi2 : i < 2 := by simpa using hi
  obtain rfl | rfl : i = 0 ∨ i = 1 := by omega
  · simp only [goodAt, riseAt, Bool.and_eq_true, Bool.or_eq_true, decide_eq_true_eq, beq_iff_eq]
    exact ⟨p1, by show x ≤ _; omega, .inl trivial⟩
  · simp only [goodAt, riseAt, Bool.and_eq_true, Bool.or_eq_true, decide_eq_true_eq, beq_iff_eq]
    exact ⟨by show 0 ≤ y; omega, by show y ≤ _; omega, .inr (by show 2 ≤ y - x; omega)⟩
theorem may_not (b : List Int) (x y mn : Int) (h : ¬ (0 ≤ mn ∧ mn ≤ 40960 - ((b.length + 15) / 16 : Nat) ∧ 0 ≤ x ∧ x + 2 ≤ y ∧ y + 2 ≤ b.length)) : mayB b [x, y] mn = false := by
  cases hm : mayB b [x, y] mn with
  | false => rfl
  | true =>
    exfalso
    obtain ⟨q1, q2, q3, q4, q5⟩ := mayB_parts hm
    have g0 := q5 0 (by simp)
    have g1 := q5 1 (by simp)
    simp only [goodAt, riseAt, Bool.and_eq_true, Bool.or_eq_true, decide_eq_true_eq, beq_iff_eq] at g0 g1
    have a0 : 0 ≤ x := g0.1
    have a1 : y ≤ (b.length : Int) - 2 := g1.2.1
    have a2 : 2 ≤ y - x := by
      rcases g1.2.2 with h' | h'
      · cases h'
      · exact h'
    exact h ⟨q2, q3, a0, by omega, by omega⟩
theorem may_wraps (B : Nat) (n : Int) (hB : B ≤ 10000) : wrap64 ((B : Int) - 1) = (B : Int) - 1 ∧ wrap64 ((B : Int) - 2) = (B : Int) - 2 ∧ wrap64 ((B : Int) - 3) = (B : Int) - 3 ∧ wrap64 ((B : Int) - 4) = (B : Int) - 4 ∧ wrap64 (-1 - n % 256) = -1 - n % 256 ∧ wrap64 ((B : Int) + 15) = (B : Int) + 15 ∧
    Int.tdiv ((B : Int) + 15) 16 = (((B + 15) / 16 : Nat) : Int) ∧ wrap64 (((B + 15) / 16 : Nat) : Int) = (((B + 15) / 16 : Nat) : Int) ∧ wrap64 (40960 - (((B + 15) / 16 : Nat) : Int)) = 40960 - (((B + 15) / 16 : Nat) : Int) ∧ wrap64 (40960 - (((B + 15) / 16 : Nat) : Int) + n % 2) = 40960 - (((B + 15) / 16 : Nat) : Int) + n % 2 :=
  ⟨wrap_id (by omega) (by omega), wrap_id (by omega) (by omega), wrap_id (by omega) (by omega), wrap_id (by omega) (by omega), wrap_id (by omega) (by omega), wrap_id (by omega) (by omega), by rw [Int.tdiv_eq_ediv_of_nonneg (by omega)]; omega, wrap_id (by omega) (by omega), wrap_id (by omega) (by omega), wrap_id (by omega) (by omega)⟩
theorem MzMay_pure (l L : List Int) (a2 a3 a4 a5 a6 kd n : Int) (hl : isBytes l) (h2 : 0 ≤ a2 ∧ a2 ≤ 65535) (h3 : 0 ≤ a3 ∧ a3 ≤ 65535) (h4 : 0 ≤ a4 ∧ a4 ≤ 65535) (h5 : 0 ≤ a5 ∧ a5 ≤ 65535) :
    ∃ k, QMay.hansomlaw44_MzMay.f k l L a2 a3 a4 a5 a6 kd n = some true := by
  refine Ev.rounds (g := fun k => QMay.hansomlaw44_MzMay.f k l L a2 a3 a4 a5 a6 kd n) ?_
  obtain ⟨b, r, he, hn⟩ := near_ev l L a2 a3 a4 a5 a6
  have hlen := hn.len
  have hmn := hn.least
  generalize a6 % 256 = mn at *
  have ht : Int.tmod (kd % 16) 7 = kd % 16 % 7 := Int.tmod_eq_emod_of_nonneg (Int.emod_nonneg _ (by decide))
  generalize htt : kd % 16 % 7 = t at *
  clear htt
  have hn0 : 0 ≤ n % 256 ∧ n % 256 ≤ 255 := by omega
  have hn1 : n % 2 = 0 ∨ n % 2 = 1 := by omega
  have hB : (b ++ [1, 2, 3, 4]).length = b.length + 4 := by simp
  have hfit : b.length + ([1, 2, 3, 4] : List Int).length < 140737488355328 := by simp; omega
  unfold QMay.hansomlaw44_MzMay.f
  refine Ev.bind he (Ev.let (Ev.yes hfit (Ev.let ?_)))
  simp only [and15, ht, and255, and1]
  generalize hBB : b ++ [1, 2, 3, 4] = B at *
  clear hBB
  obtain ⟨w1, w2, w3, w4, w5, w6, w7, w8, w9, w10⟩ := may_wraps B.length n (by omega)
  rw [w4, w2, w1, w3, w5, w6, w7, w8, w9, w10]
  clear w1 w2 w3 w4 w5 w6 w7 w8 w9 w10
  generalize hP : (B.length + 15) / 16 = P at *
  have hBl : B.length ≤ 10000 := by omega
  have rg : ∀ x y : Int, -100000 ≤ x → x ≤ 100000 → -100000 ≤ y → y ≤ 100000 → ∀ z ∈ ([x, y] : List Int), -100000 ≤ z ∧ z ≤ 100000 := fun x y a b c d z hz => by
    simp only [List.mem_cons, List.not_mem_nil, or_false] at hz
    rcases hz with rfl | rfl
    · exact ⟨a, b⟩
    · exact ⟨c, d⟩
  have key : ∀ (x y m want : Int), -100000 ≤ x → x ≤ 100000 → -100000 ≤ y → y ≤ 100000 → ((mayB B [x, y] m = true ∧ want = 0) ∨ (mayB B [x, y] m = false ∧ want = 1)) → Ev (fun k => QMay.hansomlaw44_MzMay.j0 k want B [x, y] a2 a3 a4 a5 m) true :=
    fun x y m want a b c d h => may_j0 B [x, y] a2 a3 a4 a5 m want hBl (by simp) (rg x y a b c d) h2 h3 h4 h5 h
  have no : ∀ (x y m : Int), ¬ (0 ≤ m ∧ m ≤ 40960 - (P : Int) ∧ 0 ≤ x ∧ x + 2 ≤ y ∧ y + 2 ≤ B.length) → mayB B [x, y] m = false := fun x y m h => may_not B x y m (by rw [hP]; exact h)
  have yes : ∀ (x y m : Int), 0 ≤ m → m ≤ 40960 - (P : Int) → 0 ≤ x → x + 2 ≤ B.length → x + 2 ≤ y → y + 2 ≤ B.length → mayB B [x, y] m = true := fun x y m a b c d e f => may_two B x y m hBl a (by rw [hP]; exact b) c d e f
  refine Ev.let ?_
  have i0 : (0 : Int) < (([(B.length : Int) - 4, (B.length : Int) - 2] : List Int).length : Int) := by simp
  have i1 : (1 : Int) < (([(B.length : Int) - 4, (B.length : Int) - 2] : List Int).length : Int) := by simp
  by_cases t0 : t = 0
  · exact Ev.yes t0 (Ev.yes i1 (key _ _ _ 1 (by omega) (by omega) (by omega) (by omega) (.inr ⟨no _ _ _ (by omega), rfl⟩)))
  refine Ev.no t0 ?_
  by_cases t1 : t = 1
  · exact Ev.yes t1 (Ev.yes i1 (key _ _ _ 1 (by omega) (by omega) (by omega) (by omega) (.inr ⟨no _ _ _ (by omega), rfl⟩)))
  refine Ev.no t1 ?_
  by_cases t2 : t = 2
  · exact Ev.yes t2 (Ev.yes i0 (key _ _ _ 1 (by omega) (by omega) (by omega) (by omega) (.inr ⟨no _ _ _ (by omega), rfl⟩)))
  refine Ev.no t2 ?_
  by_cases t3 : t = 3
  · refine Ev.yes t3 (Ev.yes i0 (Ev.yes ?_ ?_))
    · simp
    · exact key _ _ _ 1 (by omega) (by omega) (by omega) (by omega) (.inr ⟨no _ _ _ (by omega), rfl⟩)
  refine Ev.no t3 ?_
  by_cases t4 : t = 4
  · exact Ev.yes t4 (key _ _ _ 1 (by omega) (by omega) (by omega) (by omega) (.inr ⟨no _ _ _ (by omega), rfl⟩))
  refine Ev.no t4 ?_
  by_cases t5 : t = 5
  · refine Ev.yes t5 ?_
    rcases hn1 with e | e
    · rw [e]
      exact Ev.no (by decide) (key _ _ _ 0 (by omega) (by omega) (by omega) (by omega) (.inl ⟨yes _ _ _ (by omega) (by omega) (by omega) (by omega) (by omega) (by omega), rfl⟩))
    · rw [e]
      exact Ev.yes rfl (key _ _ _ 1 (by omega) (by omega) (by omega) (by omega) (.inr ⟨no _ _ _ (by omega), rfl⟩))
  refine Ev.no t5 ?_
  exact key _ _ _ 0 (by omega) (by omega) (by omega) (by omega) (.inl ⟨yes _ _ _ (by omega) (by omega) (by omega) (by omega) (by omega) (by omega), rfl⟩)
theorem MzMay_walk (A0 : Option Addr) (c0 : Nat) (l0 : List Int) (A1 : Option Addr) (c1 : Nat) (l1 : List Int) (a2 a3 a4 a5 a6 kd n : Int) (w : World) (hr0 : Kd.C (Kd.int .u8) w A0 l0.length l0) (hc0 : l0.length ≤ c0) (hm0 : l0.length ≤ maxLen) (hw0 : ∀ x ∈ l0, (Lit.int .u8 x).wf = true)
    (hr1 : Kd.C (Kd.int .i64) w A1 l1.length l1) (hc1 : l1.length ≤ c1) (hm1 : l1.length ≤ maxLen) (hw1 : ∀ x ∈ l1, (Lit.int .i64 x).wf = true) (w2 : (Lit.int .u16 a2).wf = true) (w3 : (Lit.int .u16 a3).wf = true) (w4 : (Lit.int .u16 a4).wf = true) (w5 : (Lit.int .u16 a5).wf = true) (w6 : (Lit.int .i64 a6).wf = true) (w7 : (Lit.int .i64 kd).wf = true) (w8 : (Lit.int .i64 n).wf = true) :
    Calls Try.prog 5 #[.agg #[.slice A0 l0.length c0, .slice A1 l1.length c1, .int .u16 a2, .int .u16 a3, .int .u16 a4, .int .u16 a5, .int .i64 a6], .int .i64 kd, .int .i64 n] w fun e w' => e = .returned (.bool true) ∧ Below w.heap.size w w' := by
  obtain ⟨k, h⟩ := MzMay_pure l0 l1 a2 a3 a4 a5 a6 kd n (wf_bytes hw0) (wf_u16 w2) (wf_u16 w3) (wf_u16 w4) (wf_u16 w5)
  exact QMay.hansomlaw44_MzMay.calls k A0 c0 l0 A1 c1 l1 a2 a3 a4 a5 a6 kd n w hr0 hc0 hr1 hc1 h
end Go.Proofs.Ytfibdecfmfdikaa
