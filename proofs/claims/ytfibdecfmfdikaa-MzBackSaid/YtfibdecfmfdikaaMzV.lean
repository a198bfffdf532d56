/- mz.Write, plainly: all of it. -/
import Derived.Test.YtfibdecfmfdikaaMzW
set_option linter.unusedVariables false
set_option linter.unusedSimpArgs false
namespace Go.Proofs.Ytfibdecfmfdikaa
open Go.RowKit Go.Proofs.YtfibdecfmfdikaaW.PrintWords Go.Proofs.Ytfibdecfmfdikaa.PWrite

theorem wid {x : Int} (h0 : 0 ≤ x) (h1 : x ≤ 4294967296) : wrap64 x = x := by unfold wrap64; omega
theorem w16 {x : Int} (h0 : 0 ≤ x) (h1 : x ≤ 65535) : IntKind.u16.wrap x = x := by rw [IntKind.wrap_u16]; omega
theorem wwords (H B R : Nat) (cs ip ss sp mn : Int) (hH : H ≤ 16100) (hB : B ≤ 655360) (hR : R ≤ 4000) (m0 : 0 ≤ mn) (m1 : mn ≤ 65535) :
    [IntKind.u16.wrap (Int.tmod (wrap64 ((H : Int) + (B : Int))) 512), IntKind.u16.wrap (wrap64 (Int.tdiv (wrap64 ((wrap64 ((wrap64 ((H : Int) + (B : Int))) + 512)) - 1)) 512)), IntKind.u16.wrap (R : Int), IntKind.u16.wrap (wrap64 (Int.tdiv (H : Int) 16)), IntKind.u16.wrap mn, 65535, ss, sp, 0, ip, cs, 28, 0] =
      [(((H + B) % 512 : Nat) : Int), (((H + B + 511) / 512 : Nat) : Int), (R : Int), ((H / 16 : Nat) : Int), mn, 65535, ss, sp, 0, ip, cs, 28, 0] := by
  rw [wid (x := (H : Int) + (B : Int)) (by omega) (by omega), wid (x := (H : Int) + (B : Int) + 512) (by omega) (by omega), wid (x := (H : Int) + (B : Int) + 512 - 1) (by omega) (by omega)]
  rw [Int.tmod_eq_emod_of_nonneg (by omega), Int.tdiv_eq_ediv_of_nonneg (by omega), Int.tdiv_eq_ediv_of_nonneg (by omega)]
  rw [wid (x := ((H : Int) + (B : Int) + 512 - 1) / 512) (by omega) (by omega), wid (x := (H : Int) / 16) (by omega) (by omega)]
  rw [w16 (x := ((H : Int) + (B : Int)) % 512) (by omega) (by omega), w16 (x := ((H : Int) + (B : Int) + 512 - 1) / 512) (by omega) (by omega), w16 (x := (R : Int)) (by omega) (by omega), w16 (x := (H : Int) / 16) (by omega) (by omega), w16 m0 m1]
  have e1 : ((H : Int) + (B : Int)) % 512 = (((H + B) % 512 : Nat) : Int) := by omega
  have e2 : ((H : Int) + (B : Int) + 512 - 1) / 512 = (((H + B + 511) / 512 : Nat) : Int) := by omega
  have e3 : (H : Int) / 16 = ((H / 16 : Nat) : Int) := by omega
  rw [e1, e2, e3]

theorem words_range {b r : List Int} {cs ip ss sp mn : Int} (h : mayB b r mn = true) (h1 : 0 ≤ cs ∧ cs ≤ 65535) (h2 : 0 ≤ ip ∧ ip ≤ 65535) (h3 : 0 ≤ ss ∧ ss ≤ 65535) (h4 : 0 ≤ sp ∧ sp ≤ 65535) : ∀ x ∈ wordsOf b r cs ip ss sp mn, 0 ≤ x ∧ x < 65536 := by
  obtain ⟨p1, p2, p3, p4, _⟩ := mayB_parts h
  have hh : headOf r.length ≤ 28 + 4 * r.length + 15 := by unfold headOf; omega
  unfold wordsOf
  generalize headOf r.length = H at *
  generalize b.length = B at *
  generalize r.length = R at *
  clear h
  intro x hx
  simp only [List.mem_cons, List.not_mem_nil, or_false] at hx
  rcases hx with rfl | rfl | rfl | rfl | rfl | rfl | rfl | rfl | rfl | rfl | rfl | rfl | rfl
  all_goals omega
theorem write_open (K : Nat) (H : Nat) (b r : List Int) (cs ip ss sp mn : Int) (hm : mz_May.f K b r cs ip ss sp mn = some true) (hh : mz_head.f (r.length : Int) = some (H : Int)) (hH : H ≤ 16100) (hB : b.length ≤ 655360) (hR : r.length ≤ 4000) (m0 : 0 ≤ mn) (m1 : mn ≤ 65535) :
    mz_Write.f K b r cs ip ss sp mn = mz_Write.l0 K (H : Int) [77, 90] [(((H + b.length) % 512 : Nat) : Int), (((H + b.length + 511) / 512 : Nat) : Int), (r.length : Int), ((H / 16 : Nat) : Int), mn, 65535, ss, sp, 0, ip, cs, 28, 0] 13 0 b r cs ip ss sp mn := by
  unfold mz_Write.f
  rw [hm]
  simp only [Option.bind_some, if_true]
  rw [hh]
  simp only [Option.bind_some]
  rw [wwords H b.length r.length cs ip ss sp mn hH hB hR m0 m1]
  rfl
theorem write_eq (b r : List Int) (cs ip ss sp mn : Int) (h1 : 0 ≤ cs ∧ cs ≤ 65535) (h2 : 0 ≤ ip ∧ ip ≤ 65535) (h3 : 0 ≤ ss ∧ ss ≤ 65535) (h4 : 0 ≤ sp ∧ sp ≤ 65535) (h : mayB b r mn = true) :
    mz_Write.f (r.length + 16) b r cs ip ss sp mn = some (fileB b r cs ip ss sp mn, 0) := by
  obtain ⟨p1, p2, p3, p4, _⟩ := mayB_parts h
  have hrg := mayB_range h
  have hh : headOf r.length ≤ 28 + 4 * r.length + 15 := by unfold headOf; omega
  have hm := may_eq b r cs ip ss sp mn (by omega) (by omega) (fun x hx => by have := hrg x hx; omega) (r.length + 16) (by omega)
  rw [h] at hm
  rw [write_open (r.length + 16) (headOf r.length) b r cs ip ss sp mn hm (head_eq r.length p4) (by omega) p1 p4 p2 (by omega)]
  exact write_l0 b r (wordsOf b r cs ip ss sp mn) cs ip ss sp mn p1 p4 hrg rfl (words_range h h1 h2 h3 h4) 13 0 (r.length + 16) [77, 90] rfl (Nat.zero_le _) (by omega) rfl
theorem write_shut (K : Nat) (b r : List Int) (cs ip ss sp mn : Int) (hm : mz_May.f K b r cs ip ss sp mn = some false) : mz_Write.f K b r cs ip ss sp mn = some ([], 1) := by
  unfold mz_Write.f
  rw [hm]
  simp only [Option.bind_some]
  rw [if_neg (show ¬ (false = true) by decide)]
theorem write_no (b r : List Int) (cs ip ss sp mn : Int) (hb : b.length ≤ 140737488355328) (hr : r.length ≤ 140737488355328) (hrg : ∀ x ∈ r, -1099511627776 ≤ x ∧ x ≤ 1099511627776) (h : mayB b r mn = false) :
    ∃ K, mz_Write.f K b r cs ip ss sp mn = some ([], 1) :=
  ⟨r.length + 16, write_shut _ b r cs ip ss sp mn (h ▸ may_eq b r cs ip ss sp mn hb hr hrg (r.length + 16) (by omega))⟩
theorem write_yes (b r : List Int) (cs ip ss sp mn : Int) (h1 : 0 ≤ cs ∧ cs ≤ 65535) (h2 : 0 ≤ ip ∧ ip ≤ 65535) (h3 : 0 ≤ ss ∧ ss ≤ 65535) (h4 : 0 ≤ sp ∧ sp ≤ 65535) (h : mayB b r mn = true) :
    ∃ K, mz_Write.f K b r cs ip ss sp mn = some (fileB b r cs ip ss sp mn, 0) := ⟨_, write_eq b r cs ip ss sp mn h1 h2 h3 h4 h⟩
/-- What Write hands back. -/
def WriteR (b r : List Int) (cs ip ss sp mn : Int) : List Int × Int := if mayB b r mn = true then (fileB b r cs ip ss sp mn, 0) else ([], 1)
theorem write_any (A0 : Option Addr) (c0 : Nat) (b : List Int) (A1 : Option Addr) (c1 : Nat) (r : List Int) (cs ip ss sp mn : Int) (w : World) (hr0 : Kd.C (Kd.int .u8) w A0 b.length b) (hc0 : b.length ≤ c0) (hr1 : Kd.C (Kd.int .i64) w A1 r.length r) (hc1 : r.length ≤ c1)
    (h1 : 0 ≤ cs ∧ cs ≤ 65535) (h2 : 0 ≤ ip ∧ ip ≤ 65535) (h3 : 0 ≤ ss ∧ ss ≤ 65535) (h4 : 0 ≤ sp ∧ sp ≤ 65535) (hb : b.length ≤ 140737488355328) (hr : r.length ≤ 140737488355328) (hrg : ∀ x ∈ r, -1099511627776 ≤ x ∧ x ≤ 1099511627776) :
    Calls Try.prog 14 #[.agg #[.slice A0 b.length c0, .slice A1 r.length c1, .int .u16 cs, .int .u16 ip, .int .u16 ss, .int .u16 sp, .int .i64 mn]] w fun e w' => ∃ v : Value, e = .returned (.tuple #[v, .int .i64 (WriteR b r cs ip ss sp mn).2]) ∧ Kd.R (Kd.int .u8) 5 w' w.heap.size (fun _ => True) v (WriteR b r cs ip ss sp mn).1 ∧ Below w.heap.size w w' := by
  by_cases h : mayB b r mn = true
  · have e : WriteR b r cs ip ss sp mn = (fileB b r cs ip ss sp mn, 0) := if_pos h
    rw [e]
    obtain ⟨K, hK⟩ := write_yes b r cs ip ss sp mn h1 h2 h3 h4 h
    exact mz_Write.calls K A0 c0 b A1 c1 r cs ip ss sp mn (fileB b r cs ip ss sp mn) 0 w hr0 hc0 hr1 hc1 hK
  · have e : WriteR b r cs ip ss sp mn = ([], 1) := if_neg h
    rw [e]
    obtain ⟨K, hK⟩ := write_no b r cs ip ss sp mn hb hr hrg (by simpa using h)
    exact mz_Write.calls K A0 c0 b A1 c1 r cs ip ss sp mn [] 1 w hr0 hc0 hr1 hc1 hK
end Go.Proofs.Ytfibdecfmfdikaa
