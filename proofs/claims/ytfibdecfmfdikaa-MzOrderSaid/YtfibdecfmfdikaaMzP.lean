/- mz.May, plainly: what the printed function comes to. -/
import Derived.Test.YtfibdecfmfdikaaPWritex1
import Derived.Test.YtfibdecfmfdikaaMzB
set_option linter.unusedVariables false
set_option linter.unusedSimpArgs false
namespace Go.Proofs.Ytfibdecfmfdikaa
open Go.RowKit Go.Proofs.YtfibdecfmfdikaaW.PrintWords Go.Proofs.Ytfibdecfmfdikaa.PWrite

def goodAt (b r : List Int) (i : Nat) : Bool := decide (0 ≤ r.getD i 0) && riseAt r b.length i
def mayB (b r : List Int) (mn : Int) : Bool :=
  decide (b.length ≤ 655360) && (decide (0 ≤ mn) && (decide (mn ≤ 40960 - ((b.length + 15) / 16 : Nat)) && (decide (r.length ≤ 4000) && (List.range r.length).all (goodAt b r))))

theorem all_false {r : List Int} {p : Nat → Bool} {i : Nat} (hi : i < r.length) (h : p i = false) : (List.range r.length).all p = false := by
  rw [List.all_eq_false]
  exact ⟨i, List.mem_range.2 hi, by simp [h]⟩
theorem all_true {r : List Int} {p : Nat → Bool} (h : ∀ i, i < r.length → p i = true) : (List.range r.length).all p = true := by
  rw [List.all_eq_true]
  exact fun i hi => h i (List.mem_range.1 hi)
theorem may_loop (b r : List Int) (c1 c2 c3 c4 c5 : Int) (hb : b.length ≤ 655360) (hr : r.length ≤ 4000) (hrg : ∀ x ∈ r, -1099511627776 ≤ x ∧ x ≤ 1099511627776) (d : Nat) : ∀ (i k : Nat), r.length - i = d → i ≤ r.length → d < k → (∀ j, j < i → goodAt b r j = true) →
    mz_May.l0 k r (r.length : Int) i b r c1 c2 c3 c4 c5 = some ((List.range r.length).all (goodAt b r)) := by
  induction d with
  | zero =>
    intro i k hd hi hk hg
    obtain ⟨k, rfl⟩ : ∃ m, k = m + 1 := ⟨k - 1, by omega⟩
    simp only [mz_May.l0]
    rw [if_neg (by omega), all_true (fun j hj => hg j (by omega))]
  | succ d ih =>
    intro i k hd hi hk hg
    obtain ⟨k, rfl⟩ : ∃ m, k = m + 1 := ⟨k - 1, by omega⟩
    have hlt : i < r.length := by omega
    have r0 := getD_range (a := -1099511627776) (b := 1099511627777) (fun x hx => by have := hrg x hx; omega) i hlt
    have hnext := ih (i + 1) k (by omega) (by omega) (by omega)
    have e1 : wrap64 ((i : Int) + 1) = ((i + 1 : Nat) : Int) := by unfold wrap64; omega
    have e2 : wrap64 ((b.length : Int) - 2) = (b.length : Int) - 2 := by unfold wrap64; omega
    have erd : rd r (i : Int) = r.getD i 0 := by simp [rd]
    simp only [mz_May.l0]
    rw [if_pos (by omega), if_pos (by omega), if_pos (by omega), erd, e1, e2]
    by_cases h1 : r.getD i 0 < 0
    · rw [if_pos h1, all_false hlt (by simp only [goodAt]; rw [decide_eq_false (by omega)]; rfl)]
    · rw [if_neg h1]
      by_cases h2 : r.getD i 0 > (b.length : Int) - 2
      · rw [if_pos h2, all_false hlt (by simp only [goodAt, riseAt]; rw [decide_eq_false (show ¬ r.getD i 0 ≤ (b.length : Int) - 2 by omega)]; simp)]
      · rw [if_neg h2]
        by_cases h3 : i = 0
        · subst h3
          rw [if_neg (by omega)]
          refine hnext fun j hj => ?_
          obtain rfl : j = 0 := by omega
          simp only [goodAt, riseAt]
          rw [decide_eq_true (by omega), decide_eq_true (by omega)]
          rfl
        · have r1 := getD_range (a := -1099511627776) (b := 1099511627777) (fun x hx => by have := hrg x hx; omega) (i - 1) (by omega)
          have e3 : wrap64 ((i : Int) - 1) = ((i - 1 : Nat) : Int) := by unfold wrap64; omega
          have erd1 : rd r ((i - 1 : Nat) : Int) = r.getD (i - 1) 0 := by simp [rd]
          rw [if_pos (by omega), e3, if_pos (by omega), if_pos (by omega), erd1]
          have e4 : wrap64 (r.getD i 0 - r.getD (i - 1) 0) = r.getD i 0 - r.getD (i - 1) 0 := by unfold wrap64; omega
          rw [e4]
          have e0 : (i == 0) = false := by simpa using h3
          by_cases h4 : r.getD i 0 - r.getD (i - 1) 0 < 2
          · rw [if_pos h4, all_false hlt (by simp only [goodAt, riseAt]; rw [e0, decide_eq_false (show ¬ 2 ≤ r.getD i 0 - r.getD (i - 1) 0 by omega)]; simp)]
          · rw [if_neg h4]
            refine hnext fun j hj => ?_
            by_cases hji : j = i
            · subst hji
              simp only [goodAt, riseAt]
              rw [decide_eq_true (show 0 ≤ r.getD j 0 by omega), decide_eq_true (show r.getD j 0 ≤ (b.length : Int) - 2 by omega), decide_eq_true (show 2 ≤ r.getD j 0 - r.getD (j - 1) 0 by omega)]
              simp
            · exact hg j (by omega)
theorem may_eq (b r : List Int) (c1 c2 c3 c4 mn : Int) (hb : b.length ≤ 140737488355328) (hr : r.length ≤ 140737488355328) (hrg : ∀ x ∈ r, -1099511627776 ≤ x ∧ x ≤ 1099511627776) (k : Nat) (hk : r.length + 2 ≤ k) : mz_May.f k b r c1 c2 c3 c4 mn = some (mayB b r mn) := by
  obtain ⟨k, rfl⟩ : ∃ m, k = m + 1 := ⟨k - 1, by omega⟩
  unfold mz_May.f mayB
  by_cases h1 : (b.length : Int) > 655360
  · rw [if_pos h1, decide_eq_false (show ¬ b.length ≤ 655360 by omega)]
    simp [mz_May.j0]
  · rw [if_neg h1, decide_eq_true (show b.length ≤ 655360 by omega)]
    by_cases h2 : mn < 0
    · rw [if_pos h2, decide_eq_false (show ¬ 0 ≤ mn by omega)]
      simp [mz_May.j0]
    · rw [if_neg h2, decide_eq_true (show 0 ≤ mn by omega)]
      have hp : bits_Paras.f (b.length : Int) = some (((b.length + 15) / 16 : Nat) : Int) := by
        unfold bits_Paras.f
        by_cases h0 : (b.length : Int) < 1
        · rw [if_pos h0]
          have : b.length = 0 := by omega
          simp [this]
        · rw [if_neg h0]
          have e1 : wrap64 ((b.length : Int) - 1) = (b.length : Int) - 1 := by unfold wrap64; omega
          rw [e1]
          have e2 : Int.tdiv ((b.length : Int) - 1) 16 = ((b.length : Int) - 1) / 16 := Int.tdiv_eq_ediv_of_nonneg (by omega)
          rw [e2]
          have e3 : wrap64 (((b.length : Int) - 1) / 16) = ((b.length : Int) - 1) / 16 := by unfold wrap64; omega
          rw [e3]
          have e4 : wrap64 (((b.length : Int) - 1) / 16 + 1) = ((b.length : Int) - 1) / 16 + 1 := by unfold wrap64; omega
          rw [e4]
          congr 1
          omega
      rw [hp]
      simp only [Option.bind_some]
      have e5 : wrap64 (40960 - (((b.length + 15) / 16 : Nat) : Int)) = 40960 - (((b.length + 15) / 16 : Nat) : Int) := by unfold wrap64; omega
      rw [e5]
      by_cases h3 : mn > 40960 - (((b.length + 15) / 16 : Nat) : Int)
      · rw [if_pos h3, decide_eq_false (show ¬ mn ≤ 40960 - (((b.length + 15) / 16 : Nat) : Int) by omega)]
        simp [mz_May.j0]
      · rw [if_neg h3, decide_eq_true (show mn ≤ 40960 - (((b.length + 15) / 16 : Nat) : Int) by omega)]
        by_cases h4 : (r.length : Int) > 4000
        · rw [decide_eq_true h4, decide_eq_false (show ¬ r.length ≤ 4000 by omega)]
          simp [mz_May.j0]
        · rw [decide_eq_false h4, decide_eq_true (show r.length ≤ 4000 by omega)]
          have := may_loop b r c1 c2 c3 c4 mn (by omega) (by omega) hrg r.length 0 k (by omega) (by omega) (by omega) (fun j hj => absurd hj (by omega))
          simp only [mz_May.j0, Bool.true_and, if_neg (show ¬ (false = true) by simp)]
          exact this
end Go.Proofs.Ytfibdecfmfdikaa
