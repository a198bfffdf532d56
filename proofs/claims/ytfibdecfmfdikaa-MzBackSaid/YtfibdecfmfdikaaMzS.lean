/- mz.size. -/
import Derived.Test.YtfibdecfmfdikaaIdx
import Derived.Deep.QuietTactic
import Derived.BigQuiet
set_option linter.unusedVariables false
set_option linter.unusedSimpArgs false
namespace Go.Proofs.Ytfibdecfmfdikaa
open Go.RowKit Go.Proofs.YtfibdecfmfdikaaW.PrintWords
set_option maxRecDepth 100000

/-- How many bytes a file tells that it has; whether that can be. -/
def allOf (l pg : Int) : Int := pg * 512 + (if 0 < l then l - 512 else 0)
def okOf (l pg pa : Int) : Bool := decide (l < 512) && decide (pa * 16 ≤ allOf l pg)
set_option maxHeartbeats 2000000 in
theorem size_any (l pg rl pa mn ss sp ip cs tb : Int) (w : World) (h0 : 0 ≤ l) (h1 : l ≤ 65535) (h2 : 0 ≤ pg) (h3 : pg ≤ 65535) (h4 : 0 ≤ pa) (h5 : pa ≤ 65535) :
    Calls Try.prog 33 #[.agg #[.int .u16 l, .int .u16 pg, .int .u16 rl, .int .u16 pa, .int .u16 mn, .int .u16 ss, .int .u16 sp, .int .u16 ip, .int .u16 cs, .int .u16 tb]] w fun e w' => e = .returned (.tuple #[.int .i64 (allOf l pg), .bool (okOf l pg pa)]) ∧ Below w.heap.size w w' := by
  by_cases hl : 0 < l
  · have e1 : allOf l pg = pg * 512 + (l - 512) := by rw [allOf, if_pos hl]
    have e2 : okOf l pg pa = (decide (l < 512) && decide (pa * 16 ≤ pg * 512 + (l - 512))) := by rw [okOf, e1]
    rw [e1, e2]
    clear e1 e2
    by_cases h6 : l < 512 <;> by_cases h7 : pa * 16 ≤ pg * 512 + (l - 512)
    all_goals
      simp only [h6, h7, decide_true, decide_false, Bool.and_true, Bool.and_false, Bool.true_and, Bool.false_and]
      first | (have d6 : decide (l < 512) = true := by simp [h6]) | (have d6 : decide (l < 512) = false := by simp [h6])
      go_enter Try.func33, Try.ntmps33
      go_wp2
      go_quiet (fail)
      go_wp2
      go_ret2
      exact ⟨by first | rfl | simp [h7], pw_below_drewN ((Below.refl _ _).alloc (Nat.le_refl _) _) _⟩
  · have e1 : allOf l pg = pg * 512 := by rw [allOf, if_neg hl]; omega
    have e2 : okOf l pg pa = (decide (l < 512) && decide (pa * 16 ≤ pg * 512)) := by rw [okOf, e1]
    rw [e1, e2]
    clear e1 e2
    have h6 : l < 512 := by omega
    by_cases h7 : pa * 16 ≤ pg * 512
    all_goals
      simp only [h6, h7, decide_true, decide_false, Bool.and_true, Bool.and_false, Bool.true_and, Bool.false_and]
      first | (have d6 : decide (l < 512) = true := by simp [h6]) | (have d6 : decide (l < 512) = false := by simp [h6])
      go_enter Try.func33, Try.ntmps33
      go_wp2
      go_quiet (fail)
      go_wp2
      go_ret2
      exact ⟨by first | rfl | simp [h7], pw_below_drewN ((Below.refl _ _).alloc (Nat.le_refl _) _) _⟩
end Go.Proofs.Ytfibdecfmfdikaa
