/- Contracts of package bits: Low, High, Word: a word's bytes, and back. -/
import Derived.Test.YtfibdecfmfdikaaProg
import Derived.Test.YtfibdecfmfdikaaWWords
import Derived.WalkLawsBesides
import Derived.WalkSpells
import Derived.Lib.Hide
import Derived.Laws.BitsAllLaws
set_option linter.unusedVariables false
set_option linter.unusedSimpArgs false
namespace Go.Proofs.Ytfibdecfmfdikaa
open Go.RowKit Go.Proofs.YtfibdecfmfdikaaW.PrintWords
set_option maxRecDepth 100000

theorem or_add (a b : Nat) (h : a < 256) : a ||| b * 256 = a + 256 * b := by
  have := Nat.two_pow_add_eq_or_of_lt (i := 8) (b := a) h b
  rw [Nat.or_comm, Nat.mul_comm b 256, show (256 : Nat) = 2 ^ 8 from rfl, ← this, Nat.add_comm]
theorem or_word (a b : Int) (h0 : 0 ≤ a) (h1 : a ≤ 255) (h2 : 0 ≤ b) (h3 : b ≤ 255) : Go.bits .or .u16 a (b * 256) = a + 256 * b := by
  rw [u16_or _ _ h0 (by omega) (by omega) (by omega)]
  have e : (b * 256).toNat = b.toNat * 256 := by omega
  rw [e, or_add _ _ (by omega)]
  omega
theorem bword_any (a b : Int) (w : World) (h0 : 0 ≤ a) (h1 : a ≤ 255) (h2 : 0 ≤ b) (h3 : b ≤ 255) :
    Calls Try.prog 63 #[.int .u8 a, .int .u8 b] w fun e w' => e = .returned (.int .u16 (a + 256 * b)) ∧ w = w' := by
  have hor := or_word a b h0 h1 h2 h3
  go_enter Try.func63, Try.ntmps63
  go_wp2_with fail
  go_ret
  exact ⟨rfl, rfl⟩
theorem and_mask32 (x : Int) (j : Nat) (hj : j ≤ 31) (h0 : 0 ≤ x) (h1 : x < 4294967296) : Go.bits .and .u32 x ((2 ^ j - 1 : Nat) : Int) = x % ((2 ^ j : Nat) : Int) := by
  have hp : 2 ^ j ≤ 2 ^ 31 := Nat.pow_le_pow_right (by omega) hj
  have hp0 : 0 < 2 ^ j := Nat.pow_pos (by omega)
  rw [u32_and _ _ h0 h1 (by omega) (by omega)]
  have e : ((2 ^ j - 1 : Nat) : Int).toNat = 2 ^ j - 1 := by omega
  rw [e, Nat.and_two_pow_sub_one_eq_mod]
  obtain ⟨n, rfl⟩ := Int.eq_ofNat_of_zero_le h0
  simp
theorem linear_any (s o : Int) (w : World) (h0 : 0 ≤ s) (h1 : s ≤ 65535) (h2 : 0 ≤ o) (h3 : o ≤ 65535) :
    Calls Try.prog 48 #[.int .u16 s, .int .u16 o] w fun e w' => e = .returned (.int .u32 ((16 * s + o) % 1048576)) ∧ w = w' := by
  have hm := and_mask32 (s * 16 + o) 20 (by omega) (by omega) (by omega)
  simp only [show ((2 ^ 20 - 1 : Nat) : Int) = 1048575 from rfl, show ((2 ^ 20 : Nat) : Int) = 1048576 from rfl] at hm
  rw [show 16 * s + o = s * 16 + o by omega]
  generalize hz : (s * 16 + o) % 1048576 = z at *
  clear hz
  go_enter Try.func48, Try.ntmps48
  go_wp2_with fail
  go_ret
  exact ⟨rfl, rfl⟩
end Go.Proofs.Ytfibdecfmfdikaa
