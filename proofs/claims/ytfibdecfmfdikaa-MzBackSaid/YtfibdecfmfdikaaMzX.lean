/- mz.Read: its contract as a function of a file's bytes. -/
import Derived.Test.YtfibdecfmfdikaaMzR
set_option linter.unusedVariables false
set_option linter.unusedSimpArgs false
namespace Go.Proofs.Ytfibdecfmfdikaa.Ext
open Go.RowKit Go.Proofs.Ytfibdecfmfdikaa Go.Proofs.YtfibdecfmfdikaaW.PrintWords

def fitB (l : List Int) : Bool := decide (l.length ≤ 140737488355328) && l.all fun x => decide (0 ≤ x) && decide (x ≤ 255)
theorem fitB_true {l : List Int} (h : fitB l = true) : l.length ≤ 140737488355328 ∧ ∀ x ∈ l, 0 ≤ x ∧ x ≤ 255 := by
  simp only [fitB, Bool.and_eq_true, decide_eq_true_eq, List.all_eq_true] at h
  exact h
/-- What mz.Read tells of bytes: the program's bytes, its places, words, and the error. -/
def readR (xs : List Int) : List Int × List Int × Int × Int × Int × Int × Int × Int :=
  if rdCode xs = 0 then (bsOf xs, plOf xs, hw xs 11, hw xs 10, hw xs 7, hw xs 8, hw xs 5, 0) else ([], [], 0, 0, 0, 0, 0, rdCode xs)
def mz_Read.f (l : List Int) : Option (List Int × List Int × Int × Int × Int × Int × Int × Int) := if fitB l = true then some (readR l) else none
theorem mz_Read.calls (A0 : Option Addr) (c0 : Nat) (l0 : List Int) (r1 r2 : List Int) (r3 r4 r5 r6 r7 r8 : Int) (w : World) (hr0 : Kd.C (Kd.int .u8) w A0 l0.length l0) (hc0 : l0.length ≤ c0) (h : mz_Read.f l0 = some (r1, r2, r3, r4, r5, r6, r7, r8)) :
    Calls Try.prog 15 #[.slice A0 l0.length c0] w fun e w' => ∃ v0_ v1_ : Value, e = .returned (.tuple #[.agg #[v0_, v1_, .int .u16 r3, .int .u16 r4, .int .u16 r5, .int .u16 r6, .int .i64 r7], .int .i64 r8]) ∧ Kd.R (Kd.int .u8) 5 w' w.heap.size (fun _ => True) v0_ r1 ∧ Kd.R (Kd.int .i64) 3 w' w.heap.size (fun _ => True) v1_ r2 ∧ Below w.heap.size w w' := by
  unfold mz_Read.f at h
  split at h
  · rename_i hf
    obtain ⟨hl, hb⟩ := fitB_true hf
    have h := Option.some.inj h
    refine (read_any A0 c0 l0 w hr0 hc0 hl hb).mono fun e w' hp => ?_
    unfold readR at h
    by_cases h0 : rdCode l0 = 0
    · rw [if_pos h0] at h
      simp only [Prod.mk.injEq] at h
      obtain ⟨rfl, rfl, rfl, rfl, rfl, rfl, rfl, rfl⟩ := h
      exact hp.1 h0
    · rw [if_neg h0] at h
      simp only [Prod.mk.injEq] at h
      obtain ⟨rfl, rfl, rfl, rfl, rfl, rfl, rfl, rfl⟩ := h
      obtain ⟨he, hb⟩ := hp.2 h0
      exact ⟨_, _, he, Kd.R_nil _ _ _ _ _, Kd.R_nil _ _ _ _ _, hb⟩
  · cases h
end Go.Proofs.Ytfibdecfmfdikaa.Ext
