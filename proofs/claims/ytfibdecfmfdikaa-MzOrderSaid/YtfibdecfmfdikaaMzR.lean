/- mz.Read: what it tells of any bytes. mz.Read: its contract as a function of a file's bytes. -/
import Derived.Test.YtfibdecfmfdikaaMzE
import Derived.Test.YtfibdecfmfdikaaMzP
set_option linter.unusedVariables false
set_option linter.unusedSimpArgs false
namespace Go.Proofs.Ytfibdecfmfdikaa
open Go.RowKit Go.Proofs.YtfibdecfmfdikaaW.PrintWords Go.Proofs.Ytfibdecfmfdikaa.PWrite

/-- The bytes of a file's program, and its places. -/
def alOf (xs : List Int) : Int := allOf (hw xs 1) (hw xs 2)
def bsOf (xs : List Int) : List Int := (xs.take (alOf xs).toNat).drop (hw xs 4 * 16).toNat
def plOf (xs : List Int) : List Int := srt (sitesL xs (hw xs 12).toNat (hw xs 3).toNat)
/-- Read's error of bytes; 0: there is none. -/
def rdCode (xs : List Int) : Int :=
  if xs.length < 28 then 2 else if ¬ (xs.getD 0 0 = 77 ∧ xs.getD 1 0 = 90) then 440 else
  if ¬ (okOf (hw xs 1) (hw xs 2) (hw xs 4) = true ∧ 28 ≤ hw xs 4 * 16) then 3 else if (xs.length : Int) < alOf xs then 2 else
  if 4000 < hw xs 3 then 8 else if (xs.length : Int) < hw xs 12 + 4 * hw xs 3 ∨ hw xs 4 * 16 < hw xs 12 + 4 * hw xs 3 then 2 else
  if riseB (plOf xs) (alOf xs - hw xs 4 * 16) = false then 3 else if mayB (bsOf xs) (plOf xs) (hw xs 5) = false then 8 else 0
def ReadPost (xs : List Int) (w : World) (e : Ending) (w' : World) : Prop :=
  (rdCode xs = 0 → ReadOk (bsOf xs) (plOf xs) (hw xs 11) (hw xs 10) (hw xs 7) (hw xs 8) (hw xs 5) w e w') ∧ (rdCode xs ≠ 0 → ReadErr (rdCode xs) w e w')

theorem read_any (A : Option Addr) (c : Nat) (xs : List Int) (w : World) (hr : (Kd.int .u8).C w A xs.length xs) (hlc : xs.length ≤ c) (hl : xs.length ≤ 140737488355328) (hb : ∀ x ∈ xs, 0 ≤ x ∧ x ≤ 255) :
    Calls Try.prog 15 #[.slice A xs.length c] w (ReadPost xs w) := by
  have fin : ∀ k : Int, k ≠ 0 → rdCode xs = k → (∀ e w', ReadErr k w e w' → ReadPost xs w e w') := fun k hk hc e w' h => ⟨fun h0 => absurd (hc.symm.trans h0) hk, fun _ => hc ▸ h⟩
  have hrb : ∀ W, Below w.heap.size w W → (Kd.int .u8).C W A xs.length xs := fun W h => Kd.C_below hr h
  by_cases h1 : xs.length < 28
  · refine (read_first A xs.length c 2 w (by decide) (fun W _ => first_short A c xs W h1)).mono fun e w' h => fin 2 (by decide) (by rw [rdCode, if_pos h1]) e w' h
  by_cases h2 : ¬ (xs.getD 0 0 = 77 ∧ xs.getD 1 0 = 90)
  · refine (read_first A xs.length c 440 w (by decide) (fun W hW => first_magic A c xs W (hrb W hW) (by omega) h2)).mono fun e w' h => fin 440 (by decide) (by rw [rdCode, if_neg h1, if_pos h2]) e w' h
  have h2' : xs.getD 0 0 = 77 ∧ xs.getD 1 0 = 90 := Classical.not_not.1 h2
  have hf : HdrOf (hw xs 1) (hw xs 2) (hw xs 3) (hw xs 4) (hw xs 5) (hw xs 7) (hw xs 8) (hw xs 10) (hw xs 11) (hw xs 12) A xs.length c w := fun W hW => first_ok A c xs W (hrb W hW) hlc (by omega) hb h2'.1 h2'.2
  have b1 := wv_range hb (2 * 1)
  have b2 := wv_range hb (2 * 2)
  have b3 := wv_range hb (2 * 3)
  have b4 := wv_range hb (2 * 4)
  have b5 := wv_range hb (2 * 5)
  have b12 := wv_range hb (2 * 12)
  by_cases h3 : ¬ (okOf (hw xs 1) (hw xs 2) (hw xs 4) = true ∧ 28 ≤ hw xs 4 * 16)
  · refine (read_form A xs.length c _ _ _ _ _ _ _ _ _ _ w (by omega) b1.1 b1.2 b2.1 b2.2 b4.1 b4.2 hf 3 (.inl ⟨rfl, h3⟩)).mono fun e w' h => fin 3 (by decide) (by rw [rdCode, if_neg h1, if_neg h2, if_pos h3]) e w' h
  have h3' := Classical.not_not.1 h3
  by_cases h4 : (xs.length : Int) < alOf xs
  · refine (read_form A xs.length c _ _ _ _ _ _ _ _ _ _ w (by omega) b1.1 b1.2 b2.1 b2.2 b4.1 b4.2 hf 2 (.inr ⟨rfl, h3'.1, h3'.2, h4⟩)).mono fun e w' h => fin 2 (by decide) (by rw [rdCode, if_neg h1, if_neg h2, if_neg h3, if_pos h4]) e w' h
  by_cases h5 : 4000 < hw xs 3
  · refine (read_sites A xs.length c _ _ _ _ _ _ _ _ _ _ w (by omega) b1.1 b1.2 b2.1 b2.2 b4.1 b4.2 hf h3'.1 h3'.2 h4 8 (by decide) (fun W _ => sites_big A xs.length c _ _ _ _ _ _ _ _ _ _ _ W h5 b12.1 b12.2)).mono fun e w' h => fin 8 (by decide) (by rw [rdCode, if_neg h1, if_neg h2, if_neg h3, if_neg h4, if_pos h5]) e w' h
  by_cases h6 : (xs.length : Int) < hw xs 12 + 4 * hw xs 3 ∨ hw xs 4 * 16 < hw xs 12 + 4 * hw xs 3
  · refine (read_sites A xs.length c _ _ _ _ _ _ _ _ _ _ w (by omega) b1.1 b1.2 b2.1 b2.2 b4.1 b4.2 hf h3'.1 h3'.2 h4 2 (by decide) (fun W _ => sites_short A xs.length c _ _ _ _ _ _ _ _ _ _ _ W (by omega) b3.1 (by omega) b12.1 b12.2 b4.1 b4.2 h6)).mono fun e w' h => fin 2 (by decide) (by rw [rdCode, if_neg h1, if_neg h2, if_neg h3, if_neg h4, if_neg h5, if_pos h6]) e w' h
  have hal : 0 ≤ alOf xs - hw xs 4 * 16 ∧ alOf xs - hw xs 4 * 16 ≤ 4294967296 := by
    have := h3'.1
    simp only [okOf, Bool.and_eq_true, decide_eq_true_eq] at this
    have hh : alOf xs = allOf (hw xs 1) (hw xs 2) := rfl
    have : allOf (hw xs 1) (hw xs 2) ≤ 67108864 := by unfold allOf hw; split <;> omega
    unfold hw at *
    omega
  have er : (((hw xs 3).toNat : Nat) : Int) = hw xs 3 := Int.toNat_of_nonneg b3.1
  have et : (((hw xs 12).toNat : Nat) : Int) = hw xs 12 := Int.toNat_of_nonneg b12.1
  have hso : ∀ W, Below w.heap.size w W → Calls Try.prog 34 #[.slice A xs.length c, .agg #[.int .u16 (hw xs 1), .int .u16 (hw xs 2), .int .u16 (hw xs 3), .int .u16 (hw xs 4), .int .u16 (hw xs 5), .int .u16 (hw xs 7), .int .u16 (hw xs 8), .int .u16 (hw xs 10), .int .u16 (hw xs 11), .int .u16 (hw xs 12)], .int .i64 (alOf xs - hw xs 4 * 16)] W (SitesPost (plOf xs) (alOf xs - hw xs 4 * 16) W) := fun W hW => by
    have := sites_ok A c xs (hw xs 1) (hw xs 2) (hw xs 4) (hw xs 5) (hw xs 7) (hw xs 8) (hw xs 10) (hw xs 11) (alOf xs - hw xs 4 * 16) (hw xs 3).toNat (hw xs 12).toNat W (hrb W hW) hlc hl hb (by omega) (by unfold hw at *; omega) b4.1 b4.2 (by omega) (by rw [er, et]; omega) hal.1 hal.2
    rw [er, et] at this
    exact this
  by_cases h7 : riseB (plOf xs) (alOf xs - hw xs 4 * 16) = false
  · refine (read_sites A xs.length c _ _ _ _ _ _ _ _ _ _ w (by omega) b1.1 b1.2 b2.1 b2.2 b4.1 b4.2 hf h3'.1 h3'.2 h4 3 (by decide) (fun W hW => (hso W hW).mono fun e w' h => ?_)).mono fun e w' h => fin 3 (by decide) (by rw [rdCode, if_neg h1, if_neg h2, if_neg h3, if_neg h4, if_neg h5, if_neg h6, if_pos h7]) e w' h
    rcases h with ⟨h8, _⟩ | ⟨_, h8⟩
    · rw [h7] at h8; cases h8
    · exact h8
  have h7' : riseB (plOf xs) (alOf xs - hw xs 4 * 16) = true := by simpa using h7
  obtain ⟨ad, rfl, _⟩ := (Kd.reads_of_C (d := (0 : Int)) (h1 := fun _ => rfl) hr).2.2 (by omega)
  have hpl : ∀ x ∈ plOf xs, -1099511627776 ≤ x ∧ x ≤ 1099511627776 := fun x hx => by have := site_range xs _ _ x hx; omega
  have hpn : (plOf xs).length ≤ 140737488355328 := by rw [plOf, srt_length, sitesL_length]; omega
  have hbn : (bsOf xs).length ≤ 140737488355328 := by rw [bsOf, List.length_drop, List.length_take]; omega
  have hlast := read_last ad c xs _ _ _ _ _ _ _ _ _ _ (plOf xs) w hr hlc hl b1.1 b1.2 b2.1 b2.2 b4.1 b4.2 b5.1 b5.2 hf h3'.1 h3'.2 (Int.not_lt.1 h4)
    (fun W hW => (hso W hW).mono fun e w' h => by
      rcases h with ⟨_, v, h8⟩ | ⟨h8, _⟩
      · exact ⟨v, h8⟩
      · rw [h7'] at h8; cases h8) (mayB (bsOf xs) (plOf xs) (hw xs 5)) ⟨_, may_eq (bsOf xs) (plOf xs) _ _ _ _ _ hbn hpn hpl _ (Nat.le_refl _)⟩
  refine hlast.mono fun e w' h => ?_
  by_cases h9 : mayB (bsOf xs) (plOf xs) (hw xs 5) = false
  · exact fin 8 (by decide) (by rw [rdCode, if_neg h1, if_neg h2, if_neg h3, if_neg h4, if_neg h5, if_neg h6, if_neg h7, if_pos h9]) e w' (h.2 h9)
  · have h0 : rdCode xs = 0 := by rw [rdCode, if_neg h1, if_neg h2, if_neg h3, if_neg h4, if_neg h5, if_neg h6, if_neg h7, if_neg h9]
    exact ⟨fun _ => h.1 (by simpa using h9), fun hk => absurd h0 hk⟩
end Go.Proofs.Ytfibdecfmfdikaa
set_option linter.unusedVariables false
set_option linter.unusedSimpArgs false
namespace Go.Proofs.Ytfibdecfmfdikaa.Ext
open Go.RowKit Go.Proofs.Ytfibdecfmfdikaa Go.Proofs.YtfibdecfmfdikaaW.PrintWords

def fitB (l : List Int) : Bool := decide (l.length ≤ 140737488355328) && l.all fun x => decide (0 ≤ x) && decide (x ≤ 255)
theorem fitB_true {l : List Int} (h : fitB l = true) : l.length ≤ 140737488355328 ∧ ∀ x ∈ l, 0 ≤ x ∧ x ≤ 255 := by
  simp only [fitB, Bool.and_eq_true, decide_eq_true_eq, List.all_eq_true] at h
  exact h
/-- What mz.Read tells of bytes: the program's bytes, its places, words, and the error. -/
def readR (xs : List Int) : List Int × List Int × Int × Int × Int × Int × Int × Int :=
  if rdCode xs = 0 then (bsOf xs, plOf xs, hw xs 11, hw xs 10, hw xs 7, hw xs 8, hw xs 5, 0) else ([], [], 0, 0, 0, 0, 0, rdCode xs)
def mz_Read.f (l : List Int) : Option (List Int × List Int × Int × Int × Int × Int × Int × Int) := if fitB l = true then some (readR l) else none
theorem mz_Read.calls (A0 : Option Addr) (c0 : Nat) (l0 : List Int) (r1 r2 : List Int) (r3 r4 r5 r6 r7 r8 : Int) (w : World) (hr0 : Kd.C (Kd.int .u8) w A0 l0.length l0) (hc0 : l0.length ≤ c0) (h : mz_Read.f l0 = some (r1, r2, r3, r4, r5, r6, r7, r8)) :
    Calls Try.prog 15 #[.slice A0 l0.length c0] w fun e w' => ∃ v0_ v1_ : Value, e = .returned (.tuple #[.agg #[v0_, v1_, .int .u16 r3, .int .u16 r4, .int .u16 r5, .int .u16 r6, .int .i64 r7], .int .i64 r8]) ∧ Kd.R (Kd.int .u8) 5 w' w.heap.size (fun _ => True) v0_ r1 ∧ Kd.R (Kd.int .i64) 3 w' w.heap.size (fun _ => True) v1_ r2 ∧ Below w.heap.size w w' := by
  unfold mz_Read.f at h
  split at h
  · rename_i hf
    obtain ⟨hl, hb⟩ := fitB_true hf
    have h := Option.some.inj h
    refine (read_any A0 c0 l0 w hr0 hc0 hl hb).mono fun e w' hp => ?_
    unfold readR at h
    by_cases h0 : rdCode l0 = 0
    · rw [if_pos h0] at h
      simp only [Prod.mk.injEq] at h
      obtain ⟨rfl, rfl, rfl, rfl, rfl, rfl, rfl, rfl⟩ := h
      exact hp.1 h0
    · rw [if_neg h0] at h
      simp only [Prod.mk.injEq] at h
      obtain ⟨rfl, rfl, rfl, rfl, rfl, rfl, rfl, rfl⟩ := h
      obtain ⟨he, hb⟩ := hp.2 h0
      exact ⟨_, _, he, Kd.R_nil _ _ _ _ _, Kd.R_nil _ _ _ _ _, hb⟩
  · cases h
end Go.Proofs.Ytfibdecfmfdikaa.Ext
