/- Places in any order: the walk of the law MzOrder. -/
import Derived.Test.YtfibdecfmfdikaaMzO
import Derived.Test.YtfibdecfmfdikaaMark
import Derived.RegionTactic
import Derived.ChangeAlike
import Derived.Lib.Hide
import Derived.OpenShut
import Derived.Deep.LoopGhost
set_option linter.unusedVariables false
set_option linter.unusedSimpArgs false
namespace Go.Proofs.Ytfibdecfmfdikaa.Ord
open Go.RowKit Go.Proofs.Ytfibdecfmfdikaa Go.Proofs.YtfibdecfmfdikaaW.PrintWords Go.Proofs.YtfibdecfmfdikaaW.PrintLast Go.Proofs.YtfibdecfmfdikaaW.PrintMore Go.Proofs.Ytfibdecfmfdikaa.Str Go.Proofs.Ytfibdecfmfdikaa.OwnWords
attribute [local go_sem] max2_int min2_int max_two min_two

theorem tmod_nat (x : Int) (m : Nat) (h0 : 0 ≤ x) (hm : 0 < m) : ∃ p : Nat, Int.tmod x m = (p : Int) ∧ p < m := by
  rw [Int.tmod_eq_emod_of_nonneg h0]
  have h1 : 0 ≤ x % (m : Int) := Int.emod_nonneg _ (by omega)
  have h2 : x % (m : Int) < m := Int.emod_lt_of_pos _ (by omega)
  generalize x % (m : Int) = y at *
  exact ⟨y.toNat, by omega, by omega⟩
set_option maxHeartbeats 8000000 in
set_option maxRecDepth 100000 in
theorem order_walk (A0 : Option Addr) (c0 : Nat) (l0 : List Int) (A1 : Option Addr) (c1 : Nat) (l1 : List Int) (a2 a3 a4 a5 a6 sw by_ : Int) (w : World) (hr0 : Kd.C (Kd.int .u8) w A0 l0.length l0) (hc0 : l0.length ≤ c0) (hw0 : isBytes l0)
    (hr1 : Kd.C (Kd.int .i64) w A1 l1.length l1) (hc1 : l1.length ≤ c1) (h2 : 0 ≤ a2 ∧ a2 ≤ 65535) (h3 : 0 ≤ a3 ∧ a3 ≤ 65535) (h4 : 0 ≤ a4 ∧ a4 ≤ 65535) (h5 : 0 ≤ a5 ∧ a5 ≤ 65535) :
    Calls Try.prog 7 #[.agg #[.slice A0 l0.length c0, .slice A1 l1.length c1, .int .u16 a2, .int .u16 a3, .int .u16 a4, .int .u16 a5, .int .i64 a6], .int .i64 sw, .int .i64 by_] w fun e w' => e = .returned (.bool true) ∧ Below w.heap.size w w' := by
  obtain ⟨b, r, he, hn⟩ := near_ev l0 l1 a2 a3 a4 a5 a6
  have hm := hn.may
  have hbB := hn.isB hw0
  have hlen := hn.len
  have hfew := hn.few
  generalize a6 % 256 = mn at *
  have hF : (fileB b r a2 a3 a4 a5 mn).length = headOf r.length + b.length := file_length ..
  have hH : 28 + 4 * r.length ≤ headOf r.length ∧ headOf r.length ≤ 28 + 4 * r.length + 15 := by unfold headOf; omega
  have hFB := file_isB b r a2 a3 a4 a5 mn hbB hm h2 h3 h4 h5
  have hw := refw_ev b r a2 a3 a4 a5 mn (by omega) (by omega) hm h2 h3 h4 h5
  obtain ⟨k1, e1⟩ := he.rounds
  obtain ⟨ka, ea⟩ := awake_ev.rounds
  have E1 := Lib.hid e1
  have EA := Lib.hid ea
  have HR0 := Lib.hid hr0
  have HR1 := Lib.hid hr1
  have hB0 : Below w.heap.size w (w.alloc (.cells #[.slice A0 l0.length c0, .slice A1 l1.length c1, .int .u16 a2, .int .u16 a3, .int .u16 a4, .int .u16 a5, .int .i64 a6] 35 (0, 0))) := below_alloc (Below.refl _ _) _
  have HB0 := Lib.hid hB0
  have hdone := fun (p q : Nat) (hp : p < r.length) (hq : q < r.length) => order_done hm h2 h3 h4 h5 hbB p q hp hq
  have hwv := fun (i : Nat) (hi : i < r.length) => file_wv b r a2 a3 a4 a5 mn (mayB_range hm) i hi
  have hrq := fun (q : Nat) (hq : q < r.length) => mayB_range hm (r.getD q 0) (by rw [List.getD_eq_getElem?_getD, List.getElem?_eq_getElem hq]; exact List.getElem_mem hq)
  have hsame := same_ev b r a2 a3 a4 a5 mn (by omega)
  generalize fileB b r a2 a3 a4 a5 mn = F at *
  obtain ⟨k2, e2⟩ := hw.rounds
  obtain ⟨ks, es⟩ := hsame.rounds
  have E2 := Lib.hid e2
  have ES := Lib.hid es
  have HFB := Lib.hid hFB
  have HDONE := Lib.hid hdone
  have HWV := Lib.hid hwv
  have HRQ := Lib.hid hrq
  have hFl : F.length ≤ 2000 := by omega
  have hF28 : 28 + 4 * r.length ≤ F.length := by omega
  clear he hw e1 e2 ea es hr0 hr1 hFB hw0 hbB h2 h3 h4 h5 hB0 hm hn hdone hwv hrq hsame hF hH hlen
  by_cases hn2 : r.length < 2
  · go_enter Try.func7, Try.ntmps7
    go_wp2_with fail
    refine (PRefN.hansomref44_Near.calls k1 _ _ l0 _ _ l1 a2 a3 a4 a5 a6 b r a2 a3 a4 a5 mn _ (Kd.C_below HR0.out HB0.out) hc0 (Kd.C_below HR1.out HB0.out) hc1 E1.out).mono ?_
    rintro e w1 ⟨v0, v1, rfl, ho0, ho1, hb1⟩
    obtain ⟨B0, d0, rfl⟩ := Kd.R_slice ho0
    obtain ⟨B1, d1, rfl⟩ := Kd.R_slice ho1
    have HB1 := Lib.hid (below_step HB0.out hb1)
    clear HB0 ho0 ho1 hb1
    go_wp2_with fail
    refine (QAw.hansomlaw44_awake.calls ka true _ EA.out).mono ?_
    rintro e w2 ⟨rfl, hb2⟩
    have HB2 := Lib.hid (below_step (below_alloc HB1.out _) hb2)
    clear hb2
    go_wp2
    go_ret
    exact ⟨rfl, HB2.out⟩
  have hs0 : 0 ≤ Go.bits .and .i64 sw 255 := by rw [and255]; exact Int.emod_nonneg _ (by decide)
  have hs1 : 0 ≤ Go.bits .and .i64 (sw / 256) 255 := by rw [and255]; exact Int.emod_nonneg _ (by decide)
  obtain ⟨p, hp, hpl⟩ := tmod_nat _ r.length hs0 (by omega)
  obtain ⟨q, hq, hql⟩ := tmod_nat _ r.length hs1 (by omega)
  clear hs0 hs1
  have hn3 : 2 ≤ r.length := by omega
  clear hn2
  go_enter Try.func7, Try.ntmps7
  go_wp2_with fail
  refine (PRefN.hansomref44_Near.calls k1 _ _ l0 _ _ l1 a2 a3 a4 a5 a6 b r a2 a3 a4 a5 mn _ (Kd.C_below HR0.out HB0.out) hc0 (Kd.C_below HR1.out HB0.out) hc1 E1.out).mono ?_
  rintro e w1 ⟨v0, v1, rfl, ho0, ho1, hb1⟩
  obtain ⟨B0, d0, rfl⟩ := Kd.R_slice ho0
  obtain ⟨B1, d1, rfl⟩ := Kd.R_slice ho1
  have HB1 := Lib.hid (below_alloc (below_step HB0.out hb1) (.cells #[.slice B0 b.length d0, .slice B1 r.length d1, .int .u16 a2, .int .u16 a3, .int .u16 a4, .int .u16 a5, .int .i64 mn] 35 (0, 0)))
  have HY1 := Lib.hid (blk_new w1 (.cells #[.slice B0 b.length d0, .slice B1 r.length d1, .int .u16 a2, .int .u16 a3, .int .u16 a4, .int .u16 a5, .int .i64 mn] 35 (0, 0)))
  have HC0 := Lib.hid (Kd.C_alloc (Kd.R_reads' ho0).2.2 (.cells #[.slice B0 b.length d0, .slice B1 r.length d1, .int .u16 a2, .int .u16 a3, .int .u16 a4, .int .u16 a5, .int .i64 mn] 35 (0, 0)))
  have HC1 := Lib.hid (Kd.C_alloc (Kd.R_reads' ho1).2.2 (.cells #[.slice B0 b.length d0, .slice B1 r.length d1, .int .u16 a2, .int .u16 a3, .int .u16 a4, .int .u16 a5, .int .i64 mn] 35 (0, 0)))
  have HL0 := Lib.hid (Kd.R_reads' ho0).2.1
  have HL1 := Lib.hid (Kd.R_reads' ho1).2.1
  have HSY := Lib.hid (show w1.heap.size < (w1.alloc (.cells #[.slice B0 b.length d0, .slice B1 r.length d1, .int .u16 a2, .int .u16 a3, .int .u16 a4, .int .u16 a5, .int .i64 mn] 35 (0, 0))).heap.size by simp)
  clear HB0 ho0 ho1 hb1
  go_wp2_with fail
  refine (PRefWrite.hansomref44_Write.calls k2 B0 d0 b B1 d1 r a2 a3 a4 a5 mn (strOfNums F) _ HC0.out HL0.out HC1.out HL1.out E2.out).mono ?_
  rintro e wk ⟨rfl, hb2⟩
  have HYK := Lib.hid ((hb2.block _ HSY.out).trans HY1.out)
  have HBK := Lib.hid (below_step HB1.out hb2)
  have HCK0 := Lib.hid (Kd.C_below HC0.out hb2)
  have HCK1 := Lib.hid (Kd.C_below HC1.out hb2)
  have HSK := Lib.hid (Nat.lt_of_lt_of_le HSY.out hb2.size)
  clear HY1 HB1 HC0 HC1 HSY hb2
  have hys : F = bytesOf (strOfNums F) := (bytes_str F HFB.out).symm
  have HYS := Lib.hid hys
  clear hys
  go_wp2_with ((with_reducible refine gate_dst (N := 28) rfl ?_); refine bytes_mark ?hg (N := 28) ?hd (src := 9) (dst := 23) (e := 5) (x := .tmp 27) ?ho (s := strOfNums F) ?hx Try.underlying9 Try.underlying23 Try.underlying5 (ys := F) HYS.out (by rw [str_size]; omega) ?_; (case hd => rfl); (case hg => rfl); (case ho => rfl); (case hx => first | rfl | (go_simp; done) | (go_simp; rfl)); intro g cg w3 hg hM hb3; have HG := Lib.hid (show wk.heap.size ≤ g by rw [hg]; exact Nat.le_refl _); have HM := Lib.hid hM; have HB3 := Lib.hid hb3; clear hg hM hb3)
  go_region
  have HM0 := Lib.hid (show MRow 5 w3.drew g cg F from HM.out)
  have HB0 := Lib.hid (show Below wk.heap.size wk w3.drew from below_drew HB3.out)
  have HS0 := Lib.hid (Swapped.start (F := F) (i := 28 + 4 * p) (k := 28 + 4 * q) HFB.out)
  clear HM HB3
  go_wp2
  go_loopg [12] 4 (fun gk v12 wr => ∃ (j : Nat) (L : List Int), v12 = .int .i64 j ∧ j + gk = 4 ∧ Hid (MRow 5 wr g cg L) ∧ Hid (Swapped F (28 + 4 * p) (28 + 4 * q) j L) ∧ Hid (Below wk.heap.size wk wr))
  case atStart => exact ⟨0, F, rfl, rfl, HM0, HS0, HB0⟩
  case round =>
    clear HM0 HS0 HB0
    obtain ⟨j, L, rfl, hj, HM, HS, HB⟩ := hrel
    have hLl : L.length = F.length := HS.out.len
    have HLL := Lib.hid hLl
    have hLn : 28 + 4 * r.length ≤ L.length := by omega
    have hLm : L.length ≤ 2000 := by omega
    clear hLl
    cases gk with
    | succ g1 =>
      have hj4 : j < 4 := by omega
      have hpI : ((28 + 4 * (p : Int) + (j : Int)) < (L.length : Int)) = True := eq_true (by omega)
      have hqI : ((28 + 4 * (q : Int) + (j : Int)) < (L.length : Int)) = True := eq_true (by omega)
      have hpN : (28 + 4 * p + j < L.length) = True := eq_true (by omega)
      have hqN : (28 + 4 * q + j < L.length) = True := eq_true (by omega)
      have hx0 := HM.out.cell (28 + 4 * p + j) (by omega)
      have hx1 := HM.out.cell (28 + 4 * q + j) (by omega)
      have hf0 := HM.out.frozen (28 + 4 * p + j) (by omega)
      have hf1 := HM.out.frozen (28 + 4 * q + j) (by omega)
      have HST := Lib.hid (HS.out.step hj4 (by have := HLL.out; omega) (by have := HLL.out; omega))
      have HMT := Lib.hid ((HM.out.set (28 + 4 * p + j) (by omega) (L.getD (28 + 4 * q + j) 0)).set (28 + 4 * q + j) (by rw [List.length_set]; omega) (L.getD (28 + 4 * p + j) 0)).drew
      have HBT := Lib.hid (show Below wk.heap.size wk ((wr.setCell ⟨g, 28 + 4 * p + j, none⟩ (.int .u8 (L.getD (28 + 4 * q + j) 0))).setCell ⟨g, 28 + 4 * q + j, none⟩ (.int .u8 (L.getD (28 + 4 * p + j) 0))).drew from below_drew (below_set (below_set HB.out HG.out) HG.out))
      clear HM HS HB
      by_cases hpq : p = q
      · subst hpq
        generalize L.getD (28 + 4 * p + j) 0 = x0 at hx0 hx1 HST HMT HBT
        go_wp2
        go_region
        go_wp2
        go_roundg g1
        case measure => omega
        case rel => exact ⟨j + 1, _, by go_num, by omega, HMT, HST, HBT⟩
      · have hne : (28 + 4 * p + j = 28 + 4 * q + j) = False := eq_false (by omega)
        have hne' : (28 + 4 * q + j = 28 + 4 * p + j) = False := eq_false (by omega)
        generalize L.getD (28 + 4 * p + j) 0 = x0 at hx0 HST HMT HBT
        generalize L.getD (28 + 4 * q + j) 0 = x1 at hx1 HST HMT HBT
        go_wp2
        go_region
        go_wp2
        go_roundg g1
        case measure => omega
        case rel => exact ⟨j + 1, _, by go_num, by omega, HMT, HST, HBT⟩
    | zero =>
      obtain rfl : j = 4 := by omega
      have hw4 := HS.out.words
      obtain ⟨g0, g1⟩ := HWV.out q hql
      rw [hw4.1.symm] at g0
      rw [hw4.2.symm] at g1
      have hrq := HRQ.out q hql
      have hb0 := HS.out.bytes.get (28 + 4 * p)
      have hb1 := HS.out.bytes.get (28 + 4 * p + 1)
      have hb2 := HS.out.bytes.get (28 + 4 * p + 2)
      have hb3 := HS.out.bytes.get (28 + 4 * p + 3)
      unfold wv at g0 g1
      rw [show 28 + 4 * p + 2 + 1 = 28 + 4 * p + 3 by omega] at g1
      have hx0 := HM.out.cell (28 + 4 * p) (by omega)
      have hx1 := HM.out.cell (28 + 4 * p + 1) (by omega)
      have hx2 := HM.out.cell (28 + 4 * p + 2) (by omega)
      have hx3 := HM.out.cell (28 + 4 * p + 3) (by omega)
      have hf0 := HM.out.frozen (28 + 4 * p) (by omega)
      have hf1 := HM.out.frozen (28 + 4 * p + 1) (by omega)
      have hf2 := HM.out.frozen (28 + 4 * p + 2) (by omega)
      have hf3 := HM.out.frozen (28 + 4 * p + 3) (by omega)
      generalize L.getD (28 + 4 * p) 0 = x0 at *
      generalize L.getD (28 + 4 * p + 1) 0 = x1 at *
      generalize L.getD (28 + 4 * p + 2) 0 = x2 at *
      generalize L.getD (28 + 4 * p + 3) 0 = x3 at *
      have hby : 0 ≤ Go.bits .and .i64 by_ 255 ∧ Go.bits .and .i64 by_ 255 ≤ 255 := by rw [and255]; omega
      have hsgr : 0 ≤ x2 + 256 * x3 ∧ x2 + 256 * x3 ≤ 65535 := by omega
      have hofr : 0 ≤ x0 + 256 * x1 ∧ x0 + 256 * x1 ≤ 15 := by omega
      obtain ⟨ls, hls, hls0, hls1, hls2⟩ : ∃ ls : Int, Int.tmod (Go.bits .and .i64 by_ 255) (x2 + 256 * x3 + 1) = ls ∧ 0 ≤ ls ∧ ls ≤ x2 + 256 * x3 ∧ ls ≤ 255 := by
        refine ⟨_, rfl, ?_⟩
        rw [Int.tmod_eq_emod_of_nonneg hby.1]
        generalize Go.bits .and .i64 by_ 255 = y at *
        have a := Int.emod_nonneg y (show x2 + 256 * x3 + 1 ≠ 0 by omega)
        have c := Int.emod_lt_of_pos y (show 0 < x2 + 256 * x3 + 1 by omega)
        by_cases hy : y < x2 + 256 * x3 + 1
        · rw [Int.emod_eq_of_lt hby.1 hy] at a c ⊢
          omega
        · omega
      have hread := HDONE.out p q hpl hql L HS.out ((x0 + 256 * x1 + 16 * ls) % 256) ((x0 + 256 * x1 + 16 * ls) / 256) ((x2 + 256 * x3 - ls) % 256) ((x2 + 256 * x3 - ls) / 256) (by omega) (by omega) (by omega) (by omega) (by omega)
      have HREAD := Lib.hid hread
      clear hread hby g0 g1 hrq hw4 HS HDONE HWV HRQ hp hq hql
      have hpI0 : ((28 + 4 * (p : Int)) < (L.length : Int)) = True := eq_true (by omega)
      have hpI1 : ((28 + 4 * (p : Int) + 1) < (L.length : Int)) = True := eq_true (by omega)
      have hpI2 : ((28 + 4 * (p : Int) + 2) < (L.length : Int)) = True := eq_true (by omega)
      have hpI3 : ((28 + 4 * (p : Int) + 3) < (L.length : Int)) = True := eq_true (by omega)
      have hpN0 : (28 + 4 * p < L.length) = True := eq_true (by omega)
      have hpN1 : (28 + 4 * p + 1 < L.length) = True := eq_true (by omega)
      have hpN2 : (28 + 4 * p + 2 < L.length) = True := eq_true (by omega)
      have hpN3 : (28 + 4 * p + 3 < L.length) = True := eq_true (by omega)
      go_wp2
      go_region
      go_wp2
      go_region
      have hMl : ((((L.set (28 + 4 * p) ((x0 + 256 * x1 + 16 * ls) % 256)).set (28 + 4 * p + 1) ((x0 + 256 * x1 + 16 * ls) / 256)).set (28 + 4 * p + 2) ((x2 + 256 * x3 - ls) % 256)).set (28 + 4 * p + 3) ((x2 + 256 * x3 - ls) / 256)).length = F.length := by simp only [List.length_set]; exact HLL.out
      have hMM : MRow 5 ((((wr.setCell ⟨g, 28 + 4 * p, none⟩ (.int .u8 ((x0 + 256 * x1 + 16 * ls) % 256))).setCell ⟨g, 28 + 4 * p + 1, none⟩ (.int .u8 ((x0 + 256 * x1 + 16 * ls) / 256))).setCell ⟨g, 28 + 4 * p + 2, none⟩ (.int .u8 ((x2 + 256 * x3 - ls) % 256))).setCell ⟨g, 28 + 4 * p + 3, none⟩ (.int .u8 ((x2 + 256 * x3 - ls) / 256))).drew.drew g cg _ :=
        ((((HM.out.set (28 + 4 * p) (by omega) ((x0 + 256 * x1 + 16 * ls) % 256)).set (28 + 4 * p + 1) (by simp only [List.length_set]; omega) ((x0 + 256 * x1 + 16 * ls) / 256)).set (28 + 4 * p + 2) (by simp only [List.length_set]; omega) ((x2 + 256 * x3 - ls) % 256)).set (28 + 4 * p + 3) (by simp only [List.length_set]; omega) ((x2 + 256 * x3 - ls) / 256)).drew.drew
      have hB5 : Below wk.heap.size wk ((((wr.setCell ⟨g, 28 + 4 * p, none⟩ (.int .u8 ((x0 + 256 * x1 + 16 * ls) % 256))).setCell ⟨g, 28 + 4 * p + 1, none⟩ (.int .u8 ((x0 + 256 * x1 + 16 * ls) / 256))).setCell ⟨g, 28 + 4 * p + 2, none⟩ (.int .u8 ((x2 + 256 * x3 - ls) % 256))).setCell ⟨g, 28 + 4 * p + 3, none⟩ (.int .u8 ((x2 + 256 * x3 - ls) / 256))).drew.drew :=
        below_drew (below_drew (below_set (below_set (below_set (below_set HB.out HG.out) HG.out) HG.out) HG.out))
      have HML := Lib.hid hMl
      have HMM := Lib.hid hMM
      have HB5 := Lib.hid hB5
      clear hMl hMM hB5 HM HB
      go_wp2_with fail
      generalize ((((wr.setCell ⟨g, 28 + 4 * p, none⟩ (.int .u8 ((x0 + 256 * x1 + 16 * ls) % 256))).setCell ⟨g, 28 + 4 * p + 1, none⟩ (.int .u8 ((x0 + 256 * x1 + 16 * ls) / 256))).setCell ⟨g, 28 + 4 * p + 2, none⟩ (.int .u8 ((x2 + 256 * x3 - ls) % 256))).setCell ⟨g, 28 + 4 * p + 3, none⟩ (.int .u8 ((x2 + 256 * x3 - ls) / 256))).drew.drew = w5 at *
      generalize (((L.set (28 + 4 * p) ((x0 + 256 * x1 + 16 * ls) % 256)).set (28 + 4 * p + 1) ((x0 + 256 * x1 + 16 * ls) / 256)).set (28 + 4 * p + 2) ((x2 + 256 * x3 - ls) % 256)).set (28 + 4 * p + 3) ((x2 + 256 * x3 - ls) / 256) = M at *
      rw [← HML.out]
      refine (Ext.mz_Read.calls (some ⟨g, 0, none⟩) cg M b r a2 a3 a4 a5 mn 0 _ HMM.out.reads HMM.out.1 HREAD.out).mono ?_
      rintro e w6 ⟨u3, u4, rfl, hu3, hu4, hb6⟩
      obtain ⟨U3, n3, rfl⟩ := Kd.R_slice hu3
      obtain ⟨U4, n4, rfl⟩ := Kd.R_slice hu4
      have HU3 := Lib.hid (Kd.R_reads' hu3)
      have HU4 := Lib.hid (Kd.R_reads' hu4)
      have hB6 := below_step HB5.out hb6
      have HYx := Lib.hid (blk_alloc ((hB6.block w1.heap.size HSK.out).trans HYK.out) (.cells #[.slice U3 b.length n3, .slice U4 r.length n4, .int .u16 a2, .int .u16 a3, .int .u16 a4, .int .u16 a5, .int .i64 mn] 35 (0, 0)))
      have HZx := Lib.hid (blk_new w6 (.cells #[.slice U3 b.length n3, .slice U4 r.length n4, .int .u16 a2, .int .u16 a3, .int .u16 a4, .int .u16 a5, .int .i64 mn] 35 (0, 0)))
      have HBx := Lib.hid (below_alloc (below_step HBK.out hB6) (.cells #[.slice U3 b.length n3, .slice U4 r.length n4, .int .u16 a2, .int .u16 a3, .int .u16 a4, .int .u16 a5, .int .i64 mn] 35 (0, 0)))
      have HCAx := Lib.hid (Kd.C_alloc (Kd.C_below HCK0.out hB6) (.cells #[.slice U3 b.length n3, .slice U4 r.length n4, .int .u16 a2, .int .u16 a3, .int .u16 a4, .int .u16 a5, .int .i64 mn] 35 (0, 0)))
      have HCBx := Lib.hid (Kd.C_alloc (Kd.C_below HCK1.out hB6) (.cells #[.slice U3 b.length n3, .slice U4 r.length n4, .int .u16 a2, .int .u16 a3, .int .u16 a4, .int .u16 a5, .int .i64 mn] 35 (0, 0)))
      have HCCx := Lib.hid (Kd.C_alloc HU3.out.2.2 (.cells #[.slice U3 b.length n3, .slice U4 r.length n4, .int .u16 a2, .int .u16 a3, .int .u16 a4, .int .u16 a5, .int .i64 mn] 35 (0, 0)))
      have HCDx := Lib.hid (Kd.C_alloc HU4.out.2.2 (.cells #[.slice U3 b.length n3, .slice U4 r.length n4, .int .u16 a2, .int .u16 a3, .int .u16 a4, .int .u16 a5, .int .i64 mn] 35 (0, 0)))
      have HSYx := Lib.hid (show w1.heap.size < (w6.alloc (.cells #[.slice U3 b.length n3, .slice U4 r.length n4, .int .u16 a2, .int .u16 a3, .int .u16 a4, .int .u16 a5, .int .i64 mn] 35 (0, 0))).heap.size by rw [World.size_alloc]; have a := hB6.size; have c := HSK.out; omega)
      have HSZx := Lib.hid (show w6.heap.size < (w6.alloc (.cells #[.slice U3 b.length n3, .slice U4 r.length n4, .int .u16 a2, .int .u16 a3, .int .u16 a4, .int .u16 a5, .int .i64 mn] 35 (0, 0))).heap.size by rw [World.size_alloc]; omega)
      clear hB6 hu3 hu4 hb6 HB5 HYK HBK HCK0 HCK1 HSK HMM HREAD HML
      clear hx0 hx1 hx2 hx3 hf0 hf1 hf2 hf3 hpI0 hpI1 hpI2 hpI3 hpN0 hpN1 hpN2 hpN3 hls
      go_wp2_with fail
      refine (QAw.hansomlaw44_awake.calls ka true _ EA.out).mono ?_
      rintro e w7 ⟨rfl, hb7⟩
      have HY7 := Lib.hid ((hb7.block w1.heap.size HSYx.out).trans HYx.out)
      have HZ7 := Lib.hid ((hb7.block w6.heap.size HSZx.out).trans HZx.out)
      have HB7 := Lib.hid (below_step HBx.out hb7)
      have HCA7 := Lib.hid (Kd.C_below HCAx.out hb7)
      have HCB7 := Lib.hid (Kd.C_below HCBx.out hb7)
      have HCC7 := Lib.hid (Kd.C_below HCCx.out hb7)
      have HCD7 := Lib.hid (Kd.C_below HCDx.out hb7)
      clear hb7 HYx HZx HBx HCAx HCBx HCCx HCDx HSYx HSZx
      have y0 : w7.cell? ⟨w1.heap.size, 0, none⟩ = some (.slice B0 b.length d0) := (blk_cell HY7.out 0).trans rfl
      have y1 : w7.cell? ⟨w1.heap.size, 1, none⟩ = some (.slice B1 r.length d1) := (blk_cell HY7.out 1).trans rfl
      have y2 : w7.cell? ⟨w1.heap.size, 2, none⟩ = some (.int .u16 a2) := (blk_cell HY7.out 2).trans rfl
      have y3 : w7.cell? ⟨w1.heap.size, 3, none⟩ = some (.int .u16 a3) := (blk_cell HY7.out 3).trans rfl
      have y4 : w7.cell? ⟨w1.heap.size, 4, none⟩ = some (.int .u16 a4) := (blk_cell HY7.out 4).trans rfl
      have y5 : w7.cell? ⟨w1.heap.size, 5, none⟩ = some (.int .u16 a5) := (blk_cell HY7.out 5).trans rfl
      have y6 : w7.cell? ⟨w1.heap.size, 6, none⟩ = some (.int .i64 mn) := (blk_cell HY7.out 6).trans rfl
      have z0 : w7.cell? ⟨w6.heap.size, 0, none⟩ = some (.slice U3 b.length n3) := (blk_cell HZ7.out 0).trans rfl
      have z1 : w7.cell? ⟨w6.heap.size, 1, none⟩ = some (.slice U4 r.length n4) := (blk_cell HZ7.out 1).trans rfl
      have z2 : w7.cell? ⟨w6.heap.size, 2, none⟩ = some (.int .u16 a2) := (blk_cell HZ7.out 2).trans rfl
      have z3 : w7.cell? ⟨w6.heap.size, 3, none⟩ = some (.int .u16 a3) := (blk_cell HZ7.out 3).trans rfl
      have z4 : w7.cell? ⟨w6.heap.size, 4, none⟩ = some (.int .u16 a4) := (blk_cell HZ7.out 4).trans rfl
      have z5 : w7.cell? ⟨w6.heap.size, 5, none⟩ = some (.int .u16 a5) := (blk_cell HZ7.out 5).trans rfl
      have z6 : w7.cell? ⟨w6.heap.size, 6, none⟩ = some (.int .i64 mn) := (blk_cell HZ7.out 6).trans rfl
      go_wp2_with fail
      clear y0 y1 y2 y3 y4 y5 y6 z0 z1 z2 z3 z4 z5 z6
      refine (PSame.hansomref44_Same.calls ks B0 d0 b B1 d1 r a2 a3 a4 a5 mn U3 n3 b U4 n4 r a2 a3 a4 a5 mn true _ HCA7.out HL0.out HCB7.out HL1.out HCC7.out HU3.out.2.1 HCD7.out HU4.out.2.1 ES.out).mono ?_
      rintro e w8 ⟨rfl, hb8⟩
      have HB8 := Lib.hid (below_step HB7.out hb8)
      go_wp2
      go_ret
      exact ⟨rfl, HB8.out⟩
end Go.Proofs.Ytfibdecfmfdikaa.Ord
namespace Go.Proofs.Ytfibdecfmfdikaa
open Go.RowKit Go.Proofs.YtfibdecfmfdikaaW.PrintWords Go.Proofs.Ytfibdecfmfdikaa.Str
theorem MzOrder_walk (A0 : Option Addr) (c0 : Nat) (l0 : List Int) (A1 : Option Addr) (c1 : Nat) (l1 : List Int) (a2 a3 a4 a5 a6 sw by_ : Int) (w : World) (hr0 : Kd.C (Kd.int .u8) w A0 l0.length l0) (hc0 : l0.length ≤ c0) (hm0 : l0.length ≤ maxLen) (hw0 : ∀ x ∈ l0, (Lit.int .u8 x).wf = true)
    (hr1 : Kd.C (Kd.int .i64) w A1 l1.length l1) (hc1 : l1.length ≤ c1) (hm1 : l1.length ≤ maxLen) (hw1 : ∀ x ∈ l1, (Lit.int .i64 x).wf = true) (w2 : (Lit.int .u16 a2).wf = true) (w3 : (Lit.int .u16 a3).wf = true) (w4 : (Lit.int .u16 a4).wf = true) (w5 : (Lit.int .u16 a5).wf = true) (w6 : (Lit.int .i64 a6).wf = true) (w7 : (Lit.int .i64 sw).wf = true) (w8 : (Lit.int .i64 by_).wf = true) :
    Calls Try.prog 7 #[.agg #[.slice A0 l0.length c0, .slice A1 l1.length c1, .int .u16 a2, .int .u16 a3, .int .u16 a4, .int .u16 a5, .int .i64 a6], .int .i64 sw, .int .i64 by_] w fun e w' => e = .returned (.bool true) ∧ Below w.heap.size w w' :=
  Ord.order_walk A0 c0 l0 A1 c1 l1 a2 a3 a4 a5 a6 sw by_ w hr0 hc0 (wf_bytes hw0) hr1 hc1 (wf_u16 w2) (wf_u16 w3) (wf_u16 w4) (wf_u16 w5)
end Go.Proofs.Ytfibdecfmfdikaa
