/- mz.sites: where paragraphs stand: its errors, and the rising places. -/
import Derived.Test.YtfibdecfmfdikaaIdx
import Derived.Test.YtfibdecfmfdikaaSort
import Derived.Test.YtfibdecfmfdikaaBits
import Derived.Test.YtfibdecfmfdikaaPut
set_option linter.unusedVariables false
set_option linter.unusedSimpArgs false
namespace Go.Proofs.Ytfibdecfmfdikaa
open Go.RowKit Go.Proofs.YtfibdecfmfdikaaW.PrintWords
set_option maxRecDepth 100000

def hdrA (l pg rl pa mn ss sp ip cs tb : Int) : Value := .agg #[.int .u16 l, .int .u16 pg, .int .u16 rl, .int .u16 pa, .int .u16 mn, .int .u16 ss, .int .u16 sp, .int .u16 ip, .int .u16 cs, .int .u16 tb]

set_option maxHeartbeats 4000000 in
theorem sites_big (A : Option Addr) (m c : Nat) (l pg rl pa mn ss sp ip cs tb n : Int) (w : World) (h : 4000 < rl) (h1 : 0 ≤ tb) (h2 : tb ≤ 65535) :
    Calls Try.prog 34 #[.slice A m c, .agg #[.int .u16 l, .int .u16 pg, .int .u16 rl, .int .u16 pa, .int .u16 mn, .int .u16 ss, .int .u16 sp, .int .u16 ip, .int .u16 cs, .int .u16 tb], .int .i64 n] w fun e w' => e = .returned (.tuple #[.slice none 0 0, .int .i64 8]) ∧ Below w.heap.size w w' := by
  go_enter Try.func34, Try.ntmps34
  go_wp2_with fail
  go_ret2
  exact ⟨rfl, (Below.refl _ _).alloc (Nat.le_refl _) _⟩
set_option maxHeartbeats 4000000 in
theorem sites_short (A : Option Addr) (m c : Nat) (l pg rl pa mn ss sp ip cs tb n : Int) (w : World) (hm : m ≤ 9223372036854775807) (h0 : 0 ≤ rl) (h : rl ≤ 4000) (h1 : 0 ≤ tb) (h2 : tb ≤ 65535) (h3 : 0 ≤ pa) (h4 : pa ≤ 65535) (hs : (m : Int) < tb + 4 * rl ∨ pa * 16 < tb + 4 * rl) :
    Calls Try.prog 34 #[.slice A m c, .agg #[.int .u16 l, .int .u16 pg, .int .u16 rl, .int .u16 pa, .int .u16 mn, .int .u16 ss, .int .u16 sp, .int .u16 ip, .int .u16 cs, .int .u16 tb], .int .i64 n] w fun e w' => e = .returned (.tuple #[.slice none 0 0, .int .i64 2]) ∧ Below w.heap.size w w' := by
  by_cases hm' : (m : Int) < tb + 4 * rl
  · clear hs
    go_enter Try.func34, Try.ntmps34
    go_wp2_with fail
    go_ret2
    exact ⟨rfl, (Below.refl _ _).alloc (Nat.le_refl _) _⟩
  · have hs2 : pa * 16 < tb + 4 * rl := by omega
    clear hs
    go_enter Try.func34, Try.ntmps34
    go_wp2_with fail
    go_ret2
    exact ⟨rfl, (Below.refl _ _).alloc (Nat.le_refl _) _⟩

/-- Place i of those that a file tells from tb on; the first k of them. -/
def siteOf (xs : List Int) (tb i : Nat) : Int := (16 * wv xs (tb + 4 * i + 2) + wv xs (tb + 4 * i)) % 1048576
def sitesL (xs : List Int) (tb k : Nat) : List Int := (List.range k).map (siteOf xs tb)
theorem sitesL_succ (xs : List Int) (tb k : Nat) : sitesL xs tb (k + 1) = sitesL xs tb k ++ [siteOf xs tb k] := by simp [sitesL, List.range_succ]
theorem sitesL_length (xs : List Int) (tb k : Nat) : (sitesL xs tb k).length = k := by simp [sitesL]
theorem wv_cut (xs : List Int) (a b k : Nat) (h : a + k + 1 < b) : wv ((xs.take b).drop a) k = wv xs (a + k) := by
  have h1 : a + k < b := by omega
  have h2 : a + (k + 1) < b := by omega
  simp only [wv, List.getD_eq_getElem?_getD, List.getElem?_drop, List.getElem?_take, if_pos h1, if_pos h2]
  rw [Nat.add_assoc]
theorem wv_range {xs : List Int} (hb : ∀ x ∈ xs, 0 ≤ x ∧ x ≤ 255) (k : Nat) : 0 ≤ wv xs k ∧ wv xs k ≤ 65535 := by
  have h1 := u16_byte hb k
  have h2 := u16_byte hb (k + 1)
  unfold wv
  omega
theorem infoI : (Try.prog.info? 3).map (fun i => (i.zero, i.size, i.bytes)) = some (some (.int .i64 0), 1, 8) := by kernel_rfl

/-- Do places rise, each a word of so many bytes, none of two? -/
def riseAt (S : List Int) (n : Int) (i : Nat) : Bool := decide (S.getD i 0 ≤ n - 2) && (i == 0 || decide (2 ≤ S.getD i 0 - S.getD (i - 1) 0))
def riseB (S : List Int) (n : Int) : Bool := (List.range S.length).all (riseAt S n)
def srt (l : List Int) : List Int := l.mergeSort fun x y => decide (x ≤ y)
def SitesPost (S : List Int) (n : Int) (w : World) (e : Ending) (w' : World) : Prop :=
  (riseB S n = true ∧ ∃ v, e = .returned (.tuple #[v, .int .i64 0]) ∧ (Kd.int .i64).R 3 w' w.heap.size (fun _ => True) v S ∧ Below w.heap.size w w') ∨
  (riseB S n = false ∧ e = .returned (.tuple #[.slice none 0 0, .int .i64 3]) ∧ Below w.heap.size w w')
theorem srt_length (l : List Int) : (srt l).length = l.length := by simp [srt]
theorem srt_mem {l : List Int} {x : Int} : x ∈ srt l ↔ x ∈ l := by simp [srt]
theorem site_range (xs : List Int) (tb k : Nat) : ∀ x ∈ srt (sitesL xs tb k), 0 ≤ x ∧ x < 1048576 := by
  intro x hx
  rw [srt_mem, sitesL, List.mem_map] at hx
  obtain ⟨i, _, rfl⟩ := hx
  unfold siteOf
  omega
theorem getD_range {S : List Int} {a b : Int} (h : ∀ x ∈ S, a ≤ x ∧ x < b) (k : Nat) (hk : k < S.length) : a ≤ S.getD k 0 ∧ S.getD k 0 < b := by
  rw [List.getD_eq_getElem?_getD, List.getElem?_eq_getElem hk]; exact h _ (List.getElem_mem hk)
theorem riseB_false {S : List Int} {n : Int} {k : Nat} (hk : k < S.length) (h : riseAt S n k = false) : riseB S n = false := by
  rw [riseB, List.all_eq_false]
  exact ⟨k, List.mem_range.2 hk, by simp [h]⟩
theorem riseB_true {S : List Int} {n : Int} (h : ∀ i, i < S.length → riseAt S n i = true) : riseB S n = true := by
  rw [riseB, List.all_eq_true]
  exact fun i hi => h i (List.mem_range.1 hi)

set_option maxHeartbeats 8000000 in
theorem sites_ok (A : Option Addr) (c : Nat) (xs : List Int) (l pg pa mn ss sp ip cs n : Int) (rl tb : Nat) (w : World) (hr : (Kd.int .u8).C w A xs.length xs) (hlc : xs.length ≤ c) (hl : xs.length ≤ 140737488355328) (hb : ∀ x ∈ xs, 0 ≤ x ∧ x ≤ 255)
    (h : rl ≤ 4000) (h2 : tb ≤ 65535) (h3 : 0 ≤ pa) (h4 : pa ≤ 65535) (hs : tb + 4 * rl ≤ xs.length) (hp : (tb : Int) + 4 * rl ≤ pa * 16) (hn0 : 0 ≤ n) (hn1 : n ≤ 4294967296) :
    Calls Try.prog 34 #[.slice A xs.length c, .agg #[.int .u16 l, .int .u16 pg, .int .u16 rl, .int .u16 pa, .int .u16 mn, .int .u16 ss, .int .u16 sp, .int .u16 ip, .int .u16 cs, .int .u16 tb], .int .i64 n] w fun e w' => SitesPost (srt (sitesL xs tb rl)) n w e w' := by
  have hs1 : ¬ ((xs.length : Int) < tb + 4 * rl) := by omega
  have hs2 : ¬ (pa * 16 < (tb : Int) + 4 * rl) := by omega
  have HR := Lib.hid hr
  have HB := Lib.hid hb
  clear hr hb
  go_enter Try.func34, Try.ntmps34
  go_wp2_with fail
  go_loopw [9, 46] (fun v9 v46 wr => ∃ k : Nat, k ≤ rl ∧ v46 = .int .i64 k ∧ (Kd.int .i64).R 3 wr w.heap.size (fun _ => True) v9 (sitesL xs tb k) ∧ Below w.heap.size w wr) (fun _ v46 _ => rl - (intOf v46).toNat)
  case atStart => exact ⟨0, Nat.zero_le _, rfl, Kd.R_nil _ _ _ _ _, below_alloc (Below.refl _ _) _⟩
  case round =>
    obtain ⟨k, hk, rfl, hR, hB⟩ := hrel
    have HRR := Lib.hid hR
    have HBB := Lib.hid hB
    clear hR hB
    by_cases hlt : k < rl
    · obtain ⟨A', hcut, hyf⟩ := mcut_mid Try.underlying23 infoU8 A c xs ((tb : Int) + 4 * k) ((tb : Int) + 4 * k + 4) (by omega) (by omega) (by omega) hlc
      have e1 : ((tb : Int) + 4 * k).toNat = tb + 4 * k := by omega
      have e2 : ((tb : Int) + 4 * k + 4).toNat = tb + 4 * k + 4 := by omega
      rw [e1, e2] at hyf
      simp only [e1, e2] at hcut
      have hly : ((xs.take (tb + 4 * k + 4)).drop (tb + 4 * k)).length = 4 := by rw [List.length_drop, List.length_take]; omega
      have w0 := wv_cut xs (tb + 4 * k) (tb + 4 * k + 4) 0 (by omega)
      have w1 := wv_cut xs (tb + 4 * k) (tb + 4 * k + 4) 2 (by omega)
      have hby : ∀ x ∈ (xs.take (tb + 4 * k + 4)).drop (tb + 4 * k), 0 ≤ x ∧ x ≤ 255 := fun x hx => HB.out x (List.mem_of_mem_take (List.mem_of_mem_drop hx))
      have hsite : siteOf xs tb k = (16 * wv ((xs.take (tb + 4 * k + 4)).drop (tb + 4 * k)) 2 + wv ((xs.take (tb + 4 * k + 4)).drop (tb + 4 * k)) 0) % 1048576 := by rw [w0, w1]; rfl
      clear e1 e2 w0 w1
      generalize (xs.take (tb + 4 * k + 4)).drop (tb + 4 * k) = ys at *
      have HL := Lib.hid hly
      have HY := Lib.hid hby
      have HS := Lib.hid hsite
      have HF := Lib.hid hyf
      have hw0 := wv_range HY.out 0
      have hw2 := wv_range HY.out 2
      clear hly hby hsite hyf
      have HYS := Lib.hid ((HF.out w w.heap.size (RdB.of_C HR.out hlc (by omega))).2.2)
      clear HF
      go_wp2_with fail
      refine (from_any A' (c - (tb + 4 * k)) ys _ (Kd.C_below HYS.out HBB.out) (by have := HL.out; omega)).mono ?_
      rintro e w1 ⟨g, rfl, hg0, hg1, hs0, hB⟩
      have hs0 : Src w1 g (ys.drop 0) 0 := hs0
      have HB1 := Lib.hid hB
      clear hB hcut
      go_wp2_with fail
      refine (word_at g ys _ _ hs0 (by have := HL.out; omega) HY.out).mono ?_
      rintro e w2 ⟨rfl, hs2, hg⟩
      have HB2 := Lib.hid (below_word HB1.out hg hg0 (Nat.le_trans hg0 (Nat.le_of_lt hg1)))
      have hl2 := hs2.lt
      clear hg HB1 hs0 hg1
      go_wp2_with fail
      refine (word_at g ys _ _ hs2 (by have := HL.out; omega) HY.out).mono ?_
      rintro e w3 ⟨rfl, hs3, hg⟩
      have HB3 := Lib.hid (below_word HB2.out hg hg0 (Nat.le_trans hg0 (Nat.le_of_lt hl2)))
      clear hg HB2 hs2 hl2
      go_wp2_with fail
      refine (linear_any _ _ _ (by simpa using hw2.1) (by simpa using hw2.2) hw0.1 hw0.2).mono ?_
      rintro e w4 ⟨rfl, rfl⟩
      have HRR3 := Lib.hid (Kd.R_below HRR.out HB3.out)
      have HBB3 := Lib.hid (HBB.out.trans (HB3.out.mono HBB.out.size))
      have hsz3 : w.heap.size ≤ w3.heap.size := HBB3.out.size
      clear HRR HBB HB3 hs3 hg0
      have hz0 : 0 ≤ (16 * wv ys 2 + wv ys 0) % 1048576 := by omega
      have hz1 : (16 * wv ys 2 + wv ys 0) % 1048576 < 1048576 := by omega
      go_wp2_with (at_builtin; refine Kd.R_append (Kd.int .i64) (w0 := w) w.heap.size rfl _ _ 33 3 (.int .i64 0) 8 rfl Try.underlying33 infoI rfl (by decide) (by omega) u9 (sitesL xs tb k) ((16 * wv ys 2 + wv ys 0) % 1048576) [.int .i64 ((16 * wv ys 2 + wv ys 0) % 1048576)] (fun _ => True) (fun _ => False) rfl rfl rfl (fun _ hk => hk.elim) (fun _ _ => trivial) HRR3 HBB3 hsz3 ?aL ?_; (case aL => rw [sitesL_length]; omega); intro v1 w5 hR5 hB5 hG5 hat5)
      go_roundw
      case rel => exact ⟨k + 1, by omega, by go_num, by rw [sitesL_succ, HS.out]; exact hR5, hB5⟩
      case measure => simp [intOf]; omega
    · obtain rfl : k = rl := by omega
      clear hlt hk
      go_wp2_with fail
      refine (sort_any _ _ _ _ HRR.out (by rw [sitesL_length]; omega)).mono ?_
      rintro e w6 ⟨rfl, hR, hG⟩
      have HB6 := Lib.hid (pw_below_grown HBB.out _ HBB.out.size hG (fun k hk => own_base (Kd.own_of_R HRR.out) k hk))
      have hrg := site_range xs tb k
      have hSl : (srt (sitesL xs tb k)).length ≤ 4000 := by rw [srt_length, sitesL_length]; omega
      change (Kd.int .i64).R 3 w6 w.heap.size (fun _ => True) u9 (srt (sitesL xs tb k)) at hR
      obtain ⟨A9, c9, rfl, hl9, hC9⟩ := Kd.R_reads hR
      have HR6 := Lib.hid hR
      have HC6 := Lib.hid (Kd.reads_of_C (d := (0 : Int)) (h1 := fun _ => rfl) hC9)
      clear hR hG HRR HBB hC9
      generalize hS : srt (sitesL xs tb k) = S at *
      have HSS := Lib.hid hS
      clear hS
      have HN := Lib.hid hrg
      clear hrg
      go_wp2_with fail
      go_loop [13, 14, 76] (fun _ _ v76 => ∃ j : Nat, j ≤ S.length ∧ v76 = .int .i64 j ∧ ∀ i, i < j → riseAt S n i = true) (fun _ _ v76 => S.length - (intOf v76).toNat)
      case atStart => exact ⟨0, Nat.zero_le _, rfl, fun i hi => absurd hi (by omega)⟩
      case round =>
        obtain ⟨j, hj, rfl, hall⟩ := hrel
        have HA := Lib.hid hall
        clear hall
        by_cases hlt : j < S.length
        · obtain ⟨ad, rfl, hc⟩ := HC6.out.2.2 (by omega)
          have c0 := hc j hlt
          have c1 : 0 < j → w6.cell? (ad.add (j - 1)) = some (.int .i64 (S.getD (j - 1) 0)) := fun h0 => hc (j - 1) (by omega)
          have r0 := getD_range HN.out j hlt
          have r1 : 0 ≤ S.getD (j - 1) 0 ∧ S.getD (j - 1) 0 < 1048576 := getD_range HN.out (j - 1) (by omega)
          clear hc
          have hat : riseAt S n j = (decide (S.getD j 0 ≤ n - 2) && (j == 0 || decide (2 ≤ S.getD j 0 - S.getD (j - 1) 0))) := rfl
          generalize S.getD j 0 = a at *
          generalize S.getD (j - 1) 0 = b at *
          have HAT := Lib.hid hat
          clear hat
          by_cases h5 : n - 2 < a
          · clear c1
            go_wp2_with fail
            go_ret2
            rw [HSS.out]
            exact .inr ⟨riseB_false hlt (by rw [HAT.out]; simp; omega), rfl, HB6.out⟩
          · rcases Nat.eq_zero_or_pos j with h6 | h6
            · have h7 : ¬ 0 < j := by omega
              have H6 := Lib.hid h6
              clear c1 h6
              go_wp2_with fail
              go_round
              case rel => exact ⟨j + 1, by omega, by go_num, fun i hi => by
                obtain rfl : i = j := by have := H6.out; omega
                rw [HAT.out, H6.out]; simp; omega⟩
              case measure => simp [intOf]; omega
            · replace c1 := c1 h6
              have e1 : ((j : Int) - 1).toNat = j - 1 := by omega
              by_cases h7 : a - b < 2
              · go_wp2_with fail
                go_ret2
                rw [HSS.out]
                exact .inr ⟨riseB_false hlt (by rw [HAT.out]; simp; omega), rfl, HB6.out⟩
              · go_wp2_with fail
                go_round
                case rel => exact ⟨j + 1, by omega, by go_num, fun i hi => by
                  by_cases hij : i = j
                  · subst hij
                    rw [HAT.out]; simp; omega
                  · exact HA.out i (by omega)⟩
                case measure => simp [intOf]; omega
        · go_wp2_with fail
          go_ret2
          rw [HSS.out]
          exact .inl ⟨riseB_true (fun i hi => HA.out i (by omega)), _, rfl, HR6.out, HB6.out⟩
end Go.Proofs.Ytfibdecfmfdikaa
