/- A program's file is read as it was: plainly. -/
import Derived.Test.YtfibdecfmfdikaaMzV
import Derived.Test.YtfibdecfmfdikaaMzR
set_option linter.unusedVariables false
set_option linter.unusedSimpArgs false
namespace Go.Proofs.Ytfibdecfmfdikaa
open Go.RowKit Go.Proofs.YtfibdecfmfdikaaW.PrintWords

theorem two_wv (w : Int) (l : List Int) (h0 : 0 ≤ w) : wv (two w ++ l) 0 = w := by
  simp [wv, two]
  omega
theorem wv_skip (a l : List Int) (k : Nat) : wv (a ++ l) (a.length + k) = wv l k := by
  simp [wv, List.getD_eq_getElem?_getD, List.getElem?_append_right, Nat.add_assoc]
theorem flat_two_length (W : List Int) : (W.flatMap two).length = 2 * W.length := by
  induction W with
  | nil => rfl
  | cons x l ih => simp [ih, two_length]; omega
theorem wv_words (W rest : List Int) (hW : ∀ x ∈ W, 0 ≤ x ∧ x < 65536) (i : Nat) (hi : i < W.length) : wv (W.flatMap two ++ rest) (2 * i) = W.getD i 0 := by
  induction W generalizing i with
  | nil => simp at hi
  | cons x l ih =>
    cases i with
    | zero => simp only [List.flatMap_cons, List.append_assoc, Nat.mul_zero]; rw [two_wv _ _ (hW x (by simp)).1]; rfl
    | succ i =>
      have := ih (fun y hy => hW y (by simp [hy])) i (by simpa using hi)
      simp only [List.flatMap_cons, List.append_assoc]
      rw [show 2 * (i + 1) = (two x).length + 2 * i by rw [two_length]; omega, wv_skip, this]
      rfl
theorem flat_site2_length (r : List Int) : (r.flatMap site2).length = 4 * r.length := by
  induction r with
  | nil => rfl
  | cons x l ih => simp [ih, site2_length]; omega
theorem wordsOf_length (b r : List Int) (cs ip ss sp mn : Int) : (wordsOf b r cs ip ss sp mn).length = 13 := rfl
section
variable {b r : List Int} {cs ip ss sp mn : Int} (h : mayB b r mn = true) (h1 : 0 ≤ cs ∧ cs ≤ 65535) (h2 : 0 ≤ ip ∧ ip ≤ 65535) (h3 : 0 ≤ ss ∧ ss ≤ 65535) (h4 : 0 ≤ sp ∧ sp ≤ 65535)
include h h1 h2 h3 h4
theorem file_hw (more : List Int) (i : Nat) (hi : i < 13) : hw (fileB b r cs ip ss sp mn ++ more) (i + 1) = (wordsOf b r cs ip ss sp mn).getD i 0 := by
  have hW := words_range (cs := cs) (ip := ip) (ss := ss) (sp := sp) h h1 h2 h3 h4
  unfold hw fileB
  generalize hw0 : wordsOf b r cs ip ss sp mn = W at *
  have hl : W.length = 13 := by rw [← hw0]; rfl
  simp only [List.append_assoc]
  rw [show 2 * (i + 1) = ([77, 90] : List Int).length + 2 * i by simp; omega, wv_skip, wv_words W _ hW i (by omega)]
end
theorem file_length (b r : List Int) (cs ip ss sp mn : Int) : (fileB b r cs ip ss sp mn).length = headOf r.length + b.length := by
  unfold fileB
  have hh : 28 + 4 * r.length ≤ headOf r.length := by unfold headOf; omega
  have e : (r.flatMap fun p => two (p % 16) ++ two (p / 16)).length = 4 * r.length := flat_site2_length r
  simp only [List.length_append, flat_two_length, wordsOf_length, e, List.length_replicate, List.length_cons, List.length_nil]
  omega
theorem wv_sites (r rest : List Int) (hr : ∀ x ∈ r, 0 ≤ x ∧ x < 1048576) (i : Nat) (hi : i < r.length) :
    wv (r.flatMap site2 ++ rest) (4 * i) = r.getD i 0 % 16 ∧ wv (r.flatMap site2 ++ rest) (4 * i + 2) = r.getD i 0 / 16 := by
  induction r generalizing i with
  | nil => simp at hi
  | cons x l ih =>
    have hx := hr x (by simp)
    cases i with
    | zero =>
      simp only [List.flatMap_cons, List.append_assoc, site2, Nat.mul_zero, Nat.zero_add, List.getD_cons_zero]
      refine ⟨two_wv _ _ (by omega), ?_⟩
      rw [show (2 : Nat) = (two (x % 16)).length + 0 from rfl, wv_skip, two_wv _ _ (by omega)]
    | succ i =>
      have := ih (fun y hy => hr y (by simp [hy])) i (by simpa using hi)
      simp only [List.flatMap_cons, List.append_assoc, List.getD_cons_succ]
      rw [show 4 * (i + 1) = (site2 x).length + 4 * i by rw [site2_length]; omega, Nat.add_assoc, wv_skip, wv_skip]
      exact this
theorem file_site (b r : List Int) (cs ip ss sp mn : Int) (hr : ∀ x ∈ r, 0 ≤ x ∧ x < 1048576) (more : List Int) (i : Nat) (hi : i < r.length) : siteOf (fileB b r cs ip ss sp mn ++ more) 28 i = r.getD i 0 := by
  have e : fileB b r cs ip ss sp mn ++ more = ([77, 90] ++ (wordsOf b r cs ip ss sp mn).flatMap two) ++ (r.flatMap site2 ++ (List.replicate (headOf r.length - 28 - 4 * r.length) 0 ++ b ++ more)) := by
    unfold fileB
    simp only [List.append_assoc]
    rfl
  have hl : ([77, 90] ++ (wordsOf b r cs ip ss sp mn).flatMap two : List Int).length = 28 := by rw [List.length_append, flat_two_length, wordsOf_length]; rfl
  have hs := wv_sites r (List.replicate (headOf r.length - 28 - 4 * r.length) 0 ++ b ++ more) hr i hi
  have r0 := getD_range (a := 0) (b := 1048576) hr i hi
  rw [e, siteOf]
  generalize [77, 90] ++ (wordsOf b r cs ip ss sp mn).flatMap two = pre at *
  generalize r.flatMap site2 ++ (List.replicate (headOf r.length - 28 - 4 * r.length) 0 ++ b ++ more) = post at *
  rw [show 28 + 4 * i + 2 = pre.length + (4 * i + 2) by omega, show 28 + 4 * i = pre.length + 4 * i by omega, wv_skip, wv_skip, hs.1, hs.2]
  omega
theorem sites_file (b r : List Int) (cs ip ss sp mn : Int) (hr : ∀ x ∈ r, 0 ≤ x ∧ x < 1048576) (more : List Int) : sitesL (fileB b r cs ip ss sp mn ++ more) 28 r.length = r := by
  apply List.ext_getElem
  · exact sitesL_length _ _ _
  · intro i h1 h2
    have := file_site b r cs ip ss sp mn hr more i h2
    simp only [sitesL, List.getElem_map, List.getElem_range]
    rw [this, List.getD_eq_getElem?_getD, List.getElem?_eq_getElem h2]
    rfl
theorem rise_mono {b r : List Int} {mn : Int} (h : mayB b r mn = true) (d : Nat) : ∀ i, i + d < r.length → r.getD i 0 ≤ r.getD (i + d) 0 := by
  obtain ⟨_, _, _, _, h5⟩ := mayB_parts h
  induction d with
  | zero => intro i _; exact Int.le_refl _
  | succ d ih =>
    intro i hi
    have h6 := h5 (i + d + 1) (by omega)
    simp only [goodAt, riseAt, Bool.and_eq_true, Bool.or_eq_true, decide_eq_true_eq, beq_iff_eq] at h6
    have h7 := ih i (by omega)
    rw [show i + (d + 1) = i + d + 1 by omega]
    have h8 := h6.2.2
    rw [show i + d + 1 - 1 = i + d by omega] at h8
    omega
theorem srt_rise {b r : List Int} {mn : Int} (h : mayB b r mn = true) : srt r = r := by
  refine List.mergeSort_of_pairwise (List.pairwise_iff_getElem.2 fun i j hi hj hij => ?_)
  have := rise_mono h (j - i) i (by omega)
  rw [show i + (j - i) = j by omega, List.getD_eq_getElem?_getD, List.getD_eq_getElem?_getD, List.getElem?_eq_getElem hi, List.getElem?_eq_getElem hj] at this
  simpa using this
theorem file_parts (b r : List Int) (cs ip ss sp mn : Int) (h : mayB b r mn = true) (h1 : 0 ≤ cs ∧ cs ≤ 65535) (h2 : 0 ≤ ip ∧ ip ≤ 65535) (h3 : 0 ≤ ss ∧ ss ≤ 65535) (h4 : 0 ≤ sp ∧ sp ≤ 65535) (more : List Int) :
    let xs := fileB b r cs ip ss sp mn ++ more
    hw xs 1 = ((headOf r.length + b.length) % 512 : Nat) ∧ hw xs 2 = ((headOf r.length + b.length + 511) / 512 : Nat) ∧ hw xs 3 = r.length ∧ hw xs 4 = (headOf r.length / 16 : Nat) ∧ hw xs 5 = mn ∧ hw xs 7 = ss ∧ hw xs 8 = sp ∧ hw xs 10 = ip ∧ hw xs 11 = cs ∧ hw xs 12 = 28 := by
  have f := fun i hi => file_hw h h1 h2 h3 h4 more i hi
  exact ⟨f 0 (by omega), f 1 (by omega), f 2 (by omega), f 3 (by omega), f 4 (by omega), f 6 (by omega), f 7 (by omega), f 9 (by omega), f 10 (by omega), f 11 (by omega)⟩
theorem all_back (n : Nat) : allOf ((n % 512 : Nat) : Int) (((n + 511) / 512 : Nat) : Int) = n := by
  unfold allOf
  split <;> omega
theorem file_back (b r : List Int) (cs ip ss sp mn : Int) (h : mayB b r mn = true) (h1 : 0 ≤ cs ∧ cs ≤ 65535) (h2 : 0 ≤ ip ∧ ip ≤ 65535) (h3 : 0 ≤ ss ∧ ss ≤ 65535) (h4 : 0 ≤ sp ∧ sp ≤ 65535) (more : List Int) :
    let xs := fileB b r cs ip ss sp mn ++ more
    rdCode xs = 0 ∧ bsOf xs = b ∧ plOf xs = r := by
  intro xs
  obtain ⟨w1, w2, w3, w4, w5, w7, w8, w10, w11, w12⟩ := file_parts b r cs ip ss sp mn h h1 h2 h3 h4 more
  obtain ⟨p1, p2, p3, p4, p5⟩ := mayB_parts h
  have hrg := mayB_range h
  have hH : 28 + 4 * r.length ≤ headOf r.length ∧ headOf r.length ≤ 28 + 4 * r.length + 15 ∧ headOf r.length / 16 * 16 = headOf r.length := by unfold headOf; omega
  have hlen : xs.length = headOf r.length + b.length + more.length := by show (fileB b r cs ip ss sp mn ++ more).length = _; rw [List.length_append, file_length]
  have hal : alOf xs = ((headOf r.length + b.length : Nat) : Int) := by rw [alOf, w1, w2]; exact all_back _
  have hpl : plOf xs = r := by
    rw [plOf, w3, w12]
    show srt (sitesL (fileB b r cs ip ss sp mn ++ more) 28 r.length) = r
    rw [sites_file b r cs ip ss sp mn hrg more, srt_rise h]
  have hbs : bsOf xs = b := by
    have e0 : (((headOf r.length / 16 : Nat) : Int) * 16).toNat = headOf r.length := by omega
    rw [bsOf, hal, w4, e0, Int.toNat_natCast]
    have e1 : xs = (fileB b r cs ip ss sp mn) ++ more := rfl
    have e2 : (fileB b r cs ip ss sp mn).length = headOf r.length + b.length := file_length ..
    rw [e1, List.take_append_of_le_length (by omega), List.take_of_length_le (by omega)]
    have e3 : ∃ pre : List Int, fileB b r cs ip ss sp mn = pre ++ b ∧ pre.length = headOf r.length := by
      refine ⟨[77, 90] ++ (wordsOf b r cs ip ss sp mn).flatMap two ++ r.flatMap (fun p => two (p % 16) ++ two (p / 16)) ++ List.replicate (headOf r.length - 28 - 4 * r.length) 0, rfl, ?_⟩
      have : (fileB b r cs ip ss sp mn).length = ([77, 90] ++ (wordsOf b r cs ip ss sp mn).flatMap two ++ r.flatMap (fun p => two (p % 16) ++ two (p / 16)) ++ List.replicate (headOf r.length - 28 - 4 * r.length) 0).length + b.length := by unfold fileB; rw [List.length_append]
      omega
    obtain ⟨pre, e4, e5⟩ := e3
    rw [e4, ← e5, List.drop_left]
  refine ⟨?_, hbs, hpl⟩
  have hok : okOf (hw xs 1) (hw xs 2) (hw xs 4) = true := by
    have : allOf (hw xs 1) (hw xs 2) = ((headOf r.length + b.length : Nat) : Int) := hal
    simp only [okOf, this, Bool.and_eq_true, decide_eq_true_eq]
    rw [w1, w4]
    omega
  have hri : riseB (plOf xs) (alOf xs - hw xs 4 * 16) = true := by
    rw [hpl, hal, w4]
    refine riseB_true fun i hi => ?_
    have := p5 i hi
    simp only [goodAt, Bool.and_eq_true] at this
    have e : ((headOf r.length + b.length : Nat) : Int) - ((headOf r.length / 16 : Nat) : Int) * 16 = (b.length : Int) := by omega
    rw [e]
    exact this.2
  rw [rdCode, if_neg (by omega), if_neg (Classical.not_not.2 ⟨rfl, rfl⟩), if_neg (Classical.not_not.2 ⟨hok, by rw [w4]; omega⟩), if_neg (by rw [hal]; omega), if_neg (by rw [w3]; omega), if_neg (by rw [w3, w4, w12]; omega), if_neg (by rw [hri]; simp), if_neg (by rw [hbs, hpl, w5, h]; simp)]
theorem wv_take (xs : List Int) (n k : Nat) (h : k + 1 < n) : wv (xs.take n) k = wv xs k := by
  have := wv_cut xs 0 n k (by omega)
  simpa using this
theorem file_short (b r : List Int) (cs ip ss sp mn : Int) (h : mayB b r mn = true) (h1 : 0 ≤ cs ∧ cs ≤ 65535) (h2 : 0 ≤ ip ∧ ip ≤ 65535) (h3 : 0 ≤ ss ∧ ss ≤ 65535) (h4 : 0 ≤ sp ∧ sp ≤ 65535) :
    rdCode ((fileB b r cs ip ss sp mn).take ((fileB b r cs ip ss sp mn).length - 1)) = 2 := by
  obtain ⟨w1, w2, w3, w4, _⟩ := file_parts b r cs ip ss sp mn h h1 h2 h3 h4 []
  rw [List.append_nil] at w1 w2 w3 w4
  have hH : 28 + 4 * r.length ≤ headOf r.length ∧ 32 ≤ headOf r.length ∧ headOf r.length / 16 * 16 = headOf r.length := by unfold headOf; omega
  have hlen := file_length b r cs ip ss sp mn
  have g0 : (fileB b r cs ip ss sp mn).getD 0 0 = 77 := rfl
  have g1 : (fileB b r cs ip ss sp mn).getD 1 0 = 90 := rfl
  generalize fileB b r cs ip ss sp mn = xs at *
  have hl2 : (xs.take (xs.length - 1)).length = xs.length - 1 := by rw [List.length_take]; omega
  have v1 : hw (xs.take (xs.length - 1)) 1 = hw xs 1 := wv_take _ _ _ (by omega)
  have v2 : hw (xs.take (xs.length - 1)) 2 = hw xs 2 := wv_take _ _ _ (by omega)
  have v4 : hw (xs.take (xs.length - 1)) 4 = hw xs 4 := wv_take _ _ _ (by omega)
  have hal : allOf (hw xs 1) (hw xs 2) = ((headOf r.length + b.length : Nat) : Int) := by rw [w1, w2]; exact all_back _
  have hok : okOf (hw xs 1) (hw xs 2) (hw xs 4) = true := by
    simp only [okOf, hal, Bool.and_eq_true, decide_eq_true_eq]
    rw [w1, w4]
    omega
  have t0 : (xs.take (xs.length - 1)).getD 0 0 = xs.getD 0 0 := by simp only [List.getD_eq_getElem?_getD, List.getElem?_take, if_pos (show 0 < xs.length - 1 by omega)]
  have t1 : (xs.take (xs.length - 1)).getD 1 0 = xs.getD 1 0 := by simp only [List.getD_eq_getElem?_getD, List.getElem?_take, if_pos (show 1 < xs.length - 1 by omega)]
  rw [rdCode, if_neg (by omega), if_neg (Classical.not_not.2 ⟨t0.trans g0, t1.trans g1⟩), if_neg (Classical.not_not.2 ⟨by rw [v1, v2, v4]; exact hok, by rw [v4, w4]; omega⟩), if_pos (by rw [alOf, v1, v2, hal, hl2]; omega)]
end Go.Proofs.Ytfibdecfmfdikaa
