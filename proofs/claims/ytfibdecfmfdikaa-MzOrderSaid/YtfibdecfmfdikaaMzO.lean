/- Places in any order are the same places: plainly. -/
import Derived.Test.YtfibdecfmfdikaaMzH
set_option linter.unusedVariables false
set_option linter.unusedSimpArgs false
namespace Go.Proofs.Ytfibdecfmfdikaa
open Go.RowKit Go.Proofs.YtfibdecfmfdikaaW.PrintWords Go.Proofs.Ytfibdecfmfdikaa.Str

theorem srt_perm {a b : List Int} (h : a.Perm b) : srt a = srt b := by
  have tr : ∀ x y z : Int, decide (x ≤ y) = true → decide (y ≤ z) = true → decide (x ≤ z) = true := by
    intro x y z h1 h2
    simp only [decide_eq_true_eq] at h1 h2 ⊢
    omega
  have tt : ∀ x y : Int, (decide (x ≤ y) || decide (y ≤ x)) = true := by
    intro x y
    simp only [Bool.or_eq_true, decide_eq_true_eq]
    omega
  refine List.Perm.eq_of_pairwise (le := fun x y => decide (x ≤ y) = true) (fun x y _ _ h1 h2 => ?_) (List.pairwise_mergeSort tr tt a) (List.pairwise_mergeSort tr tt b) ?_
  · simp only [decide_eq_true_eq] at h1 h2
    omega
  · exact (List.mergeSort_perm a _).trans (h.trans (List.mergeSort_perm b _).symm)
theorem swap_perm (r : List Int) (p q : Nat) (hp : p < r.length) (hq : q < r.length) (l : List Int) (hl : l.length = r.length) (h : ∀ j, j < r.length → l.getD j 0 = if j = p then r.getD q 0 else if j = q then r.getD p 0 else r.getD j 0) : l.Perm r := by
  have hs : (r.toArray.swap p q (by simpa using hp) (by simpa using hq)).toList.Perm r := by
    have := Array.swap_perm (xs := r.toArray) (i := p) (j := q) (by simpa using hp) (by simpa using hq)
    exact (Array.perm_iff_toList_perm.1 this)
  have e : l = (r.toArray.swap p q (by simpa using hp) (by simpa using hq)).toList := by
    apply List.ext_getElem
    · simp [hl]
    · intro j h1 h2
      have hj : j < r.length := by omega
      have := h j hj
      rw [List.getD_eq_getElem?_getD, List.getElem?_eq_getElem h1] at this
      simp only [Option.getD_some] at this
      rw [this]
      simp only [Array.getElem_toList, Array.getElem_swap]
      by_cases hjp : j = p
      · subst hjp
        simp [List.getD_eq_getElem?_getD, List.getElem?_eq_getElem hq]
      · by_cases hjq : j = q
        · subst hjq
          simp [hjp, List.getD_eq_getElem?_getD, List.getElem?_eq_getElem hp]
        · simp [hjp, hjq, List.getD_eq_getElem?_getD, List.getElem?_eq_getElem hj]
  rw [e]
  exact hs
section
variable {b r : List Int} {cs ip ss sp mn : Int} (h : mayB b r mn = true) (h1 : 0 ≤ cs ∧ cs ≤ 65535) (h2 : 0 ≤ ip ∧ ip ≤ 65535) (h3 : 0 ≤ ss ∧ ss ≤ 65535) (h4 : 0 ≤ sp ∧ sp ≤ 65535)
include h h1 h2 h3 h4
theorem order_read (hb : isBytes b) (L : List Int) (hL : isBytes L) (hl : L.length = (fileB b r cs ip ss sp mn).length) (hag : ∀ x, (x < 28 ∨ 28 + 4 * r.length ≤ x) → L.getD x 0 = (fileB b r cs ip ss sp mn).getD x 0) (hpm : (sitesL L 28 r.length).Perm r) :
    Ext.mz_Read.f L = some (b, r, cs, ip, ss, sp, mn, 0) := by
  obtain ⟨e0, eb, er⟩ := file_back b r cs ip ss sp mn h h1 h2 h3 h4 []
  obtain ⟨w1, w2, w3, w4, w5, w7, w8, w10, w11, w12⟩ := file_parts b r cs ip ss sp mn h h1 h2 h3 h4 []
  rw [List.append_nil] at e0 eb er w1 w2 w3 w4 w5 w7 w8 w10 w11 w12
  obtain ⟨p1, p2, p3, p4, _⟩ := mayB_parts h
  have hFl := file_length b r cs ip ss sp mn
  have hH : headOf r.length ≤ 28 + 4 * r.length + 15 ∧ 28 + 4 * r.length ≤ headOf r.length ∧ headOf r.length / 16 * 16 = headOf r.length := by unfold headOf; omega
  generalize fileB b r cs ip ss sp mn = F at *
  have hwE : ∀ i, i ≤ 12 → hw L i = hw F i := fun i hi => by
    unfold hw wv
    rw [hag (2 * i) (by omega), hag (2 * i + 1) (by omega)]
  have v1 := hwE 1 (by omega)
  have v2 := hwE 2 (by omega)
  have v3 := hwE 3 (by omega)
  have v4 := hwE 4 (by omega)
  have v5 := hwE 5 (by omega)
  have v7 := hwE 7 (by omega)
  have v8 := hwE 8 (by omega)
  have v10 := hwE 10 (by omega)
  have v11 := hwE 11 (by omega)
  have v12 := hwE 12 (by omega)
  have hal : alOf L = alOf F := by unfold alOf; rw [v1, v2]
  have hpl : plOf L = plOf F := by
    rw [er]
    unfold plOf
    rw [v12, w12, v3, w3]
    show srt (sitesL L 28 (r.length : Int).toNat) = r
    rw [Int.toNat_natCast, srt_perm hpm, srt_rise h]
  have hbs : bsOf L = bsOf F := by
    unfold bsOf
    rw [hal, v4]
    apply List.ext_getElem
    · rw [List.length_drop, List.length_drop, List.length_take, List.length_take, hl]
    · intro j q1 q2
      rw [List.getElem_drop, List.getElem_drop, List.getElem_take, List.getElem_take]
      have q3 : (hw F 4 * 16).toNat = headOf r.length := by rw [w4]; omega
      rw [List.length_drop, List.length_take] at q1 q2
      have := hag ((hw F 4 * 16).toNat + j) (by rw [q3]; omega)
      rw [List.getD_eq_getElem?_getD, List.getD_eq_getElem?_getD, List.getElem?_eq_getElem (by omega), List.getElem?_eq_getElem (by omega)] at this
      simpa using this
  have hcd : rdCode L = 0 := by
    have : rdCode L = rdCode F := by
      unfold rdCode
      rw [hl, hag 0 (by omega), hag 1 (by omega), hal, hpl, hbs, v1, v2, v3, v4, v5, v12]
    rw [this, e0]
  have hfit : Ext.fitB L = true := by
    simp only [Ext.fitB, Bool.and_eq_true, decide_eq_true_eq, List.all_eq_true]
    exact ⟨by rw [hl, hFl]; omega, fun x hx => hL x hx⟩
  unfold Ext.mz_Read.f Ext.readR
  rw [if_pos hfit, if_pos hcd, hbs, hpl, eb, er, v11, v10, v7, v8, v5, w11, w10, w7, w8, w5]
end
theorem file_wv (b r : List Int) (cs ip ss sp mn : Int) (hr : ∀ x ∈ r, 0 ≤ x ∧ x < 1048576) (i : Nat) (hi : i < r.length) :
    wv (fileB b r cs ip ss sp mn) (28 + 4 * i) = r.getD i 0 % 16 ∧ wv (fileB b r cs ip ss sp mn) (28 + 4 * i + 2) = r.getD i 0 / 16 := by
  have e : fileB b r cs ip ss sp mn = ([77, 90] ++ (wordsOf b r cs ip ss sp mn).flatMap two) ++ (r.flatMap site2 ++ (List.replicate (headOf r.length - 28 - 4 * r.length) 0 ++ b)) := by
    unfold fileB
    simp only [List.append_assoc]
    rfl
  have hl : ([77, 90] ++ (wordsOf b r cs ip ss sp mn).flatMap two : List Int).length = 28 := by rw [List.length_append, flat_two_length, wordsOf_length]; rfl
  have hs := wv_sites r (List.replicate (headOf r.length - 28 - 4 * r.length) 0 ++ b) hr i hi
  rw [e]
  generalize [77, 90] ++ (wordsOf b r cs ip ss sp mn).flatMap two = pre at *
  generalize r.flatMap site2 ++ (List.replicate (headOf r.length - 28 - 4 * r.length) 0 ++ b) = post at *
  rw [show 28 + 4 * i + 2 = pre.length + (4 * i + 2) by omega, show 28 + 4 * i = pre.length + 4 * i by omega, wv_skip, wv_skip]
  exact hs
/-- The first j bytes of two places have changed theirs. -/
structure Swapped (F : List Int) (i k j : Nat) (L : List Int) : Prop where
  len : L.length = F.length
  bytes : isBytes L
  at_ : ∀ x, L.getD x 0 = if i ≤ x ∧ x < i + j then F.getD (x - i + k) 0 else if k ≤ x ∧ x < k + j then F.getD (x - k + i) 0 else F.getD x 0
theorem getD_set (L : List Int) (n : Nat) (v : Int) (x : Nat) (hn : n < L.length) : (L.set n v).getD x 0 = if x = n then v else L.getD x 0 := by
  by_cases h : x = n
  · subst h
    rw [if_pos rfl, List.getD_eq_getElem?_getD, List.getElem?_set_self hn]
    rfl
  · rw [if_neg h, List.getD_eq_getElem?_getD, List.getD_eq_getElem?_getD, List.getElem?_set_ne (Ne.symm h)]
theorem Str.isBytes.put {l : List Int} (h : isBytes l) (k : Nat) {v : Int} (hv : 0 ≤ v ∧ v ≤ 255) : isBytes (l.set k v) := fun x hx => by
  rcases List.mem_or_eq_of_mem_set hx with h' | rfl
  · exact h x h'
  · exact hv
theorem Str.isBytes.get {l : List Int} (h : isBytes l) (k : Nat) : 0 ≤ l.getD k 0 ∧ l.getD k 0 ≤ 255 := by
  rw [List.getD_eq_getElem?_getD]
  by_cases hk : k < l.length
  · rw [List.getElem?_eq_getElem hk]; exact h _ (List.getElem_mem hk)
  · rw [List.getElem?_eq_none (by omega)]; simp
theorem Swapped.start {F : List Int} {i k : Nat} (hF : isBytes F) : Swapped F i k 0 F := ⟨rfl, hF, fun x => by rw [if_neg (by omega), if_neg (by omega)]⟩
theorem Swapped.here {F L : List Int} {p q j : Nat} (h : Swapped F (28 + 4 * p) (28 + 4 * q) j L) (hj : j < 4) : L.getD (28 + 4 * p + j) 0 = F.getD (28 + 4 * p + j) 0 ∧ L.getD (28 + 4 * q + j) 0 = F.getD (28 + 4 * q + j) 0 := by
  by_cases hpq : p = q
  · subst hpq
    have := h.at_ (28 + 4 * p + j)
    rw [if_neg (by omega), if_neg (by omega)] at this
    exact ⟨this, this⟩
  · have a := h.at_ (28 + 4 * p + j)
    have b := h.at_ (28 + 4 * q + j)
    rw [if_neg (by omega), if_neg (by omega)] at a b
    exact ⟨a, b⟩
theorem Swapped.step {F L : List Int} {p q j : Nat} (h : Swapped F (28 + 4 * p) (28 + 4 * q) j L) (hj : j < 4) (hp : 28 + 4 * p + 4 ≤ F.length) (hq : 28 + 4 * q + 4 ≤ F.length) :
    Swapped F (28 + 4 * p) (28 + 4 * q) (j + 1) ((L.set (28 + 4 * p + j) (L.getD (28 + 4 * q + j) 0)).set (28 + 4 * q + j) (L.getD (28 + 4 * p + j) 0)) := by
  obtain ⟨e1, e2⟩ := h.here hj
  have hl := h.len
  refine ⟨by simpa using hl, (h.bytes.put _ (h.bytes.get _)).put _ (h.bytes.get _), fun x => ?_⟩
  rw [getD_set _ _ _ _ (by rw [List.length_set]; omega), getD_set _ _ _ _ (by omega), e1, e2, h.at_ x]
  by_cases hpq : p = q
  · subst hpq
    by_cases c1 : x = 28 + 4 * p + j
    · subst c1
      rw [if_pos rfl, if_pos (by omega)]
      congr 1
      omega
    · rw [if_neg c1, if_neg c1]
      by_cases c2 : 28 + 4 * p ≤ x ∧ x < 28 + 4 * p + j
      · rw [if_pos c2, if_pos (by omega)]
      · rw [if_neg c2, if_neg c2, if_neg (by omega), if_neg (by omega)]
  · by_cases c1 : x = 28 + 4 * q + j
    · subst c1
      rw [if_pos rfl, if_neg (by omega), if_pos (by omega)]
      congr 1
      omega
    · rw [if_neg c1]
      by_cases c2 : x = 28 + 4 * p + j
      · subst c2
        rw [if_pos rfl, if_pos (by omega)]
        congr 1
        omega
      · rw [if_neg c2]
        by_cases c3 : 28 + 4 * p ≤ x ∧ x < 28 + 4 * p + j
        · rw [if_pos c3, if_pos (by omega)]
        · rw [if_neg c3, if_neg (show ¬ (28 + 4 * p ≤ x ∧ x < 28 + 4 * p + (j + 1)) by omega)]
          by_cases c4 : 28 + 4 * q ≤ x ∧ x < 28 + 4 * q + j
          · rw [if_pos c4, if_pos (by omega)]
          · rw [if_neg c4, if_neg (by omega)]
/-- What stands where the first place stood. -/
theorem Swapped.words {F L : List Int} {p q : Nat} (h : Swapped F (28 + 4 * p) (28 + 4 * q) 4 L) : wv L (28 + 4 * p) = wv F (28 + 4 * q) ∧ wv L (28 + 4 * p + 2) = wv F (28 + 4 * q + 2) := by
  have a := fun m (hm : m < 4) => h.at_ (28 + 4 * p + m)
  have f : ∀ m, m < 4 → L.getD (28 + 4 * p + m) 0 = F.getD (28 + 4 * q + m) 0 := fun m hm => by
    rw [a m hm, if_pos (by omega)]
    congr 1
    omega
  unfold wv
  have g0 := f 0 (by omega)
  have g1 := f 1 (by omega)
  have g2 := f 2 (by omega)
  have g3 := f 3 (by omega)
  rw [Nat.add_zero, Nat.add_zero] at g0
  exact ⟨by rw [g0, g1], by rw [show 28 + 4 * p + 2 + 1 = 28 + 4 * p + 3 by omega, show 28 + 4 * q + 2 + 1 = 28 + 4 * q + 3 by omega, g2, g3]⟩
theorem Swapped.other {F L : List Int} {p q : Nat} (h : Swapped F (28 + 4 * p) (28 + 4 * q) 4 L) (j : Nat) (hj : j ≠ p) : wv L (28 + 4 * j) = wv F (28 + 4 * (if j = q then p else j)) ∧ wv L (28 + 4 * j + 2) = wv F (28 + 4 * (if j = q then p else j) + 2) := by
  have f : ∀ m, m < 4 → L.getD (28 + 4 * j + m) 0 = F.getD (28 + 4 * (if j = q then p else j) + m) 0 := fun m hm => by
    rw [h.at_, if_neg (by omega)]
    by_cases c : j = q
    · subst c
      rw [if_pos (by omega), if_pos rfl]
      congr 1
      omega
    · rw [if_neg (by omega), if_neg c]
  unfold wv
  have g0 := f 0 (by omega)
  have g1 := f 1 (by omega)
  have g2 := f 2 (by omega)
  have g3 := f 3 (by omega)
  rw [Nat.add_zero, Nat.add_zero] at g0
  generalize (if j = q then p else j) = y at *
  exact ⟨by rw [g0, g1], by rw [show 28 + 4 * j + 2 + 1 = 28 + 4 * j + 3 by omega, show 28 + 4 * y + 2 + 1 = 28 + 4 * y + 3 by omega, g2, g3]⟩
section
variable {b r : List Int} {cs ip ss sp mn : Int} (h : mayB b r mn = true) (h1 : 0 ≤ cs ∧ cs ≤ 65535) (h2 : 0 ≤ ip ∧ ip ≤ 65535) (h3 : 0 ≤ ss ∧ ss ≤ 65535) (h4 : 0 ≤ sp ∧ sp ≤ 65535)
include h h1 h2 h3 h4
theorem order_done (hb : isBytes b) (p q : Nat) (hp : p < r.length) (hq : q < r.length) (L : List Int) (hS : Swapped (fileB b r cs ip ss sp mn) (28 + 4 * p) (28 + 4 * q) 4 L) (o0 o1 s0 s1 : Int) (b0 : 0 ≤ o0 ∧ o0 ≤ 255) (b1 : 0 ≤ o1 ∧ o1 ≤ 255) (b2 : 0 ≤ s0 ∧ s0 ≤ 255) (b3 : 0 ≤ s1 ∧ s1 ≤ 255)
    (he : 16 * (s0 + 256 * s1) + (o0 + 256 * o1) = r.getD q 0) :
    Ext.mz_Read.f ((((L.set (28 + 4 * p) o0).set (28 + 4 * p + 1) o1).set (28 + 4 * p + 2) s0).set (28 + 4 * p + 3) s1) = some (b, r, cs, ip, ss, sp, mn, 0) := by
  have hrg := mayB_range h
  have hFl := file_length b r cs ip ss sp mn
  have hH : 28 + 4 * r.length ≤ headOf r.length := by unfold headOf; omega
  have hl := hS.len
  have hF := fun j hj => file_wv b r cs ip ss sp mn hrg j hj
  have key : ∀ x, ((((L.set (28 + 4 * p) o0).set (28 + 4 * p + 1) o1).set (28 + 4 * p + 2) s0).set (28 + 4 * p + 3) s1).getD x 0 = if x = 28 + 4 * p + 3 then s1 else if x = 28 + 4 * p + 2 then s0 else if x = 28 + 4 * p + 1 then o1 else if x = 28 + 4 * p then o0 else L.getD x 0 := fun x => by
    rw [getD_set _ _ _ _ (by simp only [List.length_set]; omega), getD_set _ _ _ _ (by simp only [List.length_set]; omega), getD_set _ _ _ _ (by simp only [List.length_set]; omega), getD_set _ _ _ _ (by omega)]
  have hM : isBytes ((((L.set (28 + 4 * p) o0).set (28 + 4 * p + 1) o1).set (28 + 4 * p + 2) s0).set (28 + 4 * p + 3) s1) := (((hS.bytes.put _ b0).put _ b1).put _ b2).put _ b3
  have hMl : ((((L.set (28 + 4 * p) o0).set (28 + 4 * p + 1) o1).set (28 + 4 * p + 2) s0).set (28 + 4 * p + 3) s1).length = (fileB b r cs ip ss sp mn).length := by simp only [List.length_set]; exact hl
  generalize (((L.set (28 + 4 * p) o0).set (28 + 4 * p + 1) o1).set (28 + 4 * p + 2) s0).set (28 + 4 * p + 3) s1 = M at *
  refine order_read h h1 h2 h3 h4 hb M hM hMl (fun x hx => ?_) ?_
  · rw [key x, if_neg (by omega), if_neg (by omega), if_neg (by omega), if_neg (by omega), hS.at_ x, if_neg (by omega), if_neg (by omega)]
  · refine swap_perm r p q hp hq _ (sitesL_length _ _ _) fun j hj => ?_
    have hsite : (sitesL M 28 r.length).getD j 0 = siteOf M 28 j := by
      simp [sitesL, List.getD_eq_getElem?_getD, hj]
    rw [hsite]
    unfold siteOf
    have rq := hrg (r.getD q 0) (by rw [List.getD_eq_getElem?_getD, List.getElem?_eq_getElem hq]; exact List.getElem_mem hq)
    by_cases c : j = p
    · subst c
      rw [if_pos rfl]
      have m0 := key (28 + 4 * j)
      have m1 := key (28 + 4 * j + 1)
      have m2 := key (28 + 4 * j + 2)
      have m3 := key (28 + 4 * j + 3)
      rw [if_neg (by omega), if_neg (by omega), if_neg (by omega), if_pos rfl] at m0
      rw [if_neg (by omega), if_neg (by omega), if_pos rfl] at m1
      rw [if_neg (by omega), if_pos rfl] at m2
      rw [if_pos rfl] at m3
      unfold wv
      rw [show 28 + 4 * j + 2 + 1 = 28 + 4 * j + 3 by omega, m0, m1, m2, m3, he]
      omega
    · rw [if_neg c]
      have n0 := key (28 + 4 * j)
      have n1 := key (28 + 4 * j + 1)
      have n2 := key (28 + 4 * j + 2)
      have n3 := key (28 + 4 * j + 3)
      rw [if_neg (by omega), if_neg (by omega), if_neg (by omega), if_neg (by omega)] at n0 n1 n2 n3
      have e1 : wv M (28 + 4 * j) = wv L (28 + 4 * j) := by unfold wv; rw [n0, n1]
      have e2 : wv M (28 + 4 * j + 2) = wv L (28 + 4 * j + 2) := by unfold wv; rw [show 28 + 4 * j + 2 + 1 = 28 + 4 * j + 3 by omega, n2, n3]
      obtain ⟨f1, f2⟩ := hS.other j c
      rw [e1, e2, f1, f2]
      by_cases c2 : j = q
      · rw [if_pos c2, if_pos c2]
        obtain ⟨g1, g2⟩ := hF p hp
        have rp := hrg (r.getD p 0) (by rw [List.getD_eq_getElem?_getD, List.getElem?_eq_getElem hp]; exact List.getElem_mem hp)
        rw [g1, g2]
        omega
      · rw [if_neg c2, if_neg c2]
        obtain ⟨g1, g2⟩ := hF j hj
        have rj := hrg (r.getD j 0) (by rw [List.getD_eq_getElem?_getD, List.getElem?_eq_getElem hj]; exact List.getElem_mem hj)
        rw [g1, g2]
        omega
end
end Go.Proofs.Ytfibdecfmfdikaa
