/- The reference of chapter 44, plainly: a near program may be; its file's bytes. -/
import Derived.Test.YtfibdecfmfdikaaRefN
import Derived.Test.YtfibdecfmfdikaaRefW
import Derived.Test.YtfibdecfmfdikaaStr
import Derived.Test.YtfibdecfmfdikaaMzF
set_option linter.unusedVariables false
set_option linter.unusedSimpArgs false
namespace Go.Proofs.Ytfibdecfmfdikaa
open Go.RowKit Go.Proofs.YtfibdecfmfdikaaW.PrintWords Go.Proofs.Ytfibdecfmfdikaa.Str Go.Proofs.Ytfibdecfmfdikaa.PRefN Go.Proofs.Ytfibdecfmfdikaa.PRefWrite

/-- Places that rise, each a word of n bytes. -/
def rises (r : List Int) (n : Nat) : Prop := ∀ j, j < r.length → 0 ≤ r.getD j 0 ∧ r.getD j 0 + 2 ≤ n ∧ (j ≠ 0 → 2 ≤ r.getD j 0 - r.getD (j - 1) 0)
theorem rises_snoc {r : List Int} {n : Nat} {at_ p : Int} (h : rises r n) (ha : ∀ j, j < r.length → r.getD j 0 + 2 ≤ at_) (h0 : 0 ≤ at_) (hp : at_ ≤ p) (hn : p + 2 ≤ n) :
    rises (r ++ [p]) n ∧ ∀ j, j < (r ++ [p]).length → (r ++ [p]).getD j 0 + 2 ≤ p + 2 := by
  have e1 : ∀ j, j < r.length → (r ++ [p]).getD j 0 = r.getD j 0 := fun j hj => by simp [List.getD_eq_getElem?_getD, List.getElem?_append_left hj]
  have e2 : (r ++ [p]).getD r.length 0 = p := by simp [List.getD_eq_getElem?_getD]
  constructor
  · intro j hj
    rw [List.length_append, List.length_singleton] at hj
    by_cases hjr : j < r.length
    · obtain ⟨a, b, c⟩ := h j hjr
      rw [e1 j hjr]
      refine ⟨a, b, fun h0 => ?_⟩
      rw [e1 (j - 1) (by omega)]
      exact c h0
    · obtain rfl : j = r.length := by omega
      rw [e2]
      refine ⟨by omega, by omega, fun h0 => ?_⟩
      rw [e1 _ (by omega)]
      have := ha (r.length - 1) (by omega)
      omega
  · intro j hj
    rw [List.length_append, List.length_singleton] at hj
    by_cases hjr : j < r.length
    · rw [e1 j hjr]; have := ha j hjr; omega
    · obtain rfl : j = r.length := by omega
      rw [e2]; omega
theorem near_l0 (X L B : List Int) (c2 c3 c4 c5 c6 : Int) (hB : B.length ≤ 600) (d : Nat) : ∀ (i : Nat) (at_ : Int) (acc : List Int), 6 - i = d → i ≤ 6 → 0 ≤ at_ → at_ ≤ 100 * i → acc.length ≤ i → rises acc B.length → (∀ j, j < acc.length → acc.getD j 0 + 2 ≤ at_) →
    ∃ r, Ev (fun k => hansomref44_Near.l0 k at_ i X L c2 c3 c4 c5 c6 B acc c2 c3 c4 c5 c6) (B, r, c2, c3, c4, c5, c6 % 256) ∧ rises r B.length ∧ r.length ≤ 6 := by
  induction d with
  | zero =>
    intro i at_ acc hd hi h0 h1 hl hr ha
    refine ⟨acc, ?_, hr, by omega⟩
    refine Ev.up ?_
    simp only [hansomref44_Near.l0]
    rw [decide_eq_false (show ¬ (i : Int) < 6 by omega)]
    have fin : Ev (fun k => hansomref44_Near.j1 k at_ i false X L c2 c3 c4 c5 c6 B acc c2 c3 c4 c5 c6) (B, acc, c2, c3, c4, c5, c6 % 256) := by
      refine Ev.up ?_
      simp only [hansomref44_Near.j1]
      refine Ev.no (by decide) ?_
      rw [and255]
      exact Ev.now _
    by_cases hc : (i : Int) < L.length
    · exact Ev.yes hc fin
    · exact Ev.no hc fin
  | succ d ih =>
    intro i at_ acc hd hi h0 h1 hl hr ha
    have m0 : 0 ≤ rd L i % 64 := Int.emod_nonneg _ (by decide)
    have m1 : rd L i % 64 < 64 := Int.emod_lt_of_pos _ (by decide)
    have ea : Go.bits .and .i64 (rd L i) 63 = rd L i % 64 := and63 _
    generalize rd L i % 64 = q at *
    have h6 : (i : Int) < 6 := by omega
    have hi0 : 0 ≤ (i : Int) := by omega
    have hl6 : acc.length ≤ 6 := by omega
    have p1 : -9223372036854775808 ≤ at_ + q ∧ at_ + q ≤ 9223372036854775807 := by omega
    have p2 : -9223372036854775808 ≤ at_ + q + 2 ∧ at_ + q + 2 ≤ 9223372036854775807 := by omega
    have p3 : -9223372036854775808 ≤ (i : Int) + 1 ∧ (i : Int) + 1 ≤ 9223372036854775807 := by omega
    by_cases hc : (i : Int) < L.length
    · by_cases hb : at_ + q + 2 > (B.length : Int)
      · refine ⟨acc, ?_, hr, hl6⟩
        refine Ev.up ?_
        simp only [hansomref44_Near.l0]
        refine Ev.yes hc ?_
        rw [decide_eq_true h6]
        refine Ev.up ?_
        simp only [hansomref44_Near.j1]
        rw [ea, wrap_id p1.1 p1.2, wrap_id p2.1 p2.2, and255]
        refine Ev.yes (by trivial) ?_
        refine Ev.yes hi0 ?_
        refine Ev.yes hc ?_
        refine Ev.yes hb ?_
        exact Ev.now _
      · have hq1 : at_ ≤ at_ + q := by omega
        have hq2 : at_ + q + 2 ≤ (B.length : Int) := by omega
        obtain ⟨hr2, ha2⟩ := rises_snoc hr ha h0 hq1 hq2
        obtain ⟨r, he, hg⟩ := ih (i + 1) (at_ + q + 2) (acc ++ [at_ + q]) (by omega) (by omega) (by omega) (by omega) (by rw [List.length_append, List.length_singleton]; omega) hr2 ha2
        have hl : acc.length < 17592186044416 := by omega
        refine ⟨r, ?_, hg⟩
        refine Ev.up ?_
        simp only [hansomref44_Near.l0]
        refine Ev.yes hc ?_
        rw [decide_eq_true h6]
        refine Ev.up ?_
        simp only [hansomref44_Near.j1]
        rw [ea, wrap_id p1.1 p1.2, wrap_id p2.1 p2.2, wrap_id p3.1 p3.2]
        refine Ev.yes (by trivial) ?_
        refine Ev.yes hi0 ?_
        refine Ev.yes hc ?_
        refine Ev.no hb ?_
        refine Ev.yes hl ?_
        exact he
    · refine ⟨acc, ?_, hr, hl6⟩
      refine Ev.up ?_
      simp only [hansomref44_Near.l0]
      refine Ev.no hc ?_
      refine Ev.up ?_
      simp only [hansomref44_Near.j1]
      refine Ev.no (by decide) ?_
      rw [and255]
      exact Ev.now _
theorem mayB_of {b r : List Int} {mn : Int} (hb : b.length ≤ 10000) (hm : 0 ≤ mn ∧ mn ≤ 30000) (hr : rises r b.length) (hl : r.length ≤ 4000) : mayB b r mn = true := by
  simp only [mayB, Bool.and_eq_true, decide_eq_true_eq]
  refine ⟨by omega, by omega, by omega, hl, all_true fun i hi => ?_⟩
  obtain ⟨a, c, d⟩ := hr i hi
  simp only [goodAt, riseAt, Bool.and_eq_true, Bool.or_eq_true, decide_eq_true_eq, beq_iff_eq]
  refine ⟨a, by omega, ?_⟩
  by_cases h0 : i = 0
  · exact .inl h0
  · exact .inr (d h0)
/-- A near program. -/
structure NearOf (l b r : List Int) (mn : Int) : Prop where
  bytes : b = l.take (min l.length 600)
  rise : rises r b.length
  few : r.length ≤ 6
  least : 0 ≤ mn ∧ mn ≤ 255
theorem NearOf.len {l b r : List Int} {mn : Int} (h : NearOf l b r mn) : b.length ≤ 600 := by rw [h.bytes, List.length_take]; omega
theorem NearOf.may {l b r : List Int} {mn : Int} (h : NearOf l b r mn) : mayB b r mn = true := mayB_of (by have := h.len; omega) (by have := h.least; omega) h.rise (by have := h.few; omega)
theorem NearOf.isB {l b r : List Int} {mn : Int} (h : NearOf l b r mn) (hl : isBytes l) : isBytes b := by rw [h.bytes]; exact hl.take _
theorem near_ev (l L : List Int) (c2 c3 c4 c5 c6 : Int) : ∃ b r, Ev (fun k => hansomref44_Near.f k l L c2 c3 c4 c5 c6) (b, r, c2, c3, c4, c5, c6 % 256) ∧ NearOf l b r (c6 % 256) := by
  have m0 : 0 ≤ c6 % 256 := Int.emod_nonneg _ (by decide)
  have m1 : c6 % 256 < 256 := Int.emod_lt_of_pos _ (by decide)
  have em : Go.Proofs.YtfibdecfmfdikaaW.PrintWords.mn (l.length : Int) 600 = ((min l.length 600 : Nat) : Int) := by unfold Go.Proofs.YtfibdecfmfdikaaW.PrintWords.mn; split <;> omega
  obtain ⟨r, he, hr, hf⟩ := near_l0 l L (l.take (min l.length 600)) c2 c3 c4 c5 c6 (by rw [List.length_take]; omega) 6 0 0 [] rfl (by omega) (by omega) (by omega) (by simp) (fun j hj => by simp at hj) (fun j hj => by simp at hj)
  refine ⟨l.take (min l.length 600), r, ?_, ⟨rfl, hr, hf, by omega⟩⟩
  unfold hansomref44_Near.f
  rw [em, Int.toNat_natCast]
  refine Ev.let (Ev.yes (by omega) (Ev.yes (by omega) (Ev.yes ?_ ?_)))
  · rw [List.length_take]; simp; omega
  · rw [List.nil_append]
    exact he

theorem bytes2 (w : Int) (h0 : 0 ≤ w) (h1 : w < 65536) : Ev (fun k => hansomref18_Bytes.f k w 2) (strOfNums (two w)) := by
  have t1 : Int.tmod w 256 = w % 256 := Int.tmod_eq_emod_of_nonneg h0
  have t2 : Int.tdiv w 256 = w / 256 := Int.tdiv_eq_ediv_of_nonneg h0
  have t3 : Int.tmod (w / 256) 256 = w / 256 := by rw [Int.tmod_eq_emod_of_nonneg (by omega)]; omega
  have e1 : IntKind.u64.wrap (w / 256) = w / 256 := u64_id (by omega) (by omega)
  have i1 : wrap64 (0 + 1) = 1 := wrap_id (by decide) (by decide)
  have i2 : wrap64 (1 + 1) = 2 := wrap_id (by decide) (by decide)
  unfold hansomref18_Bytes.f
  refine Ev.up ?_
  simp only [hansomref18_Bytes.l0]
  rw [t1, t2, e1, i1]
  refine Ev.yes (by decide) (Ev.let (Ev.yes (by rw [str_size, List.length_singleton]; decide) ?_))
  refine Ev.up ?_
  simp only [hansomref18_Bytes.l0]
  rw [t3, i2]
  refine Ev.yes (by decide) (Ev.let (Ev.yes (by rw [str_nil, str_append, str_size, str_size, List.length_append, List.length_singleton, List.length_singleton]; decide) ?_))
  refine Ev.up ?_
  simp only [hansomref18_Bytes.l0]
  refine Ev.no (by decide) ?_
  rw [str_nil, str_append, str_append]
  have : ([] ++ [w % 256 % 256] ++ [w / 256 % 256] : List Int) = two w := by simp [two]; omega
  rw [this]
  exact Ev.now _
section
variable (b r : List Int) (cs ip ss sp mn : Int)
theorem refw_l2 (hb : b.length ≤ 10000) (H : Nat) (hH : H ≤ 10000) (d : Nat) : ∀ (acc : List Int), H - acc.length = d → acc.length ≤ H → Ev (fun k => hansomref44_Write.l2 k H (strOfNums acc) b r cs ip ss sp mn) (strOfNums (acc ++ List.replicate d 0 ++ b)) := by
  induction d with
  | zero =>
    intro acc hd hl
    refine Ev.up ?_
    simp only [hansomref44_Write.l2]
    rw [str_append, str_size, str_size]
    refine Ev.no (by omega) (Ev.yes (by omega) ?_)
    simpa using Ev.now _
  | succ d ih =>
    intro acc hd hl
    refine Ev.up ?_
    simp only [hansomref44_Write.l2]
    rw [str_size, show (⟨#[0]⟩ : ByteArray) = strOfNums [0] from rfl, str_append]
    refine Ev.yes (by omega) (Ev.yes (by omega) ?_)
    have := ih (acc ++ [0]) (by rw [List.length_append, List.length_singleton]; omega) (by rw [List.length_append, List.length_singleton]; omega)
    rwa [List.append_assoc acc, show ([0] ++ List.replicate d 0 : List Int) = List.replicate (d + 1) 0 from rfl] at this
theorem refw_l1 (hb : b.length ≤ 10000) (hr : r.length ≤ 100) (hrg : ∀ x ∈ r, 0 ≤ x ∧ x < 1048576) (H : Nat) (hH : H ≤ 10000) (pre : List Int) (hp : pre.length + 4 * r.length ≤ H) (d : Nat) : ∀ (i : Nat) (acc : List Int), r.length - i = d → i ≤ r.length → acc.length = pre.length + 4 * i →
    Ev (fun k => hansomref44_Write.l1 k H (strOfNums acc) i b r cs ip ss sp mn) (strOfNums (acc ++ (r.drop i).flatMap site2 ++ List.replicate (H - pre.length - 4 * r.length) 0 ++ b)) := by
  induction d with
  | zero =>
    intro i acc hd hi hl
    have hi' : i = r.length := by omega
    refine Ev.up ?_
    simp only [hansomref44_Write.l1]
    refine Ev.no (by omega) ?_
    have := refw_l2 b r cs ip ss sp mn hb H hH (H - acc.length) acc rfl (by rw [hl]; omega)
    rw [show H - acc.length = H - pre.length - 4 * r.length by rw [hl]; omega] at this
    rw [hi', List.drop_length]
    simpa using this
  | succ d ih =>
    intro i acc hd hi hl
    have hlt : i < r.length := by omega
    have hg := getD_range (a := 0) (b := 1048576) hrg i hlt
    have e1 : Int.tmod (r.getD i 0) 16 = r.getD i 0 % 16 := Int.tmod_eq_emod_of_nonneg hg.1
    have e2 : Int.tdiv (r.getD i 0) 16 = r.getD i 0 / 16 := Int.tdiv_eq_ediv_of_nonneg hg.1
    have q1 : (i : Int) < (r.length : Int) := by omega
    have q2 : 0 ≤ (i : Int) := by omega
    have q3 : acc.length + (2 + 2) ≤ 9223372036854775807 := by omega
    have next := ih (i + 1) (acc ++ (two (r.getD i 0 % 16) ++ two (r.getD i 0 / 16))) (by omega) (by omega) (by rw [List.length_append, List.length_append, two_length, two_length]; omega)
    have p1 : -9223372036854775808 ≤ (i : Int) + 1 ∧ (i : Int) + 1 ≤ 9223372036854775807 := by omega
    rw [show ((i + 1 : Nat) : Int) = (i : Int) + 1 from by omega] at next
    rw [drop_cons_getD r i hlt, List.flatMap_cons]
    generalize hx : r.getD i 0 = x at *
    have p2 : 0 ≤ x % 16 ∧ x % 16 ≤ 9223372036854775807 := by omega
    have p3 : -9223372036854775808 ≤ x / 16 ∧ x / 16 ≤ 9223372036854775807 := by omega
    have p4 : 0 ≤ x / 16 := by omega
    have b1 := bytes2 (x % 16) p2.1 (by omega)
    have b2 := bytes2 (x / 16) p4 (by omega)
    refine Ev.up ?_
    simp only [hansomref44_Write.l1]
    rw [rd_getD, hx, e1, e2, wrap_id p1.1 p1.2, u64_id p2.1 p2.2, wrap_id p3.1 p3.2, u64_id p4 p3.2]
    refine Ev.yes q1 (Ev.yes q2 (Ev.bind b1 (Ev.bind b2 ?_)))
    rw [str_append, str_append, str_size, str_size, str_size, str_size, two_length, two_length, List.length_append, two_length, two_length]
    refine Ev.yes (by decide) (Ev.yes q3 ?_)
    simpa only [List.append_assoc, site2] using next
theorem refw_l0 (W : List Int) (hW : W.length = 13) (hWg : ∀ x ∈ W, 0 ≤ x ∧ x < 65536) (hb : b.length ≤ 10000) (hr : r.length ≤ 100) (hrg : ∀ x ∈ r, 0 ≤ x ∧ x < 1048576) (H : Nat) (hH : H ≤ 10000) (hp : 28 + 4 * r.length ≤ H) (d : Nat) : ∀ (i : Nat) (acc : List Int), 13 - i = d → i ≤ 13 → acc.length = 2 + 2 * i →
    Ev (fun k => hansomref44_Write.l0 k H (strOfNums acc) W i b r cs ip ss sp mn) (strOfNums (acc ++ (W.drop i).flatMap two ++ r.flatMap site2 ++ List.replicate (H - 28 - 4 * r.length) 0 ++ b)) := by
  induction d with
  | zero =>
    intro i acc hd hi hl
    have hi' : i = 13 := by omega
    refine Ev.up ?_
    simp only [hansomref44_Write.l0]
    refine Ev.no (by omega) ?_
    have := refw_l1 b r cs ip ss sp mn hb hr hrg H hH acc (by omega) r.length 0 acc (by omega) (by omega) (by omega)
    rw [hi', ← hW, List.drop_length]
    rw [show acc.length = 28 by omega] at this
    simpa using this
  | succ d ih =>
    intro i acc hd hi hl
    have hg := getD_range (a := 0) (b := 65536) hWg i (by omega)
    have q1 : (i : Int) < (W.length : Int) := by omega
    have q2 : 0 ≤ (i : Int) := by omega
    have q3 : acc.length + 2 ≤ 9223372036854775807 := by omega
    have next := ih (i + 1) (acc ++ two (W.getD i 0)) (by omega) (by omega) (by rw [List.length_append, two_length]; omega)
    have p1 : -9223372036854775808 ≤ (i : Int) + 1 ∧ (i : Int) + 1 ≤ 9223372036854775807 := by omega
    rw [show ((i + 1 : Nat) : Int) = (i : Int) + 1 from by omega] at next
    rw [drop_cons_getD W i (by omega), List.flatMap_cons]
    generalize hx : W.getD i 0 = x at *
    have p2 : x ≤ 9223372036854775807 := by omega
    have b1 := bytes2 x hg.1 hg.2
    refine Ev.up ?_
    simp only [hansomref44_Write.l0]
    rw [rd_getD, hx, wrap_id p1.1 p1.2, u64_id hg.1 p2]
    refine Ev.yes q1 (Ev.yes q2 (Ev.bind b1 ?_))
    rw [str_append, str_size, str_size, two_length]
    refine Ev.yes q3 ?_
    simpa only [List.append_assoc] using next
theorem ref_head (R : Nat) (hR : R ≤ 100) : wrap64 ((wrap64 (Int.tdiv (wrap64 ((wrap64 (28 + (wrap64 (4 * (R : Int))))) + 15)) 16)) * 16) = ((headOf R : Nat) : Int) := by
  rw [wrap_id (x := 4 * (R : Int)) (by omega) (by omega), wrap_id (x := 28 + 4 * (R : Int)) (by omega) (by omega), wrap_id (x := 28 + 4 * (R : Int) + 15) (by omega) (by omega), Int.tdiv_eq_ediv_of_nonneg (by omega), wrap_id (x := (28 + 4 * (R : Int) + 15) / 16) (by omega) (by omega), wrap_id (x := (28 + 4 * (R : Int) + 15) / 16 * 16) (by omega) (by omega)]
  unfold headOf
  omega
theorem ref_words (H B R : Nat) (cs ip ss sp mn : Int) (hH : H ≤ 10000) (hB : B ≤ 10000) (h1 : 0 ≤ cs ∧ cs ≤ 65535) (h2 : 0 ≤ ip ∧ ip ≤ 65535) (h3 : 0 ≤ ss ∧ ss ≤ 65535) (h4 : 0 ≤ sp ∧ sp ≤ 65535) :
    ([Int.tmod (wrap64 ((H : Int) + (B : Int))) 512, wrap64 (Int.tdiv (wrap64 ((wrap64 ((H : Int) + (B : Int))) + 511)) 512), (R : Int), wrap64 (Int.tdiv (H : Int) 16), mn, 65535, wrap64 ss, wrap64 sp, 0, wrap64 ip, wrap64 cs, 28, 0] : List Int) =
      [(((H + B) % 512 : Nat) : Int), (((H + B + 511) / 512 : Nat) : Int), (R : Int), ((H / 16 : Nat) : Int), mn, 65535, ss, sp, 0, ip, cs, 28, 0] := by
  rw [wrap_id (x := (H : Int) + (B : Int)) (by omega) (by omega), wrap_id (x := (H : Int) + (B : Int) + 511) (by omega) (by omega), Int.tmod_eq_emod_of_nonneg (by omega), Int.tdiv_eq_ediv_of_nonneg (by omega), Int.tdiv_eq_ediv_of_nonneg (by omega),
    wrap_id (x := ((H : Int) + (B : Int) + 511) / 512) (by omega) (by omega), wrap_id (x := (H : Int) / 16) (by omega) (by omega), wrap_id (x := cs) (by omega) (by omega), wrap_id (x := ip) (by omega) (by omega), wrap_id (x := ss) (by omega) (by omega), wrap_id (x := sp) (by omega) (by omega)]
  have e1 : ((H : Int) + (B : Int)) % 512 = (((H + B) % 512 : Nat) : Int) := by omega
  have e2 : ((H : Int) + (B : Int) + 511) / 512 = (((H + B + 511) / 512 : Nat) : Int) := by omega
  have e3 : (H : Int) / 16 = ((H / 16 : Nat) : Int) := by omega
  rw [e1, e2, e3]
theorem refw_ev (hb : b.length ≤ 10000) (hr : r.length ≤ 100) (h : mayB b r mn = true) (h1 : 0 ≤ cs ∧ cs ≤ 65535) (h2 : 0 ≤ ip ∧ ip ≤ 65535) (h3 : 0 ≤ ss ∧ ss ≤ 65535) (h4 : 0 ≤ sp ∧ sp ≤ 65535) : Ev (fun k => hansomref44_Write.f k b r cs ip ss sp mn) (strOfNums (fileB b r cs ip ss sp mn)) := by
  have hW := words_range h h1 h2 h3 h4
  have hrg := mayB_range h
  obtain ⟨p1, p2, p3, p4, _⟩ := mayB_parts h
  have hh : headOf r.length ≤ 28 + 4 * r.length + 15 ∧ 28 + 4 * r.length ≤ headOf r.length := by unfold headOf; omega
  have hH5 : headOf r.length ≤ 10000 := by omega
  have key := refw_l0 b r cs ip ss sp mn (wordsOf b r cs ip ss sp mn) rfl hW hb hr hrg (headOf r.length) (by omega) hh.2 13 0 [77, 90] rfl (by omega) rfl
  unfold hansomref44_Write.f
  rw [ref_head r.length hr]
  generalize hHH : headOf r.length = H at *
  rw [ref_words H b.length r.length cs ip ss sp mn hH5 hb h1 h2 h3 h4]
  have ew : wordsOf b r cs ip ss sp mn = [(((H + b.length) % 512 : Nat) : Int), (((H + b.length + 511) / 512 : Nat) : Int), (r.length : Int), ((H / 16 : Nat) : Int), mn, 65535, ss, sp, 0, ip, cs, 28, 0] := by unfold wordsOf; rw [hHH]
  rw [ew] at key
  have ef : fileB b r cs ip ss sp mn = [77, 90] ++ (List.drop 0 (wordsOf b r cs ip ss sp mn)).flatMap two ++ r.flatMap site2 ++ List.replicate (H - 28 - 4 * r.length) 0 ++ b := by unfold fileB; rw [hHH]; rfl
  rw [ef, ew]
  exact key
end
theorem file_isB (b r : List Int) (cs ip ss sp mn : Int) (hb : isBytes b) (h : mayB b r mn = true) (h1 : 0 ≤ cs ∧ cs ≤ 65535) (h2 : 0 ≤ ip ∧ ip ≤ 65535) (h3 : 0 ≤ ss ∧ ss ≤ 65535) (h4 : 0 ≤ sp ∧ sp ≤ 65535) : isBytes (fileB b r cs ip ss sp mn) := by
  have hW := words_range h h1 h2 h3 h4
  have hrg := mayB_range h
  have two_is : ∀ w : Int, 0 ≤ w → w < 65536 → isBytes (two w) := fun w a c x hx => by
    simp only [two, List.mem_cons, List.not_mem_nil, or_false] at hx
    rcases hx with rfl | rfl <;> omega
  have flat : ∀ (L : List Int) (f : Int → List Int), (∀ x ∈ L, isBytes (f x)) → isBytes (L.flatMap f) := fun L f hf x hx => by
    obtain ⟨y, hy, hxy⟩ := List.mem_flatMap.1 hx
    exact hf y hy x hxy
  unfold fileB
  refine isBytes.append (isBytes.append (isBytes.append (isBytes.append ?_ (flat _ _ fun x hx => two_is x (hW x hx).1 (hW x hx).2)) (flat _ _ fun x hx => ?_)) ?_) hb
  · exact isBytes.cons (by decide) (isBytes.cons (by decide) isBytes.nil)
  · have := hrg x hx
    exact isBytes.append (two_is _ (by omega) (by omega)) (two_is _ (by omega) (by omega))
  · intro x hx
    rw [List.mem_replicate] at hx
    omega
end Go.Proofs.Ytfibdecfmfdikaa
