/- mz.Write, plainly: a program's file. mz.Write, plainly: all of it. -/
import Derived.Test.YtfibdecfmfdikaaPWritex2
import Derived.Test.YtfibdecfmfdikaaMzP
set_option linter.unusedVariables false
set_option linter.unusedSimpArgs false
namespace Go.Proofs.Ytfibdecfmfdikaa
open Go.RowKit Go.Proofs.YtfibdecfmfdikaaW.PrintWords Go.Proofs.Ytfibdecfmfdikaa.PWrite

theorem nat_and_not15 (a : Nat) (h : a < 2 ^ 64) : a &&& (2 ^ 64 - 16) = a / 16 * 16 := by
  have e1 : (2 ^ 64 - 16 : Nat) = (2 ^ 60 - 1) <<< 4 := by decide
  have e2 : a / 16 * 16 = (a >>> 4) <<< 4 := by rw [Nat.shiftLeft_eq, Nat.shiftRight_eq_div_pow]
  rw [e1, e2]
  apply Nat.eq_of_testBit_eq
  intro i
  rw [Nat.testBit_and, Nat.testBit_shiftLeft, Nat.testBit_shiftLeft, Nat.testBit_shiftRight, Nat.testBit_two_pow_sub_one]
  by_cases hi : 4 ≤ i
  · have e3 : 4 + (i - 4) = i := by omega
    rw [e3]
    by_cases h64 : i < 64
    · have : i - 4 < 60 := by omega
      simp [hi, this]
    · have : a.testBit i = false := Nat.testBit_lt_two_pow (Nat.lt_of_lt_of_le h (Nat.pow_le_pow_right (by omega) (by omega)))
      simp [this]
  · simp [hi]
theorem andNot15 (x : Int) (h0 : 0 ≤ x) (h1 : x ≤ 4294967296) : Go.bits .andNot .i64 x 15 = x / 16 * 16 := by
  obtain ⟨a, rfl⟩ := Int.eq_ofNat_of_zero_le h0
  have ha : a < 2 ^ 64 := by omega
  have key := nat_and_not15 a ha
  simp only [Go.bits]
  have e : (BitVec.ofInt IntKind.i64.bits (a : Int) &&& ~~~BitVec.ofInt IntKind.i64.bits 15).toNat = a &&& (2 ^ 64 - 16) := by
    show (BitVec.ofInt 64 (a : Int) &&& ~~~BitVec.ofInt 64 15).toNat = a &&& (2 ^ 64 - 16)
    rw [BitVec.ofInt_natCast, show (~~~BitVec.ofInt 64 15) = (18446744073709551600#64) from by decide, BitVec.toNat_and, BitVec.toNat_ofNat, Nat.mod_eq_of_lt ha]
    rfl
  rw [e, key]
  have : IntKind.i64.wrap ((a / 16 * 16 : Nat) : Int) = ((a / 16 * 16 : Nat) : Int) := IntWalk.i64_in _ (by omega)
  rw [this]
  omega

def two (w : Int) : List Int := [w % 256, w / 256]
def headOf (n : Nat) : Nat := (28 + 4 * n + 15) / 16 * 16
def wordsOf (b r : List Int) (cs ip ss sp mn : Int) : List Int :=
  [((headOf r.length + b.length) % 512 : Nat), ((headOf r.length + b.length + 511) / 512 : Nat), r.length, (headOf r.length / 16 : Nat), mn, 65535, ss, sp, 0, ip, cs, 28, 0]
def fileB (b r : List Int) (cs ip ss sp mn : Int) : List Int :=
  [77, 90] ++ (wordsOf b r cs ip ss sp mn).flatMap two ++ r.flatMap (fun p => two (p % 16) ++ two (p / 16)) ++ List.replicate (headOf r.length - 28 - 4 * r.length) 0 ++ b

theorem two_eq (w : Int) (h0 : 0 ≤ w) (h1 : w ≤ 65535) : index_Two.f w = some (two w) := by
  unfold index_Two.f bits_Low.f bits_High.f two
  simp only [Option.bind_some]
  rw [show w / 256 % 256 = w / 256 by omega]
theorem head_eq (n : Nat) (hn : n ≤ 4000) : mz_head.f (n : Int) = some ((headOf n : Nat) : Int) := by
  unfold mz_head.f bits_Up.f
  have e1 : wrap64 (28 + wrap64 (4 * (n : Int))) = 28 + 4 * (n : Int) := by unfold wrap64; omega
  have e2 : wrap64 ((16 : Int) - 1) = 15 := by unfold wrap64; omega
  rw [e1, if_neg (by omega), if_neg (by omega), e2, if_pos (by decide)]
  have e3 : mn (mx (28 + 4 * (n : Int)) 0) 16777216 = 28 + 4 * (n : Int) := by unfold mx mn; omega
  rw [e3]
  have e4 : wrap64 (wrap64 (28 + 4 * (n : Int) + 16) - 1) = 28 + 4 * (n : Int) + 15 := by unfold wrap64; omega
  rw [e4, andNot15 _ (by omega) (by omega)]
  simp only [Option.bind_some, headOf]
  congr 1

def site2 (p : Int) : List Int := two (p % 16) ++ two (p / 16)
theorem normal_eq (p : Int) (h0 : 0 ≤ p) (h1 : p < 1048576) : bits_Normal.f (p % 4294967296) = some (p / 16, p % 16) := by
  unfold bits_Normal.f
  have e0 : p % 4294967296 = p := by omega
  have m1 := and_mask32 p 20 (by omega) (by omega) (by omega)
  have m2 := and_mask32 p 4 (by omega) (by omega) (by omega)
  simp only [show ((2 ^ 20 - 1 : Nat) : Int) = 1048575 from rfl, show ((2 ^ 20 : Nat) : Int) = 1048576 from rfl] at m1
  simp only [show ((2 ^ 4 - 1 : Nat) : Int) = 15 from rfl, show ((2 ^ 4 : Nat) : Int) = 16 from rfl] at m2
  have e1 : p % 1048576 = p := by omega
  rw [e0, m1, e1, m2, IntKind.wrap_u16, IntKind.wrap_u16]
  congr 2 <;> omega
theorem rd_getD (l : List Int) (i : Nat) : rd l (i : Int) = l.getD i 0 := by simp [rd]
theorem drop_cons_getD (l : List Int) (i : Nat) (h : i < l.length) : l.drop i = l.getD i 0 :: l.drop (i + 1) := by
  rw [List.drop_eq_getElem_cons h, List.getD_eq_getElem?_getD, List.getElem?_eq_getElem h]; rfl
theorem site2_length (p : Int) : (site2 p).length = 4 := rfl
theorem two_length (p : Int) : (two p).length = 2 := rfl

theorem write_l1 (b r : List Int) (c1 c2 c3 c4 c5 : Int) (hb : b.length ≤ 655360) (hr : r.length ≤ 4000) (hrg : ∀ x ∈ r, 0 ≤ x ∧ x < 1048576) (d : Nat) : ∀ (i k : Nat) (acc : List Int), r.length - i = d → i ≤ r.length → d < k → acc.length = 28 + 4 * i →
    mz_Write.l1 k ((headOf r.length : Nat) : Int) acc r (r.length : Int) i b r c1 c2 c3 c4 c5 = some (acc ++ (r.drop i).flatMap site2 ++ List.replicate (headOf r.length - 28 - 4 * r.length) 0 ++ b, 0) := by
  induction d with
  | zero =>
    intro i k acc hd hi hk ha
    obtain ⟨k, rfl⟩ : ∃ m, k = m + 1 := ⟨k - 1, by omega⟩
    obtain rfl : i = r.length := by omega
    have hh : 28 + 4 * r.length ≤ headOf r.length ∧ headOf r.length ≤ 28 + 4 * r.length + 15 := by unfold headOf; omega
    have e1 : wrap64 (((headOf r.length : Nat) : Int) - (acc.length : Int)) = ((headOf r.length - 28 - 4 * r.length : Nat) : Int) := by rw [ha]; unfold wrap64; omega
    simp only [mz_Write.l1]
    rw [if_neg (by omega), e1, if_pos (by omega), Int.toNat_natCast, if_pos (by omega)]
    try simp only [Option.bind_some]
    rw [if_pos (by simp; omega)]
    simp
  | succ d ih =>
    intro i k acc hd hi hk ha
    obtain ⟨k, rfl⟩ : ∃ m, k = m + 1 := ⟨k - 1, by omega⟩
    have hlt : i < r.length := by omega
    have r0 := getD_range (a := 0) (b := 1048576) hrg i hlt
    have e1 : wrap64 ((i : Int) + 1) = ((i + 1 : Nat) : Int) := by unfold wrap64; omega
    simp only [mz_Write.l1]
    rw [if_pos (by omega), if_pos (by omega), if_pos (by omega), rd_getD, normal_eq _ r0.1 r0.2]
    try simp only [Option.bind_some]
    rw [two_eq _ (by omega) (by omega)]
    try simp only [Option.bind_some]
    rw [two_length, if_pos (by omega)]
    try simp only [Option.bind_some]
    rw [two_eq _ (by omega) (by omega)]
    try simp only [Option.bind_some]
    rw [if_pos (by simp [two_length]; omega), e1, ih (i + 1) k _ (by omega) (by omega) (by omega) (by simp [two_length]; omega), drop_cons_getD r i hlt]
    simp [site2]
theorem write_l0 (b r W : List Int) (c1 c2 c3 c4 c5 : Int) (hb : b.length ≤ 655360) (hr : r.length ≤ 4000) (hrg : ∀ x ∈ r, 0 ≤ x ∧ x < 1048576) (hW : W.length = 13) (hWg : ∀ x ∈ W, 0 ≤ x ∧ x < 65536) (d : Nat) : ∀ (i k : Nat) (acc : List Int), W.length - i = d → i ≤ W.length → d + r.length + 1 < k → acc.length = 2 + 2 * i →
    mz_Write.l0 k ((headOf r.length : Nat) : Int) acc W (W.length : Int) i b r c1 c2 c3 c4 c5 = some (acc ++ (W.drop i).flatMap two ++ r.flatMap site2 ++ List.replicate (headOf r.length - 28 - 4 * r.length) 0 ++ b, 0) := by
  induction d with
  | zero =>
    intro i k acc hd hi hk ha
    obtain ⟨k, rfl⟩ : ∃ m, k = m + 1 := ⟨k - 1, by omega⟩
    obtain rfl : i = W.length := by omega
    simp only [mz_Write.l0]
    have := write_l1 b r c1 c2 c3 c4 c5 hb hr hrg r.length 0 k acc (by omega) (by omega) (by omega) (by omega)
    rw [if_neg (by omega)]
    simpa using this
  | succ d ih =>
    intro i k acc hd hi hk ha
    obtain ⟨k, rfl⟩ : ∃ m, k = m + 1 := ⟨k - 1, by omega⟩
    have hlt : i < W.length := by omega
    have r0 := getD_range (a := 0) (b := 65536) hWg i hlt
    have e1 : wrap64 ((i : Int) + 1) = ((i + 1 : Nat) : Int) := by unfold wrap64; omega
    simp only [mz_Write.l0]
    rw [if_pos (by omega), if_pos (by omega), if_pos (by omega), rd_getD, two_eq _ (by omega) (by omega)]
    try simp only [Option.bind_some]
    rw [two_length, if_pos (by omega), e1, ih (i + 1) k _ (by omega) (by omega) (by omega) (by simp [two_length]; omega), drop_cons_getD W i hlt]
    simp

theorem mayB_parts {b r : List Int} {mn : Int} (h : mayB b r mn = true) : b.length ≤ 655360 ∧ 0 ≤ mn ∧ mn ≤ 40960 - ((b.length + 15) / 16 : Nat) ∧ r.length ≤ 4000 ∧ ∀ i, i < r.length → goodAt b r i = true := by
  simp only [mayB, Bool.and_eq_true, decide_eq_true_eq, List.all_eq_true] at h
  exact ⟨h.1, h.2.1, h.2.2.1, h.2.2.2.1, fun i hi => h.2.2.2.2 i (List.mem_range.2 hi)⟩
theorem mayB_range {b r : List Int} {mn : Int} (h : mayB b r mn = true) : ∀ x ∈ r, 0 ≤ x ∧ x < 1048576 := by
  obtain ⟨h1, _, _, _, h5⟩ := mayB_parts h
  intro x hx
  obtain ⟨i, hi, rfl⟩ := List.getElem_of_mem hx
  have := h5 i hi
  simp only [goodAt, riseAt, Bool.and_eq_true, decide_eq_true_eq] at this
  rw [List.getD_eq_getElem?_getD, List.getElem?_eq_getElem hi] at this
  simp only [Option.getD_some] at this
  omega
end Go.Proofs.Ytfibdecfmfdikaa
set_option linter.unusedVariables false
set_option linter.unusedSimpArgs false
namespace Go.Proofs.Ytfibdecfmfdikaa
open Go.RowKit Go.Proofs.YtfibdecfmfdikaaW.PrintWords Go.Proofs.Ytfibdecfmfdikaa.PWrite

theorem wid {x : Int} (h0 : 0 ≤ x) (h1 : x ≤ 4294967296) : wrap64 x = x := by unfold wrap64; omega
theorem w16 {x : Int} (h0 : 0 ≤ x) (h1 : x ≤ 65535) : IntKind.u16.wrap x = x := by rw [IntKind.wrap_u16]; omega
theorem wwords (H B R : Nat) (cs ip ss sp mn : Int) (hH : H ≤ 16100) (hB : B ≤ 655360) (hR : R ≤ 4000) (m0 : 0 ≤ mn) (m1 : mn ≤ 65535) :
    [IntKind.u16.wrap (Int.tmod (wrap64 ((H : Int) + (B : Int))) 512), IntKind.u16.wrap (wrap64 (Int.tdiv (wrap64 ((wrap64 ((wrap64 ((H : Int) + (B : Int))) + 512)) - 1)) 512)), IntKind.u16.wrap (R : Int), IntKind.u16.wrap (wrap64 (Int.tdiv (H : Int) 16)), IntKind.u16.wrap mn, 65535, ss, sp, 0, ip, cs, 28, 0] =
      [(((H + B) % 512 : Nat) : Int), (((H + B + 511) / 512 : Nat) : Int), (R : Int), ((H / 16 : Nat) : Int), mn, 65535, ss, sp, 0, ip, cs, 28, 0] := by
  rw [wid (x := (H : Int) + (B : Int)) (by omega) (by omega), wid (x := (H : Int) + (B : Int) + 512) (by omega) (by omega), wid (x := (H : Int) + (B : Int) + 512 - 1) (by omega) (by omega)]
  rw [Int.tmod_eq_emod_of_nonneg (by omega), Int.tdiv_eq_ediv_of_nonneg (by omega), Int.tdiv_eq_ediv_of_nonneg (by omega)]
  rw [wid (x := ((H : Int) + (B : Int) + 512 - 1) / 512) (by omega) (by omega), wid (x := (H : Int) / 16) (by omega) (by omega)]
  rw [w16 (x := ((H : Int) + (B : Int)) % 512) (by omega) (by omega), w16 (x := ((H : Int) + (B : Int) + 512 - 1) / 512) (by omega) (by omega), w16 (x := (R : Int)) (by omega) (by omega), w16 (x := (H : Int) / 16) (by omega) (by omega), w16 m0 m1]
  have e1 : ((H : Int) + (B : Int)) % 512 = (((H + B) % 512 : Nat) : Int) := by omega
  have e2 : ((H : Int) + (B : Int) + 512 - 1) / 512 = (((H + B + 511) / 512 : Nat) : Int) := by omega
  have e3 : (H : Int) / 16 = ((H / 16 : Nat) : Int) := by omega
  rw [e1, e2, e3]

theorem words_range {b r : List Int} {cs ip ss sp mn : Int} (h : mayB b r mn = true) (h1 : 0 ≤ cs ∧ cs ≤ 65535) (h2 : 0 ≤ ip ∧ ip ≤ 65535) (h3 : 0 ≤ ss ∧ ss ≤ 65535) (h4 : 0 ≤ sp ∧ sp ≤ 65535) : ∀ x ∈ wordsOf b r cs ip ss sp mn, 0 ≤ x ∧ x < 65536 := by
  obtain ⟨p1, p2, p3, p4, _⟩ := mayB_parts h
  have hh : headOf r.length ≤ 28 + 4 * r.length + 15 := by unfold headOf; omega
  unfold wordsOf
  generalize headOf r.length = H at *
  generalize b.length = B at *
  generalize r.length = R at *
  clear h
  intro x hx
  simp only [List.mem_cons, List.not_mem_nil, or_false] at hx
  rcases hx with rfl | rfl | rfl | rfl | rfl | rfl | rfl | rfl | rfl | rfl | rfl | rfl | rfl
  all_goals omega
theorem write_open (K : Nat) (H : Nat) (b r : List Int) (cs ip ss sp mn : Int) (hm : mz_May.f K b r cs ip ss sp mn = some true) (hh : mz_head.f (r.length : Int) = some (H : Int)) (hH : H ≤ 16100) (hB : b.length ≤ 655360) (hR : r.length ≤ 4000) (m0 : 0 ≤ mn) (m1 : mn ≤ 65535) :
    mz_Write.f K b r cs ip ss sp mn = mz_Write.l0 K (H : Int) [77, 90] [(((H + b.length) % 512 : Nat) : Int), (((H + b.length + 511) / 512 : Nat) : Int), (r.length : Int), ((H / 16 : Nat) : Int), mn, 65535, ss, sp, 0, ip, cs, 28, 0] 13 0 b r cs ip ss sp mn := by
  unfold mz_Write.f
  rw [hm]
  simp only [Option.bind_some, if_true]
  rw [hh]
  simp only [Option.bind_some]
  rw [wwords H b.length r.length cs ip ss sp mn hH hB hR m0 m1]
  rfl
theorem write_eq (b r : List Int) (cs ip ss sp mn : Int) (h1 : 0 ≤ cs ∧ cs ≤ 65535) (h2 : 0 ≤ ip ∧ ip ≤ 65535) (h3 : 0 ≤ ss ∧ ss ≤ 65535) (h4 : 0 ≤ sp ∧ sp ≤ 65535) (h : mayB b r mn = true) :
    mz_Write.f (r.length + 16) b r cs ip ss sp mn = some (fileB b r cs ip ss sp mn, 0) := by
  obtain ⟨p1, p2, p3, p4, _⟩ := mayB_parts h
  have hrg := mayB_range h
  have hh : headOf r.length ≤ 28 + 4 * r.length + 15 := by unfold headOf; omega
  have hm := may_eq b r cs ip ss sp mn (by omega) (by omega) (fun x hx => by have := hrg x hx; omega) (r.length + 16) (by omega)
  rw [h] at hm
  rw [write_open (r.length + 16) (headOf r.length) b r cs ip ss sp mn hm (head_eq r.length p4) (by omega) p1 p4 p2 (by omega)]
  exact write_l0 b r (wordsOf b r cs ip ss sp mn) cs ip ss sp mn p1 p4 hrg rfl (words_range h h1 h2 h3 h4) 13 0 (r.length + 16) [77, 90] rfl (Nat.zero_le _) (by omega) rfl
theorem write_shut (K : Nat) (b r : List Int) (cs ip ss sp mn : Int) (hm : mz_May.f K b r cs ip ss sp mn = some false) : mz_Write.f K b r cs ip ss sp mn = some ([], 1) := by
  unfold mz_Write.f
  rw [hm]
  simp only [Option.bind_some]
  rw [if_neg (show ¬ (false = true) by decide)]
theorem write_no (b r : List Int) (cs ip ss sp mn : Int) (hb : b.length ≤ 140737488355328) (hr : r.length ≤ 140737488355328) (hrg : ∀ x ∈ r, -1099511627776 ≤ x ∧ x ≤ 1099511627776) (h : mayB b r mn = false) :
    ∃ K, mz_Write.f K b r cs ip ss sp mn = some ([], 1) :=
  ⟨r.length + 16, write_shut _ b r cs ip ss sp mn (h ▸ may_eq b r cs ip ss sp mn hb hr hrg (r.length + 16) (by omega))⟩
theorem write_yes (b r : List Int) (cs ip ss sp mn : Int) (h1 : 0 ≤ cs ∧ cs ≤ 65535) (h2 : 0 ≤ ip ∧ ip ≤ 65535) (h3 : 0 ≤ ss ∧ ss ≤ 65535) (h4 : 0 ≤ sp ∧ sp ≤ 65535) (h : mayB b r mn = true) :
    ∃ K, mz_Write.f K b r cs ip ss sp mn = some (fileB b r cs ip ss sp mn, 0) := ⟨_, write_eq b r cs ip ss sp mn h1 h2 h3 h4 h⟩
/-- What Write hands back. -/
def WriteR (b r : List Int) (cs ip ss sp mn : Int) : List Int × Int := if mayB b r mn = true then (fileB b r cs ip ss sp mn, 0) else ([], 1)
theorem write_any (A0 : Option Addr) (c0 : Nat) (b : List Int) (A1 : Option Addr) (c1 : Nat) (r : List Int) (cs ip ss sp mn : Int) (w : World) (hr0 : Kd.C (Kd.int .u8) w A0 b.length b) (hc0 : b.length ≤ c0) (hr1 : Kd.C (Kd.int .i64) w A1 r.length r) (hc1 : r.length ≤ c1)
    (h1 : 0 ≤ cs ∧ cs ≤ 65535) (h2 : 0 ≤ ip ∧ ip ≤ 65535) (h3 : 0 ≤ ss ∧ ss ≤ 65535) (h4 : 0 ≤ sp ∧ sp ≤ 65535) (hb : b.length ≤ 140737488355328) (hr : r.length ≤ 140737488355328) (hrg : ∀ x ∈ r, -1099511627776 ≤ x ∧ x ≤ 1099511627776) :
    Calls Try.prog 14 #[.agg #[.slice A0 b.length c0, .slice A1 r.length c1, .int .u16 cs, .int .u16 ip, .int .u16 ss, .int .u16 sp, .int .i64 mn]] w fun e w' => ∃ v : Value, e = .returned (.tuple #[v, .int .i64 (WriteR b r cs ip ss sp mn).2]) ∧ Kd.R (Kd.int .u8) 5 w' w.heap.size (fun _ => True) v (WriteR b r cs ip ss sp mn).1 ∧ Below w.heap.size w w' := by
  by_cases h : mayB b r mn = true
  · have e : WriteR b r cs ip ss sp mn = (fileB b r cs ip ss sp mn, 0) := if_pos h
    rw [e]
    obtain ⟨K, hK⟩ := write_yes b r cs ip ss sp mn h1 h2 h3 h4 h
    exact mz_Write.calls K A0 c0 b A1 c1 r cs ip ss sp mn (fileB b r cs ip ss sp mn) 0 w hr0 hc0 hr1 hc1 hK
  · have e : WriteR b r cs ip ss sp mn = ([], 1) := if_neg h
    rw [e]
    obtain ⟨K, hK⟩ := write_no b r cs ip ss sp mn hb hr hrg (by simpa using h)
    exact mz_Write.calls K A0 c0 b A1 c1 r cs ip ss sp mn [] 1 w hr0 hc0 hr1 hc1 hK
end Go.Proofs.Ytfibdecfmfdikaa
