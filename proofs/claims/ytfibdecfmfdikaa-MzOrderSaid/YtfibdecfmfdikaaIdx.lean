/- Contracts of package index' source: From, Wrong, Take, Byte, Word: what each hands back, and how the source stands behind it. slices.Clone of bytes that are not nil. mz.size. -/
import Derived.Test.YtfibdecfmfdikaaProg
import Derived.Test.YtfibdecfmfdikaaWWords
import Derived.Test.YtfibdecfmfdikaaBits
import Derived.Deep.QuietTactic
import Derived.BigQuiet
import Derived.WalkLawsBesides
import Derived.WalkSpells
import Derived.Lib.Hide
set_option linter.unusedVariables false
set_option linter.unusedSimpArgs false
namespace Go.Proofs.Ytfibdecfmfdikaa
open Go.RowKit Go.Proofs.YtfibdecfmfdikaaW.PrintWords
set_option maxRecDepth 100000

theorem bcell {W w1 : World} (hb : Below W.heap.size W w1) : (∀ b o, b < W.heap.size → w1.cell? ⟨b, o, none⟩ = W.cell? ⟨b, o, none⟩) ∧ (∀ b o, b < W.heap.size → w1.frozen? ⟨b, o, none⟩ = W.frozen? ⟨b, o, none⟩) :=
  ⟨fun b o h => hb.cell (p := ⟨b, o, none⟩) h, fun b o h => hb.frozen (p := ⟨b, o, none⟩) h⟩

/-- Bytes that are read, in a block below g. -/
def RdB (w : World) (g : Nat) (A : Option Addr) (c : Nat) (xs : List Int) : Prop :=
  xs.length ≤ c ∧ (∀ a, A = some a → a.block < g) ∧ (Kd.int .u8).C w A xs.length xs

/-- A source at block g: the bytes that are left, and its error. -/
def Src (w : World) (g : Nat) (xs : List Int) (e : Int) : Prop :=
  ∃ A c, w.heap[g]? = some (.cells #[.slice A xs.length c, .int .i64 e] 104 (0, 0)) ∧ RdB w g A c xs ∧ (e ≠ 0 → xs = [])

theorem C_moved {w w1 : World} {A : Option Addr} {n : Nat} {xs : List Int} (h : (Kd.int .u8).C w A n xs) (hm : ∀ a, A = some a → a.block < w.heap.size → w1.heap[a.block]? = w.heap[a.block]?) : (Kd.int .u8).C w1 A n xs := by
  refine ⟨h.1, h.2.1, fun hn => ?_⟩
  obtain ⟨ad, e, hc⟩ := h.2.2 hn
  refine ⟨ad, e, fun j p hp => ?_⟩
  obtain ⟨c, h1, h2, h3⟩ := hc j p hp
  refine ⟨c, h1, h2, fun i u hu => ?_⟩
  have h4 := h3 i u hu
  rw [← h4]
  have hb := World.block_lt_of_cell? w _ h4
  have eb : (ad.add (j * (Kd.int .u8).sz + i)).block = ad.block := by unfold Addr.add; split <;> rfl
  rw [eb] at hb
  refine World.cell?_of_block ?_
  rw [eb]
  exact hm ad e hb

theorem below_word {B : Nat} {W w w1 : World} {g : Nat} (h : Below B W w) (hg : w.grownBy w1 (some g)) (hB : B ≤ g) (hW : B ≤ w.heap.size) : Below B W w1 :=
  h.trans ⟨hg.os, hg.tape, hg.output, hg.size, fun k hk => hg.block k (by omega) (by simp; omega)⟩
theorem below_cell {B : Nat} {W w : World} (h : Below B W w) : (∀ b o, b < B → w.cell? ⟨b, o, none⟩ = W.cell? ⟨b, o, none⟩) ∧ (∀ b o, b < B → w.frozen? ⟨b, o, none⟩ = W.frozen? ⟨b, o, none⟩) :=
  ⟨fun b o hb => World.cell?_of_block (a := ⟨b, o, none⟩) (h.block b hb), fun b o hb => World.frozen?_of_block (a := ⟨b, o, none⟩) (h.block b hb)⟩
/-- A block that is known whole: its cells. -/
theorem mblk_cell {w : World} {b : Nat} {cs : Array Value} {T : Nat} (h : w.heap[b]? = some (.cells cs T (0, 0))) : (∀ i v, cs[i]? = some v → w.cell? ⟨b, i, none⟩ = some v) ∧ (∀ i, w.frozen? ⟨b, i, none⟩ = false) ∧ b < w.heap.size := by
  refine ⟨fun i v hv => ?_, fun i => ?_, (Array.getElem?_eq_some_iff.1 h).1⟩
  · simp [World.cell?, h, hv]
  · simp [World.frozen?, h]
theorem RdB.keep {w w1 : World} {g : Nat} {A : Option Addr} {c : Nat} {xs : List Int} (h : RdB w g A c xs) (hm : ∀ k, k < g → k < w.heap.size → w1.heap[k]? = w.heap[k]?) : RdB w1 g A c xs :=
  ⟨h.1, h.2.1, C_moved h.2.2 fun a ha hl => hm _ (h.2.1 a ha) hl⟩
theorem RdB.grown {w w1 : World} {g : Nat} {A : Option Addr} {c : Nat} {xs : List Int} (h : RdB w g A c xs) (hg : w.grownBy w1 (some g)) : RdB w1 g A c xs :=
  h.keep fun k h1 h2 => hg.block k h2 (by simp; omega)

theorem grown_set (w : World) (g j : Nat) (v : Value) : w.grownBy (w.setCell ⟨g, j, none⟩ v) (some g) :=
  ⟨rfl, rfl, rfl, by simp [World.setCell], fun k _ hk => Below.heap_setCell w ⟨g, j, none⟩ v k (by simpa using hk)⟩
theorem grown_trans {a b c : World} {row : Option Nat} (h : a.grownBy b row) (k : b.grownBy c row) : a.grownBy c row :=
  ⟨k.os.trans h.os, k.tape.trans h.tape, k.output.trans h.output, Nat.le_trans h.size k.size, fun i hi hr => (k.block i (Nat.lt_of_lt_of_le hi h.size) hr).trans (h.block i hi hr)⟩

/-- The cells of a source. -/
theorem Src.cells {w : World} {g : Nat} {A : Option Addr} {n c : Nat} {e : Int} {T : Nat} (h : w.heap[g]? = some (.cells #[.slice A n c, .int .i64 e] T (0, 0))) :
    w.cell? ⟨g, 0, none⟩ = some (.slice A n c) ∧ w.cell? ⟨g, 1, none⟩ = some (.int .i64 e) ∧ w.frozen? ⟨g, 0, none⟩ = false ∧ w.frozen? ⟨g, 1, none⟩ = false ∧ g < w.heap.size := by
  have hl : g < w.heap.size := (Array.getElem?_eq_some_iff.1 h).1
  refine ⟨?_, ?_, ?_, ?_, hl⟩ <;> simp [World.cell?, World.frozen?, h]


theorem grown_drewN {a b : World} {row : Option Nat} (h : a.grownBy b row) (n : Nat) : a.grownBy (b.drewN n) row := ⟨h.os, h.tape, h.output, h.size, h.block⟩
theorem Src.drewN {w : World} {g : Nat} {xs : List Int} {e : Int} (h : Src w g xs e) (n : Nat) : Src (w.drewN n) g xs e := h
theorem madd_block (a : Addr) (k : Nat) : (a.add k).block = a.block := by unfold Addr.add; split <;> rfl
theorem RdB.take {w : World} {g : Nat} {A : Option Addr} {c : Nat} {xs : List Int} (h : RdB w g A c xs) (k c' : Nat) (hk : k ≤ xs.length) (hc : k ≤ c') : RdB w g A c' (xs.take k) := by
  have hl : (xs.take k).length = k := by rw [List.length_take]; omega
  refine ⟨by omega, h.2.1, ?_⟩
  rw [hl]
  exact Kd.C_of_reads ((Kd.reads_of_C (d := (0 : Int)) (h1 := fun _ => rfl) h.2.2).take_ k hk)
theorem RdB.drop {w : World} {g : Nat} {A : Option Addr} {c : Nat} {xs : List Int} (h : RdB w g A c xs) (k : Nat) (hk : k ≤ xs.length) : RdB w g (if c = k then A else A.map (·.add k)) (c - k) (xs.drop k) := by
  have hl : (xs.drop k).length = xs.length - k := List.length_drop
  refine ⟨by have := h.1; omega, fun a ha => ?_, ?_⟩
  · split at ha
    · exact h.2.1 a ha
    · obtain ⟨a0, h0, rfl⟩ := Option.map_eq_some_iff.1 ha
      rw [madd_block]
      exact h.2.1 a0 h0
  · rw [hl]
    exact Kd.C_of_reads ((Kd.reads_of_C (d := (0 : Int)) (h1 := fun _ => rfl) h.2.2).drop_ k hk h.1)
section
variable {P : Program} {t e : TypeId} (ht : P.underlying t = some (.slice e)) (hi : (P.info? e).map (fun i => i.size) = some 1)
include ht hi
/-- xs[k:], xs[:k:k], xs[i:k] of bytes. -/
theorem cut_drop (A : Option Addr) (c : Nat) (xs : List Int) (k : Int) (h0 : 0 ≤ k) (h1 : k ≤ xs.length) (hc : xs.length ≤ c) :
    ∃ A' : Option Addr, (∀ W : World, (Instr.slice t (.slice A xs.length c) (some (.int .i64 k)) none none).run P W = .ok (.slice A' (xs.drop k.toNat).length (c - k.toNat)) W) ∧ ∀ w g, RdB w g A c xs → RdB w g A' (c - k.toNat) (xs.drop k.toNat) := by
  obtain ⟨i, hi', hsz⟩ := Option.map_eq_some_iff.1 hi
  have hel : P.elem t = e := by simp [Program.elem, ht]
  have hu : P.underlying t = some (.slice (P.elem t)) := by rw [hel]; exact ht
  refine ⟨if c = k.toNat then A else A.map (·.add k.toNat), fun W => ?_, fun w g h => h.drop k.toNat (by omega)⟩
  rw [run_slice_l W t A xs.length c hu .i64 k h0 (by omega), hel]
  simp [sizeOf, typeInfo, hi', hsz, sliced, Result.andThen]
theorem cut_head (A : Option Addr) (c : Nat) (xs : List Int) (k : Int) (h0 : 0 ≤ k) (h1 : k ≤ xs.length) (hc : xs.length ≤ c) (W : World) :
    (Instr.slice t (.slice A xs.length c) none (some (.int .i64 k)) (some (.int .i64 k))).run P W = .ok (.slice A (xs.take k.toNat).length k.toNat) W := by
  obtain ⟨i, hi', hsz⟩ := Option.map_eq_some_iff.1 hi
  have hel : P.elem t = e := by simp [Program.elem, ht]
  have hu : P.underlying t = some (.slice (P.elem t)) := by rw [hel]; exact ht
  have hl : (xs.take k.toNat).length = k.toNat := by rw [List.length_take]; omega
  have ha : (A.map fun x => x.add 0) = A := by cases A <;> simp [Addr.add]
  rw [run_slice_hm W t A xs.length c hu .i64 .i64 k k h0 (by omega) (by omega), hel, hl]
  simp [sizeOf, typeInfo, hi', hsz, sliced, Result.andThen, ha]
theorem mcut_mid (A : Option Addr) (c : Nat) (xs : List Int) (j k : Int) (h0 : 0 ≤ j) (h1 : j ≤ k) (h2 : k ≤ xs.length) (hc : xs.length ≤ c) :
    ∃ A' : Option Addr, (∀ W : World, (Instr.slice t (.slice A xs.length c) (some (.int .i64 j)) (some (.int .i64 k)) none).run P W = .ok (.slice A' ((xs.take k.toNat).drop j.toNat).length (c - j.toNat)) W) ∧ ∀ w g, RdB w g A c xs → RdB w g A' (c - j.toNat) ((xs.take k.toNat).drop j.toNat) := by
  obtain ⟨i, hi', hsz⟩ := Option.map_eq_some_iff.1 hi
  have hel : P.elem t = e := by simp [Program.elem, ht]
  have hu : P.underlying t = some (.slice (P.elem t)) := by rw [hel]; exact ht
  have hlt : (xs.take k.toNat).length = k.toNat := by rw [List.length_take]; omega
  have hl : ((xs.take k.toNat).drop j.toNat).length = k.toNat - j.toNat := by rw [List.length_drop, hlt]
  refine ⟨if c = j.toNat then A else A.map (·.add j.toNat), fun W => ?_, fun w g h => (h.take k.toNat c (by omega) (by omega)).drop j.toNat (by omega)⟩
  rw [run_slice_lh W t A xs.length c hu .i64 .i64 j k h0 h1 (by omega), hel, hl]
  simp [sizeOf, typeInfo, hi', hsz, sliced, Result.andThen]
end
theorem infoU8 : (Try.prog.info? 5).map (fun i => i.size) = some 1 := by kernel_rfl

theorem take_ok (g : Nat) (xs : List Int) (e n : Int) (w : World) (hs : Src w g xs e) (h0 : 0 ≤ n) (h1 : n ≤ xs.length) :
    Calls Try.prog 62 #[.pointer (some ⟨g, 0, none⟩), .int .i64 n] w fun en w' => ∃ A c, en = .returned (.slice A (xs.take n.toNat).length c) ∧ RdB w' g A c (xs.take n.toNat) ∧ Src w' g (xs.drop n.toNat) e ∧ w.grownBy w' (some g) := by
  obtain ⟨A, c, hh, hr, he⟩ := hs
  obtain ⟨c0, c1, f0, f1, hl⟩ := Src.cells hh
  have hm := hr.2.2.2.1
  have hlc := hr.1
  obtain ⟨A', hcut, hrd⟩ := cut_drop Try.underlying23 infoU8 A c xs n h0 h1 hlc
  have hhd := cut_head Try.underlying23 infoU8 A c xs n h0 h1 hlc
  have ht := hr.take n.toNat n.toNat (by omega) (Nat.le_refl _)
  generalize xs.take n.toNat = zs at *
  generalize hy : xs.drop n.toNat = ys at *
  have hey : Hid (e ≠ 0 → ys = []) := fun h => by rw [← hy, he h]; simp
  have H := Lib.hid hh
  clear hh he hy
  go_enter Try.func62, Try.ntmps62
  go_wp2_with fail
  go_ret
  have hg := grown_set w g 0 (.slice A' ys.length (c - n.toNat))
  refine ⟨A, n.toNat, rfl, ht.grown hg, ⟨A', c - n.toNat, ?_, (hrd w g hr).grown hg, hey.out⟩, hg⟩
  rw [heap_setCell_same w g 0 _ _ _ H.out]
  rfl

theorem RdB.cells {w : World} {g : Nat} {A : Option Addr} {c : Nat} {xs : List Int} (h : RdB w g A c xs) (h0 : 0 < xs.length) : ∃ ad, A = some ad ∧ ∀ i, i < xs.length → w.cell? (ad.add i) = some (.int .u8 (xs.getD i 0)) := by
  obtain ⟨ad, e, hc⟩ := (Kd.reads_of_C (d := (0 : Int)) (h1 := fun _ => rfl) h.2.2).2.2 h0
  exact ⟨ad, e, hc⟩
theorem RdB.nil (w : World) (g : Nat) : RdB w g none 0 [] := ⟨Nat.le_refl _, fun a ha => by simp at ha, Kd.C_nil _ _⟩

theorem wrong_new (g : Nat) (xs : List Int) (k : Int) (w : World) (hs : Src w g xs 0) (hk : (k != 0) = true) :
    Calls Try.prog 86 #[.pointer (some ⟨g, 0, none⟩), .int .i64 k] w fun en w' => en = .returned (.tuple #[]) ∧ Src w' g [] k ∧ w.grownBy w' (some g) := by
  obtain ⟨A, c, hh, hr, he⟩ := hs
  obtain ⟨c0, c1, f0, f1, hl⟩ := Src.cells hh
  have H := Lib.hid hh
  clear hh he hr
  go_enter Try.func86, Try.ntmps86
  go_wp2_with fail
  go_end0
  have hg := grown_trans (grown_set w g 1 (.int .i64 k)) (grown_set _ g 0 (.slice none 0 0))
  refine ⟨rfl, ⟨none, 0, ?_, RdB.nil _ _, fun _ => rfl⟩, hg⟩
  rw [heap_setCell_same _ g 0 _ _ _ (heap_setCell_same w g 1 _ _ _ H.out)]
  rfl
theorem wrong_old (g : Nat) (xs : List Int) (e k : Int) (w : World) (hs : Src w g xs e) (h : (e == 0) = false) :
    Calls Try.prog 86 #[.pointer (some ⟨g, 0, none⟩), .int .i64 k] w fun en w' => en = .returned (.tuple #[]) ∧ w = w' := by
  obtain ⟨A, c, hh, hr, he⟩ := hs
  obtain ⟨c0, c1, f0, f1, hl⟩ := Src.cells hh
  clear hh he hr
  go_enter Try.func86, Try.ntmps86
  go_wp2_with fail
  go_end0
  exact ⟨rfl, rfl⟩
def errE (e k : Int) : Int := if e = 0 then k else e
theorem wrong_any (g : Nat) (xs : List Int) (e k : Int) (w : World) (hs : Src w g xs e) (hk : (k != 0) = true) :
    Calls Try.prog 86 #[.pointer (some ⟨g, 0, none⟩), .int .i64 k] w fun en w' => en = .returned (.tuple #[]) ∧ Src w' g [] (errE e k) ∧ w.grownBy w' (some g) := by
  by_cases h : e = 0
  · subst h
    simpa [errE] using wrong_new g xs k w hs hk
  · refine (wrong_old g xs e k w hs (by simpa using h)).mono ?_
    rintro en w' ⟨rfl, rfl⟩
    refine ⟨rfl, ?_, World.grownBy.refl _ _⟩
    have hx : xs = [] := by obtain ⟨_, _, _, _, he⟩ := hs; exact he h
    rw [errE, if_neg h]
    rw [hx] at hs
    exact hs
theorem take_bad (g : Nat) (xs : List Int) (e n : Int) (w : World) (hs : Src w g xs e) (hn : n < 0 ∨ xs.length < n) :
    Calls Try.prog 62 #[.pointer (some ⟨g, 0, none⟩), .int .i64 n] w fun en w' => en = .returned (.slice none 0 0) ∧ Src w' g [] (errE e 2) ∧ w.grownBy w' (some g) := by
  have hs' := hs
  obtain ⟨A, c, hh, hr, he⟩ := hs'
  obtain ⟨c0, c1, f0, f1, hl⟩ := Src.cells hh
  clear hh hr he
  have hw := wrong_any g xs e 2 w hs (by decide)
  generalize xs.length = m at *
  rcases hn with hn | hn
  · go_enter Try.func62, Try.ntmps62
    go_wp2_with (go_at_call 86; refine hw.mono ?_; rintro en w' ⟨rfl, h1, h2⟩)
    go_ret
    exact ⟨rfl, h1, h2⟩
  · by_cases h0 : n < 0
    all_goals
      go_enter Try.func62, Try.ntmps62
      go_wp2_with (go_at_call 86; refine hw.mono ?_; rintro en w' ⟨rfl, h1, h2⟩)
      go_ret
      exact ⟨rfl, h1, h2⟩

/-- Word: what it tells, what is left, the error behind it. -/
def wordV (xs : List Int) : Int := if 2 ≤ xs.length then rd xs 0 + 256 * rd xs 1 else 0
def wordL (xs : List Int) : List Int := if 2 ≤ xs.length then xs.drop 2 else []
def wordE (xs : List Int) (e : Int) : Int := if 2 ≤ xs.length then e else errE e 2
theorem word_any (g : Nat) (xs : List Int) (e : Int) (w : World) (hs : Src w g xs e) (hb : ∀ x ∈ xs, 0 ≤ x ∧ x ≤ 255) :
    Calls Try.prog 47 #[.pointer (some ⟨g, 0, none⟩)] w fun en w' => en = .returned (.int .u16 (wordV xs)) ∧ Src w' g (wordL xs) (wordE xs e) ∧ w.grownBy w' (some g) := by
  by_cases h : 2 ≤ xs.length
  · have ht := take_ok g xs e 2 w hs (by omega) (by omega)
    match xs, h with
    | a :: b :: r, h =>
    have ha := hb a (by simp)
    have hb' := hb b (by simp)
    have e1 : wordV (a :: b :: r) = a + 256 * b := by simp [wordV, rd]
    have e2 : wordL (a :: b :: r) = r := by simp [wordL]
    have e3 : wordE (a :: b :: r) e = e := by simp [wordE]
    rw [e1, e2, e3]
    simp only [show (2 : Int).toNat = 2 from rfl, List.take_succ_cons, List.take_zero, List.drop_succ_cons, List.drop_zero] at ht
    clear e1 e2 e3 hb h hs
    go_enter Try.func47, Try.ntmps47
    go_wp2_with fail
    refine ht.mono ?_
    rintro en w1 ⟨A, c, rfl, hr, hs, hg⟩
    obtain ⟨ad, rfl, hc⟩ := hr.cells (by simp)
    have c0 : w1.cell? ad = some (.int .u8 a) := by simpa [Addr.add] using hc 0 (by simp)
    have c1 : w1.cell? ⟨ad.block, ad.off + 1, none⟩ = some (.int .u8 b) := by simpa [Addr.add] using hc 1 (by simp)
    clear hc hr
    go_wp2_with fail
    go_quiet ((go_at_call 63; exact Calls.quiet_of_same ((bword_any _ _ _ (by omega) (by omega) (by omega) (by omega)).mono (by rintro _ _ ⟨rfl, rfl⟩; exact ⟨rfl, rfl⟩))))
    go_wp2
    go_ret
    exact ⟨rfl, hs.drewN nq, grown_drewN hg nq⟩
  · have ht := take_bad g xs e 2 w hs (by omega)
    have e1 : wordV xs = 0 := by simp [wordV, h]
    have e2 : wordL xs = [] := by simp [wordL, h]
    have e3 : wordE xs e = errE e 2 := by simp [wordE, h]
    rw [e1, e2, e3]
    clear e1 e2 e3 hb h hs
    go_enter Try.func47, Try.ntmps47
    go_wp2_with (go_at_call 62; refine ht.mono ?_; rintro en w1 ⟨rfl, hs, hg⟩)
    go_ret
    exact ⟨rfl, hs, hg⟩

theorem infoB : (Try.prog.info? 5).map (fun i => (i.zero, i.size, i.bytes)) = some (some (.int .u8 0), 1, 1) := by kernel_rfl
/-- A row of the call's own, as bytes that are read. -/
theorem RdB.own {w : World} {e : TypeId} {base : Nat} {ok : Nat → Prop} {v : Value} {xs : List Int} (h : (Kd.int .u8).R e w base ok v xs) :
    ∃ A c, v = .slice A xs.length c ∧ RdB w w.heap.size A c xs := by
  obtain ⟨A, c, rfl, hl, hc⟩ := Kd.R_reads h
  refine ⟨A, c, rfl, hl, fun a ha => ?_, hc⟩
  subst ha
  obtain ⟨inner, ho⟩ := Kd.R_own h
  exact own_lt ho a.block (by simp [Value.ownBlock])
theorem RdB.below {w w1 : World} {g : Nat} {A : Option Addr} {c : Nat} {xs : List Int} (h : RdB w g A c xs) (hb : Below w.heap.size w w1) : RdB w1 g A c xs :=
  h.keep fun k _ h2 => hb.block k h2
theorem RdB.mono {w : World} {g g' : Nat} {A : Option Addr} {c : Nat} {xs : List Int} (h : RdB w g A c xs) (hg : g ≤ g') : RdB w g' A c xs :=
  ⟨h.1, fun a ha => Nat.lt_of_lt_of_le (h.2.1 a ha) hg, h.2.2⟩

theorem from_any (A : Option Addr) (c : Nat) (xs : List Int) (w : World) (hr : (Kd.int .u8).C w A xs.length xs) (hl : xs.length ≤ 140737488355328) :
    Calls Try.prog 46 #[.slice A xs.length c] w fun e w' => ∃ g, e = .returned (.pointer (some ⟨g, 0, none⟩)) ∧ w.heap.size ≤ g ∧ g < w'.heap.size ∧ Src w' g xs 0 ∧ Below w.heap.size w w' := by
  have H := Lib.hid hr
  clear hr
  go_enter Try.func46, Try.ntmps46
  go_wp2_with (at_builtin; refine Kd.R_append_row (Value.int .u8) (0 : Int) (h1 := fun _ => rfl) (w0 := w) w.heap.size rfl _ _ 23 5 (.int .u8 0) 1 rfl Try.underlying23 infoB rfl (by decide) (.slice none 0 0) [] xs A _ c (fun _ => True) rfl rfl (fun _ _ => trivial) (Kd.R_nil _ _ _ _ _) H (Below.refl _ _) (Nat.le_refl _) (by simp; omega) ?_; intro v1 w1 hR hB hG hat; obtain ⟨A1, c1, rfl, hrd⟩ := RdB.own hR; have hs := hB.size; rw [List.nil_append] at hrd; rw [List.nil_append])
  go_ret
  have hb := below_alloc (Below.refl w1.heap.size w1) (.cells #[.slice A1 xs.length c1, .int .i64 0] 104 (0, 0))
  exact ⟨w1.heap.size, rfl, hs, by simp, ⟨A1, c1, blk_new w1 _, RdB.below hrd hb, fun h => absurd rfl h⟩, below_alloc hB _⟩

theorem RdB.of_C {w : World} {A : Option Addr} {c : Nat} {xs : List Int} (hr : (Kd.int .u8).C w A xs.length xs) (hlc : xs.length ≤ c) (h0 : 0 < xs.length) : RdB w w.heap.size A c xs := by
  obtain ⟨ad, rfl, hc⟩ := (Kd.reads_of_C (d := (0 : Int)) (h1 := fun _ => rfl) hr).2.2 h0
  refine ⟨hlc, fun a ha => ?_, hr⟩
  injection ha with ha
  subst ha
  have := World.block_lt_of_cell? w _ (hc 0 h0)
  rwa [madd_block] at this
/-- A world in which block g alone was turned, and blocks were made: elder cells read as before. -/
theorem gcell {W w1 : World} {g : Nat} (hg : W.grownBy w1 (some g)) :
    (∀ b o, b < g → g < W.heap.size → w1.cell? ⟨b, o, none⟩ = W.cell? ⟨b, o, none⟩) ∧ (∀ b o, b < g → g < W.heap.size → w1.frozen? ⟨b, o, none⟩ = W.frozen? ⟨b, o, none⟩) ∧
    (∀ b o, g < b → b < W.heap.size → w1.cell? ⟨b, o, none⟩ = W.cell? ⟨b, o, none⟩) ∧ (∀ b o, g < b → b < W.heap.size → w1.frozen? ⟨b, o, none⟩ = W.frozen? ⟨b, o, none⟩) ∧ W.heap.size ≤ w1.heap.size :=
  ⟨fun b o h1 h2 => World.cell?_of_block (a := ⟨b, o, none⟩) (hg.block b (by omega) (by simp; omega)), fun b o h1 h2 => World.frozen?_of_block (a := ⟨b, o, none⟩) (hg.block b (by omega) (by simp; omega)),
   fun b o h1 h2 => World.cell?_of_block (a := ⟨b, o, none⟩) (hg.block b (by omega) (by simp; omega)), fun b o h1 h2 => World.frozen?_of_block (a := ⟨b, o, none⟩) (hg.block b (by omega) (by simp; omega)), hg.size⟩
theorem Src.below {w w1 : World} {g : Nat} {xs : List Int} {e : Int} (h : Src w g xs e) (hb : Below w.heap.size w w1) : Src w1 g xs e := by
  obtain ⟨A, c, hh, hr, he⟩ := h
  exact ⟨A, c, (hb.block g (Array.getElem?_eq_some_iff.1 hh).1).trans hh, hr.below hb, he⟩
theorem Src.alloc {w : World} {g : Nat} {xs : List Int} {e : Int} (h : Src w g xs e) (o : Obj) : Src (w.alloc o) g xs e := h.below (below_alloc (Below.refl _ _) o)
theorem Src.set {w : World} {g : Nat} {xs : List Int} {e : Int} (h : Src w g xs e) (b j : Nat) (v : Value) (hb : g < b) : Src (w.setCell ⟨b, j, none⟩ v) g xs e := by
  obtain ⟨A, c, hh, hr, he⟩ := h
  exact ⟨A, c, (Below.heap_setCell w ⟨b, j, none⟩ v g (by simp; omega)).trans hh, hr.keep fun k h1 h2 => Below.heap_setCell w ⟨b, j, none⟩ v k (by simp; omega), he⟩
theorem Src.lt {w : World} {g : Nat} {xs : List Int} {e : Int} (h : Src w g xs e) : g < w.heap.size := by
  obtain ⟨A, c, hh, _⟩ := h
  exact (Array.getElem?_eq_some_iff.1 hh).1
/-- The word at place k of the bytes. -/
def wv (ys : List Int) (k : Nat) : Int := ys.getD k 0 + 256 * ys.getD (k + 1) 0
/-- Word, the source standing at place k. -/
theorem word_at (g : Nat) (ys : List Int) (k : Nat) (w : World) (hs : Src w g (ys.drop k) 0) (hk : k + 2 ≤ ys.length) (hb : ∀ x ∈ ys, 0 ≤ x ∧ x ≤ 255) :
    Calls Try.prog 47 #[.pointer (some ⟨g, 0, none⟩)] w fun en w' => en = .returned (.int .u16 (wv ys k)) ∧ Src w' g (ys.drop (k + 2)) 0 ∧ w.grownBy w' (some g) := by
  have hl : 2 ≤ (ys.drop k).length := by rw [List.length_drop]; omega
  refine (word_any g (ys.drop k) 0 w hs (fun x hx => hb x (List.mem_of_mem_drop hx))).mono ?_
  rintro en w' ⟨rfl, h1, h2⟩
  refine ⟨?_, ?_, h2⟩
  · simp [wordV, wv, rd, List.getD_eq_getElem?_getD, List.getElem?_drop, hl]
    omega
  · rw [wordL, wordE, if_pos hl, if_pos hl, List.drop_drop] at h1
    exact h1
theorem u16_byte {ys : List Int} (hb : ∀ x ∈ ys, 0 ≤ x ∧ x ≤ 255) (k : Nat) : 0 ≤ ys.getD k 0 ∧ ys.getD k 0 ≤ 255 := by
  rw [List.getD_eq_getElem?_getD]
  by_cases h : k < ys.length
  · rw [List.getElem?_eq_getElem h]; exact hb _ (List.getElem_mem h)
  · rw [List.getElem?_eq_none (by omega)]; simp
end Go.Proofs.Ytfibdecfmfdikaa
set_option linter.unusedVariables false
set_option linter.unusedSimpArgs false
namespace Go.Proofs.Ytfibdecfmfdikaa
open Go.RowKit Go.Proofs.YtfibdecfmfdikaaW.PrintWords
set_option maxRecDepth 100000

theorem own_empty (W : World) (e : Nat) (base : Nat) (h : base ≤ W.heap.size) : (Kd.int .u8).R e (W.alloc (.cells #[] e (0, 0))) base (fun _ => True) (.slice (some ⟨W.heap.size, 0, none⟩) 0 0) [] :=
  Kd.R_of_own ⟨by simp [encs], .inr ⟨W.heap.size, 0, #[], rfl, h, blk_new W _, Nat.le_refl _, by simp [maxLen], by simp, by simp [encs]⟩⟩ (fun _ _ => trivial)
theorem clone_any (ad : Addr) (c : Nat) (xs : List Int) (w : World) (hr : (Kd.int .u8).C w (some ad) xs.length xs) (hl : xs.length ≤ 140737488355328) :
    Calls Try.prog 35 #[.slice (some ad) xs.length c] w fun e w' => ∃ v, e = .returned v ∧ (Kd.int .u8).R 5 w' w.heap.size (fun _ => True) v xs ∧ Below w.heap.size w w' := by
  have hq := fun W : World => Lib.run_eql_slice_nil (P := Try.prog) W 23 5 (some ad) xs.length c 0 0 Try.underlying23
  simp only [Option.isNone_some] at hq
  have H := Lib.hid hr
  clear hr
  go_enter Try.func35, Try.ntmps35
  go_wp2_with (at_builtin; go_loud (refine Kd.R_append_row (Value.int .u8) (0 : Int) (h1 := fun _ => rfl) (w0 := w) w.heap.size rfl _ _ 23 5 (.int .u8 0) 1 rfl Try.underlying23 infoB rfl (by decide) (.slice (some ⟨w.heap.size, 0, none⟩) 0 0) [] xs (some ad) _ c (fun _ => True) rfl rfl (fun _ _ => trivial) (own_empty w _ _ (Nat.le_refl _)) (Kd.C_below H.out (below_alloc (Below.refl _ _) _)) (below_alloc (Below.refl _ _) _) (by simp) (by simp; omega) ?_); intro v1 w1 hR hB hG hat; rw [List.nil_append] at hR)
  go_ret
  exact ⟨v1, rfl, hR, hB⟩
theorem clone_sl (ad : Addr) (c : Nat) (xs : List Int) (w : World) (hr : (Kd.int .u8).C w (some ad) xs.length xs) (hl : xs.length ≤ 140737488355328) :
    Calls Try.prog 35 #[.slice (some ad) xs.length c] w fun e w' => ∃ A1 c1, e = .returned (.slice A1 xs.length c1) ∧ Hid (xs.length ≤ c1 ∧ (Kd.int .u8).C w' A1 xs.length xs ∧ (Kd.int .u8).R 5 w' w.heap.size (fun _ => True) (.slice A1 xs.length c1) xs) ∧ Below w.heap.size w w' := by
  refine (clone_any ad c xs w hr hl).mono ?_
  rintro e w' ⟨v, rfl, hR, hB⟩
  obtain ⟨A1, c1, rfl, h1, h2⟩ := Kd.R_reads hR
  exact ⟨A1, c1, rfl, ⟨h1, h2, hR⟩, hB⟩
end Go.Proofs.Ytfibdecfmfdikaa
set_option linter.unusedVariables false
set_option linter.unusedSimpArgs false
namespace Go.Proofs.Ytfibdecfmfdikaa
open Go.RowKit Go.Proofs.YtfibdecfmfdikaaW.PrintWords
set_option maxRecDepth 100000

/-- How many bytes a file tells that it has; whether that can be. -/
def allOf (l pg : Int) : Int := pg * 512 + (if 0 < l then l - 512 else 0)
def okOf (l pg pa : Int) : Bool := decide (l < 512) && decide (pa * 16 ≤ allOf l pg)
set_option maxHeartbeats 2000000 in
theorem size_any (l pg rl pa mn ss sp ip cs tb : Int) (w : World) (h0 : 0 ≤ l) (h1 : l ≤ 65535) (h2 : 0 ≤ pg) (h3 : pg ≤ 65535) (h4 : 0 ≤ pa) (h5 : pa ≤ 65535) :
    Calls Try.prog 33 #[.agg #[.int .u16 l, .int .u16 pg, .int .u16 rl, .int .u16 pa, .int .u16 mn, .int .u16 ss, .int .u16 sp, .int .u16 ip, .int .u16 cs, .int .u16 tb]] w fun e w' => e = .returned (.tuple #[.int .i64 (allOf l pg), .bool (okOf l pg pa)]) ∧ Below w.heap.size w w' := by
  by_cases hl : 0 < l
  · have e1 : allOf l pg = pg * 512 + (l - 512) := by rw [allOf, if_pos hl]
    have e2 : okOf l pg pa = (decide (l < 512) && decide (pa * 16 ≤ pg * 512 + (l - 512))) := by rw [okOf, e1]
    rw [e1, e2]
    clear e1 e2
    by_cases h6 : l < 512 <;> by_cases h7 : pa * 16 ≤ pg * 512 + (l - 512)
    all_goals
      simp only [h6, h7, decide_true, decide_false, Bool.and_true, Bool.and_false, Bool.true_and, Bool.false_and]
      first | (have d6 : decide (l < 512) = true := by simp [h6]) | (have d6 : decide (l < 512) = false := by simp [h6])
      go_enter Try.func33, Try.ntmps33
      go_wp2
      go_quiet (fail)
      go_wp2
      go_ret2
      exact ⟨by first | rfl | simp [h7], pw_below_drewN ((Below.refl _ _).alloc (Nat.le_refl _) _) _⟩
  · have e1 : allOf l pg = pg * 512 := by rw [allOf, if_neg hl]; omega
    have e2 : okOf l pg pa = (decide (l < 512) && decide (pa * 16 ≤ pg * 512)) := by rw [okOf, e1]
    rw [e1, e2]
    clear e1 e2
    have h6 : l < 512 := by omega
    by_cases h7 : pa * 16 ≤ pg * 512
    all_goals
      simp only [h6, h7, decide_true, decide_false, Bool.and_true, Bool.and_false, Bool.true_and, Bool.false_and]
      first | (have d6 : decide (l < 512) = true := by simp [h6]) | (have d6 : decide (l < 512) = false := by simp [h6])
      go_enter Try.func33, Try.ntmps33
      go_wp2
      go_quiet (fail)
      go_wp2
      go_ret2
      exact ⟨by first | rfl | simp [h7], pw_below_drewN ((Below.refl _ _).alloc (Nat.le_refl _) _) _⟩
end Go.Proofs.Ytfibdecfmfdikaa
