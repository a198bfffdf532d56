/- Plain lemmas: strings and their bytes; masks; rounds. -/
import Derived.Test.YtfibdecfmfdikaaWWords
import Derived.Test.YtfibdecfmfdikaaWMore
import Derived.Laws.BitsAllLaws
set_option linter.unusedVariables false
set_option linter.unusedSimpArgs false
namespace Go.Proofs.Ytfibdecfmfdikaa.Str
open Go.RowKit Go.Proofs.YtfibdecfmfdikaaW.PrintWords Go.Proofs.YtfibdecfmfdikaaW.PrintMore

def isBytes (l : List Int) : Prop := ∀ x ∈ l, 0 ≤ x ∧ x ≤ 255
theorem isBytes.append {a b : List Int} (ha : isBytes a) (hb : isBytes b) : isBytes (a ++ b) := fun x hx => by
  rcases List.mem_append.1 hx with h | h
  · exact ha x h
  · exact hb x h
theorem isBytes.take {a : List Int} (ha : isBytes a) (n : Nat) : isBytes (a.take n) := fun x hx => ha x (List.mem_of_mem_take hx)
theorem isBytes.drop {a : List Int} (ha : isBytes a) (n : Nat) : isBytes (a.drop n) := fun x hx => ha x (List.mem_of_mem_drop hx)
theorem isBytes.nil : isBytes [] := fun x hx => by simp at hx
theorem isBytes.cons {x : Int} {l : List Int} (h : 0 ≤ x ∧ x ≤ 255) (hl : isBytes l) : isBytes (x :: l) := fun y hy => by
  rcases List.mem_cons.1 hy with rfl | h'
  · exact h
  · exact hl y h'
theorem str_append (a b : List Int) : strOfNums a ++ strOfNums b = strOfNums (a ++ b) := by
  simp [strOfNums, ByteArray.ext_iff]
theorem str_bytes (s : ByteArray) : strOfNums (bytesOf s) = s := by
  simp [strOfNums, bytesOf, ByteArray.ext_iff, Function.comp_def]
theorem bytes_str (l : List Int) (h : isBytes l) : bytesOf (strOfNums l) = l := by
  simp only [strOfNums, bytesOf, List.map_map]
  refine (List.map_congr_left fun x hx => ?_).trans (List.map_id l)
  have := h x hx
  simp
  omega
theorem bytes_append (s t : ByteArray) : bytesOf (s ++ t) = bytesOf s ++ bytesOf t := by simp [bytesOf]
theorem bytes_range (s : ByteArray) : isBytes (bytesOf s) := fun x hx => by
  simp only [bytesOf, List.mem_map] at hx
  obtain ⟨b, _, rfl⟩ := hx
  have := b.toNat_lt
  omega
theorem str_size (l : List Int) : (strOfNums l).size = l.length := strOfNums_size l
theorem str_extract (l : List Int) (n : Nat) : (strOfNums l).extract 0 n = strOfNums (l.take n) := by
  simp [strOfNums, ByteArray.ext_iff, List.map_take]
theorem str_nil : (⟨#[]⟩ : ByteArray) = strOfNums [] := rfl
theorem of_str (s : ByteArray) : ∃ l, isBytes l ∧ s = strOfNums l := ⟨bytesOf s, bytes_range s, (str_bytes s).symm⟩
theorem str_inj {a b : List Int} (ha : isBytes a) (hb : isBytes b) (h : strOfNums a = strOfNums b) : a = b := by
  rw [← bytes_str a ha, ← bytes_str b hb, h]

theorem mask64 (x : Int) (j : Nat) (hj : j ≤ 62) : Go.bits .and .i64 x ((2 ^ j - 1 : Nat) : Int) = x % ((2 ^ j : Nat) : Int) := by
  have hp : 2 ^ j ≤ 2 ^ 62 := Nat.pow_le_pow_right (by omega) hj
  have hp0 : 0 < 2 ^ j := Nat.pow_pos (by omega)
  simp only [Go.bits]
  have e : (BitVec.ofInt IntKind.i64.bits x &&& BitVec.ofInt IntKind.i64.bits ((2 ^ j - 1 : Nat) : Int)).toNat = (x % ((2 ^ j : Nat) : Int)).toNat := by
    show (BitVec.ofInt 64 x &&& BitVec.ofInt 64 ((2 ^ j - 1 : Nat) : Int)).toNat = _
    rw [BitVec.ofInt_natCast, BitVec.toNat_and, BitVec.toNat_ofNat, Nat.mod_eq_of_lt (show 2 ^ j - 1 < 2 ^ 64 by omega), Nat.and_two_pow_sub_one_eq_mod, BitVec.toNat_ofInt]
    have hd : ((2 ^ j : Nat) : Int) ∣ ((2 ^ 64 : Nat) : Int) := by
      have : 2 ^ j ∣ 2 ^ 64 := Nat.pow_dvd_pow 2 (by omega)
      exact Int.natCast_dvd_natCast.2 this
    have h1 : x % ((2 ^ 64 : Nat) : Int) % ((2 ^ j : Nat) : Int) = x % ((2 ^ j : Nat) : Int) := Int.emod_emod_of_dvd x hd
    have h0 : 0 ≤ x % ((2 ^ 64 : Nat) : Int) := Int.emod_nonneg _ (by omega)
    rw [← h1]
    obtain ⟨m, hm⟩ := Int.eq_ofNat_of_zero_le h0
    rw [hm]
    rfl
  rw [e]
  have h0 : 0 ≤ x % ((2 ^ j : Nat) : Int) := Int.emod_nonneg _ (by omega)
  have h1 : x % ((2 ^ j : Nat) : Int) < ((2 ^ j : Nat) : Int) := Int.emod_lt_of_pos _ (by omega)
  rw [Int.toNat_of_nonneg h0]
  exact IntWalk.i64_in _ (by omega)
theorem and63 (x : Int) : Go.bits .and .i64 x 63 = x % 64 := mask64 x 6 (by decide)
theorem and255 (x : Int) : Go.bits .and .i64 x 255 = x % 256 := mask64 x 8 (by decide)
theorem and15 (x : Int) : Go.bits .and .i64 x 15 = x % 16 := mask64 x 4 (by decide)
theorem and7 (x : Int) : Go.bits .and .i64 x 7 = x % 8 := mask64 x 3 (by decide)
theorem and3 (x : Int) : Go.bits .and .i64 x 3 = x % 4 := mask64 x 2 (by decide)
theorem and1 (x : Int) : Go.bits .and .i64 x 1 = x % 2 := mask64 x 1 (by decide)

theorem Ev.up {α : Type} {g : Nat → Option α} {r : α} (h : Ev (fun k => g (k + 1)) r) : Ev g r := Ev.step (f := fun k => g (k + 1)) (fun _ => rfl) h
/-- A test that is known, ahead of what ends. -/
theorem Ev.yes {α : Type} {c : Prop} [Decidable c] {g f : Nat → Option α} {r : α} (h : c) (k : Ev g r) : Ev (fun n => if c then g n else f n) r := Ev.congr (fun n => if_pos h) k
theorem Ev.no {α : Type} {c : Prop} [Decidable c] {g f : Nat → Option α} {r : α} (h : ¬ c) (k : Ev f r) : Ev (fun n => if c then g n else f n) r := Ev.congr (fun n => if_neg h) k
theorem Ev.let {α β : Type} {a : α} {f : Nat → α → Option β} {r : β} (k : Ev (fun n => f n a) r) : Ev (fun n => (some a).bind (f n)) r := k
theorem Ev.use {α β : Type} {o : Option α} {a : α} {f : Nat → α → Option β} {r : β} (h : o = some a) (k : Ev (fun n => f n a) r) : Ev (fun n => o.bind (f n)) r := by subst h; exact k
theorem wrap_id {x : Int} (h0 : -9223372036854775808 ≤ x) (h1 : x ≤ 9223372036854775807) : wrap64 x = x := by unfold wrap64; omega
theorem u64_id {x : Int} (h0 : 0 ≤ x) (h1 : x ≤ 9223372036854775807) : IntKind.u64.wrap x = x := by rw [IntKind.wrap_u64]; omega
end Go.Proofs.Ytfibdecfmfdikaa.Str
