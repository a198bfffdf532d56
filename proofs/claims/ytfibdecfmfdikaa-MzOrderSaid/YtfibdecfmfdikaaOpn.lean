/- Arguments opened: a struct's or an array's cells, each with what it reads as. -/
import Derived.Test.YtfibdecfmfdikaaWWords
import Derived.Test.YtfibdecfmfdikaaWMore
import Derived.WalkKit
import Derived.ProofKit
import Derived.OpenShut
import Derived.ShutString
import Derived.ChangeOld
import Derived.Below
import Derived.SizedLaws
import Derived.Lib.SmallJoins
set_option linter.unusedVariables false
set_option linter.unusedSimpArgs false
namespace Go.Proofs.Ytfibdecfmfdikaa.Opn
open Go.ChangeShapes Go.WideShapes Go.ChangeAt Go.RowKit
open Go.Proofs.YtfibdecfmfdikaaW.PrintWords
section
variable {H : Type} {enc : TypeId × Value → H} {P : Program} {w : World} {held : Bool} {fuel : Nat} {t e : TypeId}
theorem row_cell {k : IntKind} {c : Value} {y : DataW H × List MemPlace} (ht : P.underlying t = some (.slice e)) (he : P.underlying e = some (.int k)) (hc : P.cellsOf e = 1)
    (h : DataW.trod enc P w 0 (fun _ => true) held fuel t [c] = some y) : ∃ (A : Option Addr) (l : List Int) (cap : Nat), c = .slice A l.length cap ∧ (Kd.int k).C w A l.length l ∧ l.length ≤ cap ∧ l.length ≤ maxLen ∧ ∀ x ∈ l, (Lit.int k x).wf = true := by
  have key : ∀ (a : Option Addr) (len cap : Nat) (zs : List Int), c = .slice a len cap → ((a = none ∧ len = 0 ∧ cap = 0 ∧ zs = []) ∨ ∃ x, a = some x ∧ len ≤ cap ∧ cap ≤ maxLen ∧ zs.length = cap ∧ (∀ i, i < zs.length → w.cell? (x.add i) = some (.int k (zs.getD i 0))) ∧ ∀ n ∈ zs, (Lit.int k n).wf = true) →
      ∃ (A : Option Addr) (l : List Int) (cap : Nat), c = .slice A l.length cap ∧ (Kd.int k).C w A l.length l ∧ l.length ≤ cap ∧ l.length ≤ maxLen ∧ ∀ x ∈ l, (Lit.int k x).wf = true := by
    intro a len cap zs hcc hr
    obtain ⟨l, rfl, h1, h2, h3, h4⟩ := ReadsInt.ofRowC hr
    exact ⟨a, l, cap, hcc, Kd.C_of_reads (d := (0 : Int)) (h1 := fun _ => rfl) h1, h4, h2, h3⟩
  rcases open_ints ht he hc h with ⟨hcs, _⟩ | ⟨x, l, cp, zs, hcs, _, hl, hm, hz, _, hcell, hwz⟩
  · exact key none 0 0 [] (by simpa using hcs) (.inl ⟨rfl, rfl, rfl, rfl⟩)
  · exact key (some x) l cp zs (by simpa using hcs) (.inr ⟨x, rfl, hl, hm, by simpa using hz, hcell, hwz⟩)
theorem int_cell {k : IntKind} {c : Value} {y : DataW H × List MemPlace} (ht : P.underlying t = some (.int k)) (h : DataW.trod enc P w 0 (fun _ => true) held fuel t [c] = some y) : ∃ n : Int, c = .int k n ∧ (Lit.int k n).wf = true := by
  obtain ⟨n, hc, _, hw⟩ := DataW.trod_int ht h
  exact ⟨n, by simpa using hc, hw⟩
theorem bool_cell {c : Value} {y : DataW H × List MemPlace} (ht : P.underlying t = some .bool) (h : DataW.trod enc P w 0 (fun _ => true) held fuel t [c] = some y) : ∃ b : Bool, c = .bool b := by
  obtain ⟨b, hc, _⟩ := DataW.trod_bool ht h
  exact ⟨b, by simpa using hc⟩
theorem str_cell {c : Value} {y : DataW H × List MemPlace} (ht : P.underlying t = some .string) (h : DataW.trod enc P w 0 (fun _ => true) held fuel t [c] = some y) : ∃ s : ByteArray, c = .string s ∧ s.size ≤ maxLen := by
  obtain ⟨s, hc, _, hs⟩ := DataW.trod_string ht h
  exact ⟨s, by simpa using hc, hs⟩
theorem field_of {fs : Array Field} {cs : List Value} {x : DataW H × List MemPlace} (ht : P.underlying t = some (.struct fs)) (h : DataW.trod enc P w 0 (fun _ => true) held fuel t cs = some x) :
    ∃ m, ∀ (i : Nat) (f : Field), fs[i]? = some f → ∃ y, DataW.trod enc P w 0 (fun _ => true) held m f.type ((cs.drop f.offset).take (P.cellsOf f.type)) = some y := by
  obtain ⟨xs, m, _, _, _, hlen, hF⟩ := DataW.trod_struct ht h
  refine ⟨m, fun i f hf => ?_⟩
  have hi : i < xs.length := by rw [hlen]; exact (Array.getElem?_eq_some_iff.1 hf).1
  exact ⟨xs[i], (hF i f hf).trans (List.getElem?_eq_getElem hi)⟩
theorem elem_of {n : Nat} {cs : List Value} {x : DataW H × List MemPlace} (ht : P.underlying t = some (.array n e)) (h : DataW.trod enc P w 0 (fun _ => true) held fuel t cs = some x) :
    ∃ m, ∀ (i : Nat), i < n → ∃ y, DataW.trod enc P w 0 (fun _ => true) held m e ((cs.drop (i * P.cellsOf e)).take (P.cellsOf e)) = some y := by
  obtain ⟨xs, m, _, _, _, hlen, hF⟩ := DataW.trod_array ht h
  refine ⟨m, fun i hi => ?_⟩
  have hi' : i < xs.length := by rw [hlen]; exact hi
  exact ⟨xs[i], (hF i hi).trans (List.getElem?_eq_getElem hi')⟩
theorem okWide_arr {r : Reach} {base n : Nat} {v : Value} (ht : P.underlying t = some (.array n e)) (h : Value.okWide P w r base t v) : ∃ cs, v = .agg cs ∧ cs.size = P.cellsOf t := by
  simp only [Value.okWide, ht] at h
  obtain ⟨cs, h1, h2, _⟩ := h
  exact ⟨cs, h1, h2⟩
theorem trod_same {cs cs' : List Value} {y : DataW H × List MemPlace} {t' : TypeId} (h : DataW.trod enc P w 0 (fun _ => true) held fuel t' cs = some y) (h1 : cs = cs') (h2 : t' = t) : DataW.trod enc P w 0 (fun _ => true) held fuel t cs' = some y := by
  subst h1; subst h2; exact h
end
theorem cells1 {α : Type} {cs : Array α} (h : cs.size = 1) : ∃ c0, cs = #[c0] := by
  obtain ⟨l⟩ := cs
  match l, h with
  | [c0], _ => exact ⟨c0, rfl⟩
theorem cells_more {α : Type} {cs : Array α} {n : Nat} (h : cs.size = n + 1) : ∃ (c : α) (ds : Array α), cs = #[c] ++ ds ∧ ds.size = n := by
  obtain ⟨l⟩ := cs
  match l, h with
  | c :: l, h => exact ⟨c, ⟨l⟩, by simp, by simpa using h⟩
theorem cells2 {α : Type} {cs : Array α} (h : cs.size = 2) : ∃ c0 c1, cs = #[c0, c1] := by
  obtain ⟨c0, ds, rfl, hd⟩ := cells_more h
  obtain ⟨c1, rfl⟩ := cells1 hd
  exact ⟨c0, c1, by simp⟩
theorem cells3 {α : Type} {cs : Array α} (h : cs.size = 3) : ∃ c0 c1 c2, cs = #[c0, c1, c2] := by
  obtain ⟨c0, ds, rfl, hd⟩ := cells_more h
  obtain ⟨c1, c2, rfl⟩ := cells2 hd
  exact ⟨c0, c1, c2, by simp⟩
theorem cells4 {α : Type} {cs : Array α} (h : cs.size = 4) : ∃ c0 c1 c2 c3, cs = #[c0, c1, c2, c3] := by
  obtain ⟨c0, ds, rfl, hd⟩ := cells_more h
  obtain ⟨c1, c2, c3, rfl⟩ := cells3 hd
  exact ⟨c0, c1, c2, c3, by simp⟩
theorem cells5 {α : Type} {cs : Array α} (h : cs.size = 5) : ∃ c0 c1 c2 c3 c4, cs = #[c0, c1, c2, c3, c4] := by
  obtain ⟨c0, ds, rfl, hd⟩ := cells_more h
  obtain ⟨c1, c2, c3, c4, rfl⟩ := cells4 hd
  exact ⟨c0, c1, c2, c3, c4, by simp⟩
theorem cells6 {α : Type} {cs : Array α} (h : cs.size = 6) : ∃ c0 c1 c2 c3 c4 c5, cs = #[c0, c1, c2, c3, c4, c5] := by
  obtain ⟨c0, ds, rfl, hd⟩ := cells_more h
  obtain ⟨c1, c2, c3, c4, c5, rfl⟩ := cells5 hd
  exact ⟨c0, c1, c2, c3, c4, c5, by simp⟩
theorem cells7 {α : Type} {cs : Array α} (h : cs.size = 7) : ∃ c0 c1 c2 c3 c4 c5 c6, cs = #[c0, c1, c2, c3, c4, c5, c6] := by
  obtain ⟨c0, ds, rfl, hd⟩ := cells_more h
  obtain ⟨c1, c2, c3, c4, c5, c6, rfl⟩ := cells6 hd
  exact ⟨c0, c1, c2, c3, c4, c5, c6, by simp⟩
theorem cells8 {α : Type} {cs : Array α} (h : cs.size = 8) : ∃ c0 c1 c2 c3 c4 c5 c6 c7, cs = #[c0, c1, c2, c3, c4, c5, c6, c7] := by
  obtain ⟨c0, ds, rfl, hd⟩ := cells_more h
  obtain ⟨c1, c2, c3, c4, c5, c6, c7, rfl⟩ := cells7 hd
  exact ⟨c0, c1, c2, c3, c4, c5, c6, c7, by simp⟩
theorem cells9 {α : Type} {cs : Array α} (h : cs.size = 9) : ∃ c0 c1 c2 c3 c4 c5 c6 c7 c8, cs = #[c0, c1, c2, c3, c4, c5, c6, c7, c8] := by
  obtain ⟨c0, ds, rfl, hd⟩ := cells_more h
  obtain ⟨c1, c2, c3, c4, c5, c6, c7, c8, rfl⟩ := cells8 hd
  exact ⟨c0, c1, c2, c3, c4, c5, c6, c7, c8, by simp⟩
theorem cells10 {α : Type} {cs : Array α} (h : cs.size = 10) : ∃ c0 c1 c2 c3 c4 c5 c6 c7 c8 c9, cs = #[c0, c1, c2, c3, c4, c5, c6, c7, c8, c9] := by
  obtain ⟨c0, ds, rfl, hd⟩ := cells_more h
  obtain ⟨c1, c2, c3, c4, c5, c6, c7, c8, c9, rfl⟩ := cells9 hd
  exact ⟨c0, c1, c2, c3, c4, c5, c6, c7, c8, c9, by simp⟩
end Go.Proofs.Ytfibdecfmfdikaa.Opn
