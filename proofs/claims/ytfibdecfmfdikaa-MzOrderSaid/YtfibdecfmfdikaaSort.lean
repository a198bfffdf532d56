/- slices.Sort at whole numbers, of a row of the call's own. -/
import Derived.Test.YtfibdecfmfdikaaShelf
import Derived.Test.YtfibdecfmfdikaaWWords
import Derived.Sort.OwnSortedInts
set_option linter.unusedVariables false
set_option linter.unusedSimpArgs false
namespace Go.Proofs.Ytfibdecfmfdikaa
open Go.RowKit Go.Sort Go.Proofs.YtfibdecfmfdikaaW.PrintWords

theorem sort_any (base : Nat) (v : Value) (zs : List Int) (w : World) (hR : (Kd.int .i64).R 3 w base (fun _ => True) v zs) (hl : zs.length < 4611686018427387904) :
    Calls Try.prog 49 #[v] w fun e w' => e = .returned (.tuple #[]) ∧ (Kd.int .i64).R 3 w' base (fun _ => True) v (zs.mergeSort fun x y => decide (x ≤ y)) ∧ w.grownBy w' v.ownBlock := by
  have ho := Kd.own_of_R hR
  rcases ho.2 with ⟨rfl, hn⟩ | ⟨g, cap, cur, rfl, hbase, hb, h1, h2, h3, h4⟩
  · have hz : zs = [] := by cases zs with | nil => rfl | cons a l => simp [encs] at hn
    subst hz
    refine (Try.slices_Sort_int_none none 0 w).mono ?_
    rintro e w' ⟨rfl, rfl⟩
    exact ⟨rfl, by simpa using hR, World.grownBy.refl _ _⟩
  · refine (Try.slices_Sort_int g 0 cap zs w (holds_of_blockI hb (by simpa [encs] using h4)) (Array.getElem?_eq_some_iff.1 hb).1 hl).mono ?_
    rintro e w' ⟨rfl, n, os, rfl⟩
    refine ⟨rfl, ?_, grownBy_sortedI _⟩
    have := ownsRow_sortedI (w := w) (base := base) (g := g) (cap := cap) (n := n) (e := 3) (os := os) (cur := cur) (ss := zs) (ts := zs.mergeSort fun x y => decide (x ≤ y)) (by simp) hbase hb h1 h2 h3
    have hl : (zs.mergeSort fun x y => decide (x ≤ y)).length = zs.length := by simp
    exact Kd.R_of_own (by rw [hl]; exact this) (fun _ _ => trivial)
end Go.Proofs.Ytfibdecfmfdikaa
