/- mz.Read: its errors, and the program that it tells. -/
import Derived.Test.YtfibdecfmfdikaaMzA
import Derived.Test.YtfibdecfmfdikaaMzB
import Derived.Test.YtfibdecfmfdikaaClone
import Derived.Test.YtfibdecfmfdikaaMzS
import Derived.Test.YtfibdecfmfdikaaPWritex1
import Derived.Test.YtfibdecfmfdikaaPWritex2
set_option linter.unusedVariables false
set_option linter.unusedSimpArgs false
namespace Go.Proofs.Ytfibdecfmfdikaa
open Go.RowKit Go.Proofs.YtfibdecfmfdikaaW.PrintWords Go.Proofs.Ytfibdecfmfdikaa.PWrite
set_option maxRecDepth 100000

def imgZ : Value := .agg #[.slice none 0 0, .slice none 0 0, .int .u16 0, .int .u16 0, .int .u16 0, .int .u16 0, .int .i64 0]
def ReadErr (k : Int) (w : World) (e : Ending) (w' : World) : Prop := e = .returned (.tuple #[imgZ, .int .i64 k]) ∧ Below w.heap.size w w'

set_option maxHeartbeats 4000000 in
theorem read_first (A : Option Addr) (n c : Nat) (k : Int) (w : World) (hk : (k != 0) = true) (hf : ∀ W, Below w.heap.size w W → Calls Try.prog 32 #[.slice A n c] W fun e w' => e = .returned (.tuple #[hdrZ, .int .i64 k]) ∧ Below W.heap.size W w') :
    Calls Try.prog 15 #[.slice A n c] w fun e w' => ReadErr k w e w' := by
  unfold hdrZ at hf
  have HF := Lib.hid hf
  clear hf
  go_enter Try.func15, Try.ntmps15
  go_wp2_with fail
  refine (HF.out _ (below_alloc (Below.refl _ _) _)).mono ?_
  rintro e w1 ⟨rfl, hB⟩
  have HG : Hid (w1.heap[w.heap.size]? = some (.cells #[.slice none 0 0, .slice none 0 0, .int .u16 0, .int .u16 0, .int .u16 0, .int .u16 0, .int .i64 0] 35 (0, 0))) := blk_below (blk_new w _) hB
  have HB1 := Lib.hid ((below_alloc (Below.refl w.heap.size w) _).trans (hB.mono (by simp)))
  have hz : w.heap.size < w1.heap.size := by have := hB.size; simp at this; omega
  have d0 := (mblk_cell HG.out).1 0 _ rfl
  have f0 := (mblk_cell HG.out).2.1 0
  have d1 := (mblk_cell HG.out).1 1 _ rfl
  have f1 := (mblk_cell HG.out).2.1 1
  have d2 := (mblk_cell HG.out).1 2 _ rfl
  have f2 := (mblk_cell HG.out).2.1 2
  have d3 := (mblk_cell HG.out).1 3 _ rfl
  have f3 := (mblk_cell HG.out).2.1 3
  have d4 := (mblk_cell HG.out).1 4 _ rfl
  have f4 := (mblk_cell HG.out).2.1 4
  have d5 := (mblk_cell HG.out).1 5 _ rfl
  have f5 := (mblk_cell HG.out).2.1 5
  have d6 := (mblk_cell HG.out).1 6 _ rfl
  have f6 := (mblk_cell HG.out).2.1 6
  clear hB
  go_wp2_with fail
  clear d0 d1 d2 d3 d4 d5 d6 f0 f1 f2 f3 f4 f5 f6
  refine bodyPost_ret (results_ct rfl _ _ w.heap.size 35 #[.slice none 0 0, .slice none 0 0, .int .u16 0, .int .u16 0, .int .u16 0, .int .u16 0, .int .i64 0] (0, 0) _ rfl (blk_alloc (put7 HG.out) _) Try.underlying35 rfl (by kernel_rfl)) rfl ⟨rfl, ?_⟩
  exact below_alloc (bput7 HB1.out (Nat.le_refl _)) _

/-- What Read has of a file behind its header. -/
def HdrOf (l pg rl pa mn ss sp ip cs tb : Int) (A : Option Addr) (n c : Nat) (w : World) : Prop :=
  ∀ W, Below w.heap.size w W → Calls Try.prog 32 #[.slice A n c] W fun e w' => e = .returned (.tuple #[.agg #[.int .u16 l, .int .u16 pg, .int .u16 rl, .int .u16 pa, .int .u16 mn, .int .u16 ss, .int .u16 sp, .int .u16 ip, .int .u16 cs, .int .u16 tb], .int .i64 0]) ∧ Below W.heap.size W w'
set_option maxHeartbeats 8000000 in
theorem read_form (A : Option Addr) (n c : Nat) (l pg rl pa mn ss sp ip cs tb : Int) (w : World) (hn : n ≤ 9223372036854775807) (h0 : 0 ≤ l) (h1 : l ≤ 65535) (h2 : 0 ≤ pg) (h3 : pg ≤ 65535) (h4 : 0 ≤ pa) (h5 : pa ≤ 65535)
    (hf : HdrOf l pg rl pa mn ss sp ip cs tb A n c w) (k : Int) (hk : (k = 3 ∧ ¬ (okOf l pg pa = true ∧ 28 ≤ pa * 16)) ∨ (k = 2 ∧ okOf l pg pa = true ∧ 28 ≤ pa * 16 ∧ (n : Int) < allOf l pg)) :
    Calls Try.prog 15 #[.slice A n c] w fun e w' => ReadErr k w e w' := by
  have HF := Lib.hid hf
  have hsz := size_any l pg rl pa mn ss sp ip cs tb
  have ha0 : -33554432 ≤ allOf l pg := by unfold allOf; split <;> omega
  have ha1 : allOf l pg ≤ 67108864 := by unfold allOf; split <;> omega
  generalize allOf l pg = al at *
  generalize okOf l pg pa = ok at *
  have HK := Lib.hid hk
  have HS := Lib.hid hsz
  clear hf hsz hk
  go_enter Try.func15, Try.ntmps15
  go_wp2_with fail
  refine (HF.out _ (below_alloc (Below.refl _ _) _)).mono ?_
  rintro e w1 ⟨rfl, hB⟩
  have HG : Hid (w1.heap[w.heap.size]? = some (.cells #[.slice none 0 0, .slice none 0 0, .int .u16 0, .int .u16 0, .int .u16 0, .int .u16 0, .int .i64 0] 35 (0, 0))) := blk_below (blk_new w _) hB
  have HB1 := Lib.hid ((below_alloc (Below.refl w.heap.size w) _).trans (hB.mono (by simp)))
  have hz : w.heap.size < w1.heap.size := by have := hB.size; simp at this; omega
  clear hB
  go_wp2_with fail
  refine (HS.out _ h0 h1 h2 h3 h4 h5).mono ?_
  rintro e w2 ⟨rfl, hB⟩
  replace HG : Hid (w2.heap[w.heap.size]? = some (.cells #[.slice none 0 0, .slice none 0 0, .int .u16 0, .int .u16 0, .int .u16 0, .int .u16 0, .int .i64 0] 35 (0, 0))) := blk_below (blk_alloc HG.out _) hB
  have HH : Hid (w2.heap[w1.heap.size]? = some (.cells #[.int .u16 l, .int .u16 pg, .int .u16 rl, .int .u16 pa, .int .u16 mn, .int .u16 ss, .int .u16 sp, .int .u16 ip, .int .u16 cs, .int .u16 tb] 69 (0, 0))) := blk_below (blk_new w1 _) hB
  have HB2 := Lib.hid ((below_alloc HB1.out _).trans (hB.mono (by simp; omega)))
  have hz2 : w1.heap.size < w2.heap.size := by have := hB.size; simp at this; omega
  clear hB HB1
  have xd0 := (mblk_cell HH.out).1 0 _ rfl
  have xd1 := (mblk_cell HH.out).1 1 _ rfl
  have xd2 := (mblk_cell HH.out).1 2 _ rfl
  have xd3 := (mblk_cell HH.out).1 3 _ rfl
  have xd4 := (mblk_cell HH.out).1 4 _ rfl
  have xd5 := (mblk_cell HH.out).1 5 _ rfl
  have xd6 := (mblk_cell HH.out).1 6 _ rfl
  have xd7 := (mblk_cell HH.out).1 7 _ rfl
  have xd8 := (mblk_cell HH.out).1 8 _ rfl
  have xd9 := (mblk_cell HH.out).1 9 _ rfl
  have d0 := (mblk_cell HG.out).1 0 _ rfl
  have f0 := (mblk_cell HG.out).2.1 0
  have d1 := (mblk_cell HG.out).1 1 _ rfl
  have f1 := (mblk_cell HG.out).2.1 1
  have d2 := (mblk_cell HG.out).1 2 _ rfl
  have f2 := (mblk_cell HG.out).2.1 2
  have d3 := (mblk_cell HG.out).1 3 _ rfl
  have f3 := (mblk_cell HG.out).2.1 3
  have d4 := (mblk_cell HG.out).1 4 _ rfl
  have f4 := (mblk_cell HG.out).2.1 4
  have d5 := (mblk_cell HG.out).1 5 _ rfl
  have f5 := (mblk_cell HG.out).2.1 5
  have d6 := (mblk_cell HG.out).1 6 _ rfl
  have f6 := (mblk_cell HG.out).2.1 6
  have dok : (ok = true ∨ ok = false) := by cases ok <;> simp
  rcases HK.out with ⟨rfl, hko⟩ | ⟨rfl, rfl, hk1, hk2⟩
  · rcases dok with rfl | rfl
    · have hk3 : pa * 16 < 28 := by simp at hko; omega
      clear hko
      go_wp2_with fail
      clear d0 d1 d2 d3 d4 d5 d6 f0 f1 f2 f3 f4 f5 f6 xd0 xd1 xd2 xd3 xd4 xd5 xd6 xd7 xd8 xd9
      refine bodyPost_ret (results_ct rfl _ _ w.heap.size 35 #[.slice none 0 0, .slice none 0 0, .int .u16 0, .int .u16 0, .int .u16 0, .int .u16 0, .int .i64 0] (0, 0) _ rfl (put7 HG.out) Try.underlying35 rfl (by kernel_rfl)) rfl ⟨rfl, ?_⟩
      exact bput7 HB2.out (Nat.le_refl _)
    · clear hko
      go_wp2_with fail
      clear d0 d1 d2 d3 d4 d5 d6 f0 f1 f2 f3 f4 f5 f6 xd0 xd1 xd2 xd3 xd4 xd5 xd6 xd7 xd8 xd9
      refine bodyPost_ret (results_ct rfl _ _ w.heap.size 35 #[.slice none 0 0, .slice none 0 0, .int .u16 0, .int .u16 0, .int .u16 0, .int .u16 0, .int .i64 0] (0, 0) _ rfl (put7 HG.out) Try.underlying35 rfl (by kernel_rfl)) rfl ⟨rfl, ?_⟩
      exact bput7 HB2.out (Nat.le_refl _)
  · have hk3 : ¬ pa * 16 < 28 := by omega
    go_wp2_with fail
    clear d0 d1 d2 d3 d4 d5 d6 f0 f1 f2 f3 f4 f5 f6 xd0 xd1 xd2 xd3 xd4 xd5 xd6 xd7 xd8 xd9
    refine bodyPost_ret (results_ct rfl _ _ w.heap.size 35 #[.slice none 0 0, .slice none 0 0, .int .u16 0, .int .u16 0, .int .u16 0, .int .u16 0, .int .i64 0] (0, 0) _ rfl (put7 HG.out) Try.underlying35 rfl (by kernel_rfl)) rfl ⟨rfl, ?_⟩
    exact bput7 HB2.out (Nat.le_refl _)
end Go.Proofs.Ytfibdecfmfdikaa
