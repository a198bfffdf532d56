/- mz.Read: its errors, and the program that it tells. mz.Read behind its header: the places, the bytes, whether it may be. mz.Read where all is well: the program, or ErrBig. -/
import Derived.Test.YtfibdecfmfdikaaMzA
import Derived.Test.YtfibdecfmfdikaaMzB
import Derived.Test.YtfibdecfmfdikaaIdx
import Derived.Test.YtfibdecfmfdikaaPWritex1
import Derived.Test.YtfibdecfmfdikaaPWritex2
import Derived.Deep.RegionHeld3
import Derived.Deep.DeepCutAuto
set_option linter.unusedVariables false
set_option linter.unusedSimpArgs false
namespace Go.Proofs.Ytfibdecfmfdikaa
open Go.RowKit Go.Proofs.YtfibdecfmfdikaaW.PrintWords Go.Proofs.Ytfibdecfmfdikaa.PWrite
set_option maxRecDepth 100000

def imgZ : Value := .agg #[.slice none 0 0, .slice none 0 0, .int .u16 0, .int .u16 0, .int .u16 0, .int .u16 0, .int .i64 0]
def ReadErr (k : Int) (w : World) (e : Ending) (w' : World) : Prop := e = .returned (.tuple #[imgZ, .int .i64 k]) ∧ Below w.heap.size w w'

set_option maxHeartbeats 4000000 in
theorem read_first (A : Option Addr) (n c : Nat) (k : Int) (w : World) (hk : (k != 0) = true) (hf : ∀ W, Below w.heap.size w W → Calls Try.prog 32 #[.slice A n c] W fun e w' => e = .returned (.tuple #[hdrZ, .int .i64 k]) ∧ Below W.heap.size W w') :
    Calls Try.prog 15 #[.slice A n c] w fun e w' => ReadErr k w e w' := by
  unfold hdrZ at hf
  have HF := Lib.hid hf
  clear hf
  go_enter Try.func15, Try.ntmps15
  go_wp2_with fail
  refine (HF.out _ (below_alloc (Below.refl _ _) _)).mono ?_
  rintro e w1 ⟨rfl, hB⟩
  have HG : Hid (w1.heap[w.heap.size]? = some (.cells #[.slice none 0 0, .slice none 0 0, .int .u16 0, .int .u16 0, .int .u16 0, .int .u16 0, .int .i64 0] 35 (0, 0))) := blk_below (blk_new w _) hB
  have HB1 := Lib.hid ((below_alloc (Below.refl w.heap.size w) _).trans (hB.mono (by simp)))
  have hz : w.heap.size < w1.heap.size := by have := hB.size; simp at this; omega
  have d0 := (mblk_cell HG.out).1 0 _ rfl
  have f0 := (mblk_cell HG.out).2.1 0
  have d1 := (mblk_cell HG.out).1 1 _ rfl
  have f1 := (mblk_cell HG.out).2.1 1
  have d2 := (mblk_cell HG.out).1 2 _ rfl
  have f2 := (mblk_cell HG.out).2.1 2
  have d3 := (mblk_cell HG.out).1 3 _ rfl
  have f3 := (mblk_cell HG.out).2.1 3
  have d4 := (mblk_cell HG.out).1 4 _ rfl
  have f4 := (mblk_cell HG.out).2.1 4
  have d5 := (mblk_cell HG.out).1 5 _ rfl
  have f5 := (mblk_cell HG.out).2.1 5
  have d6 := (mblk_cell HG.out).1 6 _ rfl
  have f6 := (mblk_cell HG.out).2.1 6
  clear hB
  go_wp2_with fail
  clear d0 d1 d2 d3 d4 d5 d6 f0 f1 f2 f3 f4 f5 f6
  refine bodyPost_ret (results_ct rfl _ _ w.heap.size 35 #[.slice none 0 0, .slice none 0 0, .int .u16 0, .int .u16 0, .int .u16 0, .int .u16 0, .int .i64 0] (0, 0) _ rfl (blk_alloc (put7 HG.out) _) Try.underlying35 rfl (by kernel_rfl)) rfl ⟨rfl, ?_⟩
  exact below_alloc (bput7 HB1.out (Nat.le_refl _)) _

/-- What Read has of a file behind its header. -/
def HdrOf (l pg rl pa mn ss sp ip cs tb : Int) (A : Option Addr) (n c : Nat) (w : World) : Prop :=
  ∀ W, Below w.heap.size w W → Calls Try.prog 32 #[.slice A n c] W fun e w' => e = .returned (.tuple #[.agg #[.int .u16 l, .int .u16 pg, .int .u16 rl, .int .u16 pa, .int .u16 mn, .int .u16 ss, .int .u16 sp, .int .u16 ip, .int .u16 cs, .int .u16 tb], .int .i64 0]) ∧ Below W.heap.size W w'
set_option maxHeartbeats 8000000 in
theorem read_form (A : Option Addr) (n c : Nat) (l pg rl pa mn ss sp ip cs tb : Int) (w : World) (hn : n ≤ 9223372036854775807) (h0 : 0 ≤ l) (h1 : l ≤ 65535) (h2 : 0 ≤ pg) (h3 : pg ≤ 65535) (h4 : 0 ≤ pa) (h5 : pa ≤ 65535)
    (hf : HdrOf l pg rl pa mn ss sp ip cs tb A n c w) (k : Int) (hk : (k = 3 ∧ ¬ (okOf l pg pa = true ∧ 28 ≤ pa * 16)) ∨ (k = 2 ∧ okOf l pg pa = true ∧ 28 ≤ pa * 16 ∧ (n : Int) < allOf l pg)) :
    Calls Try.prog 15 #[.slice A n c] w fun e w' => ReadErr k w e w' := by
  have HF := Lib.hid hf
  have hsz := size_any l pg rl pa mn ss sp ip cs tb
  have ha0 : -33554432 ≤ allOf l pg := by unfold allOf; split <;> omega
  have ha1 : allOf l pg ≤ 67108864 := by unfold allOf; split <;> omega
  generalize allOf l pg = al at *
  generalize okOf l pg pa = ok at *
  have HK := Lib.hid hk
  have HS := Lib.hid hsz
  clear hf hsz hk
  go_enter Try.func15, Try.ntmps15
  go_wp2_with fail
  refine (HF.out _ (below_alloc (Below.refl _ _) _)).mono ?_
  rintro e w1 ⟨rfl, hB⟩
  have HG : Hid (w1.heap[w.heap.size]? = some (.cells #[.slice none 0 0, .slice none 0 0, .int .u16 0, .int .u16 0, .int .u16 0, .int .u16 0, .int .i64 0] 35 (0, 0))) := blk_below (blk_new w _) hB
  have HB1 := Lib.hid ((below_alloc (Below.refl w.heap.size w) _).trans (hB.mono (by simp)))
  have hz : w.heap.size < w1.heap.size := by have := hB.size; simp at this; omega
  clear hB
  go_wp2_with fail
  refine (HS.out _ h0 h1 h2 h3 h4 h5).mono ?_
  rintro e w2 ⟨rfl, hB⟩
  replace HG : Hid (w2.heap[w.heap.size]? = some (.cells #[.slice none 0 0, .slice none 0 0, .int .u16 0, .int .u16 0, .int .u16 0, .int .u16 0, .int .i64 0] 35 (0, 0))) := blk_below (blk_alloc HG.out _) hB
  have HH : Hid (w2.heap[w1.heap.size]? = some (.cells #[.int .u16 l, .int .u16 pg, .int .u16 rl, .int .u16 pa, .int .u16 mn, .int .u16 ss, .int .u16 sp, .int .u16 ip, .int .u16 cs, .int .u16 tb] 69 (0, 0))) := blk_below (blk_new w1 _) hB
  have HB2 := Lib.hid ((below_alloc HB1.out _).trans (hB.mono (by simp; omega)))
  have hz2 : w1.heap.size < w2.heap.size := by have := hB.size; simp at this; omega
  clear hB HB1
  have xd0 := (mblk_cell HH.out).1 0 _ rfl
  have xd1 := (mblk_cell HH.out).1 1 _ rfl
  have xd2 := (mblk_cell HH.out).1 2 _ rfl
  have xd3 := (mblk_cell HH.out).1 3 _ rfl
  have xd4 := (mblk_cell HH.out).1 4 _ rfl
  have xd5 := (mblk_cell HH.out).1 5 _ rfl
  have xd6 := (mblk_cell HH.out).1 6 _ rfl
  have xd7 := (mblk_cell HH.out).1 7 _ rfl
  have xd8 := (mblk_cell HH.out).1 8 _ rfl
  have xd9 := (mblk_cell HH.out).1 9 _ rfl
  have d0 := (mblk_cell HG.out).1 0 _ rfl
  have f0 := (mblk_cell HG.out).2.1 0
  have d1 := (mblk_cell HG.out).1 1 _ rfl
  have f1 := (mblk_cell HG.out).2.1 1
  have d2 := (mblk_cell HG.out).1 2 _ rfl
  have f2 := (mblk_cell HG.out).2.1 2
  have d3 := (mblk_cell HG.out).1 3 _ rfl
  have f3 := (mblk_cell HG.out).2.1 3
  have d4 := (mblk_cell HG.out).1 4 _ rfl
  have f4 := (mblk_cell HG.out).2.1 4
  have d5 := (mblk_cell HG.out).1 5 _ rfl
  have f5 := (mblk_cell HG.out).2.1 5
  have d6 := (mblk_cell HG.out).1 6 _ rfl
  have f6 := (mblk_cell HG.out).2.1 6
  have dok : (ok = true ∨ ok = false) := by cases ok <;> simp
  rcases HK.out with ⟨rfl, hko⟩ | ⟨rfl, rfl, hk1, hk2⟩
  · rcases dok with rfl | rfl
    · have hk3 : pa * 16 < 28 := by simp at hko; omega
      clear hko
      go_wp2_with fail
      clear d0 d1 d2 d3 d4 d5 d6 f0 f1 f2 f3 f4 f5 f6 xd0 xd1 xd2 xd3 xd4 xd5 xd6 xd7 xd8 xd9
      refine bodyPost_ret (results_ct rfl _ _ w.heap.size 35 #[.slice none 0 0, .slice none 0 0, .int .u16 0, .int .u16 0, .int .u16 0, .int .u16 0, .int .i64 0] (0, 0) _ rfl (put7 HG.out) Try.underlying35 rfl (by kernel_rfl)) rfl ⟨rfl, ?_⟩
      exact bput7 HB2.out (Nat.le_refl _)
    · clear hko
      go_wp2_with fail
      clear d0 d1 d2 d3 d4 d5 d6 f0 f1 f2 f3 f4 f5 f6 xd0 xd1 xd2 xd3 xd4 xd5 xd6 xd7 xd8 xd9
      refine bodyPost_ret (results_ct rfl _ _ w.heap.size 35 #[.slice none 0 0, .slice none 0 0, .int .u16 0, .int .u16 0, .int .u16 0, .int .u16 0, .int .i64 0] (0, 0) _ rfl (put7 HG.out) Try.underlying35 rfl (by kernel_rfl)) rfl ⟨rfl, ?_⟩
      exact bput7 HB2.out (Nat.le_refl _)
  · have hk3 : ¬ pa * 16 < 28 := by omega
    go_wp2_with fail
    clear d0 d1 d2 d3 d4 d5 d6 f0 f1 f2 f3 f4 f5 f6 xd0 xd1 xd2 xd3 xd4 xd5 xd6 xd7 xd8 xd9
    refine bodyPost_ret (results_ct rfl _ _ w.heap.size 35 #[.slice none 0 0, .slice none 0 0, .int .u16 0, .int .u16 0, .int .u16 0, .int .u16 0, .int .i64 0] (0, 0) _ rfl (put7 HG.out) Try.underlying35 rfl (by kernel_rfl)) rfl ⟨rfl, ?_⟩
    exact bput7 HB2.out (Nat.le_refl _)
end Go.Proofs.Ytfibdecfmfdikaa
set_option linter.unusedVariables false
set_option linter.unusedSimpArgs false
namespace Go.Proofs.Ytfibdecfmfdikaa
open Go.RowKit Go.Proofs.YtfibdecfmfdikaaW.PrintWords Go.Proofs.Ytfibdecfmfdikaa.PWrite
set_option maxRecDepth 100000

section
variable {P : Program} {t e : TypeId} (ht : P.underlying t = some (.slice e)) (hi : (P.info? e).map (fun i => i.size) = some 1)
include ht hi
theorem cut_some (ad : Addr) (c : Nat) (xs : List Int) (j k : Int) (h0 : 0 ≤ j) (h1 : j ≤ k) (h2 : k ≤ xs.length) (hc : xs.length ≤ c) :
    ∃ a' : Addr, (∀ W : World, (Instr.slice t (.slice (some ad) xs.length c) (some (.int .i64 j)) (some (.int .i64 k)) none).run P W = .ok (.slice (some a') ((xs.take k.toNat).drop j.toNat).length (c - j.toNat)) W) ∧ ∀ w g, RdB w g (some ad) c xs → RdB w g (some a') (c - j.toNat) ((xs.take k.toNat).drop j.toNat) := by
  obtain ⟨i, hi', hsz⟩ := Option.map_eq_some_iff.1 hi
  have hel : P.elem t = e := by simp [Program.elem, ht]
  have hu : P.underlying t = some (.slice (P.elem t)) := by rw [hel]; exact ht
  have hlt : (xs.take k.toNat).length = k.toNat := by rw [List.length_take]; omega
  have hl : ((xs.take k.toNat).drop j.toNat).length = k.toNat - j.toNat := by rw [List.length_drop, hlt]
  have e1 : (if c = j.toNat then some ad else (some ad).map (·.add j.toNat)) = some (if c = j.toNat then ad else ad.add j.toNat) := by split <;> rfl
  refine ⟨if c = j.toNat then ad else ad.add j.toNat, fun W => ?_, fun w g h => by rw [← e1]; exact (h.take k.toNat c (by omega) (by omega)).drop j.toNat (by omega)⟩
  rw [run_slice_lh W t (some ad) xs.length c hu .i64 .i64 j k h0 h1 (by omega), hel, hl]
  simp [sizeOf, typeInfo, hi', hsz, sliced, Result.andThen]
  split <;> rfl
end

set_option maxHeartbeats 8000000 in
/-- The places are told wrong: their error is Read's. -/
theorem read_sites (A : Option Addr) (n c : Nat) (l pg rl pa mn ss sp ip cs tb : Int) (w : World) (hn : n ≤ 9223372036854775807) (h0 : 0 ≤ l) (h1 : l ≤ 65535) (h2 : 0 ≤ pg) (h3 : pg ≤ 65535) (h4 : 0 ≤ pa) (h5 : pa ≤ 65535)
    (hf : HdrOf l pg rl pa mn ss sp ip cs tb A n c w) (hk1 : okOf l pg pa = true) (hk2 : 28 ≤ pa * 16) (hk3 : ¬ (n : Int) < allOf l pg) (k : Int) (hk : (k != 0) = true)
    (hs : ∀ W, Below w.heap.size w W → Calls Try.prog 34 #[.slice A n c, .agg #[.int .u16 l, .int .u16 pg, .int .u16 rl, .int .u16 pa, .int .u16 mn, .int .u16 ss, .int .u16 sp, .int .u16 ip, .int .u16 cs, .int .u16 tb], .int .i64 (allOf l pg - pa * 16)] W fun e w' => e = .returned (.tuple #[.slice none 0 0, .int .i64 k]) ∧ Below W.heap.size W w') :
    Calls Try.prog 15 #[.slice A n c] w fun e w' => ReadErr k w e w' := by
  have HF := Lib.hid hf
  have hsz := size_any l pg rl pa mn ss sp ip cs tb
  rw [hk1] at hsz
  have ha0 : -33554432 ≤ allOf l pg := by unfold allOf; split <;> omega
  have ha1 : allOf l pg ≤ 67108864 := by unfold allOf; split <;> omega
  generalize allOf l pg = al at *
  have HS := Lib.hid hsz
  have HQ := Lib.hid hs
  clear hf hsz hk1 hs
  go_enter Try.func15, Try.ntmps15
  go_wp2_with fail
  refine (HF.out _ (below_alloc (Below.refl _ _) _)).mono ?_
  rintro e w1 ⟨rfl, hB⟩
  have HG : Hid (w1.heap[w.heap.size]? = some (.cells #[.slice none 0 0, .slice none 0 0, .int .u16 0, .int .u16 0, .int .u16 0, .int .u16 0, .int .i64 0] 35 (0, 0))) := blk_below (blk_new w _) hB
  have HB1 := Lib.hid ((below_alloc (Below.refl w.heap.size w) _).trans (hB.mono (by simp)))
  have hz : w.heap.size < w1.heap.size := by have := hB.size; simp at this; omega
  clear hB
  go_wp2_with fail
  refine (HS.out _ h0 h1 h2 h3 h4 h5).mono ?_
  rintro e w2 ⟨rfl, hB⟩
  replace HG : Hid (w2.heap[w.heap.size]? = some (.cells #[.slice none 0 0, .slice none 0 0, .int .u16 0, .int .u16 0, .int .u16 0, .int .u16 0, .int .i64 0] 35 (0, 0))) := blk_below (blk_alloc HG.out _) hB
  have HH : Hid (w2.heap[w1.heap.size]? = some (.cells #[.int .u16 l, .int .u16 pg, .int .u16 rl, .int .u16 pa, .int .u16 mn, .int .u16 ss, .int .u16 sp, .int .u16 ip, .int .u16 cs, .int .u16 tb] 69 (0, 0))) := blk_below (blk_new w1 _) hB
  have HB2 := Lib.hid ((below_alloc HB1.out _).trans (hB.mono (by simp; omega)))
  have hz2 : w1.heap.size < w2.heap.size := by have := hB.size; simp at this; omega
  clear hB HB1
  have xd0 := (mblk_cell HH.out).1 0 _ rfl
  have xd1 := (mblk_cell HH.out).1 1 _ rfl
  have xd2 := (mblk_cell HH.out).1 2 _ rfl
  have xd3 := (mblk_cell HH.out).1 3 _ rfl
  have xd4 := (mblk_cell HH.out).1 4 _ rfl
  have xd5 := (mblk_cell HH.out).1 5 _ rfl
  have xd6 := (mblk_cell HH.out).1 6 _ rfl
  have xd7 := (mblk_cell HH.out).1 7 _ rfl
  have xd8 := (mblk_cell HH.out).1 8 _ rfl
  have xd9 := (mblk_cell HH.out).1 9 _ rfl
  have hk4 : ¬ pa * 16 < 28 := by omega
  clear hk2
  go_wp2_with fail
  refine (HQ.out _ HB2.out).mono ?_
  rintro e w3 ⟨rfl, hB⟩
  replace HG : Hid (w3.heap[w.heap.size]? = some (.cells #[.slice none 0 0, .slice none 0 0, .int .u16 0, .int .u16 0, .int .u16 0, .int .u16 0, .int .i64 0] 35 (0, 0))) := blk_below HG.out hB
  have HB3 := Lib.hid (HB2.out.trans (hB.mono (by omega)))
  clear hB HB2 HH xd0 xd1 xd2 xd3 xd4 xd5 xd6 xd7 xd8 xd9
  have d0 := (mblk_cell HG.out).1 0 _ rfl
  have f0 := (mblk_cell HG.out).2.1 0
  have d1 := (mblk_cell HG.out).1 1 _ rfl
  have f1 := (mblk_cell HG.out).2.1 1
  have d2 := (mblk_cell HG.out).1 2 _ rfl
  have f2 := (mblk_cell HG.out).2.1 2
  have d3 := (mblk_cell HG.out).1 3 _ rfl
  have f3 := (mblk_cell HG.out).2.1 3
  have d4 := (mblk_cell HG.out).1 4 _ rfl
  have f4 := (mblk_cell HG.out).2.1 4
  have d5 := (mblk_cell HG.out).1 5 _ rfl
  have f5 := (mblk_cell HG.out).2.1 5
  have d6 := (mblk_cell HG.out).1 6 _ rfl
  have f6 := (mblk_cell HG.out).2.1 6
  go_wp2_with fail
  clear d0 d1 d2 d3 d4 d5 d6 f0 f1 f2 f3 f4 f5 f6
  refine bodyPost_ret (results_ct rfl _ _ w.heap.size 35 #[.slice none 0 0, .slice none 0 0, .int .u16 0, .int .u16 0, .int .u16 0, .int .u16 0, .int .i64 0] (0, 0) _ rfl (put7 HG.out) Try.underlying35 rfl (by kernel_rfl)) rfl ⟨rfl, ?_⟩
  exact bput7 HB3.out (Nat.le_refl _)
end Go.Proofs.Ytfibdecfmfdikaa
set_option linter.unusedVariables false
set_option linter.unusedSimpArgs false
namespace Go.Proofs.Ytfibdecfmfdikaa
open Go.RowKit Go.Proofs.YtfibdecfmfdikaaW.PrintWords Go.Proofs.Ytfibdecfmfdikaa.PWrite
set_option maxRecDepth 100000

def ReadOk (b r : List Int) (cs ip ss sp mn : Int) (w : World) (e : Ending) (w' : World) : Prop :=
  ∃ v1 v2, e = .returned (.tuple #[.agg #[v1, v2, .int .u16 cs, .int .u16 ip, .int .u16 ss, .int .u16 sp, .int .i64 mn], .int .i64 0]) ∧ (Kd.int .u8).R 5 w' w.heap.size (fun _ => True) v1 b ∧ (Kd.int .i64).R 3 w' w.heap.size (fun _ => True) v2 r ∧ Below w.heap.size w w'

set_option maxHeartbeats 8000000 in
theorem read_last (ad : Addr) (c : Nat) (xs : List Int) (l pg rl pa mn ss sp ip cs tb : Int) (S : List Int) (w : World) (hr : (Kd.int .u8).C w (some ad) xs.length xs) (hlc : xs.length ≤ c) (hn : xs.length ≤ 140737488355328) (h0 : 0 ≤ l) (h1 : l ≤ 65535) (h2 : 0 ≤ pg) (h3 : pg ≤ 65535) (h4 : 0 ≤ pa) (h5 : pa ≤ 65535) (h6 : 0 ≤ mn) (h7 : mn ≤ 65535)
    (hf : HdrOf l pg rl pa mn ss sp ip cs tb (some ad) xs.length c w) (hk1 : okOf l pg pa = true) (hk2 : 28 ≤ pa * 16) (hk3 : allOf l pg ≤ xs.length)
    (hs : ∀ W, Below w.heap.size w W → Calls Try.prog 34 #[.slice (some ad) xs.length c, .agg #[.int .u16 l, .int .u16 pg, .int .u16 rl, .int .u16 pa, .int .u16 mn, .int .u16 ss, .int .u16 sp, .int .u16 ip, .int .u16 cs, .int .u16 tb], .int .i64 (allOf l pg - pa * 16)] W fun e w' => ∃ v, e = .returned (.tuple #[v, .int .i64 0]) ∧ (Kd.int .i64).R 3 w' W.heap.size (fun _ => True) v S ∧ Below W.heap.size W w')
    (may : Bool) (hm : ∃ k, mz_May.f k ((xs.take (allOf l pg).toNat).drop (pa * 16).toNat) S cs ip ss sp mn = some may) :
    Calls Try.prog 15 #[.slice (some ad) xs.length c] w fun e w' => (may = true → ReadOk ((xs.take (allOf l pg).toNat).drop (pa * 16).toNat) S cs ip ss sp mn w e w') ∧ (may = false → ReadErr 8 w e w') := by
  have HF := Lib.hid hf
  have hsz := size_any l pg rl pa mn ss sp ip cs tb
  have hk5 : pa * 16 ≤ allOf l pg := by have := hk1; simp [okOf] at this; exact this.2
  rw [hk1] at hsz
  have ha1 : allOf l pg ≤ 67108864 := by unfold allOf; split <;> omega
  obtain ⟨a', hcut, hyf⟩ := cut_some Try.underlying23 infoU8 ad c xs (pa * 16) (allOf l pg) (by omega) hk5 hk3 hlc
  have hlt : 0 < xs.length := by omega
  have hys := hyf w w.heap.size (RdB.of_C hr hlc hlt)
  generalize hB0 : (xs.take (allOf l pg).toNat).drop (pa * 16).toNat = bs at *
  have hbl : bs.length ≤ 140737488355328 := by rw [← hB0, List.length_drop, List.length_take]; omega
  clear hB0 hyf
  generalize allOf l pg = al at *
  generalize hce : c - (pa * 16).toNat = c' at *
  have HS := Lib.hid hsz
  have HQ := Lib.hid hs
  have HY := Lib.hid hys
  have HM := Lib.hid hm
  have HR := Lib.hid hr
  clear hf hsz hk1 hs hys hm hr hce
  go_enter Try.func15, Try.ntmps15
  go_wp2_with fail
  refine (HF.out _ (below_alloc (Below.refl _ _) _)).mono ?_
  rintro e w1 ⟨rfl, hB⟩
  have HG : Hid (w1.heap[w.heap.size]? = some (.cells #[.slice none 0 0, .slice none 0 0, .int .u16 0, .int .u16 0, .int .u16 0, .int .u16 0, .int .i64 0] 35 (0, 0))) := blk_below (blk_new w _) hB
  have HB1 := Lib.hid ((below_alloc (Below.refl w.heap.size w) _).trans (hB.mono (by simp)))
  have hz : w.heap.size < w1.heap.size := by have := hB.size; simp at this; omega
  clear hB
  go_wp2_with fail
  refine (HS.out _ h0 h1 h2 h3 h4 h5).mono ?_
  rintro e w2 ⟨rfl, hB⟩
  replace HG : Hid (w2.heap[w.heap.size]? = some (.cells #[.slice none 0 0, .slice none 0 0, .int .u16 0, .int .u16 0, .int .u16 0, .int .u16 0, .int .i64 0] 35 (0, 0))) := blk_below (blk_alloc HG.out _) hB
  have HH : Hid (w2.heap[w1.heap.size]? = some (.cells #[.int .u16 l, .int .u16 pg, .int .u16 rl, .int .u16 pa, .int .u16 mn, .int .u16 ss, .int .u16 sp, .int .u16 ip, .int .u16 cs, .int .u16 tb] 69 (0, 0))) := blk_below (blk_new w1 _) hB
  have HB2 := Lib.hid ((below_alloc HB1.out _).trans (hB.mono (by simp; omega)))
  have hz2 : w1.heap.size < w2.heap.size := by have := hB.size; simp at this; omega
  clear hB HB1
  have xd0 := (mblk_cell HH.out).1 0 _ rfl
  have xd1 := (mblk_cell HH.out).1 1 _ rfl
  have xd2 := (mblk_cell HH.out).1 2 _ rfl
  have xd3 := (mblk_cell HH.out).1 3 _ rfl
  have xd4 := (mblk_cell HH.out).1 4 _ rfl
  have xd5 := (mblk_cell HH.out).1 5 _ rfl
  have xd6 := (mblk_cell HH.out).1 6 _ rfl
  have xd7 := (mblk_cell HH.out).1 7 _ rfl
  have xd8 := (mblk_cell HH.out).1 8 _ rfl
  have xd9 := (mblk_cell HH.out).1 9 _ rfl
  have hk4 : ¬ pa * 16 < 28 := by omega
  have hk6 : ¬ (xs.length : Int) < al := by omega
  clear hk2
  go_wp2_with fail
  refine (HQ.out _ HB2.out).mono ?_
  rintro e w3 ⟨v2, rfl, hR2, hB⟩
  replace HG : Hid (w3.heap[w.heap.size]? = some (.cells #[.slice none 0 0, .slice none 0 0, .int .u16 0, .int .u16 0, .int .u16 0, .int .u16 0, .int .i64 0] 35 (0, 0))) := blk_below HG.out hB
  replace HH : Hid (w3.heap[w1.heap.size]? = some (.cells #[.int .u16 l, .int .u16 pg, .int .u16 rl, .int .u16 pa, .int .u16 mn, .int .u16 ss, .int .u16 sp, .int .u16 ip, .int .u16 cs, .int .u16 tb] 69 (0, 0))) := blk_below HH.out hB
  have HB3 := Lib.hid (HB2.out.trans (hB.mono (by omega)))
  have hz3 : w1.heap.size < w3.heap.size := Nat.lt_of_lt_of_le hz2 hB.size
  obtain ⟨A2, c2, rfl, hl2, hC2⟩ := Kd.R_reads hR2
  have HR2 := Lib.hid hR2
  have HL2 := Lib.hid hl2
  have HC2 := Lib.hid hC2
  clear hl2 hC2
  clear hB HB2 hR2 xd0 xd1 xd2 xd3 xd4 xd5 xd6 xd7 xd8 xd9
  have xd0 := (mblk_cell HH.out).1 0 _ rfl
  have xd1 := (mblk_cell HH.out).1 1 _ rfl
  have xd2 := (mblk_cell HH.out).1 2 _ rfl
  have xd3 := (mblk_cell HH.out).1 3 _ rfl
  have xd4 := (mblk_cell HH.out).1 4 _ rfl
  have xd5 := (mblk_cell HH.out).1 5 _ rfl
  have xd6 := (mblk_cell HH.out).1 6 _ rfl
  have xd7 := (mblk_cell HH.out).1 7 _ rfl
  have xd8 := (mblk_cell HH.out).1 8 _ rfl
  have xd9 := (mblk_cell HH.out).1 9 _ rfl
  have HC3 := Lib.hid (Kd.C_below HY.out.2.2 HB3.out)
  have n1 : ¬ w1.heap.size = w3.heap.size := by omega
  have n2 : ¬ w3.heap.size = w1.heap.size := by omega
  go_upto_region 13 with (fail)
  go_cut [10] (fun v10 wx => ∃ xb A1 c1, v10 = .pointer (some ⟨xb, 0, none⟩) ∧ Hid (wx.heap[xb]? = some (.cells #[.slice A1 bs.length c1, .slice A2 S.length c2, .int .u16 cs, .int .u16 ip, .int .u16 ss, .int .u16 sp, .int .i64 mn] 35 (0, 0))) ∧ Hid ((Kd.int .u8).R 5 wx w3.heap.size (fun _ => True) (.slice A1 bs.length c1) bs) ∧ Hid (Below w3.heap.size w3 wx ∧ w3.heap.size ≤ xb))
  case first =>
    go_region_held3 (fun w' => w'.cell? ⟨w1.heap.size, 4, none⟩ = some (.int .u16 mn) ∧ w'.cell? ⟨w1.heap.size, 5, none⟩ = some (.int .u16 ss) ∧ w'.cell? ⟨w1.heap.size, 6, none⟩ = some (.int .u16 sp) ∧ w'.cell? ⟨w1.heap.size, 7, none⟩ = some (.int .u16 ip) ∧ w'.cell? ⟨w1.heap.size, 8, none⟩ = some (.int .u16 cs)) (go_keep)
      (first | (go_at_call 35; refine (clone_sl a' c' bs _ ?_ hbl).mono ?_; exact Kd.C_below HC3.out (below_drew (below_alloc (Below.refl _ _) _)); rintro e w4 ⟨A1, c1, rfl, HV1, hB⟩; have hh := blk_below (blk_drew (blk_alloc HH.out _)) hB; have k4 := (mblk_cell hh).1 4 _ rfl; have k5 := (mblk_cell hh).1 5 _ rfl; have k6 := (mblk_cell hh).1 6 _ rfl; have k7 := (mblk_cell hh).1 7 _ rfl; have k8 := (mblk_cell hh).1 8 _ rfl; have hx := blk_below (blk_drew (blk_new w3 _)) hB; have y0 := (mblk_cell hx).1 0 _ rfl; have z0 := (mblk_cell hx).2.1 0; have y1 := (mblk_cell hx).1 1 _ rfl; have z1 := (mblk_cell hx).2.1 1; have y2 := (mblk_cell hx).1 2 _ rfl; have z2 := (mblk_cell hx).2.1 2; have y3 := (mblk_cell hx).1 3 _ rfl; have z3 := (mblk_cell hx).2.1 3; have y4 := (mblk_cell hx).1 4 _ rfl; have z4 := (mblk_cell hx).2.1 4; have y5 := (mblk_cell hx).1 5 _ rfl; have z5 := (mblk_cell hx).2.1 5; have y6 := (mblk_cell hx).1 6 _ rfl; have z6 := (mblk_cell hx).2.1 6; have HX := Lib.hid hx; clear hx; have HB := Lib.hid hB; clear hB hh) | (go_at_call 35; refine (clone_sl a' c' bs _ ?_ hbl).mono ?_; exact Kd.C_below HC3.out (below_drew (Below.refl _ _)); rintro e w4 ⟨A1, c1, rfl, HV1, hB⟩; have hh := blk_below (blk_drew HH.out) hB; have k4 := (mblk_cell hh).1 4 _ rfl; have k5 := (mblk_cell hh).1 5 _ rfl; have k6 := (mblk_cell hh).1 6 _ rfl; have k7 := (mblk_cell hh).1 7 _ rfl; have k8 := (mblk_cell hh).1 8 _ rfl; have n3 : ¬ w1.heap.size = w4.heap.size := Nat.ne_of_lt (Nat.lt_of_lt_of_le hz3 hB.size); have n4 : ¬ w4.heap.size = w1.heap.size := fun h => n3 h.symm; have hz4 := Nat.lt_of_lt_of_le hz3 hB.size; have HB := Lib.hid hB; clear hB hh))
    all_goals (go_wp2_with fail; go_meet)
    all_goals rw [show IntKind.i64.wrap mn = mn from IntWalk.i64_in _ (by omega)]
    · exact ⟨w4.heap.size, A1, c1, rfl, blk_new w4 _, Kd.R_below HV1.out.2.2 (below_alloc (Below.refl _ _) _), below_alloc ((below_drew (Below.refl _ _)).trans HB.out) _, HB.out.size⟩
    · have hb := (below_drew (below_alloc (Below.refl w3.heap.size w3) (.cells #[.slice none 0 0, .slice none 0 0, .int .u16 0, .int .u16 0, .int .u16 0, .int .u16 0, .int .i64 0] 35 (0, 0)))).trans (HB.out.mono (by simp))
      exact ⟨w3.heap.size, A1, c1, rfl, put7 HX.out, Kd.R_lower (R_else HV1.out.2.2 (by simp) (fun k hk => oput7 hk)) (by simp), bput7 hb (Nat.le_refl _), Nat.le_refl _⟩
  case rest =>
    obtain ⟨xb, A1, c1, rfl, HX, HV1, HB⟩ := hcut
    clear n1 n2 xd0 xd1 xd2 xd3 xd4 xd5 xd6 xd7 xd8 xd9
    replace HG : Hid (wc.heap[w.heap.size]? = some (Obj.cells #[.slice none 0 0, .slice none 0 0, .int .u16 0, .int .u16 0, .int .u16 0, .int .u16 0, .int .i64 0] 35 (0, 0))) := (HB.out.1.block _ (by omega)).trans HG.out
    have HB4 := Lib.hid (HB3.out.trans (HB.out.1.mono (by omega)))
    have x0 := (mblk_cell HX.out).1 0 _ rfl
    have x1 := (mblk_cell HX.out).1 1 _ rfl
    have x2 := (mblk_cell HX.out).1 2 _ rfl
    have x3 := (mblk_cell HX.out).1 3 _ rfl
    have x4 := (mblk_cell HX.out).1 4 _ rfl
    have x5 := (mblk_cell HX.out).1 5 _ rfl
    have x6 := (mblk_cell HX.out).1 6 _ rfl
    go_wp2_with fail
    obtain ⟨km, hkm⟩ := HM.out
    have hcl : bs.length ≤ c1 ∧ (Kd.int .u8).C wc A1 bs.length bs := by
      obtain ⟨A9, c9, he, hl, hC⟩ := Kd.R_reads HV1.out
      injection he with e1 e2 e3
      subst e1 e3
      exact ⟨hl, hC⟩
    refine (mz_May.calls km A1 c1 bs A2 c2 S cs ip ss sp mn may _ hcl.2 hcl.1 (Kd.C_below HC2.out HB.out.1) HL2.out hkm).mono ?_
    rintro e w5 ⟨rfl, hB⟩
    have HX5 := Lib.hid (blk_below HX.out hB)
    have HG5 := Lib.hid (blk_below HG.out hB)
    have HB5 := Lib.hid (HB4.out.trans (hB.mono HB4.out.size))
    have HV5 := Lib.hid (Kd.R_below HV1.out hB)
    have HR5 := Lib.hid (Kd.R_below (Kd.R_below HR2.out HB.out.1) hB)
    have hlx : w.heap.size < xb := by have := HB.out.2; omega
    have nx1 : ¬ w.heap.size = xb := by omega
    have nx2 : ¬ xb = w.heap.size := by omega
    have hwr : w.heap.size < w2.heap.size ∧ w.heap.size < w3.heap.size := by omega
    clear hB hcl hkm HM HX HG HB4 HV1 HR2 HC2 HC3 HB x0 x1 x2 x3 x4 x5 x6
    have x0 := (mblk_cell HX5.out).1 0 _ rfl
    have d0 := (mblk_cell HG5.out).1 0 _ rfl
    have f0 := (mblk_cell HG5.out).2.1 0
    have x1 := (mblk_cell HX5.out).1 1 _ rfl
    have d1 := (mblk_cell HG5.out).1 1 _ rfl
    have f1 := (mblk_cell HG5.out).2.1 1
    have x2 := (mblk_cell HX5.out).1 2 _ rfl
    have d2 := (mblk_cell HG5.out).1 2 _ rfl
    have f2 := (mblk_cell HG5.out).2.1 2
    have x3 := (mblk_cell HX5.out).1 3 _ rfl
    have d3 := (mblk_cell HG5.out).1 3 _ rfl
    have f3 := (mblk_cell HG5.out).2.1 3
    have x4 := (mblk_cell HX5.out).1 4 _ rfl
    have d4 := (mblk_cell HG5.out).1 4 _ rfl
    have f4 := (mblk_cell HG5.out).2.1 4
    have x5 := (mblk_cell HX5.out).1 5 _ rfl
    have d5 := (mblk_cell HG5.out).1 5 _ rfl
    have f5 := (mblk_cell HG5.out).2.1 5
    have x6 := (mblk_cell HX5.out).1 6 _ rfl
    have d6 := (mblk_cell HG5.out).1 6 _ rfl
    have f6 := (mblk_cell HG5.out).2.1 6
    cases may with
    | false =>
      go_wp2_with fail
      clear x0 x1 x2 x3 x4 x5 x6 d0 d1 d2 d3 d4 d5 d6 f0 f1 f2 f3 f4 f5 f6
      refine bodyPost_ret (results_ct rfl _ _ w.heap.size 35 #[.slice none 0 0, .slice none 0 0, .int .u16 0, .int .u16 0, .int .u16 0, .int .u16 0, .int .i64 0] (0, 0) _ rfl (put7 HG5.out) Try.underlying35 rfl (by kernel_rfl)) rfl ⟨rfl, ?_⟩
      exact bput7 HB5.out (Nat.le_refl _)
    | true =>
      go_wp2_with fail
      clear x0 x1 x2 x3 x4 x5 x6 d0 d1 d2 d3 d4 d5 d6 f0 f1 f2 f3 f4 f5 f6
      refine bodyPost_ret (results_ct rfl _ _ w.heap.size 35 #[.slice A1 bs.length c1, .slice A2 S.length c2, .int .u16 cs, .int .u16 ip, .int .u16 ss, .int .u16 sp, .int .i64 mn] (0, 0) _ rfl (put7 HG5.out) Try.underlying35 rfl (by kernel_rfl)) rfl ⟨.slice A1 bs.length c1, .slice A2 S.length c2, rfl, ?_, ?_, ?_⟩
      · exact Kd.R_lower (R_else HV5.out hwr.2 (fun k hk => oput7 hk)) (by omega)
      · exact Kd.R_lower (R_else HR5.out hwr.1 (fun k hk => oput7 hk)) (by omega)
      · exact bput7 HB5.out (Nat.le_refl _)
end Go.Proofs.Ytfibdecfmfdikaa
