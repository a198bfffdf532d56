/- mz.Read behind its header: the places, the bytes, whether it may be. -/
import Derived.Test.YtfibdecfmfdikaaMzC
import Derived.Deep.RegionHeld3
set_option linter.unusedVariables false
set_option linter.unusedSimpArgs false
namespace Go.Proofs.Ytfibdecfmfdikaa
open Go.RowKit Go.Proofs.YtfibdecfmfdikaaW.PrintWords Go.Proofs.Ytfibdecfmfdikaa.PWrite
set_option maxRecDepth 100000

section
variable {P : Program} {t e : TypeId} (ht : P.underlying t = some (.slice e)) (hi : (P.info? e).map (fun i => i.size) = some 1)
include ht hi
theorem cut_some (ad : Addr) (c : Nat) (xs : List Int) (j k : Int) (h0 : 0 ≤ j) (h1 : j ≤ k) (h2 : k ≤ xs.length) (hc : xs.length ≤ c) :
    ∃ a' : Addr, (∀ W : World, (Instr.slice t (.slice (some ad) xs.length c) (some (.int .i64 j)) (some (.int .i64 k)) none).run P W = .ok (.slice (some a') ((xs.take k.toNat).drop j.toNat).length (c - j.toNat)) W) ∧ ∀ w g, RdB w g (some ad) c xs → RdB w g (some a') (c - j.toNat) ((xs.take k.toNat).drop j.toNat) := by
  obtain ⟨i, hi', hsz⟩ := Option.map_eq_some_iff.1 hi
  have hel : P.elem t = e := by simp [Program.elem, ht]
  have hu : P.underlying t = some (.slice (P.elem t)) := by rw [hel]; exact ht
  have hlt : (xs.take k.toNat).length = k.toNat := by rw [List.length_take]; omega
  have hl : ((xs.take k.toNat).drop j.toNat).length = k.toNat - j.toNat := by rw [List.length_drop, hlt]
  have e1 : (if c = j.toNat then some ad else (some ad).map (·.add j.toNat)) = some (if c = j.toNat then ad else ad.add j.toNat) := by split <;> rfl
  refine ⟨if c = j.toNat then ad else ad.add j.toNat, fun W => ?_, fun w g h => by rw [← e1]; exact (h.take k.toNat c (by omega) (by omega)).drop j.toNat (by omega)⟩
  rw [run_slice_lh W t (some ad) xs.length c hu .i64 .i64 j k h0 h1 (by omega), hel, hl]
  simp [sizeOf, typeInfo, hi', hsz, sliced, Result.andThen]
  split <;> rfl
end

set_option maxHeartbeats 8000000 in
/-- The places are told wrong: their error is Read's. -/
theorem read_sites (A : Option Addr) (n c : Nat) (l pg rl pa mn ss sp ip cs tb : Int) (w : World) (hn : n ≤ 9223372036854775807) (h0 : 0 ≤ l) (h1 : l ≤ 65535) (h2 : 0 ≤ pg) (h3 : pg ≤ 65535) (h4 : 0 ≤ pa) (h5 : pa ≤ 65535)
    (hf : HdrOf l pg rl pa mn ss sp ip cs tb A n c w) (hk1 : okOf l pg pa = true) (hk2 : 28 ≤ pa * 16) (hk3 : ¬ (n : Int) < allOf l pg) (k : Int) (hk : (k != 0) = true)
    (hs : ∀ W, Below w.heap.size w W → Calls Try.prog 34 #[.slice A n c, .agg #[.int .u16 l, .int .u16 pg, .int .u16 rl, .int .u16 pa, .int .u16 mn, .int .u16 ss, .int .u16 sp, .int .u16 ip, .int .u16 cs, .int .u16 tb], .int .i64 (allOf l pg - pa * 16)] W fun e w' => e = .returned (.tuple #[.slice none 0 0, .int .i64 k]) ∧ Below W.heap.size W w') :
    Calls Try.prog 15 #[.slice A n c] w fun e w' => ReadErr k w e w' := by
  have HF := Lib.hid hf
  have hsz := size_any l pg rl pa mn ss sp ip cs tb
  rw [hk1] at hsz
  have ha0 : -33554432 ≤ allOf l pg := by unfold allOf; split <;> omega
  have ha1 : allOf l pg ≤ 67108864 := by unfold allOf; split <;> omega
  generalize allOf l pg = al at *
  have HS := Lib.hid hsz
  have HQ := Lib.hid hs
  clear hf hsz hk1 hs
  go_enter Try.func15, Try.ntmps15
  go_wp2_with fail
  refine (HF.out _ (below_alloc (Below.refl _ _) _)).mono ?_
  rintro e w1 ⟨rfl, hB⟩
  have HG : Hid (w1.heap[w.heap.size]? = some (.cells #[.slice none 0 0, .slice none 0 0, .int .u16 0, .int .u16 0, .int .u16 0, .int .u16 0, .int .i64 0] 35 (0, 0))) := blk_below (blk_new w _) hB
  have HB1 := Lib.hid ((below_alloc (Below.refl w.heap.size w) _).trans (hB.mono (by simp)))
  have hz : w.heap.size < w1.heap.size := by have := hB.size; simp at this; omega
  clear hB
  go_wp2_with fail
  refine (HS.out _ h0 h1 h2 h3 h4 h5).mono ?_
  rintro e w2 ⟨rfl, hB⟩
  replace HG : Hid (w2.heap[w.heap.size]? = some (.cells #[.slice none 0 0, .slice none 0 0, .int .u16 0, .int .u16 0, .int .u16 0, .int .u16 0, .int .i64 0] 35 (0, 0))) := blk_below (blk_alloc HG.out _) hB
  have HH : Hid (w2.heap[w1.heap.size]? = some (.cells #[.int .u16 l, .int .u16 pg, .int .u16 rl, .int .u16 pa, .int .u16 mn, .int .u16 ss, .int .u16 sp, .int .u16 ip, .int .u16 cs, .int .u16 tb] 69 (0, 0))) := blk_below (blk_new w1 _) hB
  have HB2 := Lib.hid ((below_alloc HB1.out _).trans (hB.mono (by simp; omega)))
  have hz2 : w1.heap.size < w2.heap.size := by have := hB.size; simp at this; omega
  clear hB HB1
  have xd0 := (mblk_cell HH.out).1 0 _ rfl
  have xd1 := (mblk_cell HH.out).1 1 _ rfl
  have xd2 := (mblk_cell HH.out).1 2 _ rfl
  have xd3 := (mblk_cell HH.out).1 3 _ rfl
  have xd4 := (mblk_cell HH.out).1 4 _ rfl
  have xd5 := (mblk_cell HH.out).1 5 _ rfl
  have xd6 := (mblk_cell HH.out).1 6 _ rfl
  have xd7 := (mblk_cell HH.out).1 7 _ rfl
  have xd8 := (mblk_cell HH.out).1 8 _ rfl
  have xd9 := (mblk_cell HH.out).1 9 _ rfl
  have hk4 : ¬ pa * 16 < 28 := by omega
  clear hk2
  go_wp2_with fail
  refine (HQ.out _ HB2.out).mono ?_
  rintro e w3 ⟨rfl, hB⟩
  replace HG : Hid (w3.heap[w.heap.size]? = some (.cells #[.slice none 0 0, .slice none 0 0, .int .u16 0, .int .u16 0, .int .u16 0, .int .u16 0, .int .i64 0] 35 (0, 0))) := blk_below HG.out hB
  have HB3 := Lib.hid (HB2.out.trans (hB.mono (by omega)))
  clear hB HB2 HH xd0 xd1 xd2 xd3 xd4 xd5 xd6 xd7 xd8 xd9
  have d0 := (mblk_cell HG.out).1 0 _ rfl
  have f0 := (mblk_cell HG.out).2.1 0
  have d1 := (mblk_cell HG.out).1 1 _ rfl
  have f1 := (mblk_cell HG.out).2.1 1
  have d2 := (mblk_cell HG.out).1 2 _ rfl
  have f2 := (mblk_cell HG.out).2.1 2
  have d3 := (mblk_cell HG.out).1 3 _ rfl
  have f3 := (mblk_cell HG.out).2.1 3
  have d4 := (mblk_cell HG.out).1 4 _ rfl
  have f4 := (mblk_cell HG.out).2.1 4
  have d5 := (mblk_cell HG.out).1 5 _ rfl
  have f5 := (mblk_cell HG.out).2.1 5
  have d6 := (mblk_cell HG.out).1 6 _ rfl
  have f6 := (mblk_cell HG.out).2.1 6
  go_wp2_with fail
  clear d0 d1 d2 d3 d4 d5 d6 f0 f1 f2 f3 f4 f5 f6
  refine bodyPost_ret (results_ct rfl _ _ w.heap.size 35 #[.slice none 0 0, .slice none 0 0, .int .u16 0, .int .u16 0, .int .u16 0, .int .u16 0, .int .i64 0] (0, 0) _ rfl (put7 HG.out) Try.underlying35 rfl (by kernel_rfl)) rfl ⟨rfl, ?_⟩
  exact bput7 HB3.out (Nat.le_refl _)
end Go.Proofs.Ytfibdecfmfdikaa
