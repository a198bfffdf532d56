/- Contracts of package mz' inner functions that the print does not take: first, sites, Read. -/
import Derived.Test.YtfibdecfmfdikaaIdx
import Derived.Test.YtfibdecfmfdikaaPut
set_option linter.unusedVariables false
set_option linter.unusedSimpArgs false
namespace Go.Proofs.Ytfibdecfmfdikaa
open Go.RowKit Go.Proofs.YtfibdecfmfdikaaW.PrintWords
set_option maxRecDepth 100000

/-- Word i of a file. -/
def hw (xs : List Int) (i : Nat) : Int := wv xs (2 * i)
def hdrV (xs : List Int) : Value := .agg #[.int .u16 (hw xs 1), .int .u16 (hw xs 2), .int .u16 (hw xs 3), .int .u16 (hw xs 4), .int .u16 (hw xs 5), .int .u16 (hw xs 7), .int .u16 (hw xs 8), .int .u16 (hw xs 10), .int .u16 (hw xs 11), .int .u16 (hw xs 12)]
def hdrZ : Value := .agg #[.int .u16 0, .int .u16 0, .int .u16 0, .int .u16 0, .int .u16 0, .int .u16 0, .int .u16 0, .int .u16 0, .int .u16 0, .int .u16 0]

set_option maxHeartbeats 4000000 in
theorem first_short (A : Option Addr) (c : Nat) (xs : List Int) (w : World) (h : xs.length < 28) :
    Calls Try.prog 32 #[.slice A xs.length c] w fun e w' => e = .returned (.tuple #[hdrZ, .int .i64 2]) ∧ Below w.heap.size w w' := by
  generalize xs.length = n at *
  go_enter Try.func32, Try.ntmps32
  go_wp2_with fail
  exact bodyPost_ret (v := .tuple #[hdrZ, .int .i64 2]) (by simp [results, Try.results32, go_sem, hdrZ]) rfl ⟨rfl, (Below.refl _ _).alloc (Nat.le_refl _) _⟩
set_option maxHeartbeats 4000000 in
theorem first_magic (A : Option Addr) (c : Nat) (xs : List Int) (w : World) (hr : (Kd.int .u8).C w A xs.length xs) (h : 28 ≤ xs.length) (hm : ¬ (xs.getD 0 0 = 77 ∧ xs.getD 1 0 = 90)) :
    Calls Try.prog 32 #[.slice A xs.length c] w fun e w' => e = .returned (.tuple #[hdrZ, .int .i64 440]) ∧ Below w.heap.size w w' := by
  obtain ⟨ad, rfl, hc⟩ := (Kd.reads_of_C (d := (0 : Int)) (h1 := fun _ => rfl) hr).2.2 (by omega)
  have c0 : w.cell? ad = some (.int .u8 (xs.getD 0 0)) := by simpa [Addr.add] using hc 0 (by omega)
  have c1 : w.cell? ⟨ad.block, ad.off + 1, none⟩ = some (.int .u8 (xs.getD 1 0)) := by simpa [Addr.add] using hc 1 (by omega)
  have hlt := World.block_lt_of_cell? w ad c0
  obtain ⟨bk, off, sp⟩ := ad
  dsimp only at c1 hlt
  generalize xs.length = n at *
  generalize xs.getD 0 0 = x0 at *
  generalize xs.getD 1 0 = x1 at *
  clear hr hc
  by_cases h0 : x0 = 77
  · have h1 : (x1 != 90) = true := by simp; omega
    subst h0
    clear hm
    go_enter Try.func32, Try.ntmps32
    go_wp2_with fail
    exact bodyPost_ret (v := .tuple #[hdrZ, .int .i64 440]) (by simp [results, Try.results32, go_sem, hdrZ]) rfl ⟨rfl, (Below.refl _ _).alloc (Nat.le_refl _) _⟩
  · have h1 : (x0 != 77) = true := by simp; omega
    clear hm h0
    go_enter Try.func32, Try.ntmps32
    go_wp2_with fail
    exact bodyPost_ret (v := .tuple #[hdrZ, .int .i64 440]) (by simp [results, Try.results32, go_sem, hdrZ]) rfl ⟨rfl, (Below.refl _ _).alloc (Nat.le_refl _) _⟩

theorem wv_mid (xs : List Int) (h : 28 ≤ xs.length) (k : Nat) (hk : k + 4 ≤ 28) : wv ((xs.take 28).drop 2) k = wv xs (k + 2) := by
  have h1 : 2 + k < 28 := by omega
  have h2 : 2 + (k + 1) < 28 := by omega
  simp only [wv, List.getD_eq_getElem?_getD, List.getElem?_drop, List.getElem?_take, if_pos h1, if_pos h2]
  rw [Nat.add_comm 2 k, show 2 + (k + 1) = k + 2 + 1 by omega]
set_option maxHeartbeats 8000000 in
theorem first_ok (A : Option Addr) (c : Nat) (xs : List Int) (w : World) (hr : (Kd.int .u8).C w A xs.length xs) (hlc : xs.length ≤ c) (h : 28 ≤ xs.length) (hb : ∀ x ∈ xs, 0 ≤ x ∧ x ≤ 255) (h0 : xs.getD 0 0 = 77) (h1 : xs.getD 1 0 = 90) :
    Calls Try.prog 32 #[.slice A xs.length c] w fun e w' => e = .returned (.tuple #[hdrV xs, .int .i64 0]) ∧ Below w.heap.size w w' := by
  obtain ⟨ad, rfl, hc⟩ := (Kd.reads_of_C (d := (0 : Int)) (h1 := fun _ => rfl) hr).2.2 (by omega)
  have c0 : w.cell? ad = some (.int .u8 77) := by rw [← h0]; simpa [Addr.add] using hc 0 (by omega)
  have c1 : w.cell? ⟨ad.block, ad.off + 1, none⟩ = some (.int .u8 90) := by rw [← h1]; simpa [Addr.add] using hc 1 (by omega)
  have hlt := World.block_lt_of_cell? w ad c0
  have hrd : RdB w w.heap.size (some ad) c xs := ⟨hlc, fun a ha => by injection ha with ha; subst ha; exact hlt, hr⟩
  obtain ⟨A', hcut, hyf⟩ := mcut_mid Try.underlying23 infoU8 (some ad) c xs 2 28 (by omega) (by omega) (by omega) hlc
  have hys := hyf w w.heap.size hrd
  clear hyf
  have e1 : hw xs 1 = wv ((xs.take 28).drop 2) 0 := (wv_mid xs h 0 (by omega)).symm
  have e2 : hw xs 2 = wv ((xs.take 28).drop 2) 2 := (wv_mid xs h 2 (by omega)).symm
  have e3 : hw xs 3 = wv ((xs.take 28).drop 2) 4 := (wv_mid xs h 4 (by omega)).symm
  have e4 : hw xs 4 = wv ((xs.take 28).drop 2) 6 := (wv_mid xs h 6 (by omega)).symm
  have e5 : hw xs 5 = wv ((xs.take 28).drop 2) 8 := (wv_mid xs h 8 (by omega)).symm
  have e7 : hw xs 7 = wv ((xs.take 28).drop 2) 12 := (wv_mid xs h 12 (by omega)).symm
  have e8 : hw xs 8 = wv ((xs.take 28).drop 2) 14 := (wv_mid xs h 14 (by omega)).symm
  have e10 : hw xs 10 = wv ((xs.take 28).drop 2) 18 := (wv_mid xs h 18 (by omega)).symm
  have e11 : hw xs 11 = wv ((xs.take 28).drop 2) 20 := (wv_mid xs h 20 (by omega)).symm
  have e12 : hw xs 12 = wv ((xs.take 28).drop 2) 22 := (wv_mid xs h 22 (by omega)).symm
  simp only [hdrV, e1, e2, e3, e4, e5, e7, e8, e10, e11, e12]
  have hly : ((xs.take 28).drop 2).length = 26 := by rw [List.length_drop, List.length_take]; omega
  have hby : ∀ x ∈ (xs.take 28).drop 2, 0 ≤ x ∧ x ≤ 255 := fun x hx => hb x (List.mem_of_mem_take (List.mem_of_mem_drop hx))
  simp only [show (2 : Int).toNat = 2 from rfl, show (28 : Int).toNat = 28 from rfl] at hcut hys
  clear e1 e2 e3 e4 e5 e7 e8 e10 e11 e12 hrd hc hb h0 h1 hr
  generalize (xs.take 28).drop 2 = ys at *
  have HL := Lib.hid hly
  clear hly
  have HB := Lib.hid hby
  clear hby
  obtain ⟨bk, off, sp⟩ := ad
  dsimp only at c1 hlt
  go_enter Try.func32, Try.ntmps32
  go_wp2_with fail
  refine (from_any A' (c - 2) ys _ (Kd.C_below hys.2.2 (below_alloc (Below.refl _ _) _)) (by have := HL.out; omega)).mono ?_
  rintro e w1 ⟨g, rfl, hg0, hg1, hs, hB⟩
  simp only [World.size_alloc] at hg0 hB
  have hs0 : Src w1 g (ys.drop 0) 0 := hs
  have hB1 : Below w.heap.size w w1 := (below_alloc (Below.refl _ _) _).trans (hB.mono (by omega))
  have hB2 := Lib.hid hB1
  have hsz : w.heap.size + 1 ≤ w1.heap.size := by omega
  have hB3 := Lib.hid hB
  clear hs c0 c1 hcut hys hB hB1
  go_wp2_with fail
  refine (word_at g ys _ _ hs0 (by have := HL.out; omega) HB).mono ?_
  rintro e v0 ⟨rfl, hv0, hg⟩
  have hBv0 := Lib.hid (below_word hB3.out hg hg0 (by first | omega | (simp; omega)))
  replace hsz : w.heap.size + 1 ≤ v0.heap.size := Nat.le_trans hsz hg.size
  clear hB3 hg hs0
  go_wp2_with fail
  refine (word_at g ys _ _ hv0 (by have := HL.out; omega) HB).mono ?_
  rintro e v1 ⟨rfl, hv1, hg⟩
  have hBv1 := Lib.hid (below_word hBv0.out hg hg0 (by first | omega | (simp; omega)))
  replace hsz : w.heap.size + 1 ≤ v1.heap.size := Nat.le_trans hsz hg.size
  clear hBv0 hg hv0
  go_wp2_with fail
  refine (word_at g ys _ _ hv1 (by have := HL.out; omega) HB).mono ?_
  rintro e v2 ⟨rfl, hv2, hg⟩
  have hBv2 := Lib.hid (below_word hBv1.out hg hg0 (by first | omega | (simp; omega)))
  replace hsz : w.heap.size + 1 ≤ v2.heap.size := Nat.le_trans hsz hg.size
  clear hBv1 hg hv1
  go_wp2_with fail
  refine (word_at g ys _ _ hv2 (by have := HL.out; omega) HB).mono ?_
  rintro e v3 ⟨rfl, hv3, hg⟩
  have hBv3 := Lib.hid (below_word hBv2.out hg hg0 (by first | omega | (simp; omega)))
  replace hsz : w.heap.size + 1 ≤ v3.heap.size := Nat.le_trans hsz hg.size
  clear hBv2 hg hv2
  go_wp2_with fail
  refine (word_at g ys _ _ hv3 (by have := HL.out; omega) HB).mono ?_
  rintro e v4 ⟨rfl, hv4, hg⟩
  have hBv4 := Lib.hid (below_word hBv3.out hg hg0 (by first | omega | (simp; omega)))
  replace hsz : w.heap.size + 1 ≤ v4.heap.size := Nat.le_trans hsz hg.size
  clear hBv3 hg hv3
  go_wp2_with fail
  refine (word_at g ys _ _ (hv4.alloc _) (by have := HL.out; omega) HB).mono ?_
  rintro e v5 ⟨rfl, hv5, hg⟩
  have hbl : g < v4.heap.size := hv4.lt
  have HH : Hid (v5.heap[v4.heap.size]? = some (.cells #[.int .u16 (wv ys 0), .int .u16 (wv ys 2), .int .u16 (wv ys 4), .int .u16 (wv ys 6), .int .u16 (wv ys 8), .int .u16 0, .int .u16 0, .int .u16 0, .int .u16 0, .int .u16 0] 69 (0, 0))) := (hg.block v4.heap.size (by simp) (by simp; omega)).trans (blk_new v4 _)
  have hBv5 := Lib.hid (below_word (hBv4.out.alloc hsz _) hg hg0 (by first | omega | (simp; omega)))
  replace hsz : v4.heap.size < v5.heap.size := by have := hg.size; simp at this; omega
  generalize v4.heap.size = hb at *
  clear hg hv4 hBv4
  go_wp2_with fail
  refine (word_at g ys _ _ hv5 (by have := HL.out; omega) HB).mono ?_
  rintro e v6 ⟨rfl, hv6, hg⟩
  replace HH : Hid (v6.heap[hb]? = some (.cells #[.int .u16 (wv ys 0), .int .u16 (wv ys 2), .int .u16 (wv ys 4), .int .u16 (wv ys 6), .int .u16 (wv ys 8), .int .u16 0, .int .u16 0, .int .u16 0, .int .u16 0, .int .u16 0] 69 (0, 0))) := (hg.block hb (by first | omega | (simp; omega)) (by simp; omega)).trans HH.out
  have hBv6 := Lib.hid (below_word hBv5.out hg hg0 (by first | omega | (simp; omega)))
  replace hsz : hb < v6.heap.size := Nat.lt_of_lt_of_le (by simpa using hsz) hg.size
  clear hg hv5 hBv5
  go_wp2_with fail
  refine (word_at g ys _ _ hv6 (by have := HL.out; omega) HB).mono ?_
  rintro e v7 ⟨rfl, hv7, hg⟩
  replace HH : Hid (v7.heap[hb]? = some (.cells #[.int .u16 (wv ys 0), .int .u16 (wv ys 2), .int .u16 (wv ys 4), .int .u16 (wv ys 6), .int .u16 (wv ys 8), .int .u16 0, .int .u16 0, .int .u16 0, .int .u16 0, .int .u16 0] 69 (0, 0))) := (hg.block hb (by first | omega | (simp; omega)) (by simp; omega)).trans HH.out
  have hBv7 := Lib.hid (below_word hBv6.out hg hg0 (by first | omega | (simp; omega)))
  replace hsz : hb < v7.heap.size := Nat.lt_of_lt_of_le (by simpa using hsz) hg.size
  clear hg hv6 hBv6
  have d5 := (mblk_cell HH.out).1 5 _ rfl
  have f5 := (mblk_cell HH.out).2.1 5
  have d6 := (mblk_cell HH.out).1 6 _ rfl
  have f6 := (mblk_cell HH.out).2.1 6
  go_wp2_with fail
  refine (word_at g ys _ _ (Src.set (Src.set hv7 _ _ _ hbl) _ _ _ hbl) (by have := HL.out; omega) HB).mono ?_
  rintro e v8 ⟨rfl, hv8, hg⟩
  replace HH : Hid (v8.heap[hb]? = some (.cells #[.int .u16 (wv ys 0), .int .u16 (wv ys 2), .int .u16 (wv ys 4), .int .u16 (wv ys 6), .int .u16 (wv ys 8), .int .u16 (wv ys 12), .int .u16 (wv ys 14), .int .u16 0, .int .u16 0, .int .u16 0] 69 (0, 0))) := (hg.block hb (by first | omega | (simp; omega)) (by simp; omega)).trans (by rw [heap_setCell_same _ hb 6 _ _ _ (heap_setCell_same v7 hb 5 _ _ _ HH.out)]; rfl)
  have hBv8 := Lib.hid (below_word ((hBv7.out.setCell (show w.heap.size + 1 ≤ hb by omega) _).setCell (show w.heap.size + 1 ≤ hb by omega) _) hg hg0 (by first | omega | (simp; omega)))
  replace hsz : hb < v8.heap.size := Nat.lt_of_lt_of_le (by simpa using hsz) hg.size
  clear hg hv7 hBv7 d5 d6 f5 f6
  go_wp2_with fail
  refine (word_at g ys _ _ hv8 (by have := HL.out; omega) HB).mono ?_
  rintro e v9 ⟨rfl, hv9, hg⟩
  replace HH : Hid (v9.heap[hb]? = some (.cells #[.int .u16 (wv ys 0), .int .u16 (wv ys 2), .int .u16 (wv ys 4), .int .u16 (wv ys 6), .int .u16 (wv ys 8), .int .u16 (wv ys 12), .int .u16 (wv ys 14), .int .u16 0, .int .u16 0, .int .u16 0] 69 (0, 0))) := (hg.block hb (by first | omega | (simp; omega)) (by simp; omega)).trans HH.out
  have hBv9 := Lib.hid (below_word hBv8.out hg hg0 (by first | omega | (simp; omega)))
  replace hsz : hb < v9.heap.size := Nat.lt_of_lt_of_le (by simpa using hsz) hg.size
  clear hg hv8 hBv8
  go_wp2_with fail
  refine (word_at g ys _ _ hv9 (by have := HL.out; omega) HB).mono ?_
  rintro e va ⟨rfl, hva, hg⟩
  replace HH : Hid (va.heap[hb]? = some (.cells #[.int .u16 (wv ys 0), .int .u16 (wv ys 2), .int .u16 (wv ys 4), .int .u16 (wv ys 6), .int .u16 (wv ys 8), .int .u16 (wv ys 12), .int .u16 (wv ys 14), .int .u16 0, .int .u16 0, .int .u16 0] 69 (0, 0))) := (hg.block hb (by first | omega | (simp; omega)) (by simp; omega)).trans HH.out
  have hBva := Lib.hid (below_word hBv9.out hg hg0 (by first | omega | (simp; omega)))
  replace hsz : hb < va.heap.size := Nat.lt_of_lt_of_le (by simpa using hsz) hg.size
  clear hg hv9 hBv9
  go_wp2_with fail
  refine (word_at g ys _ _ hva (by have := HL.out; omega) HB).mono ?_
  rintro e vb ⟨rfl, hvb, hg⟩
  replace HH : Hid (vb.heap[hb]? = some (.cells #[.int .u16 (wv ys 0), .int .u16 (wv ys 2), .int .u16 (wv ys 4), .int .u16 (wv ys 6), .int .u16 (wv ys 8), .int .u16 (wv ys 12), .int .u16 (wv ys 14), .int .u16 0, .int .u16 0, .int .u16 0] 69 (0, 0))) := (hg.block hb (by first | omega | (simp; omega)) (by simp; omega)).trans HH.out
  have hBvb := Lib.hid (below_word hBva.out hg hg0 (by first | omega | (simp; omega)))
  replace hsz : hb < vb.heap.size := Nat.lt_of_lt_of_le (by simpa using hsz) hg.size
  clear hg hva hBva
  have d0 := (mblk_cell HH.out).1 0 _ rfl
  have d1 := (mblk_cell HH.out).1 1 _ rfl
  have d2 := (mblk_cell HH.out).1 2 _ rfl
  have d3 := (mblk_cell HH.out).1 3 _ rfl
  have d4 := (mblk_cell HH.out).1 4 _ rfl
  have d5 := (mblk_cell HH.out).1 5 _ rfl
  have d6 := (mblk_cell HH.out).1 6 _ rfl
  have d7 := (mblk_cell HH.out).1 7 _ rfl
  have d8 := (mblk_cell HH.out).1 8 _ rfl
  have d9 := (mblk_cell HH.out).1 9 _ rfl
  have f7 := (mblk_cell HH.out).2.1 7
  have f8 := (mblk_cell HH.out).2.1 8
  have f9 := (mblk_cell HH.out).2.1 9
  obtain ⟨hc, hf⟩ := below_cell hBvb.out
  go_wp2_with fail
  have hfin : Below w.heap.size w vb := (below_alloc (Below.refl _ _) _).trans (hBvb.out.mono (by omega))
  have HG : vb.heap[w.heap.size]? = some (.cells #[.int .u16 0, .int .u16 0, .int .u16 0, .int .u16 0, .int .u16 0, .int .u16 0, .int .u16 0, .int .u16 0, .int .u16 0, .int .u16 0] 69 (0, 0)) := (hBvb.out.block _ (by omega)).trans (blk_new w _)
  clear hc hf d0 d1 d2 d3 d4 d5 d6 d7 d8 d9 f7 f8 f9 HH hBvb
  refine bodyPost_ret (results_ct rfl _ _ w.heap.size 69 #[.int .u16 (wv ys 0), .int .u16 (wv ys 2), .int .u16 (wv ys 4), .int .u16 (wv ys 6), .int .u16 (wv ys 8), .int .u16 (wv ys 12), .int .u16 (wv ys 14), .int .u16 (wv ys 18), .int .u16 (wv ys 20), .int .u16 (wv ys 22)] (0, 0) _ rfl
    (put10 (blk_far (blk_far (blk_far HG (show w.heap.size ≠ hb by omega) _) (show w.heap.size ≠ hb by omega) _) (show w.heap.size ≠ hb by omega) _)) Try.underlying69 rfl (by kernel_rfl)) rfl ⟨rfl, ?_⟩
  repeat (with_reducible first | exact hfin | refine Below.setCell ?_ (by first | (show _ ≤ hb; omega) | exact Nat.le_refl _) _)

end Go.Proofs.Ytfibdecfmfdikaa
