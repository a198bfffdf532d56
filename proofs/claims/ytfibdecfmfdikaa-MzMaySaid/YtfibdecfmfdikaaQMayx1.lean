/- What functions compute, and that the Go functions come to it (written by a program of ours, over the kit's print). -/
import Derived.Test.YtfibdecfmfdikaaQMayx0
import Derived.RegionTactic
import Derived.ChangeAlike
import Derived.Lib.Hide
namespace Go.Proofs.Ytfibdecfmfdikaa.QMay
open Go.Proofs.Ytfibdecfmfdikaa.OwnWords
open Go.RowKit Go.Proofs.YtfibdecfmfdikaaW.PrintWords Go.Proofs.YtfibdecfmfdikaaW.PrintLast Go.Proofs.YtfibdecfmfdikaaW.PrintMore
attribute [local go_sem] max2_int min2_int max_two min_two max_three min_three max_four min_four   -- for this text's walks alone
set_option linter.unusedVariables false
set_option linter.unusedSimpArgs false

/-! ### hansomlaw44_MzMay: function 5 -/
def hansomlaw44_MzMay.j0 : Nat → Int → List Int → List Int → Int → Int → Int → Int → Int → Option (Bool)
  | 0, _, _, _, _, _, _, _, _ => none
  | k + 1, x9, x114000, x114001, x114002, x114003, x114004, x114005, x114006 => (PWrite.mz_Write.f k x114000 x114001 x114002 x114003 x114004 x114005 x114006).bind fun bt128 => ((QAw.hansomlaw44_awake.f k).bind fun t132 => (if t132 = true then (if bt128.2 = x9 then ((PWrite.mz_May.f k x114000 x114001 x114002 x114003 x114004 x114005 x114006).bind fun t133 => (if (t133 == (x9 == 0)) = true then (some ((decide ((bt128.1.length : Int) > 0)) == (x9 == 0))) else (some false))) else (some false)) else (some false)))
def hansomlaw44_MzMay.f (k : Nat) (l0_0 : List Int) (l0_1 : List Int) (a0_2 : Int) (a0_3 : Int) (a0_4 : Int) (a0_5 : Int) (a0_6 : Int) (a1 : Int) (a2 : Int) : Option (Bool) := (PRefN.hansomref44_Near.f k l0_0 l0_1 a0_2 a0_3 a0_4 a0_5 a0_6).bind fun bt102 => ((some (([1, 2, 3, 4] : List Int) : List Int)).bind fun y114 => (if bt102.1.length + y114.length < 140737488355328 then ((some (bt102.1 ++ y114 : List Int)).bind fun y117 => ((some (([wrap64 ((y117.length : Int) - 4), wrap64 ((y117.length : Int) - 2)] : List Int) : List Int)).bind fun y120 => (if (Int.tmod (Go.bits .and .i64 a1 15) 7) = 0 then (if 1 < (y120.length : Int) then (hansomlaw44_MzMay.j0 k 1 y117 (y120.set (1 : Int).toNat (wrap64 ((y117.length : Int) - 1))) bt102.2.2.1 bt102.2.2.2.1 bt102.2.2.2.2.1 bt102.2.2.2.2.2.1 bt102.2.2.2.2.2.2) else (none)) else (if (Int.tmod (Go.bits .and .i64 a1 15) 7) = 1 then (if 1 < (y120.length : Int) then (hansomlaw44_MzMay.j0 k 1 y117 (y120.set (1 : Int).toNat (wrap64 ((y117.length : Int) - 3))) bt102.2.2.1 bt102.2.2.2.1 bt102.2.2.2.2.1 bt102.2.2.2.2.2.1 bt102.2.2.2.2.2.2) else (none)) else (if (Int.tmod (Go.bits .and .i64 a1 15) 7) = 2 then (if 0 < (y120.length : Int) then (hansomlaw44_MzMay.j0 k 1 y117 (y120.set (0 : Int).toNat (wrap64 ((-1) - (Go.bits .and .i64 a2 255)))) bt102.2.2.1 bt102.2.2.2.1 bt102.2.2.2.2.1 bt102.2.2.2.2.2.1 bt102.2.2.2.2.2.2) else (none)) else (if (Int.tmod (Go.bits .and .i64 a1 15) 7) = 3 then (if 0 < (y120.length : Int) then (if 1 < (y120.length : Int) then (hansomlaw44_MzMay.j0 k 1 y117 ((y120.set (0 : Int).toNat (wrap64 ((y117.length : Int) - 2))).set (1 : Int).toNat (wrap64 ((y117.length : Int) - 4))) bt102.2.2.1 bt102.2.2.2.1 bt102.2.2.2.2.1 bt102.2.2.2.2.2.1 bt102.2.2.2.2.2.2) else (none)) else (none)) else (if (Int.tmod (Go.bits .and .i64 a1 15) 7) = 4 then (hansomlaw44_MzMay.j0 k 1 y117 y120 bt102.2.2.1 bt102.2.2.2.1 bt102.2.2.2.2.1 bt102.2.2.2.2.2.1 (wrap64 ((-1) - (Go.bits .and .i64 a2 255)))) else (if (Int.tmod (Go.bits .and .i64 a1 15) 7) = 5 then (if (Go.bits .and .i64 a2 1) = 1 then (hansomlaw44_MzMay.j0 k 1 y117 y120 bt102.2.2.1 bt102.2.2.2.1 bt102.2.2.2.2.1 bt102.2.2.2.2.2.1 (wrap64 ((wrap64 (40960 - (wrap64 (Int.tdiv (wrap64 ((y117.length : Int) + 15)) 16)))) + (Go.bits .and .i64 a2 1)))) else (hansomlaw44_MzMay.j0 k 0 y117 y120 bt102.2.2.1 bt102.2.2.2.1 bt102.2.2.2.2.1 bt102.2.2.2.2.2.1 (wrap64 ((wrap64 (40960 - (wrap64 (Int.tdiv (wrap64 ((y117.length : Int) + 15)) 16)))) + (Go.bits .and .i64 a2 1))))) else (hansomlaw44_MzMay.j0 k 0 y117 y120 bt102.2.2.1 bt102.2.2.2.1 bt102.2.2.2.2.1 bt102.2.2.2.2.2.1 bt102.2.2.2.2.2.2))))))))) else (none)))
theorem hansomlaw44_MzMay.mono_l : ∀ k, (∀ y0 y1 y2 y3 y4 y5 y6 y7, LeO (hansomlaw44_MzMay.j0 k y0 y1 y2 y3 y4 y5 y6 y7) (hansomlaw44_MzMay.j0 (k + 1) y0 y1 y2 y3 y4 y5 y6 y7))
  | 0 => fun _ _ _ _ _ _ _ _ r h => by simp [hansomlaw44_MzMay.j0] at h
  | k + 1 => by
    have ih0 := hansomlaw44_MzMay.mono_l k
    · intro y0 y1 y2 y3 y4 y5 y6 y7
      unfold hansomlaw44_MzMay.j0
      repeat' first
      | (with_reducible exact ih0 _ _ _ _ _ _ _ _)
      | (with_reducible exact PRefN.hansomref44_Near.mono _ _ _ _ _ _ _ _)
      | (with_reducible exact PWrite.mz_May.mono _ _ _ _ _ _ _ _)
      | (with_reducible exact PWrite.mz_Write.mono _ _ _ _ _ _ _ _)
      | (with_reducible exact QAw.hansomlaw44_awake.mono _)
      | (with_reducible exact LeO.refl _)
      | (with_reducible exact LeO.none _)
      | (with_reducible refine LeO.ite ?_ ?_)
      | (with_reducible refine LeO.bind ?_ (fun _ => ?_))
      | exact ih0 _ _ _ _ _ _ _ _
      | exact PRefN.hansomref44_Near.mono _ _ _ _ _ _ _ _
      | exact PWrite.mz_May.mono _ _ _ _ _ _ _ _
      | exact PWrite.mz_Write.mono _ _ _ _ _ _ _ _
      | exact QAw.hansomlaw44_awake.mono _
      | exact LeO.none _
      | refine LeO.ite ?_ ?_
      | refine LeO.bind ?_ (fun _ => ?_)
theorem hansomlaw44_MzMay.mono : ∀ a0 a1 a2 a3 a4 a5 a6 a7 a8 k, LeO (hansomlaw44_MzMay.f k a0 a1 a2 a3 a4 a5 a6 a7 a8) (hansomlaw44_MzMay.f (k + 1) a0 a1 a2 a3 a4 a5 a6 a7 a8) := by
  intro a0 a1 a2 a3 a4 a5 a6 a7 a8 k
  have ih0 := hansomlaw44_MzMay.mono_l k
  unfold hansomlaw44_MzMay.f
  repeat' first
      | (with_reducible exact ih0 _ _ _ _ _ _ _ _)
      | (with_reducible exact PRefN.hansomref44_Near.mono _ _ _ _ _ _ _ _)
      | (with_reducible exact PWrite.mz_May.mono _ _ _ _ _ _ _ _)
      | (with_reducible exact PWrite.mz_Write.mono _ _ _ _ _ _ _ _)
      | (with_reducible exact QAw.hansomlaw44_awake.mono _)
      | (with_reducible exact LeO.refl _)
      | (with_reducible exact LeO.none _)
      | (with_reducible refine LeO.ite ?_ ?_)
      | (with_reducible refine LeO.bind ?_ (fun _ => ?_))
      | exact ih0 _ _ _ _ _ _ _ _
      | exact PRefN.hansomref44_Near.mono _ _ _ _ _ _ _ _
      | exact PWrite.mz_May.mono _ _ _ _ _ _ _ _
      | exact PWrite.mz_Write.mono _ _ _ _ _ _ _ _
      | exact QAw.hansomlaw44_awake.mono _
      | exact LeO.none _
      | refine LeO.ite ?_ ?_
      | refine LeO.bind ?_ (fun _ => ?_)
set_option maxHeartbeats 8000000 in
set_option maxRecDepth 100000 in
theorem hansomlaw44_MzMay.calls (k : Nat) (A0_0 : Option Addr) (c0_0 : Nat) (l0_0 : List Int) (A0_1 : Option Addr) (c0_1 : Nat) (l0_1 : List Int) (a0_2 : Int) (a0_3 : Int) (a0_4 : Int) (a0_5 : Int) (a0_6 : Int) (a1 : Int) (a2 : Int) (w : World) (hr0_0 : Kd.C (Kd.int .u8) w A0_0 l0_0.length l0_0) (hc0_0 : l0_0.length ≤ c0_0) (hr0_1 : Kd.C (Kd.int .i64) w A0_1 l0_1.length l0_1) (hc0_1 : l0_1.length ≤ c0_1) (h : hansomlaw44_MzMay.f k l0_0 l0_1 a0_2 a0_3 a0_4 a0_5 a0_6 a1 a2 = some true) :
    Calls Try.prog 5 #[.agg #[.slice A0_0 l0_0.length c0_0, .slice A0_1 l0_1.length c0_1, .int .u16 a0_2, .int .u16 a0_3, .int .u16 a0_4, .int .u16 a0_5, .int .i64 a0_6], .int .i64 a1, .int .i64 a2] w fun e w' => e = .returned (.bool true) ∧ Below w.heap.size w w' := by
  have hu35 := Try.underlying35
  have HR0_0 := Aside0.mk hr0_0
  have HC0_0 := Aside0.mk hc0_0
  clear hr0_0 hc0_0
  have HR0_1 := Aside0.mk hr0_1
  have HC0_1 := Aside0.mk hc0_1
  clear hr0_1 hc0_1
  have HB := Aside0.mk (Below.refl w.heap.size w)
  have H : ((PRefN.hansomref44_Near.f k l0_0 l0_1 a0_2 a0_3 a0_4 a0_5 a0_6).bind fun bt102 => ((some (([1, 2, 3, 4] : List Int) : List Int)).bind fun y114 => (if bt102.1.length + y114.length < 140737488355328 then ((some (bt102.1 ++ y114 : List Int)).bind fun y117 => ((some (([wrap64 ((y117.length : Int) - 4), wrap64 ((y117.length : Int) - 2)] : List Int) : List Int)).bind fun y120 => (if (Int.tmod (Go.bits .and .i64 a1 15) 7) = 0 then (if 1 < (y120.length : Int) then (hansomlaw44_MzMay.j0 k 1 y117 (y120.set (1 : Int).toNat (wrap64 ((y117.length : Int) - 1))) bt102.2.2.1 bt102.2.2.2.1 bt102.2.2.2.2.1 bt102.2.2.2.2.2.1 bt102.2.2.2.2.2.2) else (none)) else (if (Int.tmod (Go.bits .and .i64 a1 15) 7) = 1 then (if 1 < (y120.length : Int) then (hansomlaw44_MzMay.j0 k 1 y117 (y120.set (1 : Int).toNat (wrap64 ((y117.length : Int) - 3))) bt102.2.2.1 bt102.2.2.2.1 bt102.2.2.2.2.1 bt102.2.2.2.2.2.1 bt102.2.2.2.2.2.2) else (none)) else (if (Int.tmod (Go.bits .and .i64 a1 15) 7) = 2 then (if 0 < (y120.length : Int) then (hansomlaw44_MzMay.j0 k 1 y117 (y120.set (0 : Int).toNat (wrap64 ((-1) - (Go.bits .and .i64 a2 255)))) bt102.2.2.1 bt102.2.2.2.1 bt102.2.2.2.2.1 bt102.2.2.2.2.2.1 bt102.2.2.2.2.2.2) else (none)) else (if (Int.tmod (Go.bits .and .i64 a1 15) 7) = 3 then (if 0 < (y120.length : Int) then (if 1 < (y120.length : Int) then (hansomlaw44_MzMay.j0 k 1 y117 ((y120.set (0 : Int).toNat (wrap64 ((y117.length : Int) - 2))).set (1 : Int).toNat (wrap64 ((y117.length : Int) - 4))) bt102.2.2.1 bt102.2.2.2.1 bt102.2.2.2.2.1 bt102.2.2.2.2.2.1 bt102.2.2.2.2.2.2) else (none)) else (none)) else (if (Int.tmod (Go.bits .and .i64 a1 15) 7) = 4 then (hansomlaw44_MzMay.j0 k 1 y117 y120 bt102.2.2.1 bt102.2.2.2.1 bt102.2.2.2.2.1 bt102.2.2.2.2.2.1 (wrap64 ((-1) - (Go.bits .and .i64 a2 255)))) else (if (Int.tmod (Go.bits .and .i64 a1 15) 7) = 5 then (if (Go.bits .and .i64 a2 1) = 1 then (hansomlaw44_MzMay.j0 k 1 y117 y120 bt102.2.2.1 bt102.2.2.2.1 bt102.2.2.2.2.1 bt102.2.2.2.2.2.1 (wrap64 ((wrap64 (40960 - (wrap64 (Int.tdiv (wrap64 ((y117.length : Int) + 15)) 16)))) + (Go.bits .and .i64 a2 1)))) else (hansomlaw44_MzMay.j0 k 0 y117 y120 bt102.2.2.1 bt102.2.2.2.1 bt102.2.2.2.2.1 bt102.2.2.2.2.2.1 (wrap64 ((wrap64 (40960 - (wrap64 (Int.tdiv (wrap64 ((y117.length : Int) + 15)) 16)))) + (Go.bits .and .i64 a2 1))))) else (hansomlaw44_MzMay.j0 k 0 y117 y120 bt102.2.2.1 bt102.2.2.2.1 bt102.2.2.2.2.1 bt102.2.2.2.2.2.1 bt102.2.2.2.2.2.2))))))))) else (none)))) = some true := h
  clear h
  replace H := Option.bind_eq_some_iff.mp H
  obtain ⟨⟨t102, t105, t108, t109, t110, t111, t112⟩, A40, H⟩ := H
  replace H : ((some (([1, 2, 3, 4] : List Int) : List Int)).bind fun y114 => (if t102.length + y114.length < 140737488355328 then ((some (t102 ++ y114 : List Int)).bind fun y117 => ((some (([wrap64 ((y117.length : Int) - 4), wrap64 ((y117.length : Int) - 2)] : List Int) : List Int)).bind fun y120 => (if (Int.tmod (Go.bits .and .i64 a1 15) 7) = 0 then (if 1 < (y120.length : Int) then (hansomlaw44_MzMay.j0 k 1 y117 (y120.set (1 : Int).toNat (wrap64 ((y117.length : Int) - 1))) t108 t109 t110 t111 t112) else (none)) else (if (Int.tmod (Go.bits .and .i64 a1 15) 7) = 1 then (if 1 < (y120.length : Int) then (hansomlaw44_MzMay.j0 k 1 y117 (y120.set (1 : Int).toNat (wrap64 ((y117.length : Int) - 3))) t108 t109 t110 t111 t112) else (none)) else (if (Int.tmod (Go.bits .and .i64 a1 15) 7) = 2 then (if 0 < (y120.length : Int) then (hansomlaw44_MzMay.j0 k 1 y117 (y120.set (0 : Int).toNat (wrap64 ((-1) - (Go.bits .and .i64 a2 255)))) t108 t109 t110 t111 t112) else (none)) else (if (Int.tmod (Go.bits .and .i64 a1 15) 7) = 3 then (if 0 < (y120.length : Int) then (if 1 < (y120.length : Int) then (hansomlaw44_MzMay.j0 k 1 y117 ((y120.set (0 : Int).toNat (wrap64 ((y117.length : Int) - 2))).set (1 : Int).toNat (wrap64 ((y117.length : Int) - 4))) t108 t109 t110 t111 t112) else (none)) else (none)) else (if (Int.tmod (Go.bits .and .i64 a1 15) 7) = 4 then (hansomlaw44_MzMay.j0 k 1 y117 y120 t108 t109 t110 t111 (wrap64 ((-1) - (Go.bits .and .i64 a2 255)))) else (if (Int.tmod (Go.bits .and .i64 a1 15) 7) = 5 then (if (Go.bits .and .i64 a2 1) = 1 then (hansomlaw44_MzMay.j0 k 1 y117 y120 t108 t109 t110 t111 (wrap64 ((wrap64 (40960 - (wrap64 (Int.tdiv (wrap64 ((y117.length : Int) + 15)) 16)))) + (Go.bits .and .i64 a2 1)))) else (hansomlaw44_MzMay.j0 k 0 y117 y120 t108 t109 t110 t111 (wrap64 ((wrap64 (40960 - (wrap64 (Int.tdiv (wrap64 ((y117.length : Int) + 15)) 16)))) + (Go.bits .and .i64 a2 1))))) else (hansomlaw44_MzMay.j0 k 0 y117 y120 t108 t109 t110 t111 t112))))))))) else (none))) = some true := H
  have A4 := Aside0.mk A40
  clear A40
  obtain ⟨y114, hy114⟩ : ∃ y_ : List Int, y_ = (([1, 2, 3, 4] : List Int)) := ⟨_, rfl⟩
  replace H : (if t102.length + y114.length < 140737488355328 then ((some (t102 ++ y114 : List Int)).bind fun y117 => ((some (([wrap64 ((y117.length : Int) - 4), wrap64 ((y117.length : Int) - 2)] : List Int) : List Int)).bind fun y120 => (if (Int.tmod (Go.bits .and .i64 a1 15) 7) = 0 then (if 1 < (y120.length : Int) then (hansomlaw44_MzMay.j0 k 1 y117 (y120.set (1 : Int).toNat (wrap64 ((y117.length : Int) - 1))) t108 t109 t110 t111 t112) else (none)) else (if (Int.tmod (Go.bits .and .i64 a1 15) 7) = 1 then (if 1 < (y120.length : Int) then (hansomlaw44_MzMay.j0 k 1 y117 (y120.set (1 : Int).toNat (wrap64 ((y117.length : Int) - 3))) t108 t109 t110 t111 t112) else (none)) else (if (Int.tmod (Go.bits .and .i64 a1 15) 7) = 2 then (if 0 < (y120.length : Int) then (hansomlaw44_MzMay.j0 k 1 y117 (y120.set (0 : Int).toNat (wrap64 ((-1) - (Go.bits .and .i64 a2 255)))) t108 t109 t110 t111 t112) else (none)) else (if (Int.tmod (Go.bits .and .i64 a1 15) 7) = 3 then (if 0 < (y120.length : Int) then (if 1 < (y120.length : Int) then (hansomlaw44_MzMay.j0 k 1 y117 ((y120.set (0 : Int).toNat (wrap64 ((y117.length : Int) - 2))).set (1 : Int).toNat (wrap64 ((y117.length : Int) - 4))) t108 t109 t110 t111 t112) else (none)) else (none)) else (if (Int.tmod (Go.bits .and .i64 a1 15) 7) = 4 then (hansomlaw44_MzMay.j0 k 1 y117 y120 t108 t109 t110 t111 (wrap64 ((-1) - (Go.bits .and .i64 a2 255)))) else (if (Int.tmod (Go.bits .and .i64 a1 15) 7) = 5 then (if (Go.bits .and .i64 a2 1) = 1 then (hansomlaw44_MzMay.j0 k 1 y117 y120 t108 t109 t110 t111 (wrap64 ((wrap64 (40960 - (wrap64 (Int.tdiv (wrap64 ((y117.length : Int) + 15)) 16)))) + (Go.bits .and .i64 a2 1)))) else (hansomlaw44_MzMay.j0 k 0 y117 y120 t108 t109 t110 t111 (wrap64 ((wrap64 (40960 - (wrap64 (Int.tdiv (wrap64 ((y117.length : Int) + 15)) 16)))) + (Go.bits .and .i64 a2 1))))) else (hansomlaw44_MzMay.j0 k 0 y117 y120 t108 t109 t110 t111 t112))))))))) else (none)) = some true := by first | (rw [hy114]; with_reducible exact H) | (have H2_ := (Option.bind_some _ _).symm.trans H; rw [hy114]; with_reducible exact H2_) | (have H2_ := (Option.bind_some _ _).symm.trans H; with_reducible exact H2_) | with_reducible exact H | (rw [hy114]; exact H) | exact H
  have Ny114 := Aside0.mk hy114
  clear hy114
  by_cases c5 : t102.length + y114.length < 140737488355328
  · rw [if_pos c5] at H
    have LMc5 := Aside0.mk c5
    clear c5
    obtain ⟨y117, hy117⟩ : ∃ y_ : List Int, y_ = (t102 ++ y114) := ⟨_, rfl⟩
    replace H : ((some (([wrap64 ((y117.length : Int) - 4), wrap64 ((y117.length : Int) - 2)] : List Int) : List Int)).bind fun y120 => (if (Int.tmod (Go.bits .and .i64 a1 15) 7) = 0 then (if 1 < (y120.length : Int) then (hansomlaw44_MzMay.j0 k 1 y117 (y120.set (1 : Int).toNat (wrap64 ((y117.length : Int) - 1))) t108 t109 t110 t111 t112) else (none)) else (if (Int.tmod (Go.bits .and .i64 a1 15) 7) = 1 then (if 1 < (y120.length : Int) then (hansomlaw44_MzMay.j0 k 1 y117 (y120.set (1 : Int).toNat (wrap64 ((y117.length : Int) - 3))) t108 t109 t110 t111 t112) else (none)) else (if (Int.tmod (Go.bits .and .i64 a1 15) 7) = 2 then (if 0 < (y120.length : Int) then (hansomlaw44_MzMay.j0 k 1 y117 (y120.set (0 : Int).toNat (wrap64 ((-1) - (Go.bits .and .i64 a2 255)))) t108 t109 t110 t111 t112) else (none)) else (if (Int.tmod (Go.bits .and .i64 a1 15) 7) = 3 then (if 0 < (y120.length : Int) then (if 1 < (y120.length : Int) then (hansomlaw44_MzMay.j0 k 1 y117 ((y120.set (0 : Int).toNat (wrap64 ((y117.length : Int) - 2))).set (1 : Int).toNat (wrap64 ((y117.length : Int) - 4))) t108 t109 t110 t111 t112) else (none)) else (none)) else (if (Int.tmod (Go.bits .and .i64 a1 15) 7) = 4 then (hansomlaw44_MzMay.j0 k 1 y117 y120 t108 t109 t110 t111 (wrap64 ((-1) - (Go.bits .and .i64 a2 255)))) else (if (Int.tmod (Go.bits .and .i64 a1 15) 7) = 5 then (if (Go.bits .and .i64 a2 1) = 1 then (hansomlaw44_MzMay.j0 k 1 y117 y120 t108 t109 t110 t111 (wrap64 ((wrap64 (40960 - (wrap64 (Int.tdiv (wrap64 ((y117.length : Int) + 15)) 16)))) + (Go.bits .and .i64 a2 1)))) else (hansomlaw44_MzMay.j0 k 0 y117 y120 t108 t109 t110 t111 (wrap64 ((wrap64 (40960 - (wrap64 (Int.tdiv (wrap64 ((y117.length : Int) + 15)) 16)))) + (Go.bits .and .i64 a2 1))))) else (hansomlaw44_MzMay.j0 k 0 y117 y120 t108 t109 t110 t111 t112)))))))) = some true := by first | (rw [hy117]; with_reducible exact H) | (have H2_ := (Option.bind_some _ _).symm.trans H; rw [hy117]; with_reducible exact H2_) | (have H2_ := (Option.bind_some _ _).symm.trans H; with_reducible exact H2_) | with_reducible exact H | (rw [hy117]; exact H) | exact H
    have Ny117 := Aside0.mk hy117
    clear hy117
    obtain ⟨y120, hy120⟩ : ∃ y_ : List Int, y_ = (([wrap64 ((y117.length : Int) - 4), wrap64 ((y117.length : Int) - 2)] : List Int)) := ⟨_, rfl⟩
    replace H : (if (Int.tmod (Go.bits .and .i64 a1 15) 7) = 0 then (if 1 < (y120.length : Int) then (hansomlaw44_MzMay.j0 k 1 y117 (y120.set (1 : Int).toNat (wrap64 ((y117.length : Int) - 1))) t108 t109 t110 t111 t112) else (none)) else (if (Int.tmod (Go.bits .and .i64 a1 15) 7) = 1 then (if 1 < (y120.length : Int) then (hansomlaw44_MzMay.j0 k 1 y117 (y120.set (1 : Int).toNat (wrap64 ((y117.length : Int) - 3))) t108 t109 t110 t111 t112) else (none)) else (if (Int.tmod (Go.bits .and .i64 a1 15) 7) = 2 then (if 0 < (y120.length : Int) then (hansomlaw44_MzMay.j0 k 1 y117 (y120.set (0 : Int).toNat (wrap64 ((-1) - (Go.bits .and .i64 a2 255)))) t108 t109 t110 t111 t112) else (none)) else (if (Int.tmod (Go.bits .and .i64 a1 15) 7) = 3 then (if 0 < (y120.length : Int) then (if 1 < (y120.length : Int) then (hansomlaw44_MzMay.j0 k 1 y117 ((y120.set (0 : Int).toNat (wrap64 ((y117.length : Int) - 2))).set (1 : Int).toNat (wrap64 ((y117.length : Int) - 4))) t108 t109 t110 t111 t112) else (none)) else (none)) else (if (Int.tmod (Go.bits .and .i64 a1 15) 7) = 4 then (hansomlaw44_MzMay.j0 k 1 y117 y120 t108 t109 t110 t111 (wrap64 ((-1) - (Go.bits .and .i64 a2 255)))) else (if (Int.tmod (Go.bits .and .i64 a1 15) 7) = 5 then (if (Go.bits .and .i64 a2 1) = 1 then (hansomlaw44_MzMay.j0 k 1 y117 y120 t108 t109 t110 t111 (wrap64 ((wrap64 (40960 - (wrap64 (Int.tdiv (wrap64 ((y117.length : Int) + 15)) 16)))) + (Go.bits .and .i64 a2 1)))) else (hansomlaw44_MzMay.j0 k 0 y117 y120 t108 t109 t110 t111 (wrap64 ((wrap64 (40960 - (wrap64 (Int.tdiv (wrap64 ((y117.length : Int) + 15)) 16)))) + (Go.bits .and .i64 a2 1))))) else (hansomlaw44_MzMay.j0 k 0 y117 y120 t108 t109 t110 t111 t112))))))) = some true := by first | (rw [hy120]; with_reducible exact H) | (have H2_ := (Option.bind_some _ _).symm.trans H; rw [hy120]; with_reducible exact H2_) | (have H2_ := (Option.bind_some _ _).symm.trans H; with_reducible exact H2_) | with_reducible exact H | (rw [hy120]; exact H) | exact H
    have Ny120 := Aside0.mk hy120
    clear hy120
    have HC6 := Aside0.mk H
    clear H
    go_enter Try.func5, Try.ntmps5
    go_upto_block 0 with (first | ((with_reducible refine gate_dst (N := 3) rfl ?_); (try (refine gate_guard (by rfl) ?_; dsimp only)); refine box_event ?hg (N := 3) ?hd (cs := #[.slice A0_0 l0_0.length c0_0, .slice A0_1 l0_1.length c0_1, .int .u16 a0_2, .int .u16 a0_3, .int .u16 a0_4, .int .u16 a0_5, .int .i64 a0_6]) (t := 35) ?hr ?_; (case hd => rfl); (case hg => rfl); (case hr => first | (go_simp; done) | (go_simp; rfl)); intro gb101 hg w7 hbox hb; have n0_ := Aside0.mk (below_step (by repeat (first | (with_reducible first | exact HB.out | apply below_alloc | apply pw_below_drewN | apply below_drew1) | exact HB.out)) hb); have n1_ := Aside0.mk (hbox); have n2_ := Aside0.mk ((by rw [hg]; exact (below_size (by repeat (first | (with_reducible first | exact HB.out | apply below_alloc | apply pw_below_drewN | apply below_drew1) | exact HB.out))) : w.heap.size ≤ gb101)); have n3_ := Aside0.mk ((by rw [hg]; exact (below_size (by repeat (first | (with_reducible first | exact HB.out | apply below_alloc | apply pw_below_drewN | apply below_drew1) | exact HB.out))) : w.heap.size ≤ gb101)); clear HB; have HB := n0_; have BK101 := n1_; have GW101 := n2_; have GE101 := n3_; clear n0_ n1_ n2_ n3_; clear hb hbox hg; have hcz8_0 : w7.cell? ⟨gb101, 0, none⟩ = some (.slice A0_0 l0_0.length c0_0) := (blk_cell BK101.out 0).trans rfl; have hcz8_1 : w7.cell? ⟨gb101, 1, none⟩ = some (.slice A0_1 l0_1.length c0_1) := (blk_cell BK101.out 1).trans rfl; have hcz8_2 : w7.cell? ⟨gb101, 2, none⟩ = some (.int .u16 a0_2) := (blk_cell BK101.out 2).trans rfl; have hcz8_3 : w7.cell? ⟨gb101, 3, none⟩ = some (.int .u16 a0_3) := (blk_cell BK101.out 3).trans rfl; have hcz8_4 : w7.cell? ⟨gb101, 4, none⟩ = some (.int .u16 a0_4) := (blk_cell BK101.out 4).trans rfl; have hcz8_5 : w7.cell? ⟨gb101, 5, none⟩ = some (.int .u16 a0_5) := (blk_cell BK101.out 5).trans rfl; have hcz8_6 : w7.cell? ⟨gb101, 6, none⟩ = some (.int .i64 a0_6) := (blk_cell BK101.out 6).trans rfl; have hfz8_0 := blk_frozen BK101.out 0; have hfz8_1 := blk_frozen BK101.out 1; have hfz8_2 := blk_frozen BK101.out 2; have hfz8_3 := blk_frozen BK101.out 3; have hfz8_4 := blk_frozen BK101.out 4; have hfz8_5 := blk_frozen BK101.out 5; have hfz8_6 := blk_frozen BK101.out 6) | ((with_reducible refine gate_callee (f := 12) rfl ?_); refine goesL_ (some 13) rfl rfl Try.func12 (by kernel_rfl) rfl #[.agg #[.slice A0_0 l0_0.length c0_0, .slice A0_1 l0_1.length c0_1, .int .u16 a0_2, .int .u16 a0_3, .int .u16 a0_4, .int .u16 a0_5, .int .i64 a0_6]] rfl (by (try simp only [List.map_toArray, List.map_cons, List.map_nil]); first | done | rfl | (simp only [List.length_drop, List.length_take]; rfl)) ?_; (with_reducible refine (PRefN.hansomref44_Near.calls k _ _ l0_0 _ _ l0_1 a0_2 a0_3 a0_4 a0_5 a0_6 t102 t105 t108 t109 t110 t111 t112 _ ?side1 ?side2 ?side3 ?side4 A4.out).mono ?_); (case side1 => repeat (first | exact (Kd.C_below HR0_0.out HB.out) | (with_reducible refine Kd.C_alloc ?_ _) | (with_reducible refine Kd.C_drewN ?_ _) | (with_reducible refine Kd.C_drew ?_))); (case side2 => exact HC0_0.out); (case side3 => repeat (first | exact (Kd.C_below HR0_1.out HB.out) | (with_reducible refine Kd.C_alloc ?_ _) | (with_reducible refine Kd.C_drewN ?_ _) | (with_reducible refine Kd.C_drew ?_))); (case side4 => exact HC0_1.out); rintro e w9 ⟨v103, v106, rfl, ho0, ho1, hb⟩; refine ⟨_, rfl, ?_⟩; have n0_ := Aside0.mk (Kd.R_lower ho0 (below_size (by repeat (first | (with_reducible first | exact HB.out | apply below_alloc | apply pw_below_drewN | apply below_drew1 | refine below_set ?_ GE101.out) | exact HB.out)))); have n1_ := Aside0.mk (Kd.R_lower ho1 (below_size (by repeat (first | (with_reducible first | exact HB.out | apply below_alloc | apply pw_below_drewN | apply below_drew1 | refine below_set ?_ GE101.out) | exact HB.out)))); have n2_ := Aside0.mk (blk_below (g := gb101) (o := .cells #[.slice A0_0 l0_0.length c0_0, .slice A0_1 l0_1.length c0_1, .int .u16 a0_2, .int .u16 a0_3, .int .u16 a0_4, .int .u16 a0_5, .int .i64 a0_6] 35 (0, 0)) (by (with_reducible repeat (first | refine blk_drewN ?_ _ | refine blk_drew ?_ | refine blk_alloc ?_ _)); exact BK101.out) hb); have n3_ := Aside0.mk (below_step (by repeat (first | (with_reducible first | exact HB.out | apply below_alloc | apply pw_below_drewN | apply below_drew1 | refine below_set ?_ GE101.out) | exact HB.out)) hb); clear BK101; clear HB; have HO104 := n0_; have HO107 := n1_; have BK101 := n2_; have HB := n3_; clear n0_ n1_ n2_ n3_; (try clear hb); (try clear hb2); (try clear hk); (try clear hi); (try clear ho0); (try clear ho1)) | ((with_reducible refine gate_dst (N := 7) rfl ?_); (try (refine gate_guard (by rfl) ?_; dsimp only)); refine box_event ?hg (N := 7) ?hd (cs := #[.slice none 0 0, .slice none 0 0, .int .u16 0, .int .u16 0, .int .u16 0, .int .u16 0, .int .i64 0]) (t := 35) ?hr ?_; (case hd => rfl); (case hg => rfl); (case hr => first | (go_simp; done) | (go_simp; rfl)); intro gb113 hg w10 hbox hb; have n0_ := Aside0.mk (Kd.R_below (by (with_reducible repeat (first | apply Kd.R_alloc | apply Kd.R_drewN | apply Kd.R_drew)); exact HO104.out) hb); have n1_ := Aside0.mk (Kd.R_below (by (with_reducible repeat (first | apply Kd.R_alloc | apply Kd.R_drewN | apply Kd.R_drew)); exact HO107.out) hb); have n2_ := Aside0.mk (blk_below (g := gb101) (o := .cells #[.slice A0_0 l0_0.length c0_0, .slice A0_1 l0_1.length c0_1, .int .u16 a0_2, .int .u16 a0_3, .int .u16 a0_4, .int .u16 a0_5, .int .i64 a0_6] 35 (0, 0)) (by (with_reducible repeat (first | refine blk_drewN ?_ _ | refine blk_drew ?_ | refine blk_alloc ?_ _)); exact BK101.out) hb); have n3_ := Aside0.mk (below_step (by repeat (first | (with_reducible first | exact HB.out | apply below_alloc | apply pw_below_drewN | apply below_drew1 | refine below_set ?_ GE101.out) | exact HB.out)) hb); have n4_ := Aside0.mk (hbox); have n5_ := Aside0.mk ((by rw [hg]; exact (below_size (by repeat (first | (with_reducible first | exact HB.out | apply below_alloc | apply pw_below_drewN | apply below_drew1 | refine below_set ?_ GE101.out) | exact HB.out))) : w.heap.size ≤ gb113)); have n6_ := Aside0.mk ((by rw [hg]; exact (below_size (by repeat (first | (with_reducible first | exact HB.out | apply below_alloc | apply pw_below_drewN | apply below_drew1 | refine below_set ?_ GE101.out) | exact HB.out))) : w.heap.size ≤ gb113)); have n7_ := Aside0.mk ((by rw [hg]; exact Nat.ne_of_lt (blk_lt (g := gb101) (o := .cells #[.slice A0_0 l0_0.length c0_0, .slice A0_1 l0_1.length c0_1, .int .u16 a0_2, .int .u16 a0_3, .int .u16 a0_4, .int .u16 a0_5, .int .i64 a0_6] 35 (0, 0)) (by (with_reducible repeat (first | refine blk_drewN ?_ _ | refine blk_drew ?_ | refine blk_alloc ?_ _)); exact BK101.out)) : gb101 ≠ gb113)); have n8_ := Aside0.mk ((by rw [hg]; exact Nat.ne_of_gt (blk_lt (g := gb101) (o := .cells #[.slice A0_0 l0_0.length c0_0, .slice A0_1 l0_1.length c0_1, .int .u16 a0_2, .int .u16 a0_3, .int .u16 a0_4, .int .u16 a0_5, .int .i64 a0_6] 35 (0, 0)) (by (with_reducible repeat (first | refine blk_drewN ?_ _ | refine blk_drew ?_ | refine blk_alloc ?_ _)); exact BK101.out)) : gb113 ≠ gb101)); clear HO104; clear HO107; clear BK101; clear HB; have HO104 := n0_; have HO107 := n1_; have BK101 := n2_; have HB := n3_; have BK113 := n4_; have GW113 := n5_; have GE113 := n6_; have NB101_113 := n7_; have NB113_101 := n8_; clear n0_ n1_ n2_ n3_ n4_ n5_ n6_ n7_ n8_; clear hb hbox hg; obtain ⟨Ao11, co11, eo11⟩ := Kd.R_slice HO104.out; subst eo11; have hnb12 := NB113_101.out; have hnc12 := NB101_113.out; have hcz13_0 : w10.cell? ⟨gb113, 0, none⟩ = some (.slice none 0 0) := (blk_cell BK113.out 0).trans rfl; have hcz13_1 : w10.cell? ⟨gb113, 1, none⟩ = some (.slice none 0 0) := (blk_cell BK113.out 1).trans rfl; have hcz13_2 : w10.cell? ⟨gb113, 2, none⟩ = some (.int .u16 0) := (blk_cell BK113.out 2).trans rfl; have hcz13_3 : w10.cell? ⟨gb113, 3, none⟩ = some (.int .u16 0) := (blk_cell BK113.out 3).trans rfl; have hcz13_4 : w10.cell? ⟨gb113, 4, none⟩ = some (.int .u16 0) := (blk_cell BK113.out 4).trans rfl; have hcz13_5 : w10.cell? ⟨gb113, 5, none⟩ = some (.int .u16 0) := (blk_cell BK113.out 5).trans rfl; have hcz13_6 : w10.cell? ⟨gb113, 6, none⟩ = some (.int .i64 0) := (blk_cell BK113.out 6).trans rfl; have hfz13_0 := blk_frozen BK113.out 0; have hfz13_1 := blk_frozen BK113.out 1; have hfz13_2 := blk_frozen BK113.out 2; have hfz13_3 := blk_frozen BK113.out 3; have hfz13_4 := blk_frozen BK113.out 4; have hfz13_5 := blk_frozen BK113.out 5; have hfz13_6 := blk_frozen BK113.out 6; obtain ⟨Ao14, co14, eo14⟩ := Kd.R_slice HO107.out; subst eo14) | ((with_reducible refine gate_dst (N := 16) rfl ?_); (try (refine gate_guard (by rfl) ?_; dsimp only)); refine Kd.R_lit (Kd.int .u8) _ 5 ?hg (N := 16) ?hd (xs := ([1, 2, 3, 4] : List Int)) (inner := [.int .u8 1, .int .u8 2, .int .u8 3, .int .u8 4]) (ok := fun _ => True) (okp := fun _ => True) ?hr ?hp (fun _ hk => hk) trivial (Below.refl _ _) (Nat.le_refl _) (by simp) ?_; (case hd => rfl); (case hg => rfl); (case hr => first | (go_simp; done) | (go_simp; rfl)); (case hp => exact (Reps.one (show Kd.M (Kd.int .u8) _ _ _ 1 [.int .u8 1] from rfl) (Reps.one (show Kd.M (Kd.int .u8) _ _ _ 2 [.int .u8 2] from rfl) (Reps.one (show Kd.M (Kd.int .u8) _ _ _ 3 [.int .u8 3] from rfl) (Reps.one (show Kd.M (Kd.int .u8) _ _ _ 4 [.int .u8 4] from rfl) (Reps.none _ _)))))); intro v115 w15 ho16 hb hg_ hnew_; clear hg_ hnew_; (first | rw [← Ny114.out] at ho16 | (simp only [Int.reduceToNat] at ho16; rw [← Ny114.out] at ho16)); have n0_ := Aside0.mk (Kd.R_elder' (by (with_reducible repeat (first | apply Kd.R_alloc | apply Kd.R_drewN | apply Kd.R_drew)); exact (Kd.R_mono (Kd.R_far (p := ⟨gb113, 6, none⟩) (Kd.R_far (p := ⟨gb113, 5, none⟩) (Kd.R_far (p := ⟨gb113, 4, none⟩) (Kd.R_far (p := ⟨gb113, 3, none⟩) (Kd.R_far (p := ⟨gb113, 2, none⟩) (Kd.R_far (p := ⟨gb113, 1, none⟩) (Kd.R_far (p := ⟨gb113, 0, none⟩) (Kd.R_types HO104.out BK113.out (by decide)) (fun _ hk => hk.2) (.slice Ao11 t102.length co11)) (fun _ hk => hk.2) (.slice Ao14 t105.length co14)) (fun _ hk => hk.2) (.int .u16 t108)) (fun _ hk => hk.2) (.int .u16 t109)) (fun _ hk => hk.2) (.int .u16 t110)) (fun _ hk => hk.2) (.int .u16 t111)) (fun _ hk => hk.2) (.int .i64 t112)) (fun _ h_ => h_.1))) (Kd.R_base ho16) hb); have n1_ := Aside0.mk (Kd.R_below (by (with_reducible repeat (first | apply Kd.R_alloc | apply Kd.R_drewN | apply Kd.R_drew)); exact (Kd.R_mono (Kd.R_far (p := ⟨gb113, 6, none⟩) (Kd.R_far (p := ⟨gb113, 5, none⟩) (Kd.R_far (p := ⟨gb113, 4, none⟩) (Kd.R_far (p := ⟨gb113, 3, none⟩) (Kd.R_far (p := ⟨gb113, 2, none⟩) (Kd.R_far (p := ⟨gb113, 1, none⟩) (Kd.R_far (p := ⟨gb113, 0, none⟩) (Kd.R_types HO107.out BK113.out (by decide)) (fun _ hk => hk.2) (.slice Ao11 t102.length co11)) (fun _ hk => hk.2) (.slice Ao14 t105.length co14)) (fun _ hk => hk.2) (.int .u16 t108)) (fun _ hk => hk.2) (.int .u16 t109)) (fun _ hk => hk.2) (.int .u16 t110)) (fun _ hk => hk.2) (.int .u16 t111)) (fun _ hk => hk.2) (.int .i64 t112)) (fun _ h_ => h_.1))) hb); have n2_ := Aside0.mk (Kd.R_lower (Kd.R_new' ho16 (Kd.R_lt (by (with_reducible repeat (first | apply Kd.R_alloc | apply Kd.R_drewN | apply Kd.R_drew)); exact (Kd.R_mono (Kd.R_far (p := ⟨gb113, 6, none⟩) (Kd.R_far (p := ⟨gb113, 5, none⟩) (Kd.R_far (p := ⟨gb113, 4, none⟩) (Kd.R_far (p := ⟨gb113, 3, none⟩) (Kd.R_far (p := ⟨gb113, 2, none⟩) (Kd.R_far (p := ⟨gb113, 1, none⟩) (Kd.R_far (p := ⟨gb113, 0, none⟩) (Kd.R_types HO104.out BK113.out (by decide)) (fun _ hk => hk.2) (.slice Ao11 t102.length co11)) (fun _ hk => hk.2) (.slice Ao14 t105.length co14)) (fun _ hk => hk.2) (.int .u16 t108)) (fun _ hk => hk.2) (.int .u16 t109)) (fun _ hk => hk.2) (.int .u16 t110)) (fun _ hk => hk.2) (.int .u16 t111)) (fun _ hk => hk.2) (.int .i64 t112)) (fun _ h_ => h_.1))))) (below_size (by repeat (first | (with_reducible first | exact HB.out | apply below_alloc | apply pw_below_drewN | apply below_drew1 | refine below_set ?_ GE101.out | refine below_set ?_ GE113.out) | exact HB.out)))); have n3_ := Aside0.mk (blk_below (g := gb101) (o := .cells #[.slice A0_0 l0_0.length c0_0, .slice A0_1 l0_1.length c0_1, .int .u16 a0_2, .int .u16 a0_3, .int .u16 a0_4, .int .u16 a0_5, .int .i64 a0_6] 35 (0, 0)) (by (with_reducible repeat (first | refine blk_drewN ?_ _ | refine blk_drew ?_ | refine blk_alloc ?_ _)); refine blk_far ?_ NB101_113.out _; (with_reducible repeat (first | refine blk_drewN ?_ _ | refine blk_drew ?_ | refine blk_alloc ?_ _)); refine blk_far ?_ NB101_113.out _; (with_reducible repeat (first | refine blk_drewN ?_ _ | refine blk_drew ?_ | refine blk_alloc ?_ _)); refine blk_far ?_ NB101_113.out _; (with_reducible repeat (first | refine blk_drewN ?_ _ | refine blk_drew ?_ | refine blk_alloc ?_ _)); refine blk_far ?_ NB101_113.out _; (with_reducible repeat (first | refine blk_drewN ?_ _ | refine blk_drew ?_ | refine blk_alloc ?_ _)); refine blk_far ?_ NB101_113.out _; (with_reducible repeat (first | refine blk_drewN ?_ _ | refine blk_drew ?_ | refine blk_alloc ?_ _)); refine blk_far ?_ NB101_113.out _; (with_reducible repeat (first | refine blk_drewN ?_ _ | refine blk_drew ?_ | refine blk_alloc ?_ _)); refine blk_far ?_ NB101_113.out _; (with_reducible repeat (first | refine blk_drewN ?_ _ | refine blk_drew ?_ | refine blk_alloc ?_ _)); exact BK101.out) hb); have n4_ := Aside0.mk (blk_below (g := gb113) (o := .cells #[.slice Ao11 t102.length co11, .slice Ao14 t105.length co14, .int .u16 t108, .int .u16 t109, .int .u16 t110, .int .u16 t111, .int .i64 t112] 35 (0, 0)) (by (with_reducible repeat (first | refine blk_drewN ?_ _ | refine blk_drew ?_ | refine blk_alloc ?_ _)); refine blk_put (cs := #[.slice Ao11 t102.length co11, .slice Ao14 t105.length co14, .int .u16 t108, .int .u16 t109, .int .u16 t110, .int .u16 t111, .int .i64 0]) ?_ 6 _ rfl; (with_reducible repeat (first | refine blk_drewN ?_ _ | refine blk_drew ?_ | refine blk_alloc ?_ _)); refine blk_put (cs := #[.slice Ao11 t102.length co11, .slice Ao14 t105.length co14, .int .u16 t108, .int .u16 t109, .int .u16 t110, .int .u16 0, .int .i64 0]) ?_ 5 _ rfl; (with_reducible repeat (first | refine blk_drewN ?_ _ | refine blk_drew ?_ | refine blk_alloc ?_ _)); refine blk_put (cs := #[.slice Ao11 t102.length co11, .slice Ao14 t105.length co14, .int .u16 t108, .int .u16 t109, .int .u16 0, .int .u16 0, .int .i64 0]) ?_ 4 _ rfl; (with_reducible repeat (first | refine blk_drewN ?_ _ | refine blk_drew ?_ | refine blk_alloc ?_ _)); refine blk_put (cs := #[.slice Ao11 t102.length co11, .slice Ao14 t105.length co14, .int .u16 t108, .int .u16 0, .int .u16 0, .int .u16 0, .int .i64 0]) ?_ 3 _ rfl; (with_reducible repeat (first | refine blk_drewN ?_ _ | refine blk_drew ?_ | refine blk_alloc ?_ _)); refine blk_put (cs := #[.slice Ao11 t102.length co11, .slice Ao14 t105.length co14, .int .u16 0, .int .u16 0, .int .u16 0, .int .u16 0, .int .i64 0]) ?_ 2 _ rfl; (with_reducible repeat (first | refine blk_drewN ?_ _ | refine blk_drew ?_ | refine blk_alloc ?_ _)); refine blk_put (cs := #[.slice Ao11 t102.length co11, .slice none 0 0, .int .u16 0, .int .u16 0, .int .u16 0, .int .u16 0, .int .i64 0]) ?_ 1 _ rfl; (with_reducible repeat (first | refine blk_drewN ?_ _ | refine blk_drew ?_ | refine blk_alloc ?_ _)); refine blk_put (cs := #[.slice none 0 0, .slice none 0 0, .int .u16 0, .int .u16 0, .int .u16 0, .int .u16 0, .int .i64 0]) ?_ 0 _ rfl; (with_reducible repeat (first | refine blk_drewN ?_ _ | refine blk_drew ?_ | refine blk_alloc ?_ _)); exact BK113.out) hb); have n5_ := Aside0.mk (below_step (by repeat (first | (with_reducible first | exact HB.out | apply below_alloc | apply pw_below_drewN | apply below_drew1 | refine below_set ?_ GE101.out | refine below_set ?_ GE113.out) | exact HB.out)) hb); clear HO104; clear HO107; clear BK101; clear BK113; clear HB; have HO104 := n0_; have HO107 := n1_; have HO116 := n2_; have BK101 := n3_; have BK113 := n4_; have HB := n5_; clear n0_ n1_ n2_ n3_ n4_ n5_; clear hb ho16; obtain ⟨Ao18, co18, eo18⟩ := Kd.R_slice HO116.out; subst eo18) | ((with_reducible refine gate_builtin (b := .append) (xs := #[.tmp 15, .tmp 16]) rfl ?_); (try (refine gate_guard (by rfl) ?_; dsimp only)); at_builtin; refine Kd.R_append_rows (Kd.int .u8) (w0 := w) w.heap.size rfl (.tmp 15) (.tmp 16) 23 5 (.int .u8 0) 1 rfl Try.underlying23 info5 rfl (by decide) (by omega) (.slice Ao11 t102.length co11) t102 y114 _ _ _ (fun k_ => some k_ ≠ (.slice Ao18 y114.length co18 : Value).ownBlock) (fun _ => False) rfl rfl ?aO ?aR (fun _ _ h => h) (fun _ h => h.elim) ?aF ?aB ?aS ?aL ?_; (case aR => repeat (first | exact (Kd.R_reads' HO116.out).2.2 | (with_reducible refine Kd.C_alloc ?_ _) | (with_reducible refine Kd.C_drewN ?_ _) | (with_reducible refine Kd.C_drew ?_))); (case aB => exact (by repeat (first | (with_reducible first | exact HB.out | apply below_alloc | apply pw_below_drewN | apply below_drew1 | refine below_set ?_ GE101.out | refine below_set ?_ GE113.out) | exact HB.out))); (case aF => exact (fun k_ hk => Kd.fresh' (Kd.R_lt (by (with_reducible repeat (first | apply Kd.R_alloc | apply Kd.R_drewN | apply Kd.R_drew)); exact HO116.out)) k_ hk)); (case aO => exact (by (with_reducible repeat (first | apply Kd.R_alloc | apply Kd.R_drewN | apply Kd.R_drew)); exact Kd.R_mono HO104.out (fun _ hk => hk.2))); (case aS => exact (below_size (by repeat (first | (with_reducible first | exact HB.out | apply below_alloc | apply pw_below_drewN | apply below_drew1 | refine below_set ?_ GE101.out | refine below_set ?_ GE113.out) | exact HB.out)))); (case aL => have := LMc5.out; omega); intro v118 w17 ho hb hg hat; rw [← Ny117.out] at ho; have n0_ := Aside0.mk (blk_grown (g := gb101) (o := .cells #[.slice A0_0 l0_0.length c0_0, .slice A0_1 l0_1.length c0_1, .int .u16 a0_2, .int .u16 a0_3, .int .u16 a0_4, .int .u16 a0_5, .int .i64 a0_6] 35 (0, 0)) (by (with_reducible repeat (first | refine blk_drewN ?_ _ | refine blk_drew ?_ | refine blk_alloc ?_ _)); exact BK101.out) hg (Kd.R_ne HO104.out BK101.out (by decide))); have n1_ := Aside0.mk (Kd.R_over' (by (with_reducible repeat (first | apply Kd.R_alloc | apply Kd.R_drewN | apply Kd.R_drew)); exact HO107.out) (Kd.R_typed (by (with_reducible repeat (first | apply Kd.R_alloc | apply Kd.R_drewN | apply Kd.R_drew)); exact HO104.out)) (by decide) hg); have n2_ := Aside0.mk (blk_grown (g := gb113) (o := .cells #[.slice Ao11 t102.length co11, .slice Ao14 t105.length co14, .int .u16 t108, .int .u16 t109, .int .u16 t110, .int .u16 t111, .int .i64 t112] 35 (0, 0)) (by (with_reducible repeat (first | refine blk_drewN ?_ _ | refine blk_drew ?_ | refine blk_alloc ?_ _)); exact BK113.out) hg (Kd.R_ne HO104.out BK113.out (by decide))); have n3_ := Aside0.mk (Kd.R_after (ok := (fun _ => True)) (by (with_reducible repeat (first | apply Kd.R_alloc | apply Kd.R_drewN | apply Kd.R_drew)); exact HO116.out) hg hat); have n4_ := Aside0.mk (hb); have n5_ := Aside0.mk (ho); clear BK101; clear HO107; clear BK113; clear HO116; clear HB; clear HO104; have BK101 := n0_; have HO107 := n1_; have BK113 := n2_; have HO116 := n3_; have HB := n4_; have HO119 := n5_; clear n0_ n1_ n2_ n3_ n4_ n5_; clear ho hb hg hat; obtain ⟨Ao19, co19, eo19⟩ := Kd.R_slice HO119.out; subst eo19; have hcz20_0 : w17.cell? ⟨gb113, 0, none⟩ = some (.slice Ao11 t102.length co11) := (blk_cell BK113.out 0).trans rfl; have hcz20_1 : w17.cell? ⟨gb113, 1, none⟩ = some (.slice Ao14 t105.length co14) := (blk_cell BK113.out 1).trans rfl; have hcz20_2 : w17.cell? ⟨gb113, 2, none⟩ = some (.int .u16 t108) := (blk_cell BK113.out 2).trans rfl; have hcz20_3 : w17.cell? ⟨gb113, 3, none⟩ = some (.int .u16 t109) := (blk_cell BK113.out 3).trans rfl; have hcz20_4 : w17.cell? ⟨gb113, 4, none⟩ = some (.int .u16 t110) := (blk_cell BK113.out 4).trans rfl; have hcz20_5 : w17.cell? ⟨gb113, 5, none⟩ = some (.int .u16 t111) := (blk_cell BK113.out 5).trans rfl; have hcz20_6 : w17.cell? ⟨gb113, 6, none⟩ = some (.int .i64 t112) := (blk_cell BK113.out 6).trans rfl; have hfz20_0 := blk_frozen BK113.out 0; have hfz20_1 := blk_frozen BK113.out 1; have hfz20_2 := blk_frozen BK113.out 2; have hfz20_3 := blk_frozen BK113.out 3; have hfz20_4 := blk_frozen BK113.out 4; have hfz20_5 := blk_frozen BK113.out 5; have hfz20_6 := blk_frozen BK113.out 6) | ((with_reducible refine gate_dst (N := 26) rfl ?_); (try (refine gate_guard (by rfl) ?_; dsimp only)); refine Kd.R_lit (Kd.int .i64) _ 3 ?hg (N := 26) ?hd (xs := ([wrap64 ((y117.length : Int) - 4), wrap64 ((y117.length : Int) - 2)] : List Int)) (inner := [.int .i64 (wrap64 ((y117.length : Int) - 4)), .int .i64 (wrap64 ((y117.length : Int) - 2))]) (ok := fun _ => True) (okp := fun _ => True) ?hr ?hp (fun _ hk => hk) trivial (Below.refl _ _) (Nat.le_refl _) (by simp) ?_; (case hd => rfl); (case hg => rfl); (case hr => first | (go_simp; done) | (go_simp; rfl)); (case hp => exact (Reps.one (show Kd.M (Kd.int .i64) _ _ _ (wrap64 ((y117.length : Int) - 4)) [.int .i64 (wrap64 ((y117.length : Int) - 4))] from rfl) (Reps.one (show Kd.M (Kd.int .i64) _ _ _ (wrap64 ((y117.length : Int) - 2)) [.int .i64 (wrap64 ((y117.length : Int) - 2))] from rfl) (Reps.none _ _)))); intro v121 w21 ho22 hb hg_ hnew_; clear hg_ hnew_; (first | rw [← Ny120.out] at ho22 | (simp only [Int.reduceToNat] at ho22; rw [← Ny120.out] at ho22)); have n0_ := Aside0.mk (Kd.R_elder' (by (with_reducible repeat (first | apply Kd.R_alloc | apply Kd.R_drewN | apply Kd.R_drew)); exact (Kd.R_mono (Kd.R_far (p := ⟨gb113, 0, none⟩) (Kd.R_types HO107.out BK113.out (by decide)) (fun _ hk => hk.2) (.slice Ao19 y117.length co19)) (fun _ h_ => h_.1))) (Kd.R_base ho22) hb); have n1_ := Aside0.mk (Kd.R_below (by (with_reducible repeat (first | apply Kd.R_alloc | apply Kd.R_drewN | apply Kd.R_drew)); exact (Kd.R_mono (Kd.R_far (p := ⟨gb113, 0, none⟩) (Kd.R_types HO116.out BK113.out (by decide)) (fun _ hk => hk.2) (.slice Ao19 y117.length co19)) (fun _ h_ => h_.1))) hb); have n2_ := Aside0.mk (Kd.R_below (by (with_reducible repeat (first | apply Kd.R_alloc | apply Kd.R_drewN | apply Kd.R_drew)); exact (Kd.R_mono (Kd.R_far (p := ⟨gb113, 0, none⟩) (Kd.R_types HO119.out BK113.out (by decide)) (fun _ hk => hk.2) (.slice Ao19 y117.length co19)) (fun _ h_ => h_.1))) hb); have n3_ := Aside0.mk (Kd.R_lower (Kd.R_new' ho22 (Kd.R_lt (by (with_reducible repeat (first | apply Kd.R_alloc | apply Kd.R_drewN | apply Kd.R_drew)); exact (Kd.R_mono (Kd.R_far (p := ⟨gb113, 0, none⟩) (Kd.R_types HO107.out BK113.out (by decide)) (fun _ hk => hk.2) (.slice Ao19 y117.length co19)) (fun _ h_ => h_.1))))) (below_size (by repeat (first | (with_reducible first | exact HB.out | apply below_alloc | apply pw_below_drewN | apply below_drew1 | refine below_set ?_ GE101.out | refine below_set ?_ GE113.out) | exact HB.out)))); have n4_ := Aside0.mk (blk_below (g := gb101) (o := .cells #[.slice A0_0 l0_0.length c0_0, .slice A0_1 l0_1.length c0_1, .int .u16 a0_2, .int .u16 a0_3, .int .u16 a0_4, .int .u16 a0_5, .int .i64 a0_6] 35 (0, 0)) (by (with_reducible repeat (first | refine blk_drewN ?_ _ | refine blk_drew ?_ | refine blk_alloc ?_ _)); refine blk_far ?_ NB101_113.out _; (with_reducible repeat (first | refine blk_drewN ?_ _ | refine blk_drew ?_ | refine blk_alloc ?_ _)); exact BK101.out) hb); have n5_ := Aside0.mk (blk_below (g := gb113) (o := .cells #[.slice Ao19 y117.length co19, .slice Ao14 t105.length co14, .int .u16 t108, .int .u16 t109, .int .u16 t110, .int .u16 t111, .int .i64 t112] 35 (0, 0)) (by (with_reducible repeat (first | refine blk_drewN ?_ _ | refine blk_drew ?_ | refine blk_alloc ?_ _)); refine blk_put (cs := #[.slice Ao11 t102.length co11, .slice Ao14 t105.length co14, .int .u16 t108, .int .u16 t109, .int .u16 t110, .int .u16 t111, .int .i64 t112]) ?_ 0 _ rfl; (with_reducible repeat (first | refine blk_drewN ?_ _ | refine blk_drew ?_ | refine blk_alloc ?_ _)); exact BK113.out) hb); have n6_ := Aside0.mk (below_step (by repeat (first | (with_reducible first | exact HB.out | apply below_alloc | apply pw_below_drewN | apply below_drew1 | refine below_set ?_ GE101.out | refine below_set ?_ GE113.out) | exact HB.out)) hb); clear HO107; clear HO116; clear HO119; clear BK101; clear BK113; clear HB; have HO107 := n0_; have HO116 := n1_; have HO119 := n2_; have HO122 := n3_; have BK101 := n4_; have BK113 := n5_; have HB := n6_; clear n0_ n1_ n2_ n3_ n4_ n5_ n6_; clear hb ho22; obtain ⟨Ao23, co23, eo23⟩ := Kd.R_slice HO122.out; subst eo23; have hcz24_0 : w21.cell? ⟨gb113, 0, none⟩ = some (.slice Ao19 y117.length co19) := (blk_cell BK113.out 0).trans rfl; have hcz24_1 : w21.cell? ⟨gb113, 1, none⟩ = some (.slice Ao14 t105.length co14) := (blk_cell BK113.out 1).trans rfl; have hcz24_2 : w21.cell? ⟨gb113, 2, none⟩ = some (.int .u16 t108) := (blk_cell BK113.out 2).trans rfl; have hcz24_3 : w21.cell? ⟨gb113, 3, none⟩ = some (.int .u16 t109) := (blk_cell BK113.out 3).trans rfl; have hcz24_4 : w21.cell? ⟨gb113, 4, none⟩ = some (.int .u16 t110) := (blk_cell BK113.out 4).trans rfl; have hcz24_5 : w21.cell? ⟨gb113, 5, none⟩ = some (.int .u16 t111) := (blk_cell BK113.out 5).trans rfl; have hcz24_6 : w21.cell? ⟨gb113, 6, none⟩ = some (.int .i64 t112) := (blk_cell BK113.out 6).trans rfl; have hfz24_0 := blk_frozen BK113.out 0; have hfz24_1 := blk_frozen BK113.out 1; have hfz24_2 := blk_frozen BK113.out 2; have hfz24_3 := blk_frozen BK113.out 3; have hfz24_4 := blk_frozen BK113.out 4; have hfz24_5 := blk_frozen BK113.out 5; have hfz24_6 := blk_frozen BK113.out 6) | ((with_reducible refine gate_store (t := 33) (p := 27) rfl ?_); refine store_event (t := 33) (p := 27) (v := ?vo_w25) (w1 := (w21.setCell ⟨gb113, 1, none⟩ (.slice Ao23 y120.length co23))) ?hg ?ho ?hn ?hr ?_; (case ho => rfl); (case hg => rfl); (case hn => rfl); (case hr => first | (go_simp; done) | (go_simp; rfl)); intro w25 hw; have n0_ : Aside0 (Kd.R (Kd.int .i64) 3 w25 w.heap.size (fun k_ => some k_ ≠ (.slice Ao23 y120.length co23 : Value).ownBlock) (.slice Ao14 t105.length co14) t105) := ⟨(by rw [hw]; exact (by (with_reducible repeat (first | apply Kd.R_alloc | apply Kd.R_drewN | apply Kd.R_drew)); exact Kd.R_mono (Kd.R_far (p := ⟨gb113, 1, none⟩) (Kd.R_types HO107.out BK113.out (by decide)) (fun _ hk => hk.2) (.slice Ao23 y120.length co23)) (fun _ hk => hk.1.2)))⟩; have n1_ : Aside0 (Kd.R (Kd.int .u8) 5 w25 w.heap.size (fun k_ => some k_ ≠ (.slice Ao19 y117.length co19 : Value).ownBlock) (.slice Ao18 y114.length co18) y114) := ⟨(by rw [hw]; exact (by (with_reducible repeat (first | apply Kd.R_alloc | apply Kd.R_drewN | apply Kd.R_drew)); exact Kd.R_mono (Kd.R_far (p := ⟨gb113, 1, none⟩) (Kd.R_types HO116.out BK113.out (by decide)) (fun _ hk => hk.2) (.slice Ao23 y120.length co23)) (fun _ hk => hk.1.2)))⟩; have n2_ : Aside0 (Kd.R (Kd.int .u8) 5 w25 w.heap.size (fun k_ => some k_ ≠ (.slice Ao18 y114.length co18 : Value).ownBlock) (.slice Ao19 y117.length co19) y117) := ⟨(by rw [hw]; exact (by (with_reducible repeat (first | apply Kd.R_alloc | apply Kd.R_drewN | apply Kd.R_drew)); exact Kd.R_mono (Kd.R_far (p := ⟨gb113, 1, none⟩) (Kd.R_types HO119.out BK113.out (by decide)) (fun _ hk => hk.2) (.slice Ao23 y120.length co23)) (fun _ hk => hk.1)))⟩; have n3_ : Aside0 (Kd.R (Kd.int .i64) 3 w25 w.heap.size (fun k_ => some k_ ≠ (.slice Ao14 t105.length co14 : Value).ownBlock) (.slice Ao23 y120.length co23) y120) := ⟨(by rw [hw]; exact (by (with_reducible repeat (first | apply Kd.R_alloc | apply Kd.R_drewN | apply Kd.R_drew)); exact Kd.R_mono (Kd.R_far (p := ⟨gb113, 1, none⟩) (Kd.R_types HO122.out BK113.out (by decide)) (fun _ hk => hk.2) (.slice Ao23 y120.length co23)) (fun _ hk => hk.1.2)))⟩; have n4_ : Aside0 (w25.heap[gb101]? = some (.cells #[.slice A0_0 l0_0.length c0_0, .slice A0_1 l0_1.length c0_1, .int .u16 a0_2, .int .u16 a0_3, .int .u16 a0_4, .int .u16 a0_5, .int .i64 a0_6] 35 (0, 0))) := ⟨(by rw [hw]; exact (by (with_reducible repeat (first | refine blk_drewN ?_ _ | refine blk_drew ?_ | refine blk_alloc ?_ _)); refine blk_far ?_ NB101_113.out _; (with_reducible repeat (first | refine blk_drewN ?_ _ | refine blk_drew ?_ | refine blk_alloc ?_ _)); exact BK101.out))⟩; have n5_ : Aside0 (w25.heap[gb113]? = some (.cells #[.slice Ao19 y117.length co19, .slice Ao23 y120.length co23, .int .u16 t108, .int .u16 t109, .int .u16 t110, .int .u16 t111, .int .i64 t112] 35 (0, 0))) := ⟨(by rw [hw]; exact (by (with_reducible repeat (first | refine blk_drewN ?_ _ | refine blk_drew ?_ | refine blk_alloc ?_ _)); refine blk_put (cs := #[.slice Ao19 y117.length co19, .slice Ao14 t105.length co14, .int .u16 t108, .int .u16 t109, .int .u16 t110, .int .u16 t111, .int .i64 t112]) ?_ 1 _ rfl; (with_reducible repeat (first | refine blk_drewN ?_ _ | refine blk_drew ?_ | refine blk_alloc ?_ _)); exact BK113.out))⟩; have n6_ : Aside0 (Below w.heap.size w w25) := ⟨(by rw [hw]; exact (by repeat (first | (with_reducible first | exact HB.out | apply below_alloc | apply pw_below_drewN | apply below_drew1 | refine below_set ?_ GE101.out | refine below_set ?_ GE113.out) | exact HB.out)))⟩; clear hw; clear HO107; clear HO116; clear HO119; clear HO122; clear BK101; clear BK113; clear HB; have HO107 := n0_; have HO116 := n1_; have HO119 := n2_; have HO122 := n3_; have BK101 := n4_; have BK113 := n5_; have HB := n6_; clear n0_ n1_ n2_ n3_ n4_ n5_ n6_))
    (try simp only [Act.put, List.setIfInBounds_toArray, List.set_cons_zero, List.set_cons_succ])
    go_cut [9] (fun v9 wc => ∃ (kq : Nat) (x9_5 : Int) (x114001_5 : List Int) (x114006_5 : Int) (u114001 : Value), v9 = .int .i64 x9_5 ∧ Aside0 (hansomlaw44_MzMay.j0 kq x9_5 y117 x114001_5 t108 t109 t110 t111 x114006_5 = some true) ∧ Aside0 (kq ≤ k) ∧ Aside0 (Kd.R (Kd.int .u8) 5 wc w.heap.size (fun _ => True) (.slice Ao19 y117.length co19) y117) ∧ Aside0 (Kd.R (Kd.int .i64) 3 wc w.heap.size (fun _ => True) u114001 x114001_5) ∧ Aside0 (wc.heap[gb101]? = some (.cells #[(.slice A0_0 l0_0.length c0_0), (.slice A0_1 l0_1.length c0_1), .int .u16 a0_2, .int .u16 a0_3, .int .u16 a0_4, .int .u16 a0_5, .int .i64 a0_6] 35 (0, 0))) ∧ Aside0 (wc.heap[gb113]? = some (.cells #[(.slice Ao19 y117.length co19), u114001, .int .u16 t108, .int .u16 t109, .int .u16 t110, .int .u16 t111, .int .i64 x114006_5] 35 (0, 0))) ∧ Aside0 (Below w.heap.size w wc))
    case first =>
      have H := HC6.out
      clear HC6
      by_cases c26 : (Int.tmod (Go.bits .and .i64 a1 15) 7) = 0
      · rw [if_pos c26] at H
        have c26b0 : ((Int.tmod (Go.bits .and .i64 a1 15) 7) == 0) = true := beq_iff_eq.mpr c26
        have c26b1 : ((Int.tmod (Go.bits .and .i64 a1 15) 7) != 0) = false := bne_eq_false_iff_eq.mpr c26
        clear c26
        (first | rw [c26b0] | (simp only [i64_w, i32_w]; rw [c26b0]) | skip)
        by_cases c27 : 1 < (y120.length : Int)
        · rw [if_pos c27] at H
          have c27b0 : decide (1 < (y120.length : Int)) = true := decide_eq_true c27
          have c27b1 : decide (1 < y120.length) = true := decide_eq_true (by omega)
          clear c27
          obtain ⟨y123, hy123⟩ : ∃ y_ : List Int, y_ = (y120.set (1 : Int).toNat (wrap64 ((y117.length : Int) - 1))) := ⟨_, rfl⟩
          replace H : (hansomlaw44_MzMay.j0 k 1 y117 y123 t108 t109 t110 t111 t112) = some true := by first | (rw [hy123]; with_reducible exact H) | (have H2_ := (Option.bind_some _ _).symm.trans H; rw [hy123]; with_reducible exact H2_) | (have H2_ := (Option.bind_some _ _).symm.trans H; with_reducible exact H2_) | with_reducible exact H | (rw [hy123]; exact H) | exact H
          have Ny123 := Aside0.mk hy123
          clear hy123
          have H' := Aside0.mk H
          clear H
          have hnb29 := NB113_101.out
          have hnc29 := NB101_113.out
          have hcz30_0 : w25.cell? ⟨gb113, 0, none⟩ = some (.slice Ao19 y117.length co19) := (blk_cell BK113.out 0).trans rfl
          have hcz30_1 : w25.cell? ⟨gb113, 1, none⟩ = some (.slice Ao23 y120.length co23) := (blk_cell BK113.out 1).trans rfl
          have hcz30_2 : w25.cell? ⟨gb113, 2, none⟩ = some (.int .u16 t108) := (blk_cell BK113.out 2).trans rfl
          have hcz30_3 : w25.cell? ⟨gb113, 3, none⟩ = some (.int .u16 t109) := (blk_cell BK113.out 3).trans rfl
          have hcz30_4 : w25.cell? ⟨gb113, 4, none⟩ = some (.int .u16 t110) := (blk_cell BK113.out 4).trans rfl
          have hcz30_5 : w25.cell? ⟨gb113, 5, none⟩ = some (.int .u16 t111) := (blk_cell BK113.out 5).trans rfl
          have hcz30_6 : w25.cell? ⟨gb113, 6, none⟩ = some (.int .i64 t112) := (blk_cell BK113.out 6).trans rfl
          have hfz30_0 := blk_frozen BK113.out 0
          have hfz30_1 := blk_frozen BK113.out 1
          have hfz30_2 := blk_frozen BK113.out 2
          have hfz30_3 := blk_frozen BK113.out 3
          have hfz30_4 := blk_frozen BK113.out 4
          have hfz30_5 := blk_frozen BK113.out 5
          have hfz30_6 := blk_frozen BK113.out 6
          have p28 : 0 ≤ (1 : Int) := (by omega)
          have q28 : (1 : Int) < ((y120.length : Int) : Int) := of_decide_eq_true (by first | (with_reducible assumption) | assumption)
          have qi28 : (1 < y120.length) = True := eq_true (by omega)
          obtain ⟨go28, co28, eo28, gb28, gl28, cl28, HG28⟩ := Kd.R_form HO122.out (by omega)
          (first | cases eo28 | (injection eo28 with ea_ en_ ec_; (first | subst ea_ | (injection ea_ with ea_; subst ea_)); subst ec_; clear en_))
          have GB28 := Aside0.mk gb28
          have GG28 := Aside0.mk HG28
          clear gb28 gl28 HG28
          obtain ⟨hx28_0, hf28_0⟩ := Kd.R_celln 0 HO122.out (1 : Int) p28 q28
          (try rw [show ((1 : Int)).toNat = 1 from rfl] at hx28_0)
          (try simp only [Nat.reduceMul, Nat.zero_mul, Nat.zero_add, Nat.reduceAdd] at hx28_0)
          (try rw [show ((1 : Int)).toNat = 1 from rfl] at hf28_0)
          (try simp only [Nat.reduceMul, Nat.zero_mul, Nat.zero_add, Nat.reduceAdd] at hf28_0)
          replace p28 := eq_true p28
          replace q28 := eq_true q28
          have HP31 := Kd.R_putg HO122.out (1 : Int) (wrap64 ((y117.length : Int) - 1))
          go_wp2_with (first | ((with_reducible refine gate_store (t := 3) (p := 37) rfl ?_); refine store_event (t := 3) (p := 37) (v := ?vo_w32) (w1 := (w25.setCell ⟨go28, (1 : Int).toNat, none⟩ (.int .i64 (wrap64 ((y117.length : Int) - 1))))) ?hg ?ho ?hn ?hr ?_; (case ho => rfl); (case hg => rfl); (case hn => rfl); (case hr => first | (go_simp; done) | (go_simp; rfl)); intro w32 hw; have hg : w25.grownBy w32 (some go28) := (by rw [hw]; exact HP31.2); have hp_ : Kd.R (Kd.int .i64) 3 w32 w.heap.size (fun k_ => some k_ ≠ (.slice Ao14 t105.length co14 : Value).ownBlock) (.slice (some ⟨go28, 0, none⟩) y120.length co23) y123 := (by rw [hw, Ny123.out]; exact HP31.1); clear HP31; have n0_ := Aside0.mk (blk_grown (g := gb101) (o := .cells #[.slice A0_0 l0_0.length c0_0, .slice A0_1 l0_1.length c0_1, .int .u16 a0_2, .int .u16 a0_3, .int .u16 a0_4, .int .u16 a0_5, .int .i64 a0_6] 35 (0, 0)) (by (with_reducible repeat (first | refine blk_drewN ?_ _ | refine blk_drew ?_ | refine blk_alloc ?_ _)); exact BK101.out) hg (Kd.R_ne HO122.out BK101.out (by decide))); have n1_ := Aside0.mk (Kd.R_after (v := (.slice (some ⟨go28, 0, none⟩) y120.length co23)) (v1 := (.slice (some ⟨go28, 0, none⟩) y120.length co23)) (ok := (fun _ => True)) (by (with_reducible repeat (first | apply Kd.R_alloc | apply Kd.R_drewN | apply Kd.R_drew)); exact Kd.R_mono HO107.out (fun _ hk => ⟨trivial, hk⟩)) hg (.inl rfl)); have n2_ := Aside0.mk (blk_grown (g := gb113) (o := .cells #[.slice Ao19 y117.length co19, .slice (some ⟨go28, 0, none⟩) y120.length co23, .int .u16 t108, .int .u16 t109, .int .u16 t110, .int .u16 t111, .int .i64 t112] 35 (0, 0)) (by (with_reducible repeat (first | refine blk_drewN ?_ _ | refine blk_drew ?_ | refine blk_alloc ?_ _)); exact BK113.out) hg (Kd.R_ne HO122.out BK113.out (by decide))); have n3_ := Aside0.mk (Kd.R_over' (v := (.slice (some ⟨go28, 0, none⟩) y120.length co23)) (by (with_reducible repeat (first | apply Kd.R_alloc | apply Kd.R_drewN | apply Kd.R_drew)); exact HO116.out) (Kd.R_typed HO122.out) (by decide) hg); have n4_ := Aside0.mk (Kd.R_over' (v := (.slice (some ⟨go28, 0, none⟩) y120.length co23)) (by (with_reducible repeat (first | apply Kd.R_alloc | apply Kd.R_drewN | apply Kd.R_drew)); exact HO119.out) (Kd.R_typed HO122.out) (by decide) hg); have n5_ := Aside0.mk (hp_); have n6_ := Aside0.mk ((by rw [hw]; exact below_set (HB.out) GB28.out : Below w.heap.size w w32)); clear BK101; clear HO107; clear BK113; clear HO116; clear HO119; clear HO122; clear HB; have BK101 := n0_; have HO107 := n1_; have BK113 := n2_; have HO116 := n3_; have HO119 := n4_; have HO122 := n5_; have HB := n6_; clear n0_ n1_ n2_ n3_ n4_ n5_ n6_; clear hg hw hp_))
          go_meet
          case rel => exact ⟨_, (1), (y123), (t112), (.slice (some ⟨go28, 0, none⟩) y120.length co23), (by first | rfl | (simp; done) | (simp [*]; done)), H', ⟨by first | omega | exact Nat.le_refl _⟩, ⟨by (with_reducible repeat (first | apply Kd.R_alloc | apply Kd.R_drewN | apply Kd.R_drew)); exact Kd.R_mono HO119.out (fun _ hk => trivial)⟩, ⟨by (with_reducible repeat (first | apply Kd.R_alloc | apply Kd.R_drewN | apply Kd.R_drew)); exact Kd.R_mono HO122.out (fun _ hk => trivial)⟩, ⟨by (with_reducible repeat (first | refine blk_drewN ?_ _ | refine blk_drew ?_ | refine blk_alloc ?_ _)); exact BK101.out⟩, ⟨by (with_reducible repeat (first | refine blk_drewN ?_ _ | refine blk_drew ?_ | refine blk_alloc ?_ _)); exact BK113.out⟩, ⟨by repeat (first | (with_reducible first | exact HB.out | apply below_alloc | apply pw_below_drewN | apply below_drew1 | refine below_set ?_ GE101.out | refine below_set ?_ GE113.out) | exact HB.out)⟩⟩
        · rw [if_neg c27] at H
          exact absurd H (by simp)
      · rw [if_neg c26] at H
        have c26b0 : ((Int.tmod (Go.bits .and .i64 a1 15) 7) == 0) = false := beq_eq_false_iff_ne.mpr c26
        have c26b1 : ((Int.tmod (Go.bits .and .i64 a1 15) 7) != 0) = true := bne_iff_ne.mpr c26
        (first | rw [c26b0] | (simp only [i64_w, i32_w]; rw [c26b0]) | skip)
        by_cases c33 : (Int.tmod (Go.bits .and .i64 a1 15) 7) = 1
        · rw [if_pos c33] at H
          have c33b0 : ((Int.tmod (Go.bits .and .i64 a1 15) 7) == 1) = true := beq_iff_eq.mpr c33
          have c33b1 : ((Int.tmod (Go.bits .and .i64 a1 15) 7) != 1) = false := bne_eq_false_iff_eq.mpr c33
          clear c33
          by_cases c34 : 1 < (y120.length : Int)
          · rw [if_pos c34] at H
            have c34b0 : decide (1 < (y120.length : Int)) = true := decide_eq_true c34
            have c34b1 : decide (1 < y120.length) = true := decide_eq_true (by omega)
            clear c34
            obtain ⟨y124, hy124⟩ : ∃ y_ : List Int, y_ = (y120.set (1 : Int).toNat (wrap64 ((y117.length : Int) - 3))) := ⟨_, rfl⟩
            replace H : (hansomlaw44_MzMay.j0 k 1 y117 y124 t108 t109 t110 t111 t112) = some true := by first | (rw [hy124]; with_reducible exact H) | (have H2_ := (Option.bind_some _ _).symm.trans H; rw [hy124]; with_reducible exact H2_) | (have H2_ := (Option.bind_some _ _).symm.trans H; with_reducible exact H2_) | with_reducible exact H | (rw [hy124]; exact H) | exact H
            have Ny124 := Aside0.mk hy124
            clear hy124
            have H' := Aside0.mk H
            clear H
            have hnb36 := NB113_101.out
            have hnc36 := NB101_113.out
            have hcz37_0 : w25.cell? ⟨gb113, 0, none⟩ = some (.slice Ao19 y117.length co19) := (blk_cell BK113.out 0).trans rfl
            have hcz37_1 : w25.cell? ⟨gb113, 1, none⟩ = some (.slice Ao23 y120.length co23) := (blk_cell BK113.out 1).trans rfl
            have hcz37_2 : w25.cell? ⟨gb113, 2, none⟩ = some (.int .u16 t108) := (blk_cell BK113.out 2).trans rfl
            have hcz37_3 : w25.cell? ⟨gb113, 3, none⟩ = some (.int .u16 t109) := (blk_cell BK113.out 3).trans rfl
            have hcz37_4 : w25.cell? ⟨gb113, 4, none⟩ = some (.int .u16 t110) := (blk_cell BK113.out 4).trans rfl
            have hcz37_5 : w25.cell? ⟨gb113, 5, none⟩ = some (.int .u16 t111) := (blk_cell BK113.out 5).trans rfl
            have hcz37_6 : w25.cell? ⟨gb113, 6, none⟩ = some (.int .i64 t112) := (blk_cell BK113.out 6).trans rfl
            have hfz37_0 := blk_frozen BK113.out 0
            have hfz37_1 := blk_frozen BK113.out 1
            have hfz37_2 := blk_frozen BK113.out 2
            have hfz37_3 := blk_frozen BK113.out 3
            have hfz37_4 := blk_frozen BK113.out 4
            have hfz37_5 := blk_frozen BK113.out 5
            have hfz37_6 := blk_frozen BK113.out 6
            have p35 : 0 ≤ (1 : Int) := (by omega)
            have q35 : (1 : Int) < ((y120.length : Int) : Int) := of_decide_eq_true (by first | (with_reducible assumption) | assumption)
            have qi35 : (1 < y120.length) = True := eq_true (by omega)
            obtain ⟨go35, co35, eo35, gb35, gl35, cl35, HG35⟩ := Kd.R_form HO122.out (by omega)
            (first | cases eo35 | (injection eo35 with ea_ en_ ec_; (first | subst ea_ | (injection ea_ with ea_; subst ea_)); subst ec_; clear en_))
            have GB35 := Aside0.mk gb35
            have GG35 := Aside0.mk HG35
            clear gb35 gl35 HG35
            obtain ⟨hx35_0, hf35_0⟩ := Kd.R_celln 0 HO122.out (1 : Int) p35 q35
            (try rw [show ((1 : Int)).toNat = 1 from rfl] at hx35_0)
            (try simp only [Nat.reduceMul, Nat.zero_mul, Nat.zero_add, Nat.reduceAdd] at hx35_0)
            (try rw [show ((1 : Int)).toNat = 1 from rfl] at hf35_0)
            (try simp only [Nat.reduceMul, Nat.zero_mul, Nat.zero_add, Nat.reduceAdd] at hf35_0)
            replace p35 := eq_true p35
            replace q35 := eq_true q35
            have HP38 := Kd.R_putg HO122.out (1 : Int) (wrap64 ((y117.length : Int) - 3))
            go_wp2_with (first | ((with_reducible refine gate_store (t := 3) (p := 44) rfl ?_); refine store_event (t := 3) (p := 44) (v := ?vo_w39) (w1 := (w25.setCell ⟨go35, (1 : Int).toNat, none⟩ (.int .i64 (wrap64 ((y117.length : Int) - 3))))) ?hg ?ho ?hn ?hr ?_; (case ho => rfl); (case hg => rfl); (case hn => rfl); (case hr => first | (go_simp; done) | (go_simp; rfl)); intro w39 hw; have hg : w25.grownBy w39 (some go35) := (by rw [hw]; exact HP38.2); have hp_ : Kd.R (Kd.int .i64) 3 w39 w.heap.size (fun k_ => some k_ ≠ (.slice Ao14 t105.length co14 : Value).ownBlock) (.slice (some ⟨go35, 0, none⟩) y120.length co23) y124 := (by rw [hw, Ny124.out]; exact HP38.1); clear HP38; have n0_ := Aside0.mk (blk_grown (g := gb101) (o := .cells #[.slice A0_0 l0_0.length c0_0, .slice A0_1 l0_1.length c0_1, .int .u16 a0_2, .int .u16 a0_3, .int .u16 a0_4, .int .u16 a0_5, .int .i64 a0_6] 35 (0, 0)) (by (with_reducible repeat (first | refine blk_drewN ?_ _ | refine blk_drew ?_ | refine blk_alloc ?_ _)); exact BK101.out) hg (Kd.R_ne HO122.out BK101.out (by decide))); have n1_ := Aside0.mk (Kd.R_after (v := (.slice (some ⟨go35, 0, none⟩) y120.length co23)) (v1 := (.slice (some ⟨go35, 0, none⟩) y120.length co23)) (ok := (fun _ => True)) (by (with_reducible repeat (first | apply Kd.R_alloc | apply Kd.R_drewN | apply Kd.R_drew)); exact Kd.R_mono HO107.out (fun _ hk => ⟨trivial, hk⟩)) hg (.inl rfl)); have n2_ := Aside0.mk (blk_grown (g := gb113) (o := .cells #[.slice Ao19 y117.length co19, .slice (some ⟨go35, 0, none⟩) y120.length co23, .int .u16 t108, .int .u16 t109, .int .u16 t110, .int .u16 t111, .int .i64 t112] 35 (0, 0)) (by (with_reducible repeat (first | refine blk_drewN ?_ _ | refine blk_drew ?_ | refine blk_alloc ?_ _)); exact BK113.out) hg (Kd.R_ne HO122.out BK113.out (by decide))); have n3_ := Aside0.mk (Kd.R_over' (v := (.slice (some ⟨go35, 0, none⟩) y120.length co23)) (by (with_reducible repeat (first | apply Kd.R_alloc | apply Kd.R_drewN | apply Kd.R_drew)); exact HO116.out) (Kd.R_typed HO122.out) (by decide) hg); have n4_ := Aside0.mk (Kd.R_over' (v := (.slice (some ⟨go35, 0, none⟩) y120.length co23)) (by (with_reducible repeat (first | apply Kd.R_alloc | apply Kd.R_drewN | apply Kd.R_drew)); exact HO119.out) (Kd.R_typed HO122.out) (by decide) hg); have n5_ := Aside0.mk (hp_); have n6_ := Aside0.mk ((by rw [hw]; exact below_set (HB.out) GB35.out : Below w.heap.size w w39)); clear BK101; clear HO107; clear BK113; clear HO116; clear HO119; clear HO122; clear HB; have BK101 := n0_; have HO107 := n1_; have BK113 := n2_; have HO116 := n3_; have HO119 := n4_; have HO122 := n5_; have HB := n6_; clear n0_ n1_ n2_ n3_ n4_ n5_ n6_; clear hg hw hp_))
            go_meet
            case rel => exact ⟨_, (1), (y124), (t112), (.slice (some ⟨go35, 0, none⟩) y120.length co23), (by first | rfl | (simp; done) | (simp [*]; done)), H', ⟨by first | omega | exact Nat.le_refl _⟩, ⟨by (with_reducible repeat (first | apply Kd.R_alloc | apply Kd.R_drewN | apply Kd.R_drew)); exact Kd.R_mono HO119.out (fun _ hk => trivial)⟩, ⟨by (with_reducible repeat (first | apply Kd.R_alloc | apply Kd.R_drewN | apply Kd.R_drew)); exact Kd.R_mono HO122.out (fun _ hk => trivial)⟩, ⟨by (with_reducible repeat (first | refine blk_drewN ?_ _ | refine blk_drew ?_ | refine blk_alloc ?_ _)); exact BK101.out⟩, ⟨by (with_reducible repeat (first | refine blk_drewN ?_ _ | refine blk_drew ?_ | refine blk_alloc ?_ _)); exact BK113.out⟩, ⟨by repeat (first | (with_reducible first | exact HB.out | apply below_alloc | apply pw_below_drewN | apply below_drew1 | refine below_set ?_ GE101.out | refine below_set ?_ GE113.out) | exact HB.out)⟩⟩
          · rw [if_neg c34] at H
            exact absurd H (by simp)
        · rw [if_neg c33] at H
          have c33b0 : ((Int.tmod (Go.bits .and .i64 a1 15) 7) == 1) = false := beq_eq_false_iff_ne.mpr c33
          have c33b1 : ((Int.tmod (Go.bits .and .i64 a1 15) 7) != 1) = true := bne_iff_ne.mpr c33
          by_cases c40 : (Int.tmod (Go.bits .and .i64 a1 15) 7) = 2
          · rw [if_pos c40] at H
            have c40b0 : ((Int.tmod (Go.bits .and .i64 a1 15) 7) == 2) = true := beq_iff_eq.mpr c40
            have c40b1 : ((Int.tmod (Go.bits .and .i64 a1 15) 7) != 2) = false := bne_eq_false_iff_eq.mpr c40
            clear c40
            by_cases c41 : 0 < (y120.length : Int)
            · rw [if_pos c41] at H
              have c41b0 : decide (0 < (y120.length : Int)) = true := decide_eq_true c41
              have c41b1 : decide (0 < y120.length) = true := decide_eq_true (by omega)
              clear c41
              obtain ⟨y125, hy125⟩ : ∃ y_ : List Int, y_ = (y120.set (0 : Int).toNat (wrap64 ((-1) - (Go.bits .and .i64 a2 255)))) := ⟨_, rfl⟩
              replace H : (hansomlaw44_MzMay.j0 k 1 y117 y125 t108 t109 t110 t111 t112) = some true := by first | (rw [hy125]; with_reducible exact H) | (have H2_ := (Option.bind_some _ _).symm.trans H; rw [hy125]; with_reducible exact H2_) | (have H2_ := (Option.bind_some _ _).symm.trans H; with_reducible exact H2_) | with_reducible exact H | (rw [hy125]; exact H) | exact H
              have Ny125 := Aside0.mk hy125
              clear hy125
              have H' := Aside0.mk H
              clear H
              have hnb43 := NB113_101.out
              have hnc43 := NB101_113.out
              have hcz44_0 : w25.cell? ⟨gb113, 0, none⟩ = some (.slice Ao19 y117.length co19) := (blk_cell BK113.out 0).trans rfl
              have hcz44_1 : w25.cell? ⟨gb113, 1, none⟩ = some (.slice Ao23 y120.length co23) := (blk_cell BK113.out 1).trans rfl
              have hcz44_2 : w25.cell? ⟨gb113, 2, none⟩ = some (.int .u16 t108) := (blk_cell BK113.out 2).trans rfl
              have hcz44_3 : w25.cell? ⟨gb113, 3, none⟩ = some (.int .u16 t109) := (blk_cell BK113.out 3).trans rfl
              have hcz44_4 : w25.cell? ⟨gb113, 4, none⟩ = some (.int .u16 t110) := (blk_cell BK113.out 4).trans rfl
              have hcz44_5 : w25.cell? ⟨gb113, 5, none⟩ = some (.int .u16 t111) := (blk_cell BK113.out 5).trans rfl
              have hcz44_6 : w25.cell? ⟨gb113, 6, none⟩ = some (.int .i64 t112) := (blk_cell BK113.out 6).trans rfl
              have hfz44_0 := blk_frozen BK113.out 0
              have hfz44_1 := blk_frozen BK113.out 1
              have hfz44_2 := blk_frozen BK113.out 2
              have hfz44_3 := blk_frozen BK113.out 3
              have hfz44_4 := blk_frozen BK113.out 4
              have hfz44_5 := blk_frozen BK113.out 5
              have hfz44_6 := blk_frozen BK113.out 6
              have p42 : 0 ≤ (0 : Int) := (by omega)
              have q42 : (0 : Int) < ((y120.length : Int) : Int) := of_decide_eq_true (by first | (with_reducible assumption) | assumption)
              have qi42 : (0 < y120.length) = True := eq_true (by omega)
              obtain ⟨go42, co42, eo42, gb42, gl42, cl42, HG42⟩ := Kd.R_form HO122.out (by omega)
              (first | cases eo42 | (injection eo42 with ea_ en_ ec_; (first | subst ea_ | (injection ea_ with ea_; subst ea_)); subst ec_; clear en_))
              have GB42 := Aside0.mk gb42
              have GG42 := Aside0.mk HG42
              clear gb42 gl42 HG42
              obtain ⟨hx42_0, hf42_0⟩ := Kd.R_celln 0 HO122.out (0 : Int) p42 q42
              (try rw [show ((0 : Int)).toNat = 0 from rfl] at hx42_0)
              (try simp only [Nat.reduceMul, Nat.zero_mul, Nat.zero_add, Nat.reduceAdd] at hx42_0)
              (try rw [show ((0 : Int)).toNat = 0 from rfl] at hf42_0)
              (try simp only [Nat.reduceMul, Nat.zero_mul, Nat.zero_add, Nat.reduceAdd] at hf42_0)
              replace p42 := eq_true p42
              replace q42 := eq_true q42
              have HP45 := Kd.R_putg HO122.out (0 : Int) (wrap64 ((-1) - (Go.bits .and .i64 a2 255)))
              go_wp2_with (first | ((with_reducible refine gate_store (t := 3) (p := 52) rfl ?_); refine store_event (t := 3) (p := 52) (v := ?vo_w46) (w1 := (w25.setCell ⟨go42, (0 : Int).toNat, none⟩ (.int .i64 (wrap64 ((-1) - (Go.bits .and .i64 a2 255)))))) ?hg ?ho ?hn ?hr ?_; (case ho => rfl); (case hg => rfl); (case hn => rfl); (case hr => first | (go_simp; done) | (go_simp; rfl)); intro w46 hw; have hg : w25.grownBy w46 (some go42) := (by rw [hw]; exact HP45.2); have hp_ : Kd.R (Kd.int .i64) 3 w46 w.heap.size (fun k_ => some k_ ≠ (.slice Ao14 t105.length co14 : Value).ownBlock) (.slice (some ⟨go42, 0, none⟩) y120.length co23) y125 := (by rw [hw, Ny125.out]; exact HP45.1); clear HP45; have n0_ := Aside0.mk (blk_grown (g := gb101) (o := .cells #[.slice A0_0 l0_0.length c0_0, .slice A0_1 l0_1.length c0_1, .int .u16 a0_2, .int .u16 a0_3, .int .u16 a0_4, .int .u16 a0_5, .int .i64 a0_6] 35 (0, 0)) (by (with_reducible repeat (first | refine blk_drewN ?_ _ | refine blk_drew ?_ | refine blk_alloc ?_ _)); exact BK101.out) hg (Kd.R_ne HO122.out BK101.out (by decide))); have n1_ := Aside0.mk (Kd.R_after (v := (.slice (some ⟨go42, 0, none⟩) y120.length co23)) (v1 := (.slice (some ⟨go42, 0, none⟩) y120.length co23)) (ok := (fun _ => True)) (by (with_reducible repeat (first | apply Kd.R_alloc | apply Kd.R_drewN | apply Kd.R_drew)); exact Kd.R_mono HO107.out (fun _ hk => ⟨trivial, hk⟩)) hg (.inl rfl)); have n2_ := Aside0.mk (blk_grown (g := gb113) (o := .cells #[.slice Ao19 y117.length co19, .slice (some ⟨go42, 0, none⟩) y120.length co23, .int .u16 t108, .int .u16 t109, .int .u16 t110, .int .u16 t111, .int .i64 t112] 35 (0, 0)) (by (with_reducible repeat (first | refine blk_drewN ?_ _ | refine blk_drew ?_ | refine blk_alloc ?_ _)); exact BK113.out) hg (Kd.R_ne HO122.out BK113.out (by decide))); have n3_ := Aside0.mk (Kd.R_over' (v := (.slice (some ⟨go42, 0, none⟩) y120.length co23)) (by (with_reducible repeat (first | apply Kd.R_alloc | apply Kd.R_drewN | apply Kd.R_drew)); exact HO116.out) (Kd.R_typed HO122.out) (by decide) hg); have n4_ := Aside0.mk (Kd.R_over' (v := (.slice (some ⟨go42, 0, none⟩) y120.length co23)) (by (with_reducible repeat (first | apply Kd.R_alloc | apply Kd.R_drewN | apply Kd.R_drew)); exact HO119.out) (Kd.R_typed HO122.out) (by decide) hg); have n5_ := Aside0.mk (hp_); have n6_ := Aside0.mk ((by rw [hw]; exact below_set (HB.out) GB42.out : Below w.heap.size w w46)); clear BK101; clear HO107; clear BK113; clear HO116; clear HO119; clear HO122; clear HB; have BK101 := n0_; have HO107 := n1_; have BK113 := n2_; have HO116 := n3_; have HO119 := n4_; have HO122 := n5_; have HB := n6_; clear n0_ n1_ n2_ n3_ n4_ n5_ n6_; clear hg hw hp_))
              go_meet
              case rel => exact ⟨_, (1), (y125), (t112), (.slice (some ⟨go42, 0, none⟩) y120.length co23), (by first | rfl | (simp; done) | (simp [*]; done)), H', ⟨by first | omega | exact Nat.le_refl _⟩, ⟨by (with_reducible repeat (first | apply Kd.R_alloc | apply Kd.R_drewN | apply Kd.R_drew)); exact Kd.R_mono HO119.out (fun _ hk => trivial)⟩, ⟨by (with_reducible repeat (first | apply Kd.R_alloc | apply Kd.R_drewN | apply Kd.R_drew)); exact Kd.R_mono HO122.out (fun _ hk => trivial)⟩, ⟨by (with_reducible repeat (first | refine blk_drewN ?_ _ | refine blk_drew ?_ | refine blk_alloc ?_ _)); exact BK101.out⟩, ⟨by (with_reducible repeat (first | refine blk_drewN ?_ _ | refine blk_drew ?_ | refine blk_alloc ?_ _)); exact BK113.out⟩, ⟨by repeat (first | (with_reducible first | exact HB.out | apply below_alloc | apply pw_below_drewN | apply below_drew1 | refine below_set ?_ GE101.out | refine below_set ?_ GE113.out) | exact HB.out)⟩⟩
            · rw [if_neg c41] at H
              exact absurd H (by simp)
          · rw [if_neg c40] at H
            have c40b0 : ((Int.tmod (Go.bits .and .i64 a1 15) 7) == 2) = false := beq_eq_false_iff_ne.mpr c40
            have c40b1 : ((Int.tmod (Go.bits .and .i64 a1 15) 7) != 2) = true := bne_iff_ne.mpr c40
            by_cases c47 : (Int.tmod (Go.bits .and .i64 a1 15) 7) = 3
            · rw [if_pos c47] at H
              have c47b0 : ((Int.tmod (Go.bits .and .i64 a1 15) 7) == 3) = true := beq_iff_eq.mpr c47
              have c47b1 : ((Int.tmod (Go.bits .and .i64 a1 15) 7) != 3) = false := bne_eq_false_iff_eq.mpr c47
              clear c47
              by_cases c48 : 0 < (y120.length : Int)
              · rw [if_pos c48] at H
                have c48b0 : decide (0 < (y120.length : Int)) = true := decide_eq_true c48
                have c48b1 : decide (0 < y120.length) = true := decide_eq_true (by omega)
                clear c48
                obtain ⟨y126, hy126⟩ : ∃ y_ : List Int, y_ = (y120.set (0 : Int).toNat (wrap64 ((y117.length : Int) - 2))) := ⟨_, rfl⟩
                replace H : (if 1 < (y120.length : Int) then (hansomlaw44_MzMay.j0 k 1 y117 (y126.set (1 : Int).toNat (wrap64 ((y117.length : Int) - 4))) t108 t109 t110 t111 t112) else (none)) = some true := by first | (rw [hy126]; with_reducible exact H) | (have H2_ := (Option.bind_some _ _).symm.trans H; rw [hy126]; with_reducible exact H2_) | (have H2_ := (Option.bind_some _ _).symm.trans H; with_reducible exact H2_) | with_reducible exact H | (rw [hy126]; exact H) | exact H
                have Ny126 := Aside0.mk hy126
                clear hy126
                by_cases c50 : 1 < (y120.length : Int)
                · rw [if_pos c50] at H
                  have c50b0 : decide (1 < (y120.length : Int)) = true := decide_eq_true c50
                  have c50b1 : decide (1 < y120.length) = true := decide_eq_true (by omega)
                  clear c50
                  obtain ⟨y127, hy127⟩ : ∃ y_ : List Int, y_ = (y126.set (1 : Int).toNat (wrap64 ((y117.length : Int) - 4))) := ⟨_, rfl⟩
                  replace H : (hansomlaw44_MzMay.j0 k 1 y117 y127 t108 t109 t110 t111 t112) = some true := by first | (rw [hy127]; with_reducible exact H) | (have H2_ := (Option.bind_some _ _).symm.trans H; rw [hy127]; with_reducible exact H2_) | (have H2_ := (Option.bind_some _ _).symm.trans H; with_reducible exact H2_) | with_reducible exact H | (rw [hy127]; exact H) | exact H
                  have Ny127 := Aside0.mk hy127
                  clear hy127
                  have H' := Aside0.mk H
                  clear H
                  have hnb52 := NB113_101.out
                  have hnc52 := NB101_113.out
                  have hcz53_0 : w25.cell? ⟨gb113, 0, none⟩ = some (.slice Ao19 y117.length co19) := (blk_cell BK113.out 0).trans rfl
                  have hcz53_1 : w25.cell? ⟨gb113, 1, none⟩ = some (.slice Ao23 y120.length co23) := (blk_cell BK113.out 1).trans rfl
                  have hcz53_2 : w25.cell? ⟨gb113, 2, none⟩ = some (.int .u16 t108) := (blk_cell BK113.out 2).trans rfl
                  have hcz53_3 : w25.cell? ⟨gb113, 3, none⟩ = some (.int .u16 t109) := (blk_cell BK113.out 3).trans rfl
                  have hcz53_4 : w25.cell? ⟨gb113, 4, none⟩ = some (.int .u16 t110) := (blk_cell BK113.out 4).trans rfl
                  have hcz53_5 : w25.cell? ⟨gb113, 5, none⟩ = some (.int .u16 t111) := (blk_cell BK113.out 5).trans rfl
                  have hcz53_6 : w25.cell? ⟨gb113, 6, none⟩ = some (.int .i64 t112) := (blk_cell BK113.out 6).trans rfl
                  have hfz53_0 := blk_frozen BK113.out 0
                  have hfz53_1 := blk_frozen BK113.out 1
                  have hfz53_2 := blk_frozen BK113.out 2
                  have hfz53_3 := blk_frozen BK113.out 3
                  have hfz53_4 := blk_frozen BK113.out 4
                  have hfz53_5 := blk_frozen BK113.out 5
                  have hfz53_6 := blk_frozen BK113.out 6
                  have p49 : 0 ≤ (0 : Int) := (by omega)
                  have q49 : (0 : Int) < ((y120.length : Int) : Int) := of_decide_eq_true (by first | (with_reducible assumption) | assumption)
                  have qi49 : (0 < y120.length) = True := eq_true (by omega)
                  obtain ⟨go49, co49, eo49, gb49, gl49, cl49, HG49⟩ := Kd.R_form HO122.out (by omega)
                  (first | cases eo49 | (injection eo49 with ea_ en_ ec_; (first | subst ea_ | (injection ea_ with ea_; subst ea_)); subst ec_; clear en_))
                  have GB49 := Aside0.mk gb49
                  have GG49 := Aside0.mk HG49
                  clear gb49 gl49 HG49
                  obtain ⟨hx49_0, hf49_0⟩ := Kd.R_celln 0 HO122.out (0 : Int) p49 q49
                  (try rw [show ((0 : Int)).toNat = 0 from rfl] at hx49_0)
                  (try simp only [Nat.reduceMul, Nat.zero_mul, Nat.zero_add, Nat.reduceAdd] at hx49_0)
                  (try rw [show ((0 : Int)).toNat = 0 from rfl] at hf49_0)
                  (try simp only [Nat.reduceMul, Nat.zero_mul, Nat.zero_add, Nat.reduceAdd] at hf49_0)
                  replace p49 := eq_true p49
                  replace q49 := eq_true q49
                  have HP54 := Kd.R_putg HO122.out (0 : Int) (wrap64 ((y117.length : Int) - 2))
                  obtain ⟨hx50_0, hf50_0⟩ := Kd.R_celln 0 HO122.out (1 : Int) (by decide) (of_decide_eq_true (by first | (with_reducible assumption) | assumption))
                  (try rw [show ((1 : Int)).toNat = 1 from rfl] at hx50_0)
                  (try rw [show ((1 : Int)).toNat = 1 from rfl] at hf50_0)
                  (try simp only [Nat.reduceMul, Nat.zero_mul, Nat.one_mul, Nat.zero_add, Nat.reduceAdd] at hx50_0 hf50_0)
                  have qi50 : (1 < y120.length) = True := eq_true (by have h1_ : (1 : Int) < (y120.length : Int) := of_decide_eq_true (by first | (with_reducible assumption) | assumption); omega)
                  have qj50 : ((1 : Int) < (y120.length : Int)) = True := eq_true (of_decide_eq_true (by first | (with_reducible assumption) | assumption))
                  go_wp2
                  go_region
                  obtain ⟨w55, hw⟩ : ∃ w_, w_ = w25.setCell ⟨go49, 0, none⟩ (.int .i64 (wrap64 ((y117.length : Int) - 2))) := ⟨_, rfl⟩
                  rw [← hw]
                  have hwK := Lib.hid hw
                  have hg : w25.grownBy w55 (some go49) := (by rw [hw]; exact HP54.2)
                  have hp_ : Kd.R (Kd.int .i64) 3 w55 w.heap.size (fun k_ => some k_ ≠ (.slice Ao14 t105.length co14 : Value).ownBlock) (.slice (some ⟨go49, 0, none⟩) y120.length co23) y126 := (by rw [hw, Ny126.out]; exact HP54.1)
                  clear HP54
                  have n0_ := Aside0.mk (blk_grown (g := gb101) (o := .cells #[.slice A0_0 l0_0.length c0_0, .slice A0_1 l0_1.length c0_1, .int .u16 a0_2, .int .u16 a0_3, .int .u16 a0_4, .int .u16 a0_5, .int .i64 a0_6] 35 (0, 0)) (by (with_reducible repeat (first | refine blk_drewN ?_ _ | refine blk_drew ?_ | refine blk_alloc ?_ _)); exact BK101.out) hg (Kd.R_ne HO122.out BK101.out (by decide)))
                  have n1_ := Aside0.mk (Kd.R_after (v := (.slice (some ⟨go49, 0, none⟩) y120.length co23)) (v1 := (.slice (some ⟨go49, 0, none⟩) y120.length co23)) (ok := (fun _ => True)) (by (with_reducible repeat (first | apply Kd.R_alloc | apply Kd.R_drewN | apply Kd.R_drew)); exact Kd.R_mono HO107.out (fun _ hk => ⟨trivial, hk⟩)) hg (.inl rfl))
                  have n2_ := Aside0.mk (blk_grown (g := gb113) (o := .cells #[.slice Ao19 y117.length co19, .slice (some ⟨go49, 0, none⟩) y120.length co23, .int .u16 t108, .int .u16 t109, .int .u16 t110, .int .u16 t111, .int .i64 t112] 35 (0, 0)) (by (with_reducible repeat (first | refine blk_drewN ?_ _ | refine blk_drew ?_ | refine blk_alloc ?_ _)); exact BK113.out) hg (Kd.R_ne HO122.out BK113.out (by decide)))
                  have n3_ := Aside0.mk (Kd.R_over' (v := (.slice (some ⟨go49, 0, none⟩) y120.length co23)) (by (with_reducible repeat (first | apply Kd.R_alloc | apply Kd.R_drewN | apply Kd.R_drew)); exact HO116.out) (Kd.R_typed HO122.out) (by decide) hg)
                  have n4_ := Aside0.mk (Kd.R_over' (v := (.slice (some ⟨go49, 0, none⟩) y120.length co23)) (by (with_reducible repeat (first | apply Kd.R_alloc | apply Kd.R_drewN | apply Kd.R_drew)); exact HO119.out) (Kd.R_typed HO122.out) (by decide) hg)
                  have n5_ := Aside0.mk (hp_)
                  have n6_ := Aside0.mk ((by rw [hw]; exact below_set (HB.out) GB49.out : Below w.heap.size w w55))
                  clear BK101
                  clear HO107
                  clear BK113
                  clear HO116
                  clear HO119
                  clear HO122
                  clear HB
                  have BK101 := n0_
                  have HO107 := n1_
                  have BK113 := n2_
                  have HO116 := n3_
                  have HO119 := n4_
                  have HO122 := n5_
                  have HB := n6_
                  clear n0_ n1_ n2_ n3_ n4_ n5_ n6_
                  clear hg hw hp_
                  have HP56_ := Kd.R_putg HO122.out (1 : Int) (wrap64 ((y117.length : Int) - 4))
                  obtain ⟨w57, hw⟩ : ∃ w_, w_ = w55.setCell ⟨go49, 1, none⟩ (.int .i64 (wrap64 ((y117.length : Int) - 4))) := ⟨_, rfl⟩
                  rw [← hw]
                  have hg : w55.grownBy w57 (some go49) := (by rw [hw]; exact HP56_.2)
                  have hp_ : Kd.R (Kd.int .i64) 3 w57 w.heap.size (fun k_ => some k_ ≠ (.slice Ao14 t105.length co14 : Value).ownBlock) (.slice (some ⟨go49, 0, none⟩) y120.length co23) y127 := (by rw [hw, Ny127.out]; exact HP56_.1)
                  clear HP56_
                  have n0_ := Aside0.mk (blk_grown (g := gb101) (o := .cells #[.slice A0_0 l0_0.length c0_0, .slice A0_1 l0_1.length c0_1, .int .u16 a0_2, .int .u16 a0_3, .int .u16 a0_4, .int .u16 a0_5, .int .i64 a0_6] 35 (0, 0)) (by (with_reducible repeat (first | refine blk_drewN ?_ _ | refine blk_drew ?_ | refine blk_alloc ?_ _)); exact BK101.out) hg (Kd.R_ne HO122.out BK101.out (by decide)))
                  have n1_ := Aside0.mk (Kd.R_after (v := (.slice (some ⟨go49, 0, none⟩) y120.length co23)) (v1 := (.slice (some ⟨go49, 0, none⟩) y120.length co23)) (ok := (fun _ => True)) (by (with_reducible repeat (first | apply Kd.R_alloc | apply Kd.R_drewN | apply Kd.R_drew)); exact HO107.out) hg (.inl rfl))
                  have n2_ := Aside0.mk (blk_grown (g := gb113) (o := .cells #[.slice Ao19 y117.length co19, .slice (some ⟨go49, 0, none⟩) y120.length co23, .int .u16 t108, .int .u16 t109, .int .u16 t110, .int .u16 t111, .int .i64 t112] 35 (0, 0)) (by (with_reducible repeat (first | refine blk_drewN ?_ _ | refine blk_drew ?_ | refine blk_alloc ?_ _)); exact BK113.out) hg (Kd.R_ne HO122.out BK113.out (by decide)))
                  have n3_ := Aside0.mk (Kd.R_over' (v := (.slice (some ⟨go49, 0, none⟩) y120.length co23)) (by (with_reducible repeat (first | apply Kd.R_alloc | apply Kd.R_drewN | apply Kd.R_drew)); exact HO116.out) (Kd.R_typed HO122.out) (by decide) hg)
                  have n4_ := Aside0.mk (Kd.R_over' (v := (.slice (some ⟨go49, 0, none⟩) y120.length co23)) (by (with_reducible repeat (first | apply Kd.R_alloc | apply Kd.R_drewN | apply Kd.R_drew)); exact HO119.out) (Kd.R_typed HO122.out) (by decide) hg)
                  have n5_ := Aside0.mk (hp_)
                  have n6_ := Aside0.mk ((by rw [hw]; exact below_set (HB.out) GB49.out : Below w.heap.size w w57))
                  clear BK101
                  clear HO107
                  clear BK113
                  clear HO116
                  clear HO119
                  clear HO122
                  clear HB
                  have BK101 := n0_
                  have HO107 := n1_
                  have BK113 := n2_
                  have HO116 := n3_
                  have HO119 := n4_
                  have HO122 := n5_
                  have HB := n6_
                  clear n0_ n1_ n2_ n3_ n4_ n5_ n6_
                  clear hg hw hp_
                  go_wp2
                  go_meet
                  case rel => exact ⟨_, (1), (y127), (t112), (.slice (some ⟨go49, 0, none⟩) y120.length co23), (by first | rfl | (simp; done) | (simp [*]; done)), H', ⟨by first | omega | exact Nat.le_refl _⟩, ⟨by (with_reducible repeat (first | apply Kd.R_alloc | apply Kd.R_drewN | apply Kd.R_drew)); exact Kd.R_mono HO119.out (fun _ hk => trivial)⟩, ⟨by (with_reducible repeat (first | apply Kd.R_alloc | apply Kd.R_drewN | apply Kd.R_drew)); exact Kd.R_mono HO122.out (fun _ hk => trivial)⟩, ⟨by (with_reducible repeat (first | refine blk_drewN ?_ _ | refine blk_drew ?_ | refine blk_alloc ?_ _)); exact BK101.out⟩, ⟨by (with_reducible repeat (first | refine blk_drewN ?_ _ | refine blk_drew ?_ | refine blk_alloc ?_ _)); exact BK113.out⟩, ⟨by repeat (first | (with_reducible first | exact HB.out | apply below_alloc | apply pw_below_drewN | apply below_drew1 | refine below_set ?_ GE101.out | refine below_set ?_ GE113.out) | exact HB.out)⟩⟩
                · rw [if_neg c50] at H
                  exact absurd H (by simp)
              · rw [if_neg c48] at H
                exact absurd H (by simp)
            · rw [if_neg c47] at H
              have c47b0 : ((Int.tmod (Go.bits .and .i64 a1 15) 7) == 3) = false := beq_eq_false_iff_ne.mpr c47
              have c47b1 : ((Int.tmod (Go.bits .and .i64 a1 15) 7) != 3) = true := bne_iff_ne.mpr c47
              by_cases c58 : (Int.tmod (Go.bits .and .i64 a1 15) 7) = 4
              · rw [if_pos c58] at H
                have c58b0 : ((Int.tmod (Go.bits .and .i64 a1 15) 7) == 4) = true := beq_iff_eq.mpr c58
                have c58b1 : ((Int.tmod (Go.bits .and .i64 a1 15) 7) != 4) = false := bne_eq_false_iff_eq.mpr c58
                clear c58
                have H' := Aside0.mk H
                clear H
                have hnb59 := NB113_101.out
                have hnc59 := NB101_113.out
                have hcz60_0 : w25.cell? ⟨gb113, 0, none⟩ = some (.slice Ao19 y117.length co19) := (blk_cell BK113.out 0).trans rfl
                have hcz60_1 : w25.cell? ⟨gb113, 1, none⟩ = some (.slice Ao23 y120.length co23) := (blk_cell BK113.out 1).trans rfl
                have hcz60_2 : w25.cell? ⟨gb113, 2, none⟩ = some (.int .u16 t108) := (blk_cell BK113.out 2).trans rfl
                have hcz60_3 : w25.cell? ⟨gb113, 3, none⟩ = some (.int .u16 t109) := (blk_cell BK113.out 3).trans rfl
                have hcz60_4 : w25.cell? ⟨gb113, 4, none⟩ = some (.int .u16 t110) := (blk_cell BK113.out 4).trans rfl
                have hcz60_5 : w25.cell? ⟨gb113, 5, none⟩ = some (.int .u16 t111) := (blk_cell BK113.out 5).trans rfl
                have hcz60_6 : w25.cell? ⟨gb113, 6, none⟩ = some (.int .i64 t112) := (blk_cell BK113.out 6).trans rfl
                have hfz60_0 := blk_frozen BK113.out 0
                have hfz60_1 := blk_frozen BK113.out 1
                have hfz60_2 := blk_frozen BK113.out 2
                have hfz60_3 := blk_frozen BK113.out 3
                have hfz60_4 := blk_frozen BK113.out 4
                have hfz60_5 := blk_frozen BK113.out 5
                have hfz60_6 := blk_frozen BK113.out 6
                go_wp2_with (first | ((with_reducible refine gate_store (t := 3) (p := 70) rfl ?_); refine store_event (t := 3) (p := 70) (v := ?vo_w61) (w1 := (w25.setCell ⟨gb113, 6, none⟩ (.int .i64 (wrap64 ((-1) - (Go.bits .and .i64 a2 255)))))) ?hg ?ho ?hn ?hr ?_; (case ho => rfl); (case hg => rfl); (case hn => rfl); (case hr => first | (go_simp; done) | (go_simp; rfl)); intro w61 hw; have n0_ : Aside0 (Kd.R (Kd.int .i64) 3 w61 w.heap.size (fun k_ => some k_ ≠ (.slice Ao23 y120.length co23 : Value).ownBlock) (.slice Ao14 t105.length co14) t105) := ⟨(by rw [hw]; exact (by (with_reducible repeat (first | apply Kd.R_alloc | apply Kd.R_drewN | apply Kd.R_drew)); exact Kd.R_mono (Kd.R_far (p := ⟨gb113, 6, none⟩) (Kd.R_types HO107.out BK113.out (by decide)) (fun _ hk => hk.2) (.int .i64 (wrap64 ((-1) - (Go.bits .and .i64 a2 255))))) (fun _ hk => hk.1)))⟩; have n1_ : Aside0 (Kd.R (Kd.int .u8) 5 w61 w.heap.size (fun k_ => some k_ ≠ (.slice Ao19 y117.length co19 : Value).ownBlock) (.slice Ao18 y114.length co18) y114) := ⟨(by rw [hw]; exact (by (with_reducible repeat (first | apply Kd.R_alloc | apply Kd.R_drewN | apply Kd.R_drew)); exact Kd.R_mono (Kd.R_far (p := ⟨gb113, 6, none⟩) (Kd.R_types HO116.out BK113.out (by decide)) (fun _ hk => hk.2) (.int .i64 (wrap64 ((-1) - (Go.bits .and .i64 a2 255))))) (fun _ hk => hk.1)))⟩; have n2_ : Aside0 (Kd.R (Kd.int .u8) 5 w61 w.heap.size (fun k_ => some k_ ≠ (.slice Ao18 y114.length co18 : Value).ownBlock) (.slice Ao19 y117.length co19) y117) := ⟨(by rw [hw]; exact (by (with_reducible repeat (first | apply Kd.R_alloc | apply Kd.R_drewN | apply Kd.R_drew)); exact Kd.R_mono (Kd.R_far (p := ⟨gb113, 6, none⟩) (Kd.R_types HO119.out BK113.out (by decide)) (fun _ hk => hk.2) (.int .i64 (wrap64 ((-1) - (Go.bits .and .i64 a2 255))))) (fun _ hk => hk.1)))⟩; have n3_ : Aside0 (Kd.R (Kd.int .i64) 3 w61 w.heap.size (fun k_ => some k_ ≠ (.slice Ao14 t105.length co14 : Value).ownBlock) (.slice Ao23 y120.length co23) y120) := ⟨(by rw [hw]; exact (by (with_reducible repeat (first | apply Kd.R_alloc | apply Kd.R_drewN | apply Kd.R_drew)); exact Kd.R_mono (Kd.R_far (p := ⟨gb113, 6, none⟩) (Kd.R_types HO122.out BK113.out (by decide)) (fun _ hk => hk.2) (.int .i64 (wrap64 ((-1) - (Go.bits .and .i64 a2 255))))) (fun _ hk => hk.1)))⟩; have n4_ : Aside0 (w61.heap[gb101]? = some (.cells #[.slice A0_0 l0_0.length c0_0, .slice A0_1 l0_1.length c0_1, .int .u16 a0_2, .int .u16 a0_3, .int .u16 a0_4, .int .u16 a0_5, .int .i64 a0_6] 35 (0, 0))) := ⟨(by rw [hw]; exact (by (with_reducible repeat (first | refine blk_drewN ?_ _ | refine blk_drew ?_ | refine blk_alloc ?_ _)); refine blk_far ?_ NB101_113.out _; (with_reducible repeat (first | refine blk_drewN ?_ _ | refine blk_drew ?_ | refine blk_alloc ?_ _)); exact BK101.out))⟩; have n5_ : Aside0 (w61.heap[gb113]? = some (.cells #[.slice Ao19 y117.length co19, .slice Ao23 y120.length co23, .int .u16 t108, .int .u16 t109, .int .u16 t110, .int .u16 t111, .int .i64 (wrap64 ((-1) - (Go.bits .and .i64 a2 255)))] 35 (0, 0))) := ⟨(by rw [hw]; exact (by (with_reducible repeat (first | refine blk_drewN ?_ _ | refine blk_drew ?_ | refine blk_alloc ?_ _)); refine blk_put (cs := #[.slice Ao19 y117.length co19, .slice Ao23 y120.length co23, .int .u16 t108, .int .u16 t109, .int .u16 t110, .int .u16 t111, .int .i64 t112]) ?_ 6 _ rfl; (with_reducible repeat (first | refine blk_drewN ?_ _ | refine blk_drew ?_ | refine blk_alloc ?_ _)); exact BK113.out))⟩; have n6_ : Aside0 (Below w.heap.size w w61) := ⟨(by rw [hw]; exact (by repeat (first | (with_reducible first | exact HB.out | apply below_alloc | apply pw_below_drewN | apply below_drew1 | refine below_set ?_ GE101.out | refine below_set ?_ GE113.out) | exact HB.out)))⟩; clear hw; clear HO107; clear HO116; clear HO119; clear HO122; clear BK101; clear BK113; clear HB; have HO107 := n0_; have HO116 := n1_; have HO119 := n2_; have HO122 := n3_; have BK101 := n4_; have BK113 := n5_; have HB := n6_; clear n0_ n1_ n2_ n3_ n4_ n5_ n6_))
                go_meet
                case rel => exact ⟨_, (1), (y120), (wrap64 ((-1) - (Go.bits .and .i64 a2 255))), (.slice Ao23 y120.length co23), (by first | rfl | (simp; done) | (simp [*]; done)), H', ⟨by first | omega | exact Nat.le_refl _⟩, ⟨by (with_reducible repeat (first | apply Kd.R_alloc | apply Kd.R_drewN | apply Kd.R_drew)); exact Kd.R_mono HO119.out (fun _ hk => trivial)⟩, ⟨by (with_reducible repeat (first | apply Kd.R_alloc | apply Kd.R_drewN | apply Kd.R_drew)); exact Kd.R_mono HO122.out (fun _ hk => trivial)⟩, ⟨by (with_reducible repeat (first | refine blk_drewN ?_ _ | refine blk_drew ?_ | refine blk_alloc ?_ _)); exact BK101.out⟩, ⟨by (with_reducible repeat (first | refine blk_drewN ?_ _ | refine blk_drew ?_ | refine blk_alloc ?_ _)); exact BK113.out⟩, ⟨by repeat (first | (with_reducible first | exact HB.out | apply below_alloc | apply pw_below_drewN | apply below_drew1 | refine below_set ?_ GE101.out | refine below_set ?_ GE113.out) | exact HB.out)⟩⟩
              · rw [if_neg c58] at H
                have c58b0 : ((Int.tmod (Go.bits .and .i64 a1 15) 7) == 4) = false := beq_eq_false_iff_ne.mpr c58
                have c58b1 : ((Int.tmod (Go.bits .and .i64 a1 15) 7) != 4) = true := bne_iff_ne.mpr c58
                by_cases c62 : (Int.tmod (Go.bits .and .i64 a1 15) 7) = 5
                · rw [if_pos c62] at H
                  have c62b0 : ((Int.tmod (Go.bits .and .i64 a1 15) 7) == 5) = true := beq_iff_eq.mpr c62
                  have c62b1 : ((Int.tmod (Go.bits .and .i64 a1 15) 7) != 5) = false := bne_eq_false_iff_eq.mpr c62
                  clear c62
                  by_cases c63 : (Go.bits .and .i64 a2 1) = 1
                  · rw [if_pos c63] at H
                    have c63b0 : ((Go.bits .and .i64 a2 1) == 1) = true := beq_iff_eq.mpr c63
                    have c63b1 : ((Go.bits .and .i64 a2 1) != 1) = false := bne_eq_false_iff_eq.mpr c63
                    clear c63
                    have H' := Aside0.mk H
                    clear H
                    have hnb64 := NB113_101.out
                    have hnc64 := NB101_113.out
                    have hcz65_0 : w25.cell? ⟨gb113, 0, none⟩ = some (.slice Ao19 y117.length co19) := (blk_cell BK113.out 0).trans rfl
                    have hcz65_1 : w25.cell? ⟨gb113, 1, none⟩ = some (.slice Ao23 y120.length co23) := (blk_cell BK113.out 1).trans rfl
                    have hcz65_2 : w25.cell? ⟨gb113, 2, none⟩ = some (.int .u16 t108) := (blk_cell BK113.out 2).trans rfl
                    have hcz65_3 : w25.cell? ⟨gb113, 3, none⟩ = some (.int .u16 t109) := (blk_cell BK113.out 3).trans rfl
                    have hcz65_4 : w25.cell? ⟨gb113, 4, none⟩ = some (.int .u16 t110) := (blk_cell BK113.out 4).trans rfl
                    have hcz65_5 : w25.cell? ⟨gb113, 5, none⟩ = some (.int .u16 t111) := (blk_cell BK113.out 5).trans rfl
                    have hcz65_6 : w25.cell? ⟨gb113, 6, none⟩ = some (.int .i64 t112) := (blk_cell BK113.out 6).trans rfl
                    have hfz65_0 := blk_frozen BK113.out 0
                    have hfz65_1 := blk_frozen BK113.out 1
                    have hfz65_2 := blk_frozen BK113.out 2
                    have hfz65_3 := blk_frozen BK113.out 3
                    have hfz65_4 := blk_frozen BK113.out 4
                    have hfz65_5 := blk_frozen BK113.out 5
                    have hfz65_6 := blk_frozen BK113.out 6
                    go_wp2_with (first | ((with_reducible refine gate_store (t := 3) (p := 80) rfl ?_); refine store_event (t := 3) (p := 80) (v := ?vo_w66) (w1 := (w25.setCell ⟨gb113, 6, none⟩ (.int .i64 (wrap64 ((wrap64 (40960 - (wrap64 (Int.tdiv (wrap64 ((y117.length : Int) + 15)) 16)))) + (Go.bits .and .i64 a2 1)))))) ?hg ?ho ?hn ?hr ?_; (case ho => rfl); (case hg => rfl); (case hn => rfl); (case hr => first | (go_simp; done) | (go_simp; rfl)); intro w66 hw; have n0_ : Aside0 (Kd.R (Kd.int .i64) 3 w66 w.heap.size (fun k_ => some k_ ≠ (.slice Ao23 y120.length co23 : Value).ownBlock) (.slice Ao14 t105.length co14) t105) := ⟨(by rw [hw]; exact (by (with_reducible repeat (first | apply Kd.R_alloc | apply Kd.R_drewN | apply Kd.R_drew)); exact Kd.R_mono (Kd.R_far (p := ⟨gb113, 6, none⟩) (Kd.R_types HO107.out BK113.out (by decide)) (fun _ hk => hk.2) (.int .i64 (wrap64 ((wrap64 (40960 - (wrap64 (Int.tdiv (wrap64 ((y117.length : Int) + 15)) 16)))) + (Go.bits .and .i64 a2 1))))) (fun _ hk => hk.1)))⟩; have n1_ : Aside0 (Kd.R (Kd.int .u8) 5 w66 w.heap.size (fun k_ => some k_ ≠ (.slice Ao19 y117.length co19 : Value).ownBlock) (.slice Ao18 y114.length co18) y114) := ⟨(by rw [hw]; exact (by (with_reducible repeat (first | apply Kd.R_alloc | apply Kd.R_drewN | apply Kd.R_drew)); exact Kd.R_mono (Kd.R_far (p := ⟨gb113, 6, none⟩) (Kd.R_types HO116.out BK113.out (by decide)) (fun _ hk => hk.2) (.int .i64 (wrap64 ((wrap64 (40960 - (wrap64 (Int.tdiv (wrap64 ((y117.length : Int) + 15)) 16)))) + (Go.bits .and .i64 a2 1))))) (fun _ hk => hk.1)))⟩; have n2_ : Aside0 (Kd.R (Kd.int .u8) 5 w66 w.heap.size (fun k_ => some k_ ≠ (.slice Ao18 y114.length co18 : Value).ownBlock) (.slice Ao19 y117.length co19) y117) := ⟨(by rw [hw]; exact (by (with_reducible repeat (first | apply Kd.R_alloc | apply Kd.R_drewN | apply Kd.R_drew)); exact Kd.R_mono (Kd.R_far (p := ⟨gb113, 6, none⟩) (Kd.R_types HO119.out BK113.out (by decide)) (fun _ hk => hk.2) (.int .i64 (wrap64 ((wrap64 (40960 - (wrap64 (Int.tdiv (wrap64 ((y117.length : Int) + 15)) 16)))) + (Go.bits .and .i64 a2 1))))) (fun _ hk => hk.1)))⟩; have n3_ : Aside0 (Kd.R (Kd.int .i64) 3 w66 w.heap.size (fun k_ => some k_ ≠ (.slice Ao14 t105.length co14 : Value).ownBlock) (.slice Ao23 y120.length co23) y120) := ⟨(by rw [hw]; exact (by (with_reducible repeat (first | apply Kd.R_alloc | apply Kd.R_drewN | apply Kd.R_drew)); exact Kd.R_mono (Kd.R_far (p := ⟨gb113, 6, none⟩) (Kd.R_types HO122.out BK113.out (by decide)) (fun _ hk => hk.2) (.int .i64 (wrap64 ((wrap64 (40960 - (wrap64 (Int.tdiv (wrap64 ((y117.length : Int) + 15)) 16)))) + (Go.bits .and .i64 a2 1))))) (fun _ hk => hk.1)))⟩; have n4_ : Aside0 (w66.heap[gb101]? = some (.cells #[.slice A0_0 l0_0.length c0_0, .slice A0_1 l0_1.length c0_1, .int .u16 a0_2, .int .u16 a0_3, .int .u16 a0_4, .int .u16 a0_5, .int .i64 a0_6] 35 (0, 0))) := ⟨(by rw [hw]; exact (by (with_reducible repeat (first | refine blk_drewN ?_ _ | refine blk_drew ?_ | refine blk_alloc ?_ _)); refine blk_far ?_ NB101_113.out _; (with_reducible repeat (first | refine blk_drewN ?_ _ | refine blk_drew ?_ | refine blk_alloc ?_ _)); exact BK101.out))⟩; have n5_ : Aside0 (w66.heap[gb113]? = some (.cells #[.slice Ao19 y117.length co19, .slice Ao23 y120.length co23, .int .u16 t108, .int .u16 t109, .int .u16 t110, .int .u16 t111, .int .i64 (wrap64 ((wrap64 (40960 - (wrap64 (Int.tdiv (wrap64 ((y117.length : Int) + 15)) 16)))) + (Go.bits .and .i64 a2 1)))] 35 (0, 0))) := ⟨(by rw [hw]; exact (by (with_reducible repeat (first | refine blk_drewN ?_ _ | refine blk_drew ?_ | refine blk_alloc ?_ _)); refine blk_put (cs := #[.slice Ao19 y117.length co19, .slice Ao23 y120.length co23, .int .u16 t108, .int .u16 t109, .int .u16 t110, .int .u16 t111, .int .i64 t112]) ?_ 6 _ rfl; (with_reducible repeat (first | refine blk_drewN ?_ _ | refine blk_drew ?_ | refine blk_alloc ?_ _)); exact BK113.out))⟩; have n6_ : Aside0 (Below w.heap.size w w66) := ⟨(by rw [hw]; exact (by repeat (first | (with_reducible first | exact HB.out | apply below_alloc | apply pw_below_drewN | apply below_drew1 | refine below_set ?_ GE101.out | refine below_set ?_ GE113.out) | exact HB.out)))⟩; clear hw; clear HO107; clear HO116; clear HO119; clear HO122; clear BK101; clear BK113; clear HB; have HO107 := n0_; have HO116 := n1_; have HO119 := n2_; have HO122 := n3_; have BK101 := n4_; have BK113 := n5_; have HB := n6_; clear n0_ n1_ n2_ n3_ n4_ n5_ n6_))
                    go_meet
                    case rel => exact ⟨_, (1), (y120), (wrap64 ((wrap64 (40960 - (wrap64 (Int.tdiv (wrap64 ((y117.length : Int) + 15)) 16)))) + (Go.bits .and .i64 a2 1))), (.slice Ao23 y120.length co23), (by first | rfl | (simp; done) | (simp [*]; done)), H', ⟨by first | omega | exact Nat.le_refl _⟩, ⟨by (with_reducible repeat (first | apply Kd.R_alloc | apply Kd.R_drewN | apply Kd.R_drew)); exact Kd.R_mono HO119.out (fun _ hk => trivial)⟩, ⟨by (with_reducible repeat (first | apply Kd.R_alloc | apply Kd.R_drewN | apply Kd.R_drew)); exact Kd.R_mono HO122.out (fun _ hk => trivial)⟩, ⟨by (with_reducible repeat (first | refine blk_drewN ?_ _ | refine blk_drew ?_ | refine blk_alloc ?_ _)); exact BK101.out⟩, ⟨by (with_reducible repeat (first | refine blk_drewN ?_ _ | refine blk_drew ?_ | refine blk_alloc ?_ _)); exact BK113.out⟩, ⟨by repeat (first | (with_reducible first | exact HB.out | apply below_alloc | apply pw_below_drewN | apply below_drew1 | refine below_set ?_ GE101.out | refine below_set ?_ GE113.out) | exact HB.out)⟩⟩
                  · rw [if_neg c63] at H
                    have c63b0 : ((Go.bits .and .i64 a2 1) == 1) = false := beq_eq_false_iff_ne.mpr c63
                    have c63b1 : ((Go.bits .and .i64 a2 1) != 1) = true := bne_iff_ne.mpr c63
                    have H' := Aside0.mk H
                    clear H
                    have hnb67 := NB113_101.out
                    have hnc67 := NB101_113.out
                    have hcz68_0 : w25.cell? ⟨gb113, 0, none⟩ = some (.slice Ao19 y117.length co19) := (blk_cell BK113.out 0).trans rfl
                    have hcz68_1 : w25.cell? ⟨gb113, 1, none⟩ = some (.slice Ao23 y120.length co23) := (blk_cell BK113.out 1).trans rfl
                    have hcz68_2 : w25.cell? ⟨gb113, 2, none⟩ = some (.int .u16 t108) := (blk_cell BK113.out 2).trans rfl
                    have hcz68_3 : w25.cell? ⟨gb113, 3, none⟩ = some (.int .u16 t109) := (blk_cell BK113.out 3).trans rfl
                    have hcz68_4 : w25.cell? ⟨gb113, 4, none⟩ = some (.int .u16 t110) := (blk_cell BK113.out 4).trans rfl
                    have hcz68_5 : w25.cell? ⟨gb113, 5, none⟩ = some (.int .u16 t111) := (blk_cell BK113.out 5).trans rfl
                    have hcz68_6 : w25.cell? ⟨gb113, 6, none⟩ = some (.int .i64 t112) := (blk_cell BK113.out 6).trans rfl
                    have hfz68_0 := blk_frozen BK113.out 0
                    have hfz68_1 := blk_frozen BK113.out 1
                    have hfz68_2 := blk_frozen BK113.out 2
                    have hfz68_3 := blk_frozen BK113.out 3
                    have hfz68_4 := blk_frozen BK113.out 4
                    have hfz68_5 := blk_frozen BK113.out 5
                    have hfz68_6 := blk_frozen BK113.out 6
                    go_wp2_with (first | ((with_reducible refine gate_store (t := 3) (p := 80) rfl ?_); refine store_event (t := 3) (p := 80) (v := ?vo_w69) (w1 := (w25.setCell ⟨gb113, 6, none⟩ (.int .i64 (wrap64 ((wrap64 (40960 - (wrap64 (Int.tdiv (wrap64 ((y117.length : Int) + 15)) 16)))) + (Go.bits .and .i64 a2 1)))))) ?hg ?ho ?hn ?hr ?_; (case ho => rfl); (case hg => rfl); (case hn => rfl); (case hr => first | (go_simp; done) | (go_simp; rfl)); intro w69 hw; have n0_ : Aside0 (Kd.R (Kd.int .i64) 3 w69 w.heap.size (fun k_ => some k_ ≠ (.slice Ao23 y120.length co23 : Value).ownBlock) (.slice Ao14 t105.length co14) t105) := ⟨(by rw [hw]; exact (by (with_reducible repeat (first | apply Kd.R_alloc | apply Kd.R_drewN | apply Kd.R_drew)); exact Kd.R_mono (Kd.R_far (p := ⟨gb113, 6, none⟩) (Kd.R_types HO107.out BK113.out (by decide)) (fun _ hk => hk.2) (.int .i64 (wrap64 ((wrap64 (40960 - (wrap64 (Int.tdiv (wrap64 ((y117.length : Int) + 15)) 16)))) + (Go.bits .and .i64 a2 1))))) (fun _ hk => hk.1)))⟩; have n1_ : Aside0 (Kd.R (Kd.int .u8) 5 w69 w.heap.size (fun k_ => some k_ ≠ (.slice Ao19 y117.length co19 : Value).ownBlock) (.slice Ao18 y114.length co18) y114) := ⟨(by rw [hw]; exact (by (with_reducible repeat (first | apply Kd.R_alloc | apply Kd.R_drewN | apply Kd.R_drew)); exact Kd.R_mono (Kd.R_far (p := ⟨gb113, 6, none⟩) (Kd.R_types HO116.out BK113.out (by decide)) (fun _ hk => hk.2) (.int .i64 (wrap64 ((wrap64 (40960 - (wrap64 (Int.tdiv (wrap64 ((y117.length : Int) + 15)) 16)))) + (Go.bits .and .i64 a2 1))))) (fun _ hk => hk.1)))⟩; have n2_ : Aside0 (Kd.R (Kd.int .u8) 5 w69 w.heap.size (fun k_ => some k_ ≠ (.slice Ao18 y114.length co18 : Value).ownBlock) (.slice Ao19 y117.length co19) y117) := ⟨(by rw [hw]; exact (by (with_reducible repeat (first | apply Kd.R_alloc | apply Kd.R_drewN | apply Kd.R_drew)); exact Kd.R_mono (Kd.R_far (p := ⟨gb113, 6, none⟩) (Kd.R_types HO119.out BK113.out (by decide)) (fun _ hk => hk.2) (.int .i64 (wrap64 ((wrap64 (40960 - (wrap64 (Int.tdiv (wrap64 ((y117.length : Int) + 15)) 16)))) + (Go.bits .and .i64 a2 1))))) (fun _ hk => hk.1)))⟩; have n3_ : Aside0 (Kd.R (Kd.int .i64) 3 w69 w.heap.size (fun k_ => some k_ ≠ (.slice Ao14 t105.length co14 : Value).ownBlock) (.slice Ao23 y120.length co23) y120) := ⟨(by rw [hw]; exact (by (with_reducible repeat (first | apply Kd.R_alloc | apply Kd.R_drewN | apply Kd.R_drew)); exact Kd.R_mono (Kd.R_far (p := ⟨gb113, 6, none⟩) (Kd.R_types HO122.out BK113.out (by decide)) (fun _ hk => hk.2) (.int .i64 (wrap64 ((wrap64 (40960 - (wrap64 (Int.tdiv (wrap64 ((y117.length : Int) + 15)) 16)))) + (Go.bits .and .i64 a2 1))))) (fun _ hk => hk.1)))⟩; have n4_ : Aside0 (w69.heap[gb101]? = some (.cells #[.slice A0_0 l0_0.length c0_0, .slice A0_1 l0_1.length c0_1, .int .u16 a0_2, .int .u16 a0_3, .int .u16 a0_4, .int .u16 a0_5, .int .i64 a0_6] 35 (0, 0))) := ⟨(by rw [hw]; exact (by (with_reducible repeat (first | refine blk_drewN ?_ _ | refine blk_drew ?_ | refine blk_alloc ?_ _)); refine blk_far ?_ NB101_113.out _; (with_reducible repeat (first | refine blk_drewN ?_ _ | refine blk_drew ?_ | refine blk_alloc ?_ _)); exact BK101.out))⟩; have n5_ : Aside0 (w69.heap[gb113]? = some (.cells #[.slice Ao19 y117.length co19, .slice Ao23 y120.length co23, .int .u16 t108, .int .u16 t109, .int .u16 t110, .int .u16 t111, .int .i64 (wrap64 ((wrap64 (40960 - (wrap64 (Int.tdiv (wrap64 ((y117.length : Int) + 15)) 16)))) + (Go.bits .and .i64 a2 1)))] 35 (0, 0))) := ⟨(by rw [hw]; exact (by (with_reducible repeat (first | refine blk_drewN ?_ _ | refine blk_drew ?_ | refine blk_alloc ?_ _)); refine blk_put (cs := #[.slice Ao19 y117.length co19, .slice Ao23 y120.length co23, .int .u16 t108, .int .u16 t109, .int .u16 t110, .int .u16 t111, .int .i64 t112]) ?_ 6 _ rfl; (with_reducible repeat (first | refine blk_drewN ?_ _ | refine blk_drew ?_ | refine blk_alloc ?_ _)); exact BK113.out))⟩; have n6_ : Aside0 (Below w.heap.size w w69) := ⟨(by rw [hw]; exact (by repeat (first | (with_reducible first | exact HB.out | apply below_alloc | apply pw_below_drewN | apply below_drew1 | refine below_set ?_ GE101.out | refine below_set ?_ GE113.out) | exact HB.out)))⟩; clear hw; clear HO107; clear HO116; clear HO119; clear HO122; clear BK101; clear BK113; clear HB; have HO107 := n0_; have HO116 := n1_; have HO119 := n2_; have HO122 := n3_; have BK101 := n4_; have BK113 := n5_; have HB := n6_; clear n0_ n1_ n2_ n3_ n4_ n5_ n6_))
                    go_meet
                    case rel => exact ⟨_, (0), (y120), (wrap64 ((wrap64 (40960 - (wrap64 (Int.tdiv (wrap64 ((y117.length : Int) + 15)) 16)))) + (Go.bits .and .i64 a2 1))), (.slice Ao23 y120.length co23), (by first | rfl | (simp; done) | (simp [*]; done)), H', ⟨by first | omega | exact Nat.le_refl _⟩, ⟨by (with_reducible repeat (first | apply Kd.R_alloc | apply Kd.R_drewN | apply Kd.R_drew)); exact Kd.R_mono HO119.out (fun _ hk => trivial)⟩, ⟨by (with_reducible repeat (first | apply Kd.R_alloc | apply Kd.R_drewN | apply Kd.R_drew)); exact Kd.R_mono HO122.out (fun _ hk => trivial)⟩, ⟨by (with_reducible repeat (first | refine blk_drewN ?_ _ | refine blk_drew ?_ | refine blk_alloc ?_ _)); exact BK101.out⟩, ⟨by (with_reducible repeat (first | refine blk_drewN ?_ _ | refine blk_drew ?_ | refine blk_alloc ?_ _)); exact BK113.out⟩, ⟨by repeat (first | (with_reducible first | exact HB.out | apply below_alloc | apply pw_below_drewN | apply below_drew1 | refine below_set ?_ GE101.out | refine below_set ?_ GE113.out) | exact HB.out)⟩⟩
                · rw [if_neg c62] at H
                  have c62b0 : ((Int.tmod (Go.bits .and .i64 a1 15) 7) == 5) = false := beq_eq_false_iff_ne.mpr c62
                  have c62b1 : ((Int.tmod (Go.bits .and .i64 a1 15) 7) != 5) = true := bne_iff_ne.mpr c62
                  have H' := Aside0.mk H
                  clear H
                  go_wp2
                  go_meet
                  case rel => exact ⟨_, (0), (y120), (t112), (.slice Ao23 y120.length co23), (by first | rfl | (simp; done) | (simp [*]; done)), H', ⟨by first | omega | exact Nat.le_refl _⟩, ⟨by (with_reducible repeat (first | apply Kd.R_alloc | apply Kd.R_drewN | apply Kd.R_drew)); exact Kd.R_mono HO119.out (fun _ hk => trivial)⟩, ⟨by (with_reducible repeat (first | apply Kd.R_alloc | apply Kd.R_drewN | apply Kd.R_drew)); exact Kd.R_mono HO122.out (fun _ hk => trivial)⟩, ⟨by (with_reducible repeat (first | refine blk_drewN ?_ _ | refine blk_drew ?_ | refine blk_alloc ?_ _)); exact BK101.out⟩, ⟨by (with_reducible repeat (first | refine blk_drewN ?_ _ | refine blk_drew ?_ | refine blk_alloc ?_ _)); exact BK113.out⟩, ⟨by repeat (first | (with_reducible first | exact HB.out | apply below_alloc | apply pw_below_drewN | apply below_drew1 | refine below_set ?_ GE101.out | refine below_set ?_ GE113.out) | exact HB.out)⟩⟩
    case rest =>
      clear HC6
      try clear c1
      try clear c2
      try clear p2
      try clear q2
      try clear hx2
      try clear qi2
      try clear c3
      try clear p3
      try clear q3
      try clear hx3
      try clear qi3
      try clear hf3
      try clear c4
      try clear p4
      try clear q4
      try clear hx4
      try clear qi4
      try clear hf4
      try clear c5
      try clear p5
      try clear q5
      try clear hx5
      try clear qi5
      try clear hf5
      try clear c6
      try clear p6
      try clear c12
      try clear c26
      try clear c26b0
      try clear c26b1
      try clear c27
      try clear c27b0
      try clear c27b1
      try clear p28
      try clear q28
      try clear hx28
      try clear qi28
      try clear hf28
      try clear c29
      try clear c33
      try clear c33b0
      try clear c33b1
      try clear c34
      try clear c34b0
      try clear c34b1
      try clear p35
      try clear q35
      try clear hx35
      try clear qi35
      try clear hf35
      try clear c36
      try clear c40
      try clear c40b0
      try clear c40b1
      try clear c41
      try clear c41b0
      try clear c41b1
      try clear p42
      try clear q42
      try clear hx42
      try clear qi42
      try clear hf42
      try clear c43
      try clear c47
      try clear c47b0
      try clear c47b1
      try clear c48
      try clear c48b0
      try clear c48b1
      try clear p49
      try clear q49
      try clear hx49
      try clear qi49
      try clear hf49
      try clear c50
      try clear c50b0
      try clear c50b1
      try clear p51
      try clear q51
      try clear hx51
      try clear qi51
      try clear hf51
      try clear c52
      try clear c58
      try clear c58b0
      try clear c58b1
      try clear c59
      try clear c62
      try clear c62b0
      try clear c62b1
      try clear c63
      try clear c63b0
      try clear c63b1
      try clear c64
      try clear p64
      try clear c67
      try clear hcz13_0
      try clear hcz13_1
      try clear hcz13_2
      try clear hcz13_3
      try clear hcz13_4
      try clear hcz13_5
      try clear hcz13_6
      try clear hcz20_0
      try clear hcz20_1
      try clear hcz20_2
      try clear hcz20_3
      try clear hcz20_4
      try clear hcz20_5
      try clear hcz20_6
      try clear hcz24_0
      try clear hcz24_1
      try clear hcz24_2
      try clear hcz24_3
      try clear hcz24_4
      try clear hcz24_5
      try clear hcz24_6
      try clear hcz30_0
      try clear hcz30_1
      try clear hcz30_2
      try clear hcz30_3
      try clear hcz30_4
      try clear hcz30_5
      try clear hcz30_6
      try clear hcz37_0
      try clear hcz37_1
      try clear hcz37_2
      try clear hcz37_3
      try clear hcz37_4
      try clear hcz37_5
      try clear hcz37_6
      try clear hcz44_0
      try clear hcz44_1
      try clear hcz44_2
      try clear hcz44_3
      try clear hcz44_4
      try clear hcz44_5
      try clear hcz44_6
      try clear hcz53_0
      try clear hcz53_1
      try clear hcz53_2
      try clear hcz53_3
      try clear hcz53_4
      try clear hcz53_5
      try clear hcz53_6
      try clear hcz60_0
      try clear hcz60_1
      try clear hcz60_2
      try clear hcz60_3
      try clear hcz60_4
      try clear hcz60_5
      try clear hcz60_6
      try clear hcz65_0
      try clear hcz65_1
      try clear hcz65_2
      try clear hcz65_3
      try clear hcz65_4
      try clear hcz65_5
      try clear hcz65_6
      try clear hcz68_0
      try clear hcz68_1
      try clear hcz68_2
      try clear hcz68_3
      try clear hcz68_4
      try clear hcz68_5
      try clear hcz68_6
      try clear hcz8_0
      try clear hcz8_1
      try clear hcz8_2
      try clear hcz8_3
      try clear hcz8_4
      try clear hcz8_5
      try clear hcz8_6
      try clear hfz13_0
      try clear hfz13_1
      try clear hfz13_2
      try clear hfz13_3
      try clear hfz13_4
      try clear hfz13_5
      try clear hfz13_6
      try clear hfz20_0
      try clear hfz20_1
      try clear hfz20_2
      try clear hfz20_3
      try clear hfz20_4
      try clear hfz20_5
      try clear hfz20_6
      try clear hfz24_0
      try clear hfz24_1
      try clear hfz24_2
      try clear hfz24_3
      try clear hfz24_4
      try clear hfz24_5
      try clear hfz24_6
      try clear hfz30_0
      try clear hfz30_1
      try clear hfz30_2
      try clear hfz30_3
      try clear hfz30_4
      try clear hfz30_5
      try clear hfz30_6
      try clear hfz37_0
      try clear hfz37_1
      try clear hfz37_2
      try clear hfz37_3
      try clear hfz37_4
      try clear hfz37_5
      try clear hfz37_6
      try clear hfz44_0
      try clear hfz44_1
      try clear hfz44_2
      try clear hfz44_3
      try clear hfz44_4
      try clear hfz44_5
      try clear hfz44_6
      try clear hfz53_0
      try clear hfz53_1
      try clear hfz53_2
      try clear hfz53_3
      try clear hfz53_4
      try clear hfz53_5
      try clear hfz53_6
      try clear hfz60_0
      try clear hfz60_1
      try clear hfz60_2
      try clear hfz60_3
      try clear hfz60_4
      try clear hfz60_5
      try clear hfz60_6
      try clear hfz65_0
      try clear hfz65_1
      try clear hfz65_2
      try clear hfz65_3
      try clear hfz65_4
      try clear hfz65_5
      try clear hfz65_6
      try clear hfz68_0
      try clear hfz68_1
      try clear hfz68_2
      try clear hfz68_3
      try clear hfz68_4
      try clear hfz68_5
      try clear hfz68_6
      try clear hfz8_0
      try clear hfz8_1
      try clear hfz8_2
      try clear hfz8_3
      try clear hfz8_4
      try clear hfz8_5
      try clear hfz8_6
      try clear hx28_0
      try clear hx35_0
      try clear hx42_0
      try clear hx49_0
      try clear hx51_0
      try clear p28
      try clear p35
      try clear p42
      try clear p49
      try clear p51
      try clear q28
      try clear q35
      try clear q42
      try clear q49
      try clear q51
      obtain ⟨kq, x9_5, x114001_5, x114006_5, u114001, rfl, HA, HJ5, HO_114000, HO_114001, BK101, BK113, HB⟩ := hcut
      cases kq with
      | zero => exact absurd HA.out (by simp [hansomlaw44_MzMay.j0])
      | succ kj5 =>
        have H := HA.out
        clear HA
        simp only [hansomlaw44_MzMay.j0] at H
        replace H := Option.bind_eq_some_iff.mp H
        obtain ⟨⟨t128, t131⟩, A700, H⟩ := H
        replace H : ((QAw.hansomlaw44_awake.f kj5).bind fun t132 => (if t132 = true then (if t131 = x9_5 then ((PWrite.mz_May.f kj5 y117 x114001_5 t108 t109 t110 t111 x114006_5).bind fun t133 => (if (t133 == (x9_5 == 0)) = true then (some ((decide ((t128.length : Int) > 0)) == (x9_5 == 0))) else (some false))) else (some false)) else (some false))) = some true := H
        have A70 := Aside0.mk A700
        clear A700
        replace H := Option.bind_eq_some_iff.mp H
        obtain ⟨t132, A710, H⟩ := H
        replace H : (if t132 = true then (if t131 = x9_5 then ((PWrite.mz_May.f kj5 y117 x114001_5 t108 t109 t110 t111 x114006_5).bind fun t133 => (if (t133 == (x9_5 == 0)) = true then (some ((decide ((t128.length : Int) > 0)) == (x9_5 == 0))) else (some false))) else (some false)) else (some false)) = some true := H
        have A71 := Aside0.mk A710
        clear A710
        by_cases c72 : t132 = true
        · subst c72
          have H1 : (if t131 = x9_5 then ((PWrite.mz_May.f kj5 y117 x114001_5 t108 t109 t110 t111 x114006_5).bind fun t133 => (if (t133 == (x9_5 == 0)) = true then (some ((decide ((t128.length : Int) > 0)) == (x9_5 == 0))) else (some false))) else (some false)) = some true := by rw [if_pos rfl] at H; exact H
          clear H
          have H := H1
          clear H1
          by_cases c73 : t131 = x9_5
          · rw [if_pos c73] at H
            have c73b0 : (t131 == x9_5) = true := beq_iff_eq.mpr c73
            have c73b1 : (t131 != x9_5) = false := bne_eq_false_iff_eq.mpr c73
            clear c73
            replace H := Option.bind_eq_some_iff.mp H
            obtain ⟨t133, A740, H⟩ := H
            replace H : (if (t133 == (x9_5 == 0)) = true then (some ((decide ((t128.length : Int) > 0)) == (x9_5 == 0))) else (some false)) = some true := H
            have A74 := Aside0.mk A740
            clear A740
            by_cases c75 : (t133 == (x9_5 == 0)) = true
            · rw [if_pos c75] at H
              have c75b0 : (t133 == (x9_5 == 0)) = true := c75
              (try (have c75b1 : decide (t133 = (x9_5 == 0)) = true := by simpa using c75))
              (try (have c75b2 : (t133 == (x9_5 == 0)) = true := by simpa using c75))
              clear c75
              have HT := Option.some.inj H
              clear H
              have hnb76 := NB113_101.out
              have hnc76 := NB101_113.out
              have hcz77_0 : wc.cell? ⟨gb113, 0, none⟩ = some (.slice Ao19 y117.length co19) := (blk_cell BK113.out 0).trans rfl
              have hcz77_1 : wc.cell? ⟨gb113, 1, none⟩ = some (u114001) := (blk_cell BK113.out 1).trans rfl
              have hcz77_2 : wc.cell? ⟨gb113, 2, none⟩ = some (.int .u16 t108) := (blk_cell BK113.out 2).trans rfl
              have hcz77_3 : wc.cell? ⟨gb113, 3, none⟩ = some (.int .u16 t109) := (blk_cell BK113.out 3).trans rfl
              have hcz77_4 : wc.cell? ⟨gb113, 4, none⟩ = some (.int .u16 t110) := (blk_cell BK113.out 4).trans rfl
              have hcz77_5 : wc.cell? ⟨gb113, 5, none⟩ = some (.int .u16 t111) := (blk_cell BK113.out 5).trans rfl
              have hcz77_6 : wc.cell? ⟨gb113, 6, none⟩ = some (.int .i64 x114006_5) := (blk_cell BK113.out 6).trans rfl
              have hfz77_0 := blk_frozen BK113.out 0
              have hfz77_1 := blk_frozen BK113.out 1
              have hfz77_2 := blk_frozen BK113.out 2
              have hfz77_3 := blk_frozen BK113.out 3
              have hfz77_4 := blk_frozen BK113.out 4
              have hfz77_5 := blk_frozen BK113.out 5
              have hfz77_6 := blk_frozen BK113.out 6
              obtain ⟨Ao78, co78, eo78⟩ := Kd.R_slice HO_114001.out
              subst eo78
              go_wp2_with (first | ((with_reducible refine gate_callee (f := 14) rfl ?_); refine goesL_ (some 86) rfl rfl Try.func14 (by kernel_rfl) rfl #[.agg #[.slice Ao19 y117.length co19, .slice Ao78 x114001_5.length co78, .int .u16 t108, .int .u16 t109, .int .u16 t110, .int .u16 t111, .int .i64 x114006_5]] rfl (by (try simp only [List.map_toArray, List.map_cons, List.map_nil]); first | done | rfl | (simp only [List.length_drop, List.length_take]; rfl)) ?_; (with_reducible refine (PWrite.mz_Write.calls kj5 _ _ y117 _ _ x114001_5 t108 t109 t110 t111 x114006_5 t128 t131 _ ?side1 ?side2 ?side3 ?side4 A70.out).mono ?_); (case side1 => repeat (first | exact (Kd.R_reads' HO_114000.out).2.2 | (with_reducible refine Kd.C_alloc ?_ _) | (with_reducible refine Kd.C_drewN ?_ _) | (with_reducible refine Kd.C_drew ?_))); (case side2 => exact (Kd.R_reads' HO_114000.out).2.1); (case side3 => repeat (first | exact (Kd.R_reads' HO_114001.out).2.2 | (with_reducible refine Kd.C_alloc ?_ _) | (with_reducible refine Kd.C_drewN ?_ _) | (with_reducible refine Kd.C_drew ?_))); (case side4 => exact (Kd.R_reads' HO_114001.out).2.1); rintro e w79 ⟨v129, rfl, ho0, hb⟩; refine ⟨_, rfl, ?_⟩; have n0_ := Aside0.mk (Kd.R_elder' (by (with_reducible repeat (first | apply Kd.R_alloc | apply Kd.R_drewN | apply Kd.R_drew)); exact HO_114000.out) (Kd.R_base ho0) hb); have n1_ := Aside0.mk (Kd.R_below (by (with_reducible repeat (first | apply Kd.R_alloc | apply Kd.R_drewN | apply Kd.R_drew)); exact HO_114001.out) hb); have n2_ := Aside0.mk (Kd.R_lower (Kd.R_new' ho0 (Kd.R_lt (by (with_reducible repeat (first | apply Kd.R_alloc | apply Kd.R_drewN | apply Kd.R_drew)); exact HO_114000.out))) (below_size (by repeat (first | (with_reducible first | exact HB.out | apply below_alloc | apply pw_below_drewN | apply below_drew1 | refine below_set ?_ GE101.out | refine below_set ?_ GE113.out) | exact HB.out)))); have n3_ := Aside0.mk (blk_below (g := gb101) (o := .cells #[.slice A0_0 l0_0.length c0_0, .slice A0_1 l0_1.length c0_1, .int .u16 a0_2, .int .u16 a0_3, .int .u16 a0_4, .int .u16 a0_5, .int .i64 a0_6] 35 (0, 0)) (by (with_reducible repeat (first | refine blk_drewN ?_ _ | refine blk_drew ?_ | refine blk_alloc ?_ _)); exact BK101.out) hb); have n4_ := Aside0.mk (blk_below (g := gb113) (o := .cells #[.slice Ao19 y117.length co19, .slice Ao78 x114001_5.length co78, .int .u16 t108, .int .u16 t109, .int .u16 t110, .int .u16 t111, .int .i64 x114006_5] 35 (0, 0)) (by (with_reducible repeat (first | refine blk_drewN ?_ _ | refine blk_drew ?_ | refine blk_alloc ?_ _)); exact BK113.out) hb); have n5_ := Aside0.mk (below_step (by repeat (first | (with_reducible first | exact HB.out | apply below_alloc | apply pw_below_drewN | apply below_drew1 | refine below_set ?_ GE101.out | refine below_set ?_ GE113.out) | exact HB.out)) hb); clear HO_114000; clear HO_114001; clear BK101; clear BK113; clear HB; have HO_114000 := n0_; have HO_114001 := n1_; have HO130 := n2_; have BK101 := n3_; have BK113 := n4_; have HB := n5_; clear n0_ n1_ n2_ n3_ n4_ n5_; (try clear hb); (try clear hb2); (try clear hk); (try clear hi); (try clear ho0)) | ((with_reducible refine gate_callee (f := 16) rfl ?_); refine goesL_ (some 89) rfl rfl Try.func16 (by kernel_rfl) rfl #[] rfl (by (try simp only [List.map_toArray, List.map_cons, List.map_nil]); first | done | rfl | (simp only [List.length_drop, List.length_take]; rfl)) ?_; (with_reducible refine (QAw.hansomlaw44_awake.calls kj5  true _ A71.out).mono ?_); rintro e w80 ⟨rfl, hb⟩; refine ⟨_, rfl, ?_⟩; have n0_ := Aside0.mk (Kd.R_below (by (with_reducible repeat (first | apply Kd.R_alloc | apply Kd.R_drewN | apply Kd.R_drew)); exact HO_114000.out) hb); have n1_ := Aside0.mk (Kd.R_below (by (with_reducible repeat (first | apply Kd.R_alloc | apply Kd.R_drewN | apply Kd.R_drew)); exact HO_114001.out) hb); have n2_ := Aside0.mk (Kd.R_below (by (with_reducible repeat (first | apply Kd.R_alloc | apply Kd.R_drewN | apply Kd.R_drew)); exact HO130.out) hb); have n3_ := Aside0.mk (blk_below (g := gb101) (o := .cells #[.slice A0_0 l0_0.length c0_0, .slice A0_1 l0_1.length c0_1, .int .u16 a0_2, .int .u16 a0_3, .int .u16 a0_4, .int .u16 a0_5, .int .i64 a0_6] 35 (0, 0)) (by (with_reducible repeat (first | refine blk_drewN ?_ _ | refine blk_drew ?_ | refine blk_alloc ?_ _)); exact BK101.out) hb); have n4_ := Aside0.mk (blk_below (g := gb113) (o := .cells #[.slice Ao19 y117.length co19, .slice Ao78 x114001_5.length co78, .int .u16 t108, .int .u16 t109, .int .u16 t110, .int .u16 t111, .int .i64 x114006_5] 35 (0, 0)) (by (with_reducible repeat (first | refine blk_drewN ?_ _ | refine blk_drew ?_ | refine blk_alloc ?_ _)); exact BK113.out) hb); have n5_ := Aside0.mk (below_step (by repeat (first | (with_reducible first | exact HB.out | apply below_alloc | apply pw_below_drewN | apply below_drew1 | refine below_set ?_ GE101.out | refine below_set ?_ GE113.out) | exact HB.out)) hb); clear HO_114000; clear HO_114001; clear HO130; clear BK101; clear BK113; clear HB; have HO_114000 := n0_; have HO_114001 := n1_; have HO130 := n2_; have BK101 := n3_; have BK113 := n4_; have HB := n5_; clear n0_ n1_ n2_ n3_ n4_ n5_; (try clear hb); (try clear hb2); (try clear hk); (try clear hi); have hcz81_0 : w80.cell? ⟨gb113, 0, none⟩ = some (.slice Ao19 y117.length co19) := (blk_cell BK113.out 0).trans rfl; have hcz81_1 : w80.cell? ⟨gb113, 1, none⟩ = some (.slice Ao78 x114001_5.length co78) := (blk_cell BK113.out 1).trans rfl; have hcz81_2 : w80.cell? ⟨gb113, 2, none⟩ = some (.int .u16 t108) := (blk_cell BK113.out 2).trans rfl; have hcz81_3 : w80.cell? ⟨gb113, 3, none⟩ = some (.int .u16 t109) := (blk_cell BK113.out 3).trans rfl; have hcz81_4 : w80.cell? ⟨gb113, 4, none⟩ = some (.int .u16 t110) := (blk_cell BK113.out 4).trans rfl; have hcz81_5 : w80.cell? ⟨gb113, 5, none⟩ = some (.int .u16 t111) := (blk_cell BK113.out 5).trans rfl; have hcz81_6 : w80.cell? ⟨gb113, 6, none⟩ = some (.int .i64 x114006_5) := (blk_cell BK113.out 6).trans rfl; have hfz81_0 := blk_frozen BK113.out 0; have hfz81_1 := blk_frozen BK113.out 1; have hfz81_2 := blk_frozen BK113.out 2; have hfz81_3 := blk_frozen BK113.out 3; have hfz81_4 := blk_frozen BK113.out 4; have hfz81_5 := blk_frozen BK113.out 5; have hfz81_6 := blk_frozen BK113.out 6) | (go_at_call 17; (with_reducible refine (PWrite.mz_May.calls kj5 _ _ y117 _ _ x114001_5 t108 t109 t110 t111 x114006_5 t133 _ ?side1 ?side2 ?side3 ?side4 A74.out).mono ?_); (case side1 => repeat (first | exact (Kd.R_reads' HO_114000.out).2.2 | (with_reducible refine Kd.C_alloc ?_ _) | (with_reducible refine Kd.C_drewN ?_ _) | (with_reducible refine Kd.C_drew ?_))); (case side2 => exact (Kd.R_reads' HO_114000.out).2.1); (case side3 => repeat (first | exact (Kd.R_reads' HO_114001.out).2.2 | (with_reducible refine Kd.C_alloc ?_ _) | (with_reducible refine Kd.C_drewN ?_ _) | (with_reducible refine Kd.C_drew ?_))); (case side4 => exact (Kd.R_reads' HO_114001.out).2.1); rintro e w82 ⟨rfl, hb⟩; have n0_ := Aside0.mk (Kd.R_below (by (with_reducible repeat (first | apply Kd.R_alloc | apply Kd.R_drewN | apply Kd.R_drew)); exact HO_114000.out) hb); have n1_ := Aside0.mk (Kd.R_below (by (with_reducible repeat (first | apply Kd.R_alloc | apply Kd.R_drewN | apply Kd.R_drew)); exact HO_114001.out) hb); have n2_ := Aside0.mk (Kd.R_below (by (with_reducible repeat (first | apply Kd.R_alloc | apply Kd.R_drewN | apply Kd.R_drew)); exact HO130.out) hb); have n3_ := Aside0.mk (blk_below (g := gb101) (o := .cells #[.slice A0_0 l0_0.length c0_0, .slice A0_1 l0_1.length c0_1, .int .u16 a0_2, .int .u16 a0_3, .int .u16 a0_4, .int .u16 a0_5, .int .i64 a0_6] 35 (0, 0)) (by (with_reducible repeat (first | refine blk_drewN ?_ _ | refine blk_drew ?_ | refine blk_alloc ?_ _)); exact BK101.out) hb); have n4_ := Aside0.mk (blk_below (g := gb113) (o := .cells #[.slice Ao19 y117.length co19, .slice Ao78 x114001_5.length co78, .int .u16 t108, .int .u16 t109, .int .u16 t110, .int .u16 t111, .int .i64 x114006_5] 35 (0, 0)) (by (with_reducible repeat (first | refine blk_drewN ?_ _ | refine blk_drew ?_ | refine blk_alloc ?_ _)); exact BK113.out) hb); have n5_ := Aside0.mk (below_step (by repeat (first | (with_reducible first | exact HB.out | apply below_alloc | apply pw_below_drewN | apply below_drew1 | refine below_set ?_ GE101.out | refine below_set ?_ GE113.out) | exact HB.out)) hb); clear HO_114000; clear HO_114001; clear HO130; clear BK101; clear BK113; clear HB; have HO_114000 := n0_; have HO_114001 := n1_; have HO130 := n2_; have BK101 := n3_; have BK113 := n4_; have HB := n5_; clear n0_ n1_ n2_ n3_ n4_ n5_; (try clear hb); (try clear hb2); (try clear hk); (try clear hi); obtain ⟨Ao83, co83, eo83⟩ := Kd.R_slice HO130.out; subst eo83))
              go_ret
              have HT2 := HT
              simp only [gt_iff_lt, Int.natCast_pos] at HT2
              exact ⟨by first | rfl | (simp at HT2 ⊢; exact HT2) | (simp [errW_none, errW_some] <;> rfl) | (simp [*, errW_none, errW_some] <;> rfl), by repeat (first | (with_reducible first | exact HB.out | apply below_alloc | apply pw_below_drewN | apply below_drew1 | refine below_set ?_ GE101.out | refine below_set ?_ GE113.out) | exact HB.out)⟩
            · rw [if_neg c75] at H
              have c75b0 : (t133 == (x9_5 == 0)) = false := by simpa using c75
              (try (have c75b1 : decide (t133 = (x9_5 == 0)) = false := by simpa using c75))
              (try (have c75b2 : (t133 == (x9_5 == 0)) = false := by simpa using c75))
              (try (have c75b3 : ¬ (t133 = (x9_5 == 0)) := by simpa using c75))
              clear c75
              exact absurd H (by simp)
          · rw [if_neg c73] at H
            have c73b0 : (t131 == x9_5) = false := beq_eq_false_iff_ne.mpr c73
            have c73b1 : (t131 != x9_5) = true := bne_iff_ne.mpr c73
            exact absurd H (by simp)
        · replace c72 := Bool.eq_false_iff.mpr c72
          subst c72
          have H1 : (some false) = some true := by rw [if_neg (show ¬ (false = true) by decide)] at H; exact H
          clear H
          have H := H1
          clear H1
          exact absurd H (by simp)
  · rw [if_neg c5] at H
    exact absurd H (by simp)

end Go.Proofs.Ytfibdecfmfdikaa.QMay
