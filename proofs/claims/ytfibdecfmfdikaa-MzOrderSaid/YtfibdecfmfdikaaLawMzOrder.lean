/- The row of the law MzOrder: its arguments opened, and its walk. -/
import Derived.Test.YtfibdecfmfdikaaRows
import Derived.Test.YtfibdecfmfdikaaOpn
import Derived.Test.YtfibdecfmfdikaaMzQ
import Derived.WalkKit
import Derived.ProofKit
import Derived.OpenShut
import Derived.ShutString
import Derived.ChangeOld
import Derived.Below
import Derived.SizedLaws
namespace Go.Proofs.Ytfibdecfmfdikaa.mzOrder
open Go.ChangeShapes Go.WideShapes Go.ChangeAt Go.RowKit
open Go.ChangeMaps (open_string shut_string)
open Go.Proofs.YtfibdecfmfdikaaW.PrintWords
set_option linter.unusedVariables false
theorem own : ownKnob Try.prog.godebug = none := by kernel_rfl
theorem laidOut : laidOutB Try.prog = true := by kernel_rfl
theorem cells_3 : Try.prog.cellsOf 3 = 1 := by kernel_rfl
theorem cells_23 : Try.prog.cellsOf 23 = 1 := by kernel_rfl
theorem cells_24 : Try.prog.cellsOf 24 = 1 := by kernel_rfl
theorem cells_33 : Try.prog.cellsOf 33 = 1 := by kernel_rfl
set_option maxRecDepth 100000 in
theorem lifted (os : Os) (started : os.Started) (H : Type) (enc : TypeId × Value → H) :
    ReturnsInHanded {} Try.checked os 7 .any (Rows.mzOrderSpec.pre6 enc Try.prog Try.f7 Rows.mzOrderRow.domain false) (Rows.mzOrderSpec.post enc Try.prog Try.f7 false true false false) := by
  refine returnsInHanded_of_change_sized (C := Try.checked) own started (by kernel_rfl) Try.func7
    (ChangeSpec.witness6 (enc := enc) (C := Try.checked) false ⟨#[], #[.agg #[.slice none 0 0, .slice none 0 0, .int .u16 0, .int .u16 0, .int .u16 0, .int .u16 0, .int .i64 0], .int .i64 0, .int .i64 0], []⟩ 8 (by kernel_rfl) (by kernel_rfl) (by kernel_rfl) (by kernel_rfl)) ?_
  intro W base args ds gs before hval0 hW hcnd hsz0 _
  have hsz : (DataW.weightsEach Try.prog (Try.f7.params.toList ++ Rows.mzOrderSpec.plain.varTypes Try.prog) (ds ++ gs)).all (· ≤ reachBytes) = true := hsz0
  have hval : ∀ (j : Nat) t v, Try.f7.params[j]? = some t → args[j]? = some v → Value.okWide Try.prog W .any base t v := hval0
  have hW' := hW
  obtain ⟨p, q, hA0, hV, rfl, hfz, hnd⟩ := hW
  have hA : DataW.TrodAll enc Try.prog W 0 (fun _ => true) true Try.f7.params.toList args.toList ds p := hA0
  rw [Try.params7] at hA hval hsz
  obtain ⟨v0, vs0, d0, ds0, p0, q0, hargs, rfl, rfl, h0, r0⟩ := trodAll_cons hA
  obtain ⟨v1, vs1, d1, ds1, p1, q1, rfl, rfl, rfl, h1, r1⟩ := trodAll_cons r0
  obtain ⟨v2, vs2, d2, ds2, p2, q2, rfl, rfl, rfl, h2, r2⟩ := trodAll_cons r1
  obtain ⟨rfl, rfl, rfl⟩ := trodAll_nil r2
  obtain rfl : args = #[v0, v1, v2] := by cases args; simp_all
  obtain ⟨rfl, rfl⟩ := trodVars_none hV
  have k0 := h0
  have lt0 : ∀ x ∈ p0, x.block < W.heap.size := by obtain ⟨m, hm⟩ := k0; exact DataW.trod_lt m _ _ _ hm
  obtain ⟨cs0, rfl, hz0⟩ := okWide_struct Try.underlying35 (hval 0 35 v0 rfl rfl)
  obtain ⟨c0_0, c0_1, c0_2, c0_3, c0_4, c0_5, c0_6, rfl⟩ := Opn.cells7 (hz0.trans (by kernel_rfl))
  obtain ⟨fuel0, hf0⟩ := h0
  have hg0 := Opn.trod_same (cs' := [c0_0, c0_1, c0_2, c0_3, c0_4, c0_5, c0_6]) (t := 35) hf0 rfl rfl
  clear hf0
  obtain ⟨m0_0_43, gm0_0_43⟩ := Opn.field_of Try.underlying35 hg0
  obtain ⟨yf0_0_44, f0_0_440⟩ := gm0_0_43 0 _ rfl
  have f0_0_44 := Opn.trod_same (cs' := [c0_0]) (t := 23) f0_0_440 (by show (List.drop 0 [c0_0, c0_1, c0_2, c0_3, c0_4, c0_5, c0_6]).take (Try.prog.cellsOf 23) = [c0_0]; rw [cells_23]; rfl) rfl
  clear f0_0_440
  obtain ⟨yf0_1_47, f0_1_470⟩ := gm0_0_43 1 _ rfl
  have f0_1_47 := Opn.trod_same (cs' := [c0_1]) (t := 33) f0_1_470 (by show (List.drop 1 [c0_0, c0_1, c0_2, c0_3, c0_4, c0_5, c0_6]).take (Try.prog.cellsOf 33) = [c0_1]; rw [cells_33]; rfl) rfl
  clear f0_1_470
  obtain ⟨yf0_2_50, f0_2_500⟩ := gm0_0_43 2 _ rfl
  have f0_2_50 := Opn.trod_same (cs' := [c0_2]) (t := 24) f0_2_500 (by show (List.drop 2 [c0_0, c0_1, c0_2, c0_3, c0_4, c0_5, c0_6]).take (Try.prog.cellsOf 24) = [c0_2]; rw [cells_24]; rfl) rfl
  clear f0_2_500
  obtain ⟨yf0_3_53, f0_3_530⟩ := gm0_0_43 3 _ rfl
  have f0_3_53 := Opn.trod_same (cs' := [c0_3]) (t := 24) f0_3_530 (by show (List.drop 3 [c0_0, c0_1, c0_2, c0_3, c0_4, c0_5, c0_6]).take (Try.prog.cellsOf 24) = [c0_3]; rw [cells_24]; rfl) rfl
  clear f0_3_530
  obtain ⟨yf0_4_56, f0_4_560⟩ := gm0_0_43 4 _ rfl
  have f0_4_56 := Opn.trod_same (cs' := [c0_4]) (t := 24) f0_4_560 (by show (List.drop 4 [c0_0, c0_1, c0_2, c0_3, c0_4, c0_5, c0_6]).take (Try.prog.cellsOf 24) = [c0_4]; rw [cells_24]; rfl) rfl
  clear f0_4_560
  obtain ⟨yf0_5_59, f0_5_590⟩ := gm0_0_43 5 _ rfl
  have f0_5_59 := Opn.trod_same (cs' := [c0_5]) (t := 24) f0_5_590 (by show (List.drop 5 [c0_0, c0_1, c0_2, c0_3, c0_4, c0_5, c0_6]).take (Try.prog.cellsOf 24) = [c0_5]; rw [cells_24]; rfl) rfl
  clear f0_5_590
  obtain ⟨yf0_6_62, f0_6_620⟩ := gm0_0_43 6 _ rfl
  have f0_6_62 := Opn.trod_same (cs' := [c0_6]) (t := 3) f0_6_620 (by show (List.drop 6 [c0_0, c0_1, c0_2, c0_3, c0_4, c0_5, c0_6]).take (Try.prog.cellsOf 3) = [c0_6]; rw [cells_3]; rfl) rfl
  clear f0_6_620
  clear gm0_0_43
  obtain ⟨A0_0, l0_0, c0_0_, rfl, hr0_0, hc0_0, hm0_0, hw0_0⟩ := Opn.row_cell Try.underlying23 Try.underlying5 (by kernel_rfl) f0_0_44
  obtain ⟨A0_1, l0_1, c0_1_, rfl, hr0_1, hc0_1, hm0_1, hw0_1⟩ := Opn.row_cell Try.underlying33 Try.underlying3 (by kernel_rfl) f0_1_47
  obtain ⟨a0_2, rfl, hw0_2⟩ := Opn.int_cell Try.underlying24 f0_2_50
  obtain ⟨a0_3, rfl, hw0_3⟩ := Opn.int_cell Try.underlying24 f0_3_53
  obtain ⟨a0_4, rfl, hw0_4⟩ := Opn.int_cell Try.underlying24 f0_4_56
  obtain ⟨a0_5, rfl, hw0_5⟩ := Opn.int_cell Try.underlying24 f0_5_59
  obtain ⟨a0_6, rfl, hw0_6⟩ := Opn.int_cell Try.underlying3 f0_6_62
  obtain ⟨a1, rfl, rfl, rfl, w1⟩ := open_int Try.underlying3 (hval 1 3 v1 rfl rfl) h1
  obtain ⟨a2, rfl, rfl, rfl, w2⟩ := open_int Try.underlying3 (hval 2 3 v2 rfl rfl) h2
  clear hA0 hval0 hsz0 hsz
  refine (MzOrder_walk A0_0 c0_0_ l0_0 A0_1 c0_1_ l0_1 a0_2 a0_3 a0_4 a0_5 a0_6 a1 a2 W hr0_0 hc0_0 hm0_0 hw0_0 hr0_1 hc0_1 hm0_1 hw0_1 hw0_2 hw0_3 hw0_4 hw0_5 hw0_6 w1 w2).mono fun e W' ⟨he, bel⟩ => ?_
  subst he
  exact ⟨_, rfl, _, _, _, [], _, [], hW', trodAll_mk1 (shut_bool Try.underlying4 _), (trodAll_cons_mk (Below.trod laidOut (by kernel_rfl) (of_decide_eq_true (by kernel_rfl)) k0 bel lt0) (trodAll_cons_mk (shut_int Try.underlying3 w1) (trodAll_cons_mk (shut_int Try.underlying3 w2) trodAll_mk0))), rfl, bel.frame _, fun h => by cases h⟩
theorem over : Rows.mzOrderRow.holds Try.pinned (OpenSpec.ofChange Rows.mzOrderSpec) :=
  OpenClaim.holds_of_wide 7 Try.f7 rfl rfl rfl rfl rfl rfl rfl ⟨rfl, rfl, rfl, rfl, rfl⟩ rfl rfl rfl rfl rfl (by kernel_rfl) Try.func7 (by kernel_rfl)
    (of_decide_eq_true (by kernel_rfl)) (by unfold Func.isWrapper; first | (rw [if_pos (by decide +kernel)]; kernel_rfl) | (rw [if_neg (by decide +kernel)]; exact ⟨rfl, rfl⟩))
    (fun os started H enc _ => lifted os started H enc)
theorem proved : Rows.MzOrderSaid := over
#print axioms proved
end Go.Proofs.Ytfibdecfmfdikaa.mzOrder
namespace Go.Proofs.Ytfibdecfmfdikaa
/-- The row, under a short name, for the claim. -/
theorem mzOrder_holds : Rows.MzOrderSaid := mzOrder.proved
end Go.Proofs.Ytfibdecfmfdikaa
