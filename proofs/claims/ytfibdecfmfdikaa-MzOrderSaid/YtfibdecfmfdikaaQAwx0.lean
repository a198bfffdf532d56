/- What functions compute, and that the Go functions come to it (written by a program of ours, over the kit's print). -/
import Derived.Test.YtfibdecfmfdikaaProg
import Derived.Below
import Derived.Deep.Draws
import Derived.Deep.AppendLies
import Derived.Maps.AppendAt
import Derived.OwnWalk
import Derived.Laws.BytesArg
import Derived.Laws.MakeOwn
import Derived.Laws.OwnMore
import Derived.Deep.OwnRows
import Derived.Tactics
import Derived.Lib.ConvBytes
import Derived.Laws.Slices
import Derived.WalkKit
import Derived.KernelRfl
import Derived.RowKit3
import Derived.Deep.LoopGhost
import Derived.Deep.QuietTactic
import Derived.BigQuiet
import Derived.WideLaws
import Derived.Deep.DeepCutAuto
import Derived.Deep.CutBlock
import Derived.Deep.RegionHeld3
import Derived.Laws.Rows
import Derived.Lib.AppendStr
import Derived.ArgAppend
import Derived.Laws.IdiomCopy
import Derived.OrdersHeld
import Derived.Laws.BitsLemmas
import Derived.RowKit
import Derived.Test.YtfibdecfmfdikaaRefN
import Derived.Test.YtfibdecfmfdikaaRefW
import Derived.Test.YtfibdecfmfdikaaPSamex1
import Derived.Test.YtfibdecfmfdikaaPWritex2
import Derived.Test.YtfibdecfmfdikaaPWritex1
import Derived.Test.YtfibdecfmfdikaaMzR
import Derived.Test.YtfibdecfmfdikaaOwn
import Derived.Test.YtfibdecfmfdikaaWWords
import Derived.Test.YtfibdecfmfdikaaWLast
import Derived.Test.YtfibdecfmfdikaaWTab
import Derived.Test.YtfibdecfmfdikaaWFour
import Derived.Test.YtfibdecfmfdikaaWQPut
import Derived.Test.YtfibdecfmfdikaaWApart
import Derived.Test.YtfibdecfmfdikaaWArr
import Derived.Test.YtfibdecfmfdikaaWZeros
import Derived.Test.YtfibdecfmfdikaaWFoot
import Derived.Test.YtfibdecfmfdikaaWKept
import Derived.Test.YtfibdecfmfdikaaWShare
import Derived.Test.YtfibdecfmfdikaaWN
import Derived.Test.YtfibdecfmfdikaaWFootNe
import Derived.Test.YtfibdecfmfdikaaWAt
import Derived.Test.YtfibdecfmfdikaaWEqStruct
import Derived.Test.YtfibdecfmfdikaaWRepsOne
import Derived.Test.YtfibdecfmfdikaaWInv
import Derived.Test.YtfibdecfmfdikaaWInvWords
import Derived.Test.YtfibdecfmfdikaaWGuard
import Derived.Test.YtfibdecfmfdikaaWNEv
import Derived.Test.YtfibdecfmfdikaaWMore
namespace Go.Proofs.Ytfibdecfmfdikaa.QAw
open Go.Proofs.Ytfibdecfmfdikaa.OwnWords
open Go.RowKit Go.Proofs.YtfibdecfmfdikaaW.PrintWords Go.Proofs.YtfibdecfmfdikaaW.PrintLast Go.Proofs.YtfibdecfmfdikaaW.PrintMore
attribute [local go_sem] max2_int min2_int max_two min_two max_three min_three max_four min_four   -- for this text's walks alone
set_option linter.unusedVariables false
set_option linter.unusedSimpArgs false



def errW : Option Int → Value
  | none => .nilIface
  | some c => .iface 0 (.int .i64 c)
theorem errW_none : errW none = .nilIface := rfl
theorem errW_some (c : Int) : errW (some c) = .iface 0 (.int .i64 c) := rfl

theorem info3 : (Try.prog.info? 3).map (fun i => (i.zero, i.size, i.bytes)) = some (some (.int .i64 0), 1, 8) := by kernel_rfl
theorem info5 : (Try.prog.info? 5).map (fun i => (i.zero, i.size, i.bytes)) = some (some (.int .u8 0), 1, 1) := by kernel_rfl
-- the values' own types

end Go.Proofs.Ytfibdecfmfdikaa.QAw
