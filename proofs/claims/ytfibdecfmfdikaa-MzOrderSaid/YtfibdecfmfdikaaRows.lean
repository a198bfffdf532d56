/-
  No cell of these rows narrows 'for every input' (looked for: loops, veiled, ifaces, maps, wideKeys, modest, calm, conditions, laid).
  DERIVED. THE GIVEN ROWS OF THIS SEAT. 5 by the template 'for every input the law returns true; each argument reads behind the call as it read before'; 0 by the template 'total and deterministic' (their statements: YtfibdecfmfdikaaTotals.lean).
  GIVEN WITH THE SEED: the statements are not yours to turn. If you find one false, say at which input.
  Laid BY PROGRAM, IN A SANDBOX (cutbox-rows.mjs): the forced cells as the released guide's own fill.sh prints them over the translation 57d065b6b883e8e6… (all of the seat's roots in one cut). By AI agents, Wed Nov 11 2026. No macro, syntax, notation, axiom, sorry.
-/
import Derived.Test.YtfibdecfmfdikaaChecked
import GoSem.Claim
import GoSem.ClaimJoined
import GoSem.ClaimMapViews
import Derived.JoinedTies
import Derived.KernelRfl
namespace Go.Proofs.Ytfibdecfmfdikaa
/- THE CELL 'sum', in the pinned program and in every row, IS THE sha256 OF THE DUMP (.gsa) THAT YtfibdecfmfdikaaProg.lean LOADS. Nothing in Lean hashes anything: it is a label: what it is worth is what the hold of that sum in a sandbox is worth. -/
noncomputable def Try.pinned : Pinned := { name := "ytfibdecfmfdikaa", sum := "57d065b6b883e8e6fa31316587c39b12065ad26102e354391aedbf36537b7178", checked := Try.checked }
namespace Rows
def none {H : Type} : Left H := { results := [], args := [] }

/-- 'hansomlaw07.ScanAll': WHATEVER THE INPUT: true; the input reads as it did. -/
def scanAllSpec : ChangeSpec := { name := "scanAll", fn := fun _ => fun
  | [d1, d2] => { results := [.lit (.bool true)], args := [d1, d2] }
  | _ => none }
def scanAllRow : OpenClaim := { program := "ytfibdecfmfdikaa", sum := "57d065b6b883e8e6fa31316587c39b12065ad26102e354391aedbf36537b7178", func := "hansom/hansomlaw07.ScanAll", spec := "scanAll", unfollowed := true, recurses := true, apart := false }
def ScanAllSaid : Prop := scanAllRow.holds Try.pinned (OpenSpec.ofChange scanAllSpec)

/-- ITS FALSE NEIGHBOUR: 'it returns false'. Refute it at one input. -/
def scanAllWrong : ChangeSpec := { name := "scanAll", fn := fun _ => fun
  | [d1, d2] => { results := [.lit (.bool false)], args := [d1, d2] }
  | _ => none }
def ScanAllWrongFalsely : Prop := scanAllRow.holds Try.pinned (OpenSpec.ofChange scanAllWrong)

/-- 'hansomlaw44.MzBack': WHATEVER THE INPUT: true; the input reads as it did. -/
def mzBackSpec : ChangeSpec := { name := "mzBack", fn := fun _ => fun
  | [d1, d2] => { results := [.lit (.bool true)], args := [d1, d2] }
  | _ => none }
def mzBackRow : OpenClaim := { program := "ytfibdecfmfdikaa", sum := "57d065b6b883e8e6fa31316587c39b12065ad26102e354391aedbf36537b7178", func := "hansom/hansomlaw44.MzBack", spec := "mzBack", unfollowed := true, recurses := true, apart := false }
def MzBackSaid : Prop := mzBackRow.holds Try.pinned (OpenSpec.ofChange mzBackSpec)

/-- ITS FALSE NEIGHBOUR: 'it returns false'. Refute it at one input. -/
def mzBackWrong : ChangeSpec := { name := "mzBack", fn := fun _ => fun
  | [d1, d2] => { results := [.lit (.bool false)], args := [d1, d2] }
  | _ => none }
def MzBackWrongFalsely : Prop := mzBackRow.holds Try.pinned (OpenSpec.ofChange mzBackWrong)

/-- 'hansomlaw44.MzMay': WHATEVER THE INPUT: true; the input reads as it did. -/
def mzMaySpec : ChangeSpec := { name := "mzMay", fn := fun _ => fun
  | [d1, d2, d3] => { results := [.lit (.bool true)], args := [d1, d2, d3] }
  | _ => none }
def mzMayRow : OpenClaim := { program := "ytfibdecfmfdikaa", sum := "57d065b6b883e8e6fa31316587c39b12065ad26102e354391aedbf36537b7178", func := "hansom/hansomlaw44.MzMay", spec := "mzMay", unfollowed := true, recurses := true, apart := false }
def MzMaySaid : Prop := mzMayRow.holds Try.pinned (OpenSpec.ofChange mzMaySpec)

/-- ITS FALSE NEIGHBOUR: 'it returns false'. Refute it at one input. -/
def mzMayWrong : ChangeSpec := { name := "mzMay", fn := fun _ => fun
  | [d1, d2, d3] => { results := [.lit (.bool false)], args := [d1, d2, d3] }
  | _ => none }
def MzMayWrongFalsely : Prop := mzMayRow.holds Try.pinned (OpenSpec.ofChange mzMayWrong)

/-- 'hansomlaw44.MzAny': WHATEVER THE INPUT: true; the input reads as it did. -/
def mzAnySpec : ChangeSpec := { name := "mzAny", fn := fun _ => fun
  | [d1, d2, d3] => { results := [.lit (.bool true)], args := [d1, d2, d3] }
  | _ => none }
def mzAnyRow : OpenClaim := { program := "ytfibdecfmfdikaa", sum := "57d065b6b883e8e6fa31316587c39b12065ad26102e354391aedbf36537b7178", func := "hansom/hansomlaw44.MzAny", spec := "mzAny", unfollowed := true, recurses := true, apart := false }
def MzAnySaid : Prop := mzAnyRow.holds Try.pinned (OpenSpec.ofChange mzAnySpec)

/-- ITS FALSE NEIGHBOUR: 'it returns false'. Refute it at one input. -/
def mzAnyWrong : ChangeSpec := { name := "mzAny", fn := fun _ => fun
  | [d1, d2, d3] => { results := [.lit (.bool false)], args := [d1, d2, d3] }
  | _ => none }
def MzAnyWrongFalsely : Prop := mzAnyRow.holds Try.pinned (OpenSpec.ofChange mzAnyWrong)

/-- 'hansomlaw44.MzOrder': WHATEVER THE INPUT: true; the input reads as it did. -/
def mzOrderSpec : ChangeSpec := { name := "mzOrder", fn := fun _ => fun
  | [d1, d2, d3] => { results := [.lit (.bool true)], args := [d1, d2, d3] }
  | _ => none }
def mzOrderRow : OpenClaim := { program := "ytfibdecfmfdikaa", sum := "57d065b6b883e8e6fa31316587c39b12065ad26102e354391aedbf36537b7178", func := "hansom/hansomlaw44.MzOrder", spec := "mzOrder", unfollowed := true, recurses := true, apart := false }
def MzOrderSaid : Prop := mzOrderRow.holds Try.pinned (OpenSpec.ofChange mzOrderSpec)

/-- ITS FALSE NEIGHBOUR: 'it returns false'. Refute it at one input. -/
def mzOrderWrong : ChangeSpec := { name := "mzOrder", fn := fun _ => fun
  | [d1, d2, d3] => { results := [.lit (.bool false)], args := [d1, d2, d3] }
  | _ => none }
def MzOrderWrongFalsely : Prop := mzOrderRow.holds Try.pinned (OpenSpec.ofChange mzOrderWrong)

/- THE SECOND FORM. 'bulk': how many values and letters a reading holds, each counted each time it is reached (what is shared counts as often as it is met; a slice's spare places count too). A statement '..UptoSaid' is the law's where the arguments, and the package variables that the reading takes, are together of bulk at most 1048576: NARROWER than '..Said'. Prove '..Said' where nothing that the law and all that it calls make is longer than what came in: it says more and counts as full. Else prove '..UptoSaid'. A law counts once. -/
mutual
def uptoBulk {H : Type} : DataW H → Nat
  | .lit (.string bytes) => bytes.length + 1
  | .lit _ => 1
  | .nil => 1
  | .ptr d => uptoBulk d + 1
  | .slice elems spare => uptoBulkAll elems + uptoBulkAll spare + 1
  | .agg parts => uptoBulkAll parts + 1
  | .iface _ d => uptoBulk d + 1
  | .map entries => uptoBulkEntries entries + 1
  | .held _ => 1
def uptoBulkAll {H : Type} : List (DataW H) → Nat
  | [] => 0
  | d :: r => uptoBulk d + uptoBulkAll r
def uptoBulkEntries {H : Type} : List (Lit × DataW H) → Nat
  | [] => 0
  | x :: r => uptoBulkEntry x + uptoBulkEntries r
def uptoBulkEntry {H : Type} : Lit × DataW H → Nat
  | (.string bytes, d) => bytes.length + uptoBulk d + 1
  | (_, d) => uptoBulk d + 1
 end
def uptoSmall : (H : Type) → List (DataW H) → Bool := fun _ ds => decide (uptoBulkAll ds ≤ 1048576)
def OpenSpec.upto (s : _root_.Go.ChangeSpec) : _root_.Go.OpenSpec := { _root_.Go.OpenSpec.ofChange s with cond := some uptoSmall }

/-- 'hansomlaw07.ScanAll', WHERE WHAT IT READS IS OF BULK AT MOST 1048576: true; the input reads as it did. -/
def scanAllUptoRow : OpenClaim := { program := "ytfibdecfmfdikaa", sum := "57d065b6b883e8e6fa31316587c39b12065ad26102e354391aedbf36537b7178", func := "hansom/hansomlaw07.ScanAll", spec := "scanAll", unfollowed := true, recurses := true, apart := false, narrowed := true }
def ScanAllUptoSaid : Prop := scanAllUptoRow.holds Try.pinned (OpenSpec.upto scanAllSpec)

/-- 'hansomlaw44.MzBack', WHERE WHAT IT READS IS OF BULK AT MOST 1048576: true; the input reads as it did. -/
def mzBackUptoRow : OpenClaim := { program := "ytfibdecfmfdikaa", sum := "57d065b6b883e8e6fa31316587c39b12065ad26102e354391aedbf36537b7178", func := "hansom/hansomlaw44.MzBack", spec := "mzBack", unfollowed := true, recurses := true, apart := false, narrowed := true }
def MzBackUptoSaid : Prop := mzBackUptoRow.holds Try.pinned (OpenSpec.upto mzBackSpec)

/-- 'hansomlaw44.MzMay', WHERE WHAT IT READS IS OF BULK AT MOST 1048576: true; the input reads as it did. -/
def mzMayUptoRow : OpenClaim := { program := "ytfibdecfmfdikaa", sum := "57d065b6b883e8e6fa31316587c39b12065ad26102e354391aedbf36537b7178", func := "hansom/hansomlaw44.MzMay", spec := "mzMay", unfollowed := true, recurses := true, apart := false, narrowed := true }
def MzMayUptoSaid : Prop := mzMayUptoRow.holds Try.pinned (OpenSpec.upto mzMaySpec)

/-- 'hansomlaw44.MzAny', WHERE WHAT IT READS IS OF BULK AT MOST 1048576: true; the input reads as it did. -/
def mzAnyUptoRow : OpenClaim := { program := "ytfibdecfmfdikaa", sum := "57d065b6b883e8e6fa31316587c39b12065ad26102e354391aedbf36537b7178", func := "hansom/hansomlaw44.MzAny", spec := "mzAny", unfollowed := true, recurses := true, apart := false, narrowed := true }
def MzAnyUptoSaid : Prop := mzAnyUptoRow.holds Try.pinned (OpenSpec.upto mzAnySpec)

/-- 'hansomlaw44.MzOrder', WHERE WHAT IT READS IS OF BULK AT MOST 1048576: true; the input reads as it did. -/
def mzOrderUptoRow : OpenClaim := { program := "ytfibdecfmfdikaa", sum := "57d065b6b883e8e6fa31316587c39b12065ad26102e354391aedbf36537b7178", func := "hansom/hansomlaw44.MzOrder", spec := "mzOrder", unfollowed := true, recurses := true, apart := false, narrowed := true }
def MzOrderUptoSaid : Prop := mzOrderUptoRow.holds Try.pinned (OpenSpec.upto mzOrderSpec)

end Rows
end Go.Proofs.Ytfibdecfmfdikaa
