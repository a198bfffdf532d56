/- Words of our own for the walks: a string's bytes as a row that is read. -/
import Derived.Test.YtfibdecfmfdikaaWWords
import Derived.Test.YtfibdecfmfdikaaWMore
set_option linter.unusedVariables false
namespace Go.Proofs.Ytfibdecfmfdikaa.OwnWords
open Go.RowKit Go.Proofs.YtfibdecfmfdikaaW.PrintWords
section
variable {P : Program} {ops : Array Oper} {rest : List Oper} {o : Oper} {a : Act} {Q : Exit → Act → World → Prop} {W : World}
theorem bytes_event (hgd : o.guard = none) {N : Tmp} (_hd : o.dst = some N) {src dst e : TypeId} {x : Operand} (ho : o.op = .convert src dst x) {s : ByteArray} (hx : a.eval x = .string s)
    {u : TypeDesc} (hs : P.underlying src = some u) (hd : P.underlying dst = some (.slice e)) (he : P.underlying e = some (.int .u8)) {ys : List Int} (hy : ys = bytesOf s) (hl : s.size ≤ 9223372036854775807)
    (h : ∀ (A : Option Addr) (c : Nat) (w1 : World), (Kd.int .u8).C w1 A ys.length ys → ys.length ≤ c → Below W.heap.size W w1 → wpList P ops Q rest (a.put o.dst (.slice A ys.length c)) w1) :
    wpList P ops Q (o :: rest) a W := by
  have hn : ys.length = s.size := by rw [hy, bytesOf_length]
  refine Kd.event_run hgd (v := .slice (some ⟨W.heap.size, 0, none⟩) s.size (grownCap W s.size 0 e)) (w1 := Lib.bytesWorld W e s) ?_ ?_
  · have := print_bytes src dst e hs hd he s W
    simp only [execOp, ho, hx]
    simp [this, Result.andThen]
  · rw [← hn]
    refine h _ _ _ ?_ ?_ (bytes_below (Below.refl _ _) (Nat.le_refl _) e s)
    · have := bytes_reads W e s hl
      rw [hn, hy]
      exact Kd.C_of_reads (d := (0 : Int)) (h1 := fun _ => rfl) this
    · rw [hn]; exact grownCap_ge W s.size 0 e
end
end Go.Proofs.Ytfibdecfmfdikaa.OwnWords
