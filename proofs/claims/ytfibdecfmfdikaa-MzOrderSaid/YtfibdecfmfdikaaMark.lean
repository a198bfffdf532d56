/- A row that '[]byte(s)' has made, read and written. -/
import Derived.Test.YtfibdecfmfdikaaOwn
set_option linter.unusedVariables false
namespace Go.Proofs.Ytfibdecfmfdikaa.OwnWords
open Go.RowKit Go.Proofs.YtfibdecfmfdikaaW.PrintWords
section
variable {P : Program} {ops : Array Oper} {rest : List Oper} {o : Oper} {a : Act} {Q : Exit → Act → World → Prop} {W : World}
/-- A row of bytes that a conversion has made (its block bears a mark behind its cells). -/
def MRow (e : TypeId) (w : World) (g c : Nat) (xs : List Int) : Prop :=
  xs.length ≤ c ∧ xs.length ≤ 9223372036854775807 ∧ ∃ cur, w.heap[g]? = some (.cells cur e (c, c + 1)) ∧ cur.size = c ∧ cur.toList.take xs.length = xs.map (Value.int .u8)
theorem MRow.cell {e : TypeId} {w : World} {g c : Nat} {xs : List Int} (h : MRow e w g c xs) (i : Nat) (hi : i < xs.length) : w.cell? ⟨g, i, none⟩ = some (.int .u8 (xs.getD i 0)) := by
  obtain ⟨hl, _, cur, hb, hc, ht⟩ := h
  have h1 : cur[i]? = some (.int .u8 (xs.getD i 0)) := by
    have h2 : (cur.toList.take xs.length)[i]? = (xs.map (Value.int .u8))[i]? := by rw [ht]
    rw [List.getElem?_take, if_pos hi, List.getElem?_map, List.getElem?_eq_getElem hi] at h2
    rw [← Array.getElem?_toList, h2]
    simp [List.getD_eq_getElem?_getD, List.getElem?_eq_getElem hi]
  simp [World.cell?, hb, h1]
theorem MRow.frozen {e : TypeId} {w : World} {g c : Nat} {xs : List Int} (h : MRow e w g c xs) (i : Nat) (hi : i < xs.length) : w.frozen? ⟨g, i, none⟩ = false := by
  obtain ⟨hl, _, cur, hb, hc, ht⟩ := h
  have : i < c := by omega
  simp [World.frozen?, hb]
  omega
theorem MRow.reads {e : TypeId} {w : World} {g c : Nat} {xs : List Int} (h : MRow e w g c xs) : (Kd.int .u8).C w (some ⟨g, 0, none⟩) xs.length xs :=
  Kd.C_of_reads (d := (0 : Int)) (h1 := fun _ => rfl) ⟨rfl, h.2.1, fun _ => ⟨_, rfl, fun j hj => by rw [add_plain]; exact h.cell j hj⟩⟩
theorem MRow.lt {e : TypeId} {w : World} {g c : Nat} {xs : List Int} (h : MRow e w g c xs) : g < w.heap.size := by
  obtain ⟨_, _, cur, hb, _⟩ := h
  exact (Array.getElem?_eq_some_iff.1 hb).1
theorem MRow.drew {e : TypeId} {w : World} {g c : Nat} {xs : List Int} (h : MRow e w g c xs) : MRow e w.drew g c xs := h
theorem MRow.below {e : TypeId} {w w1 : World} {g c : Nat} {xs : List Int} (h : MRow e w g c xs) (hb : Below w.heap.size w w1) : MRow e w1 g c xs := by
  have hl := h.lt
  obtain ⟨h1, h2, cur, h3, h4⟩ := h
  exact ⟨h1, h2, cur, (hb.block g hl).trans h3, h4⟩
theorem MRow.set {e : TypeId} {w : World} {g c : Nat} {xs : List Int} (h : MRow e w g c xs) (i : Nat) (hi : i < xs.length) (v : Int) : MRow e (w.setCell ⟨g, i, none⟩ (.int .u8 v)) g c (xs.set i v) := by
  have hlt := h.lt
  obtain ⟨hl, hn, cur, hb, hc, ht⟩ := h
  refine ⟨by simpa using hl, by simpa using hn, cur.set! i (.int .u8 v), ?_, by simpa using hc, ?_⟩
  · have : w.heap[g] = .cells cur e (c, c + 1) := (Array.getElem?_eq_some_iff.1 hb).2
    simp [World.setCell, Array.getElem?_modify, hb]
  · simp only [Array.set!_eq_setIfInBounds, Array.toList_setIfInBounds, List.length_set]
    rw [List.take_set, ht, List.map_set]
theorem set_block {w : World} {g i j : Nat} {v : Value} (h : j ≠ g) : (w.setCell ⟨g, i, none⟩ v).heap[j]? = w.heap[j]? := by
  simp [World.setCell, Array.getElem?_modify, Ne.symm h]
theorem set_size {w : World} {g i : Nat} {v : Value} : (w.setCell ⟨g, i, none⟩ v).heap.size = w.heap.size := by simp [World.setCell]
theorem bytes_mark (hgd : o.guard = none) {N : Tmp} (_hd : o.dst = some N) {src dst e : TypeId} {x : Operand} (ho : o.op = .convert src dst x) {s : ByteArray} (hx : a.eval x = .string s)
    {u : TypeDesc} (hs : P.underlying src = some u) (hd : P.underlying dst = some (.slice e)) (he : P.underlying e = some (.int .u8)) {ys : List Int} (hy : ys = bytesOf s) (hl : s.size ≤ 9223372036854775807)
    (h : ∀ (g c : Nat) (w1 : World), g = W.heap.size → MRow e w1 g c ys → Below W.heap.size W w1 → wpList P ops Q rest (a.put o.dst (.slice (some ⟨g, 0, none⟩) ys.length c)) w1) :
    wpList P ops Q (o :: rest) a W := by
  have hn : ys.length = s.size := by rw [hy, bytesOf_length]
  refine Kd.event_run hgd (v := .slice (some ⟨W.heap.size, 0, none⟩) s.size (grownCap W s.size 0 e)) (w1 := Lib.bytesWorld W e s) ?_ ?_
  · have := print_bytes src dst e hs hd he s W
    simp only [execOp, ho, hx]
    simp [this, Result.andThen]
  · have hg := grownCap_ge W s.size 0 e
    have h3 : s.data.size = s.size := rfl
    have hsz : (Lib.bytesCells W e s).size = grownCap W s.size 0 e := by
      simp [Lib.bytesCells, h3]
      omega
    have hm : MRow e (Lib.bytesWorld W e s) W.heap.size (grownCap W s.size 0 e) ys := by
      refine ⟨by omega, by omega, Lib.bytesCells W e s, by rw [← hsz]; exact Lib.bytesWorld_at_new W e s, hsz, ?_⟩
      rw [hn, hy]
      simp only [Lib.bytesCells, bytesOf, Array.toList_append, Array.toList_map, List.map_map]
      rw [List.take_append_of_le_length (by simp [h3]), List.take_of_length_le (by simp [h3])]
      rfl
    have := h W.heap.size (grownCap W s.size 0 e) _ rfl hm (bytes_below (Below.refl _ _) (Nat.le_refl _) e s)
    rw [hn] at this
    exact this
end
end Go.Proofs.Ytfibdecfmfdikaa.OwnWords
