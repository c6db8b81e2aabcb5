/- Words for functions of the library that are met by the kit's contracts. -/
import Derived.Test.YtgigbjieppllgaaLiftA
namespace Go.Lift

def spl (L : List V) (o : Nat) (vs : List V) : List V := L.take o ++ vs ++ L.drop (o + vs.length)

theorem spl_get {L vs : List V} {o : Nat} (hl : o + vs.length ≤ L.length) (i : Nat) : (spl L o vs)[i]? = if o ≤ i ∧ i < o + vs.length then vs[i - o]? else L[i]? := by
  unfold spl
  by_cases h1 : i < o
  · rw [List.append_assoc, List.getElem?_append_left (by simp; omega), if_neg (by omega), List.getElem?_take_of_lt h1]
  · by_cases h2 : i < o + vs.length
    · rw [if_pos (by omega), List.append_assoc, List.getElem?_append_right (by simp; omega), List.getElem?_append_left (by simp; omega)]
      congr 1; simp; omega
    · rw [if_neg (by omega), List.getElem?_append_right (by simp; omega), List.getElem?_drop]
      congr 1; simp; omega

/-- slices.Sort: the cells of the slice, in order. -/
def sortI (s : Sl) (κ : Heap → Prop) (h : Heap) : Prop :=
  if s.len = 0 then κ h else ∃ p l, s.p = some p ∧ h.obj p.b = some (.cells l false) ∧ ∃ zs : List Int, zs.length = s.len ∧ s.len < 4611686018427387904 ∧ p.o + s.len ≤ l.length ∧ (l.drop p.o).take s.len = zs.map (V.int .i64) ∧
    κ (h.setO p.b (.cells (spl l p.o ((zs.mergeSort fun x y => decide (x ≤ y)).map (V.int .i64))) false))

end Go.Lift
