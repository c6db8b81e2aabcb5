/- Words for functions of the library that are met by the kit's contracts. -/
import Derived.Test.YtgigbjieppllgaaDoorLiftA
import Derived.Lib.LaidTab
import Derived.Lib.FieldsLaws
import Derived.Lib.Join
import Derived.Shelf.Strconv.Itoa1
namespace Go.Lift

def spl (L : List V) (o : Nat) (vs : List V) : List V := L.take o ++ vs ++ L.drop (o + vs.length)

theorem spl_get {L vs : List V} {o : Nat} (hl : o + vs.length ≤ L.length) (i : Nat) : (spl L o vs)[i]? = if o ≤ i ∧ i < o + vs.length then vs[i - o]? else L[i]? := by
  unfold spl
  by_cases h1 : i < o
  · rw [List.append_assoc, List.getElem?_append_left (by simp; omega), if_neg (by omega), List.getElem?_take_of_lt h1]
  · by_cases h2 : i < o + vs.length
    · rw [if_pos (by omega), List.append_assoc, List.getElem?_append_right (by simp; omega), List.getElem?_append_left (by simp; omega)]
      congr 1; simp; omega
    · rw [if_neg (by omega), List.getElem?_append_right (by simp; omega), List.getElem?_drop]
      congr 1; simp; omega

/-- slices.Sort: the cells of the slice, in order. -/
def sortI (s : Sl) (κ : Heap → Prop) (h : Heap) : Prop :=
  if s.len = 0 then κ h else ∃ p l, s.p = some p ∧ h.obj p.b = some (.cells l false) ∧ ∃ zs : List Int, zs.length = s.len ∧ s.len < 4611686018427387904 ∧ p.o + s.len ≤ l.length ∧ (l.drop p.o).take s.len = zs.map (V.int .i64) ∧
    κ (h.setO p.b (.cells (spl l p.o ((zs.mergeSort fun x y => decide (x ≤ y)).map (V.int .i64))) false))

/-- strings.Fields of ASCII bytes; tab: where the table of blanks stands. -/
def fieldsI (tab : Nat) (s : List UInt8) (κ : Sl → Heap → Prop) (h : Heap) : Prop :=
  s.length < 4294967281 ∧ (∀ b ∈ s, b.toNat < 128) ∧ (∀ c : Nat, c < 256 → h.get tab c = some (.int .u8 (if Lib.isSp (UInt8.ofNat c) then 1 else 0))) ∧
    ∀ b, h.obj b = none → κ ⟨some ⟨b, 0⟩, (Lib.fields s).length, (Lib.fields s).length⟩ (h.new b (.cells ((Lib.fields s).map V.str) false))

/-- strconv.Itoa; c: the table of powers. -/
def itoaI (U : Ifc) (c : Nat) (n : Int) (κ : List UInt8 → Heap → Prop) (h : Heap) : Prop :=
  -9223372036854775808 ≤ n ∧ n ≤ 9223372036854775807 ∧ (c, Lib.pow10Tab.map (V.int .u64)) ∈ U.tabs ∧ κ (Lib.itoa n) h

/-- strings.Join. -/
def joinI (s : Sl) (sep : List UInt8) (κ : List UInt8 → Heap → Prop) (h : Heap) : Prop :=
  ∃ (p : Ptr) (xs : List (List UInt8)), s.p = some p ∧ s.len = xs.length ∧ s.len ≤ s.cap ∧ (∀ (j : Nat) x, xs[j]? = some x → h.get p.b (p.o + j) = some (.str x)) ∧ h.obj p.b ≠ none ∧ xs.length ≤ 140737488355328 ∧ (Lib.join xs sep).length ≤ 140737488355328 ∧ κ (Lib.join xs sep) h

end Go.Lift
