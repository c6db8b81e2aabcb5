/- A memory: what stands there, and which part of it is meant. -/
import Derived.Test.YtmpjgafkdhineaaSeqKit
import Derived.Test.YtmpjgafkdhineaaFa
import Derived.Test.YtmpjgafkdhineaaNumKit
set_option linter.unusedSimpArgs false
set_option linter.unusedVariables false
set_option maxRecDepth 100000
namespace Go.Mem
open Go.Lift Go.Fn

/-- A memory of so many bytes stands at pb, its bytes at bb. -/
structure Rep (pb bb : Nat) (bs : List UInt8) (h : Heap) : Prop where
  cell : h.obj pb = some (.cells [.sl ⟨some ⟨bb, 0⟩, bs.length, bs.length⟩] false)
  arr : ∃ mk, h.obj bb = some (.cells (strCells bs) mk)
  ne : pb ≠ bb
  size : bs.length ≤ 16777216

/-- Bytes are put into bytes. -/
def put (bs : List UInt8) (o : Nat) (x : List UInt8) : List UInt8 := bs.take o ++ x ++ bs.drop (o + x.length)

theorem put_length {bs x : List UInt8} {o : Nat} (hl : o + x.length ≤ bs.length) : (put bs o x).length = bs.length := by simp [put]; omega
theorem put_cells {bs x : List UInt8} {o : Nat} : splice (strCells bs) o (strCells x) = strCells (put bs o x) := by
  simp [splice, put, strCells, List.map_take, List.map_drop]
theorem put_get {bs x : List UInt8} {o : Nat} (hl : o + x.length ≤ bs.length) (i : Nat) : (put bs o x)[i]? = if o ≤ i ∧ i < o + x.length then x[i - o]? else bs[i]? := by
  unfold put
  have ht : (bs.take o).length = o := by simp; omega
  by_cases h1 : i < o
  · rw [List.append_assoc, List.getElem?_append_left (by omega), List.getElem?_take_of_lt h1, if_neg (by omega)]
  · by_cases h2 : i < o + x.length
    · rw [List.append_assoc, List.getElem?_append_right (by omega), ht, List.getElem?_append_left (by omega), if_pos (by omega)]
    · rw [List.getElem?_append_right (by simp; omega)]
      simp only [List.length_append, ht, List.getElem?_drop]
      rw [if_neg (by omega)]
      congr 1; omega

theorem fresh_of {h h' : Heap} {S : Nat → Prop} {b : Nat} (k : Keeps S h h') (hb : h'.obj b = none) : h.obj b = none := by
  cases hx : h.obj b with
  | none => rfl
  | some x => exact absurd hb (k.known b (by rw [hx]; simp))

def lies (len : Nat) (a n : Int) : Bool := decide (0 ≤ n) && decide (n ≤ len) && decide (a ≤ len - n)

section
variable {pb bb : Nat} {bs : List UInt8} {h h' : Heap}

theorem Rep.keeps {S : Nat → Prop} (R : Rep pb bb bs h) (k : Keeps S h h') (h1 : ¬ S pb) (h2 : ¬ S bb) : Rep pb bb bs h' := by
  obtain ⟨mk, ha⟩ := R.arr
  exact ⟨k.obj R.cell h1, ⟨mk, k.obj ha h2⟩, R.ne, R.size⟩
theorem Rep.keep0 (R : Rep pb bb bs h) (k : Keeps none_ h h') : Rep pb bb bs h' := R.keeps k (fun f => f) (fun f => f)
theorem Rep.known1 (R : Rep pb bb bs h) : h.obj pb ≠ none := by rw [R.cell]; simp
theorem Rep.known2 (R : Rep pb bb bs h) : h.obj bb ≠ none := by obtain ⟨mk, ha⟩ := R.arr; rw [ha]; simp

theorem New_of {n : Int} (h0 : 1 ≤ n) (h1 : n ≤ 65536) {Q : Option Ptr → Int → Heap → Prop} (hq : ∀ pb bb h', Rep pb bb (List.replicate (n * 256).toNat 0) h' → h.obj pb = none → h.obj bb = none → Keeps none_ h h' → Q (some ⟨pb, 0⟩) 0 h') : mem_New n Q h := by
  unfold mem_New
  refine br_f (by simp; omega) (br_f (by simp; omega) ?_)
  rw [wrap64]
  have e : n * 256 = ((n * 256).toNat : Int) := by omega
  generalize hm : (n * 256).toNat = m at *
  rw [e]
  refine mkSl_of (sz := 1) rfl (by omega) (by omega) (fun h1 b O hb k => ?_)
  refine al_of (fun b2 h2 hb2 ho2 k2 => ?_)
  have hne : b2 ≠ b := fun e => O.known (e ▸ hb2)
  obtain ⟨rest, mk, ho, hr⟩ := O.obj
  have hr0 : rest = [] := List.length_eq_zero_iff.1 (by rw [hr]; simp)
  subst hr0
  refine hq b2 b h2 ⟨by simpa using ho2, ⟨mk, ?_⟩, hne, by simp; omega⟩ (fresh_of k hb2) hb (k.trans k2)
  have ho := k2.obj ho (fun f => f)
  rw [List.append_nil, flatRep_bytes] at ho
  exact ho

theorem none_of (R : Rep pb bb bs h) {Q : Bool → Heap → Prop} (hq : Q false h) : mem_Memory_none (some ⟨pb, 0⟩) Q h := by
  unfold mem_Memory_none
  simp only [br_true, br_false, der_some, if_true, if_false, beq_self_eq_true, bne_self_eq_false, Bool.false_eq_true, Bool.and_true, Bool.true_and, Bool.and_false, Bool.false_and, Bool.not_true, Bool.not_false, Option.isNone_some, Option.isNone_none]
  exact loc_Sl R.cell rfl hq

theorem part_of (R : Rep pb bb bs h) {a n : Int} (ha : 0 ≤ a) (ha2 : a ≤ 18446744073709551615) (hn1 : -9223372036854775808 ≤ n) (hn : n ≤ 9223372036854775807) {Q : Sl → Int → Heap → Prop}
    (h2 : n < 0 → ∀ h', Keeps none_ h h' → Q ⟨none, 0, 0⟩ 2 h')
    (h12 : 0 ≤ n → lies bs.length a n = false → ∀ h', Keeps none_ h h' → Q ⟨none, 0, 0⟩ 12 h')
    (h00 : 0 ≤ n → n ≤ bs.length → a ≤ bs.length - n → ∀ d h', d.len = n.toNat → d.cap = n.toNat → (∃ o, d.p = some ⟨bb, o⟩ ∧ (0 < n → o = a.toNat) ∧ o + d.len ≤ bs.length) → Keeps none_ h h' → Q d 0 h') : mem_Memory_part (some ⟨pb, 0⟩) a n Q h := by
  unfold mem_Memory_part
  refine al_of (fun b1 g1 hb1 ho1 k1 => ?_)
  refine al_of (fun b2 g2 hb2 ho2 k2 => ?_)
  refine al_of (fun b3 g3 hb3 ho3 k3 => ?_)
  have ho1 := k3.obj (k2.obj ho1 (fun f => f)) (fun f => f)
  have ho2 := k3.obj ho2 (fun f => f)
  have k := (k1.trans k2).trans k3
  have R := R.keep0 k
  have hs := R.size
  refine loc_P ho1 rfl (none_of R ?_)
  simp only [br_true, br_false, der_some, if_true, if_false, beq_self_eq_true, bne_self_eq_false, Bool.false_eq_true, Bool.and_true, Bool.true_and, Bool.and_false, Bool.false_and, Bool.not_true, Bool.not_false, Option.isNone_some, Option.isNone_none]
  refine loc_I ho3 rfl (br_if (fun hlt => h2 (by simpa using hlt) _ k) (fun hge => ?_))
  have hge : 0 ≤ n := by simpa using hge
  unfold mem_Memory_part_c1
  refine loc_I ho3 rfl (loc_P ho1 rfl ?_)
  simp only [br_true, br_false, der_some, if_true, if_false, beq_self_eq_true, bne_self_eq_false, Bool.false_eq_true, Bool.and_true, Bool.true_and, Bool.and_false, Bool.false_and, Bool.not_true, Bool.not_false, Option.isNone_some, Option.isNone_none]
  refine loc_Sl R.cell rfl (br_if (fun hle => ?_) (fun hgt => ?_))
  · have hle : n ≤ bs.length := by simpa using hle
    refine loc_I ho2 rfl (loc_P ho1 rfl ?_)
    simp only [br_true, br_false, der_some, if_true, if_false, beq_self_eq_true, bne_self_eq_false, Bool.false_eq_true, Bool.and_true, Bool.true_and, Bool.and_false, Bool.false_and, Bool.not_true, Bool.not_false, Option.isNone_some, Option.isNone_none]
    refine loc_Sl R.cell rfl (loc_I ho3 rfl ?_)
    simp only []
    rw [wrap64, wrapu64]
    by_cases hl : a ≤ bs.length - n
    · refine br_f (by simpa using hl) ?_
      refine loc_I ho2 rfl (loc_I ho3 rfl (loc_P ho1 rfl ?_))
      simp only [br_true, br_false, der_some, if_true, if_false, beq_self_eq_true, bne_self_eq_false, Bool.false_eq_true, Bool.and_true, Bool.true_and, Bool.and_false, Bool.false_and, Bool.not_true, Bool.not_false, Option.isNone_some, Option.isNone_none]
      refine loc_Sl R.cell rfl (loc_I ho2 rfl ?_)
      simp only []
      rw [wrap64 (x := a), wrap64]
      refine sb_of (by omega) (by omega) (sb_of (by omega) (by omega) (sb_of (by omega) (by omega) ?_))
      have e1 : (a + n).toNat - a.toNat = n.toNat := by omega
      rw [e1]
      refine h00 hge hle hl _ _ rfl rfl ?_ k
      unfold slp
      split
      · exact ⟨0, rfl, by omega, by simp; omega⟩
      · exact ⟨a.toNat, by simp [Ptr.add], fun _ => rfl, by simp; omega⟩
    · refine br_t (by simpa using hl) (h12 hge (by simp [lies, hl]) _ k)
  · have hgt : ¬ n ≤ bs.length := by simpa using hgt
    exact h12 hge (by simp [lies, hgt]) _ k

theorem Rep.held (R : Rep pb bb bs h) {d : Sl} {o : Nat} (hp : d.p = some ⟨bb, o⟩) (hl : o + d.len ≤ bs.length) : Held h d 1 (strCells ((bs.drop o).take d.len)) := by
  obtain ⟨mk, ha⟩ := R.arr
  refine ⟨by simp [strCells_length]; omega, fun p hp' i v hv => ?_, fun hn => by rw [hp] at hn; cases hn⟩
  rw [hp] at hp'; cases hp'
  rw [get_cells ha, ← hv, strCells_get, strCells_get]
  have hi : i < ((bs.drop o).take d.len).length := by
    rcases Nat.lt_or_ge i (strCells ((bs.drop o).take d.len)).length with h | h
    · simpa [strCells_length] using h
    · rw [List.getElem?_eq_none h] at hv; cases hv
  simp only [List.length_take, List.length_drop] at hi
  rw [List.getElem?_take_of_lt (by omega), List.getElem?_drop]

end
end Go.Mem

namespace Go.Ring
open Go.Lift Go.Fn
variable {h : Heap}

theorem ret2_of {b : Nat} {l : List V} {n : Int} {s : Sl} (hl : l.length = 2) (ho : h.obj b = some (.cells l false)) {K : Int → Sl → Heap → Prop} (hk : ∀ h', Keeps (· = b) h h' → K n s h') :
    wrL [.int .i64 n, .sl s] ⟨b, 0⟩ 0 (fun h => rdI .i64 ((⟨b, 0⟩ : Ptr).add 0) (fun x1 => rdSl ((⟨b, 0⟩ : Ptr).add 1) (fun x2 => K x1 x2 h) h) h) h := by
  refine wrL_of (j := 0) ho (by rw [hl]; simp) (fun h' ho' k => ?_)
  have e : splice l (0 + 0) [.int .i64 n, .sl s] = [.int .i64 n, .sl s] := by
    unfold splice
    rw [List.drop_of_length_le (by rw [hl]; simp)]
    simp
  rw [e] at ho'
  exact loc_I ho' rfl (loc_Sl ho' rfl (hk h' k))

end Go.Ring
