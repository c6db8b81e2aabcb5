/- Bits are placed: by the reference, and by the program. -/
import Derived.Test.YtgigbjieppllgaaDoorShC
set_option linter.unusedSimpArgs false
set_option linter.unusedVariables false
set_option maxRecDepth 100000
namespace Go.Insn
open Go.Lift Go.Fn

/-- A bit of a number, two's complement. -/
def ibit (v : Int) (i : Nat) : Bool := v / 2 ^ i % 2 == 1

theorem or32 {a b : Nat} (ha : a < 2 ^ 32) (hb : b < 2 ^ 32) : ibits .or .u32 (a : Int) (b : Int) = ((a ||| b : Nat) : Int) := by
  have e : ibits .or .u32 (a : Int) (b : Int) = IntKind.u32.wrap ((BitVec.ofInt 32 (a : Int) ||| BitVec.ofInt 32 (b : Int)).toNat : Int) := rfl
  rw [e, BitVec.toNat_or, BitVec.toNat_ofInt, BitVec.toNat_ofInt]
  rw [show (((a : Int) % ((2 ^ 32 : Nat) : Int)).toNat) = a by omega, show (((b : Int) % ((2 ^ 32 : Nat) : Int)).toNat) = b by omega]
  have := Nat.or_lt_two_pow ha hb
  rw [wrapu32' (by omega) (by omega)]

theorem and32 {a b : Nat} (ha : a < 2 ^ 32) (hb : b < 2 ^ 32) : ibits .and .u32 (a : Int) (b : Int) = ((a &&& b : Nat) : Int) := by
  have e : ibits .and .u32 (a : Int) (b : Int) = IntKind.u32.wrap ((BitVec.ofInt 32 (a : Int) &&& BitVec.ofInt 32 (b : Int)).toNat : Int) := rfl
  rw [e, BitVec.toNat_and, BitVec.toNat_ofInt, BitVec.toNat_ofInt]
  rw [show (((a : Int) % ((2 ^ 32 : Nat) : Int)).toNat) = a by omega, show (((b : Int) % ((2 ^ 32 : Nat) : Int)).toNat) = b by omega]
  have : a &&& b ≤ a := Nat.and_le_left
  rw [wrapu32' (by omega) (by omega)]

theorem andNot32 {a b : Nat} (ha : a < 2 ^ 32) (hb : b < 2 ^ 32) : ∃ c : Nat, c < 2 ^ 32 ∧ ibits .andNot .u32 (a : Int) (b : Int) = (c : Int) ∧ ∀ j, c.testBit j = (a.testBit j && !b.testBit j) := by
  have e : ibits .andNot .u32 (a : Int) (b : Int) = IntKind.u32.wrap ((BitVec.ofInt 32 (a : Int) &&& ~~~ BitVec.ofInt 32 (b : Int)).toNat : Int) := rfl
  have hl := (BitVec.ofInt 32 (a : Int) &&& ~~~ BitVec.ofInt 32 (b : Int)).isLt
  refine ⟨(BitVec.ofInt 32 (a : Int) &&& ~~~ BitVec.ofInt 32 (b : Int)).toNat, hl, by rw [e, wrapu32' (by omega) (by omega)], fun j => ?_⟩
  have ea : (BitVec.ofInt 32 (a : Int)).toNat = a := by rw [BitVec.toNat_ofInt]; omega
  have eb : (BitVec.ofInt 32 (b : Int)).toNat = b := by rw [BitVec.toNat_ofInt]; omega
  rw [← BitVec.getLsbD]
  rw [BitVec.getLsbD_and, BitVec.getLsbD_not]
  unfold BitVec.getLsbD
  rw [ea, eb]
  by_cases hj : j < 32
  · rw [decide_eq_true hj, Bool.true_and]
  · rw [Nat.testBit_lt_two_pow (Nat.lt_of_lt_of_le ha (Nat.pow_le_pow_right (by decide) (by omega)))]; simp

theorem bit_of {v : Int} {i : Nat} (hi : i ≤ 31) (h1 : -9223372036854775808 ≤ v) (h2 : v ≤ 9223372036854775807) : (ibits .and .i64 (shrI .i64 v (i : Int)) 1 == 1) = ibit v i := by
  have es : shrI .i64 v (i : Int) = v / 2 ^ i := by
    unfold shrI
    rw [show min ((i : Int)).toNat IntKind.i64.bits = i by show min _ 64 = i; simp; omega]
    exact Int.fdiv_eq_ediv_of_nonneg v (by exact Int.le_of_lt (Int.pow_pos (by decide)))
  rw [es]
  unfold ibit
  generalize v / 2 ^ i = y
  have e : ibits .and .i64 y 1 = IntKind.i64.wrap ((BitVec.ofInt 64 y &&& BitVec.ofInt 64 1).toNat : Int) := rfl
  have e2 : (BitVec.ofInt 64 y &&& BitVec.ofInt 64 1).toNat = (y % 2).toNat := by
    rw [BitVec.toNat_and, BitVec.toNat_ofInt, show (BitVec.ofInt 64 1).toNat = 2 ^ 1 - 1 from rfl, Nat.and_two_pow_sub_one_eq_mod]
    omega
  rw [e, e2, wrap64 (by omega) (by omega)]
  congr 1
  omega

theorem bit_nat {v i : Nat} : ibit (v : Int) i = v.testBit i := by
  unfold ibit
  rw [Nat.testBit_eq_decide_div_mod_eq]
  rw [show ((2 : Int) ^ i) = ((2 ^ i : Nat) : Int) by simp, ← Int.natCast_ediv]
  generalize v / 2 ^ i = y
  by_cases h : y % 2 = 1
  · rw [decide_eq_true h]; simp; omega
  · rw [decide_eq_false h]; simp; omega

section
variable {h : Heap}

theorem Place_ref {w at_ n : Nat} {v : Int} (hw : w < 2 ^ 32) (h1 : 1 ≤ n) (h2 : at_ + n ≤ 32) (hv1 : -9223372036854775808 ≤ v) (hv2 : v ≤ 9223372036854775807) {Q : Int → Heap → Prop}
    (hq : ∀ R : Nat, R < 2 ^ 32 → (∀ j, R.testBit j = if at_ ≤ j ∧ j < at_ + n then ibit v (j - at_) else w.testBit j) → Q (R : Int) h) : palisaderef01_Place (w : Int) v (at_ : Int) (n : Int) Q h := by
  unfold palisaderef01_Place
  refine br_f (decide_eq_false (by omega)) (br_f (decide_eq_false (by omega)) (br_f (decide_eq_false (by omega)) (br_f (decide_eq_false (by omega)) (br_f (decide_eq_false (by rw [wrap64] <;> omega)) ?_))))
  unfold palisaderef01_Place.j4
  intro I HI
  have main : ∀ k i : Nat, i + k = n → ∀ R : Nat, R < 2 ^ 32 → (∀ j, R.testBit j = if at_ ≤ j ∧ j < at_ + i then ibit v (j - at_) else w.testBit j) → I (R : Int) v (at_ : Int) (n : Int) (i : Int) h := by
    intro k
    induction k with
    | zero =>
      intro i hi R hR hb
      obtain rfl : i = n := by omega
      refine HI _ _ _ _ _ _ ?_
      unfold palisaderef01_Place.b4
      exact br_f (decide_eq_false (by omega)) (hq R hR hb)
    | succ k ih =>
      intro i hi R hR hb
      refine HI _ _ _ _ _ _ ?_
      unfold palisaderef01_Place.b4
      refine br_t (decide_eq_true (by omega)) ?_
      have e1 : IntKind.u64.wrap (IntKind.i64.wrap ((at_ : Int) + (i : Int))) = ((at_ + i : Nat) : Int) := by
        rw [wrap64 (x := (at_ : Int) + (i : Int)), wrapu64] <;> omega
      have e2 : IntKind.u64.wrap (i : Int) = (i : Int) := by rw [wrapu64] <;> omega
      rw [e1, e2]
      refine nneg_of (by omega) (nneg_of (by omega) ?_)
      have e3 : shlI .u32 1 ((at_ + i : Nat) : Int) = ((2 ^ (at_ + i) : Nat) : Int) := by
        unfold shlI
        rw [show min (((at_ + i : Nat) : Int)).toNat IntKind.u32.bits = at_ + i by show min _ 32 = _; simp; omega, Int.one_mul]
        have := Nat.pow_lt_pow_right (a := 2) (by decide) (show at_ + i < 32 by omega)
        rw [show ((2 : Int) ^ (at_ + i)) = ((2 ^ (at_ + i) : Nat) : Int) by simp]
        generalize 2 ^ (at_ + i) = y at this ⊢
        rw [wrapu32' (by omega) (by omega)]
      have hp : 2 ^ (at_ + i) < 2 ^ 32 := Nat.pow_lt_pow_right (by decide) (by omega)
      rw [e3, bit_of (by omega) hv1 hv2]
      obtain ⟨c, hc, ec, hcb⟩ := andNot32 hR hp
      rw [ec]
      have ew : IntKind.i64.wrap ((i : Int) + 1) = ((i + 1 : Nat) : Int) := by rw [wrap64] <;> omega
      unfold palisaderef01_Place.j5
      rw [ew]
      cases hbit : ibit v i with
      | true =>
        refine br_t rfl ?_
        rw [or32 hc hp]
        refine ih (i + 1) (by omega) _ (Nat.or_lt_two_pow hc hp) (fun j => ?_)
        rw [Nat.testBit_or, hcb, hb, Nat.testBit_two_pow]
        by_cases hj : at_ + i = j
        · subst hj
          rw [decide_eq_true rfl, Bool.or_true, if_pos (by omega), Nat.add_sub_cancel_left, hbit]
        · rw [decide_eq_false hj]
          simp only [Bool.not_false, Bool.and_true, Bool.or_false]
          by_cases hin : at_ ≤ j ∧ j < at_ + i
          · rw [if_pos hin, if_pos (by omega)]
          · rw [if_neg hin, if_neg (by omega)]
      | false =>
        refine br_f rfl ?_
        refine ih (i + 1) (by omega) _ hc (fun j => ?_)
        rw [hcb, hb, Nat.testBit_two_pow]
        by_cases hj : at_ + i = j
        · subst hj
          rw [decide_eq_true rfl, Bool.not_true, Bool.and_false, if_pos (by omega), Nat.add_sub_cancel_left, hbit]
        · rw [decide_eq_false hj]
          simp only [Bool.not_false, Bool.and_true]
          by_cases hin : at_ ≤ j ∧ j < at_ + i
          · rw [if_pos hin, if_pos (by omega)]
          · rw [if_neg hin, if_neg (by omega)]
  exact main n 0 (by omega) w hw (fun j => by rw [if_neg (by omega)])

end
end Go.Insn
