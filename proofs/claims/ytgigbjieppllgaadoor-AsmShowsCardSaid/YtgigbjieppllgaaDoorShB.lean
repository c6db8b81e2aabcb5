/- Signs, shapes, and what may be, of the reference. -/
import Derived.Test.YtgigbjieppllgaaDoorShA
set_option linter.unusedSimpArgs false
set_option linter.unusedVariables false
set_option maxRecDepth 100000
namespace Go.Insn
open Go.Lift Go.Fn

theorem wrap64_hi {x : Int} (h1 : 9223372036854775808 ≤ x) (h2 : x < 18446744073709551616) : IntKind.i64.wrap x = x - 18446744073709551616 := by
  simp only [IntKind.wrap, IntKind.bits, IntKind.signed]
  simp
  split <;> omega

theorem sgn14 (v : Int) : sgn v 14 = if v ≥ 8192 then v - 16384 else v := by
  unfold sgn
  rw [show (2 : Int) ^ (14 - 1) = 8192 by decide, show (2 : Int) ^ 14 = 16384 by decide]

theorem sgn18 (v : Int) : sgn v 18 = if v ≥ 131072 then v - 262144 else v := by
  unfold sgn
  rw [show (2 : Int) ^ (18 - 1) = 131072 by decide, show (2 : Int) ^ 18 = 262144 by decide]

theorem wsign_id14 {v : Int} (h1 : -8192 ≤ v) (h2 : v < 8192) : wsign v 14 = v := by
  unfold wsign shlI shrI
  rw [show IntKind.i64.wrap (64 - 14) = 50 by decide, show (2 : Int) ^ min ((50 : Int)).toNat IntKind.i64.bits = 1125899906842624 by decide]
  rw [wrap64 (by omega) (by omega)]
  exact Int.mul_fdiv_cancel v (by decide)

theorem wsign_id18 {v : Int} (h1 : -131072 ≤ v) (h2 : v < 131072) : wsign v 18 = v := by
  unfold wsign shlI shrI
  rw [show IntKind.i64.wrap (64 - 18) = 46 by decide, show (2 : Int) ^ min ((46 : Int)).toNat IntKind.i64.bits = 70368744177664 by decide]
  rw [wrap64 (by omega) (by omega)]
  exact Int.mul_fdiv_cancel v (by decide)

theorem wsign14 {v : Int} (h1 : 0 ≤ v) (h2 : v < 16384) : wsign v 14 = sgn v 14 := by
  rw [sgn14]
  by_cases h : v ≥ 8192
  · rw [if_pos h]
    unfold wsign shlI shrI
    rw [show IntKind.i64.wrap (64 - 14) = 50 by decide, show (2 : Int) ^ min ((50 : Int)).toNat IntKind.i64.bits = 1125899906842624 by decide]
    rw [wrap64_hi (by omega) (by omega), show v * 1125899906842624 - 18446744073709551616 = (v - 16384) * 1125899906842624 by omega]
    exact Int.mul_fdiv_cancel _ (by decide)
  · rw [if_neg h]
    exact wsign_id14 (by omega) (by omega)

theorem wsign18 {v : Int} (h1 : 0 ≤ v) (h2 : v < 262144) : wsign v 18 = sgn v 18 := by
  rw [sgn18]
  by_cases h : v ≥ 131072
  · rw [if_pos h]
    unfold wsign shlI shrI
    rw [show IntKind.i64.wrap (64 - 18) = 46 by decide, show (2 : Int) ^ min ((46 : Int)).toNat IntKind.i64.bits = 70368744177664 by decide]
    rw [wrap64_hi (by omega) (by omega), show v * 70368744177664 - 18446744073709551616 = (v - 262144) * 70368744177664 by omega]
    exact Int.mul_fdiv_cancel _ (by decide)
  · rw [if_neg h]
    exact wsign_id18 (by omega) (by omega)

theorem and64_mask {v : Int} {n : Nat} (h1 : 0 ≤ v) (hn : n ≤ 32) (h2 : v < 2 ^ n) : ibits .and .i64 v (((2 ^ n - 1 : Nat)) : Int) = v := by
  obtain ⟨a, rfl⟩ : ∃ a : Nat, v = (a : Int) := ⟨v.toNat, by omega⟩
  have hp : 2 ^ n ≤ 2 ^ 32 := Nat.pow_le_pow_right (by decide) hn
  have ha : a < 2 ^ n := by
    rw [show ((2 : Int) ^ n) = ((2 ^ n : Nat) : Int) by simp] at h2
    omega
  have e : ibits .and .i64 (a : Int) (((2 ^ n - 1 : Nat)) : Int) = IntKind.i64.wrap ((BitVec.ofInt 64 (a : Int) &&& BitVec.ofInt 64 (((2 ^ n - 1 : Nat)) : Int)).toNat : Int) := rfl
  rw [e, BitVec.toNat_and, BitVec.toNat_ofInt, BitVec.toNat_ofInt]
  have e1 : (((a : Int) % ((2 ^ 64 : Nat) : Int)).toNat) = a := by omega
  have e2 : ((((2 ^ n - 1 : Nat) : Int) % ((2 ^ 64 : Nat) : Int)).toNat) = 2 ^ n - 1 := by omega
  rw [e1, e2, Nat.and_two_pow_sub_one_eq_mod, Nat.mod_eq_of_lt ha, wrap64 (by omega) (by omega)]

section
variable {h : Heap}

theorem Sign14 {v : Int} (h1 : 0 ≤ v) (h2 : v < 16384) {Q : Int → Heap → Prop} (hq : Q (sgn v 14) h) : palisaderef01_Sign v 14 Q h := by
  unfold palisaderef01_Sign
  refine br_f rfl (br_f rfl (nneg_of (by decide) (nneg_of (by decide) ?_)))
  have e1 : IntKind.i64.wrap (shlI .i64 1 (IntKind.u64.wrap 14) - 1) = ((2 ^ 14 - 1 : Nat) : Int) := by decide
  rw [e1, and64_mask h1 (by decide) h2]
  have e2 : shrI .i64 v (IntKind.u64.wrap (IntKind.i64.wrap (14 - 1))) = v / 8192 := by
    unfold shrI
    rw [show (2 : Int) ^ min (IntKind.u64.wrap (IntKind.i64.wrap (14 - 1))).toNat IntKind.i64.bits = 8192 by decide]
    exact Int.fdiv_eq_ediv_of_nonneg v (by decide)
  rw [e2]
  rw [sgn14] at hq
  by_cases hv : v ≥ 8192
  · rw [if_pos hv] at hq
    refine br_t (by rw [beq_iff_eq]; omega) (nneg_of (by decide) (nneg_of (by decide) ?_))
    unfold palisaderef01_Sign.j6
    rw [show shlI .i64 1 (IntKind.u64.wrap (IntKind.i64.wrap (14 - 1))) = 8192 by decide, wrap64 (x := v - 8192) (by omega) (by omega), wrap64 (by omega) (by omega), show v - 8192 - 8192 = v - 16384 by omega]
    exact hq
  · rw [if_neg hv] at hq
    refine br_f (beq_false_of_ne (by omega)) ?_
    exact hq

theorem Sign18 {v : Int} (h1 : 0 ≤ v) (h2 : v < 262144) {Q : Int → Heap → Prop} (hq : Q (sgn v 18) h) : palisaderef01_Sign v 18 Q h := by
  unfold palisaderef01_Sign
  refine br_f rfl (br_f rfl (nneg_of (by decide) (nneg_of (by decide) ?_)))
  have e1 : IntKind.i64.wrap (shlI .i64 1 (IntKind.u64.wrap 18) - 1) = ((2 ^ 18 - 1 : Nat) : Int) := by decide
  rw [e1, and64_mask h1 (by decide) h2]
  have e2 : shrI .i64 v (IntKind.u64.wrap (IntKind.i64.wrap (18 - 1))) = v / 131072 := by
    unfold shrI
    rw [show (2 : Int) ^ min (IntKind.u64.wrap (IntKind.i64.wrap (18 - 1))).toNat IntKind.i64.bits = 131072 by decide]
    exact Int.fdiv_eq_ediv_of_nonneg v (by decide)
  rw [e2]
  rw [sgn18] at hq
  by_cases hv : v ≥ 131072
  · rw [if_pos hv] at hq
    refine br_t (by rw [beq_iff_eq]; omega) (nneg_of (by decide) (nneg_of (by decide) ?_))
    unfold palisaderef01_Sign.j6
    rw [show shlI .i64 1 (IntKind.u64.wrap (IntKind.i64.wrap (18 - 1))) = 131072 by decide, wrap64 (x := v - 131072) (by omega) (by omega), wrap64 (by omega) (by omega), show v - 131072 - 131072 = v - 262144 by omega]
    exact hq
  · rw [if_neg hv] at hq
    refine br_f (beq_false_of_ne (by omega)) ?_
    exact hq

theorem Fits14 {v : Int} (h1 : -8192 ≤ v) (h2 : v < 8192) {Q : Bool → Heap → Prop} (hq : Q true h) : palisaderef01_Fits v 14 Q h := by
  unfold palisaderef01_Fits
  refine br_t rfl (br_t rfl (nneg_of (by decide) ?_))
  rw [show shlI .i64 1 (IntKind.u64.wrap (IntKind.i64.wrap (14 - 1))) = 8192 by decide]
  refine br_t (decide_eq_true (by rw [show IntKind.i64.wrap (0 - 8192) = -8192 by decide]; omega)) (nneg_of (by decide) ?_)
  rw [show IntKind.i64.wrap (8192 - 1) = 8191 by decide, decide_eq_true (by omega)]
  exact hq

theorem Fits18 {v : Int} (h1 : -131072 ≤ v) (h2 : v < 131072) {Q : Bool → Heap → Prop} (hq : Q true h) : palisaderef01_Fits v 18 Q h := by
  unfold palisaderef01_Fits
  refine br_t rfl (br_t rfl (nneg_of (by decide) ?_))
  rw [show shlI .i64 1 (IntKind.u64.wrap (IntKind.i64.wrap (18 - 1))) = 131072 by decide]
  refine br_t (decide_eq_true (by rw [show IntKind.i64.wrap (0 - 131072) = -131072 by decide]; omega)) (nneg_of (by decide) ?_)
  rw [show IntKind.i64.wrap (131072 - 1) = 131071 by decide, decide_eq_true (by omega)]
  exact hq

/-- The reference's shape of an operation. -/
def rshape (op : Int) : Int := match shapeOf op with | some s => s | none => -1


theorem Shape_ref {n : Nat} (hn : n < 64) {Q : Int → Heap → Prop} (hq : Q (rshape (n : Int)) h) : palisaderef02_Shape (n : Int) Q h := by
  unfold palisaderef02_Shape palisaderef02_Shape.j3 palisaderef02_Shape.j4 palisaderef02_Shape.j5 palisaderef02_Shape.j7 palisaderef02_Shape.j9
  rcases (by omega : n = 0 ∨ n = 1 ∨ n = 2 ∨ n = 3 ∨ n = 4 ∨ n = 5 ∨ n = 6 ∨ n = 7 ∨ n = 8 ∨ n = 9 ∨ n = 10 ∨ n = 11 ∨ n = 12 ∨ n = 13 ∨ n = 14 ∨ n = 15 ∨ n = 16 ∨ n = 17 ∨ n = 18 ∨ n = 19 ∨ n = 20 ∨ n = 21 ∨ n = 22 ∨ n = 23 ∨ n = 24 ∨ n = 25 ∨ n = 26 ∨ n = 27 ∨ n = 28 ∨ n = 29 ∨ n = 30 ∨ n = 31 ∨ n = 32 ∨ n = 33 ∨ n = 34 ∨ n = 35 ∨ n = 36 ∨ n = 37 ∨ n = 38 ∨ n = 39 ∨ n = 40 ∨ n = 41 ∨ n = 42 ∨ n = 43 ∨ n = 44 ∨ n = 45 ∨ n = 46 ∨ n = 47 ∨ n = 48 ∨ n = 49 ∨ n = 50 ∨ n = 51 ∨ n = 52 ∨ n = 53 ∨ n = 54 ∨ n = 55 ∨ n = 56 ∨ n = 57 ∨ n = 58 ∨ n = 59 ∨ n = 60 ∨ n = 61 ∨ n = 62 ∨ n = 63) with rfl | rfl | rfl | rfl | rfl | rfl | rfl | rfl | rfl | rfl | rfl | rfl | rfl | rfl | rfl | rfl | rfl | rfl | rfl | rfl | rfl | rfl | rfl | rfl | rfl | rfl | rfl | rfl | rfl | rfl | rfl | rfl | rfl | rfl | rfl | rfl | rfl | rfl | rfl | rfl | rfl | rfl | rfl | rfl | rfl | rfl | rfl | rfl | rfl | rfl | rfl | rfl | rfl | rfl | rfl | rfl | rfl | rfl | rfl | rfl | rfl | rfl | rfl | rfl <;> exact hq

end
end Go.Insn
