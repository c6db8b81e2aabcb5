/- The reference's fields and numbers, in closed form; the same of the program's. -/
import Derived.Test.YtgigbjieppllgaaDoorInsnA
set_option linter.unusedSimpArgs false
set_option linter.unusedVariables false
set_option maxRecDepth 100000
namespace Go.Insn
open Go.Lift Go.Fn

def fld (w at_ n : Nat) : Int := ((w / 2 ^ at_ % 2 ^ n : Nat) : Int)
def sgn (v : Int) (n : Nat) : Int := if v ≥ 2 ^ (n - 1) then v - 2 ^ n else v

theorem wrapu32' {x : Int} (h1 : 0 ≤ x) (h2 : x ≤ 4294967295) : IntKind.u32.wrap x = x := by
  simp only [IntKind.wrap, IntKind.bits, IntKind.signed]
  simp
  omega

theorem fdiv_nat (w k : Nat) : Int.fdiv (w : Int) (2 ^ k) = ((w / 2 ^ k : Nat) : Int) := by
  rw [show ((2 : Int) ^ k) = ((2 ^ k : Nat) : Int) by simp]
  exact (Int.ofNat_fdiv w (2 ^ k)).symm

theorem shr32 {w k : Nat} (hk : k ≤ 31) : shrI .u32 (w : Int) (k : Int) = ((w / 2 ^ k : Nat) : Int) := by
  unfold shrI
  rw [show min ((k : Int)).toNat IntKind.u32.bits = k by show min _ 32 = k; simp; omega]
  exact fdiv_nat w k

theorem shr64 {w k : Nat} (hk : k ≤ 63) : shrI .u64 (w : Int) (k : Int) = ((w / 2 ^ k : Nat) : Int) := by
  unfold shrI
  rw [show min ((k : Int)).toNat IntKind.u64.bits = k by show min _ 64 = k; simp; omega]
  exact fdiv_nat w k

theorem and_mask {a n : Nat} (ha : a < 2 ^ 32) (hn : n ≤ 32) : ibits .and .u64 (a : Int) (((2 ^ n - 1 : Nat)) : Int) = ((a % 2 ^ n : Nat) : Int) := by
  have hp : 2 ^ n ≤ 2 ^ 32 := Nat.pow_le_pow_right (by decide) hn
  have h0 : 0 < 2 ^ n := Nat.pow_pos (by decide)
  have e : ibits .and .u64 (a : Int) (((2 ^ n - 1 : Nat)) : Int) = IntKind.u64.wrap ((BitVec.ofInt 64 (a : Int) &&& BitVec.ofInt 64 (((2 ^ n - 1 : Nat)) : Int)).toNat : Int) := rfl
  rw [e, BitVec.toNat_and, BitVec.toNat_ofInt, BitVec.toNat_ofInt]
  have e1 : (((a : Int) % ((2 ^ 64 : Nat) : Int)).toNat) = a := by omega
  have e2 : ((((2 ^ n - 1 : Nat) : Int) % ((2 ^ 64 : Nat) : Int)).toNat) = 2 ^ n - 1 := by omega
  rw [e1, e2, Nat.and_two_pow_sub_one_eq_mod]
  have : a % 2 ^ n < 2 ^ n := Nat.mod_lt _ h0
  rw [wrapu64 (by omega) (by omega)]

theorem wfield_eq {w at_ n : Nat} (hw : w < 2 ^ 32) (h : at_ + n ≤ 32) : wfield (w : Int) (at_ : Int) (n : Int) = fld w at_ n := by
  unfold wfield fld
  have hp : 2 ^ n ≤ 2 ^ 32 := Nat.pow_le_pow_right (by decide) (by omega)
  have h0 : 0 < 2 ^ n := Nat.pow_pos (by decide)
  rw [wrapu64 (x := (w : Int)) (by omega) (by omega), shr64 (by omega)]
  have em : wmask (n : Int) = ((2 ^ n - 1 : Nat) : Int) := by
    unfold wmask shlI
    rw [show min ((n : Int)).toNat IntKind.u64.bits = n by show min _ 64 = n; simp; omega, Int.one_mul]
    rw [show ((2 : Int) ^ n) = ((2 ^ n : Nat) : Int) by simp]
    rw [wrapu64 (x := ((2 ^ n : Nat) : Int)) (by omega) (by omega), wrapu64 (by omega) (by omega)]
    omega
  have hd : w / 2 ^ at_ ≤ w := Nat.div_le_self _ _
  rw [em, and_mask (by omega) (by omega)]
  have : w / 2 ^ at_ % 2 ^ n < 2 ^ n := Nat.mod_lt _ h0
  rw [wrap64 (by omega) (by omega)]

section
variable {h : Heap}

theorem Field_ref {w at_ n : Nat} (hw : w < 2 ^ 32) (h1 : 1 ≤ n) (h2 : at_ + n ≤ 32) {Q : Int → Heap → Prop} (hq : Q (fld w at_ n) h) : palisaderef01_Field (w : Int) (at_ : Int) (n : Int) Q h := by
  unfold palisaderef01_Field
  refine br_f (decide_eq_false (by omega)) (br_f (decide_eq_false (by omega)) (br_f (decide_eq_false (by omega)) (br_f (decide_eq_false (by omega)) (br_f (decide_eq_false (by rw [wrap64] <;> omega)) ?_))))
  unfold palisaderef01_Field.j5
  intro I HI
  have hp : 2 ^ n ≤ 2 ^ 32 := Nat.pow_le_pow_right (by decide) (by omega)
  have main : ∀ k : Nat, k ≤ n → I (w : Int) (at_ : Int) ((w / 2 ^ (at_ + k) % 2 ^ (n - k) : Nat) : Int) ((k : Int) - 1) h := by
    intro k
    induction k with
    | zero =>
      intro _
      refine HI _ _ _ _ _ ?_
      unfold palisaderef01_Field.b5
      exact br_f rfl hq
    | succ k ih =>
      intro hk
      refine HI _ _ _ _ _ ?_
      unfold palisaderef01_Field.b5
      have ek : ((k + 1 : Nat) : Int) - 1 = (k : Int) := by omega
      rw [ek]
      refine br_t (by simp) ?_
      have e1 : IntKind.u64.wrap (IntKind.i64.wrap ((at_ : Int) + (k : Int))) = ((at_ + k : Nat) : Int) := by
        rw [wrap64 (x := (at_ : Int) + (k : Int)), wrapu64] <;> omega
      rw [e1]
      refine nneg_of (by omega) (nz_of (by decide) ?_)
      rw [shr32 (by omega)]
      have hlt : w / 2 ^ (at_ + (k + 1)) % 2 ^ (n - (k + 1)) < 2 ^ (n - (k + 1)) := Nat.mod_lt _ (Nat.pow_pos (by decide))
      have hp2 : 2 ^ (n - (k + 1)) ≤ 2 ^ 32 := Nat.pow_le_pow_right (by decide) (by omega)
      have e2 : Int.tmod ((w / 2 ^ (at_ + k) : Nat) : Int) 2 = ((w / 2 ^ (at_ + k) % 2 : Nat) : Int) := by
        generalize w / 2 ^ (at_ + k) = y
        rw [Int.tmod_eq_emod_of_nonneg (by omega)]; omega
      rw [e2]
      have e3 : IntKind.i64.wrap (IntKind.i64.wrap (((w / 2 ^ (at_ + (k + 1)) % 2 ^ (n - (k + 1)) : Nat) : Int) * 2) + IntKind.i64.wrap ((w / 2 ^ (at_ + k) % 2 : Nat) : Int)) = ((w / 2 ^ (at_ + k) % 2 ^ (n - k) : Nat) : Int) := by
        have hb : w / 2 ^ (at_ + k) % 2 < 2 := Nat.mod_lt _ (by decide)
        rw [wrap64 (x := ((w / 2 ^ (at_ + (k + 1)) % 2 ^ (n - (k + 1)) : Nat) : Int) * 2), wrap64 (x := ((w / 2 ^ (at_ + k) % 2 : Nat) : Int)), wrap64]
        all_goals try omega
        have hn : n - k = (n - (k + 1)) + 1 := by omega
        have hd : w / 2 ^ (at_ + (k + 1)) = w / 2 ^ (at_ + k) / 2 := by rw [Nat.div_div_eq_div_mul, ← Nat.pow_succ]; rfl
        rw [hn, Nat.pow_succ, Nat.mul_comm (2 ^ (n - (k + 1))) 2, Nat.mod_mul, hd]
        omega
      rw [e3, wrap64 (x := (k : Int) - 1) (by omega) (by omega)]
      exact ih (by omega)
  have := main n (Nat.le_refl n)
  rw [Nat.sub_self, Nat.pow_zero, Nat.mod_one] at this
  rw [wrap64 (x := (n : Int) - 1) (by omega) (by omega)]
  exact this

end
end Go.Insn
