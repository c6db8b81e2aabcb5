/- A word of an instruction: the reference's and the program's are one. -/
import Derived.Test.YtgigbjieppllgaaDoorShD
set_option linter.unusedSimpArgs false
set_option linter.unusedVariables false
set_option maxRecDepth 100000
namespace Go.Insn
open Go.Lift Go.Fn

theorem u32_wrap (v : Int) : IntKind.u32.wrap v = (((v % 4294967296).toNat : Nat) : Int) := by
  simp only [IntKind.wrap, IntKind.bits, IntKind.signed]
  simp
  omega

theorem low_bit {v : Int} {j : Nat} (hj : j < 32) : ((v % 4294967296).toNat).testBit j = ibit v j := by
  rw [← bit_nat, Int.toNat_of_nonneg (by omega)]
  unfold ibit
  congr 1
  have e : (4294967296 : Int) = 2 ^ j * (2 * 2 ^ (31 - j)) := by
    rw [← Int.pow_succ', ← Int.pow_add, show j + (31 - j + 1) = 32 by omega]; rfl
  have hp : (2 : Int) ^ j ≠ 0 := Int.ne_of_gt (Int.pow_pos (by decide))
  have hv : v = v % 4294967296 + 2 ^ j * ((2 * 2 ^ (31 - j)) * (v / 4294967296)) := by
    rw [← Int.mul_assoc, ← e]
    omega
  have hd : v / 2 ^ j = v % 4294967296 / 2 ^ j + (2 * 2 ^ (31 - j)) * (v / 4294967296) := by
    conv => lhs; rw [hv]
    rw [Int.add_mul_ediv_left _ _ hp]
  rw [hd, Int.mul_assoc]
  generalize 2 ^ (31 - j) * (v / 4294967296) = y
  omega

theorem wplace_low {e n : Nat} {v : Int} (he : e < 2 ^ 32) (hn : n = 14 ∨ n = 18) : ∃ c : Nat, c < 2 ^ 32 ∧ wplace (e : Int) v 0 (n : Int) = (c : Int) ∧ ∀ j, c.testBit j = if j < n then ibit v j else e.testBit j := by
  have hm : IntKind.u32.wrap (shlI .u64 (wmask (n : Int)) 0) = ((2 ^ n - 1 : Nat) : Int) := by
    rcases hn with rfl | rfl <;> decide
  have hml : 2 ^ n - 1 < 2 ^ 32 := by rcases hn with rfl | rfl <;> decide
  have hu : shlI .u32 (IntKind.u32.wrap v) 0 = (((v % 4294967296).toNat : Nat) : Int) := by
    unfold shlI
    rw [show (2 : Int) ^ min ((0 : Int)).toNat IntKind.u32.bits = 1 by decide, Int.mul_one, u32_wrap v, wrapu32' (by omega) (by omega)]
  have hul : (v % 4294967296).toNat < 2 ^ 32 := by omega
  obtain ⟨c1, hc1, ec1, hb1⟩ := andNot32 he hml
  have hal : (v % 4294967296).toNat &&& (2 ^ n - 1) < 2 ^ 32 := Nat.lt_of_le_of_lt Nat.and_le_left hul
  refine ⟨c1 ||| ((v % 4294967296).toNat &&& (2 ^ n - 1)), Nat.or_lt_two_pow hc1 hal, ?_, fun j => ?_⟩
  · unfold wplace
    rw [hm, hu, ec1, and32 hul hml, or32 hc1 hal]
  · rw [Nat.testBit_or, Nat.testBit_and, hb1, Nat.testBit_two_pow_sub_one]
    by_cases hj : j < n
    · rw [if_pos hj, decide_eq_true hj, low_bit (by omega)]; simp
    · rw [if_neg hj, decide_eq_false hj]; simp

theorem shl_nat {a k : Nat} (h : a * 2 ^ k < 2 ^ 32) (ha : a < 2 ^ 32) (hk : k ≤ 31) : shlI .u32 (IntKind.u32.wrap (a : Int)) (k : Int) = ((a <<< k : Nat) : Int) := by
  unfold shlI
  rw [show min ((k : Int)).toNat IntKind.u32.bits = k by show min _ 32 = k; simp; omega, wrapu32' (x := (a : Int)) (by omega) (by omega)]
  rw [show ((2 : Int) ^ k) = ((2 ^ k : Nat) : Int) by simp, ← Int.natCast_mul, Nat.shiftLeft_eq]
  generalize a * 2 ^ k = y at h ⊢
  rw [wrapu32' (by omega) (by omega)]

theorem encW_bits {op rd rs1 rs2 : Nat} (h0 : op < 64) (h1 : rd < 16) (h2 : rs1 < 16) (h3 : rs2 < 16) : ∃ c : Nat, c < 2 ^ 32 ∧ encW (op : Int) rd rs1 rs2 = (c : Int) ∧ ∀ j, c.testBit j = (((decide (j ≥ 26) && op.testBit (j - 26)) || (decide (j ≥ 22) && rd.testBit (j - 22))) || (decide (j ≥ 18) && rs1.testBit (j - 18)) || (decide (j ≥ 14) && rs2.testBit (j - 14))) := by
  have l0 : op <<< 26 < 2 ^ 32 := by rw [Nat.shiftLeft_eq]; omega
  have l1 : rd <<< 22 < 2 ^ 32 := by rw [Nat.shiftLeft_eq]; omega
  have l2 : rs1 <<< 18 < 2 ^ 32 := by rw [Nat.shiftLeft_eq]; omega
  have l3 : rs2 <<< 14 < 2 ^ 32 := by rw [Nat.shiftLeft_eq]; omega
  refine ⟨op <<< 26 ||| rd <<< 22 ||| rs1 <<< 18 ||| rs2 <<< 14, Nat.or_lt_two_pow (Nat.or_lt_two_pow (Nat.or_lt_two_pow l0 l1) l2) l3, ?_, fun j => ?_⟩
  · unfold encW
    have s0 := shl_nat (a := op) (k := 26) (by omega) (by omega) (by omega)
    have s1 := shl_nat (a := rd) (k := 22) (by omega) (by omega) (by omega)
    have s2 := shl_nat (a := rs1) (k := 18) (by omega) (by omega) (by omega)
    have s3 := shl_nat (a := rs2) (k := 14) (by omega) (by omega) (by omega)
    rw [show ((26 : Nat) : Int) = 26 from rfl] at s0
    rw [show ((22 : Nat) : Int) = 22 from rfl] at s1
    rw [show ((18 : Nat) : Int) = 18 from rfl] at s2
    rw [show ((14 : Nat) : Int) = 14 from rfl] at s3
    rw [s0, s1, s2, s3, or32 l0 l1, or32 (Nat.or_lt_two_pow l0 l1) l2, or32 (Nat.or_lt_two_pow (Nat.or_lt_two_pow l0 l1) l2) l3]
  · simp only [Nat.testBit_or, Nat.testBit_shiftLeft]

theorem hi_bit {a k j : Nat} (h : a < 2 ^ k) (hj : k ≤ j) : a.testBit j = false := Nat.testBit_lt_two_pow (Nat.lt_of_lt_of_le h (Nat.pow_le_pow_right (by decide) hj))

section
variable {h : Heap}

theorem Encode_ref {op rd rs1 rs2 : Nat} {v : Int} (h0 : op < 64) (h1 : rd < 16) (h2 : rs1 < 16) (h3 : rs2 < 16) (hf : FitsB (rshape (op : Int)) v) (h5 : rshape (op : Int) = 5 → rs1 = 0 ∧ rs2 = 0) {Q : Int → Int → Heap → Prop} (hq : ∀ h', Keeps none_ h h' → Q (encOf (op : Int) rd rs1 rs2 v).1 (encOf (op : Int) rd rs1 rs2 v).2 h') : palisaderef02_Encode (op : Int) rd rs1 rs2 v Q h := by
  have hv : -9223372036854775808 ≤ v ∧ v ≤ 9223372036854775807 := by
    by_cases e : rshape (op : Int) = 5
    · have := hf.1 e; omega
    · have := hf.2 e; omega
  unfold palisaderef02_Encode
  refine al_of (fun b g hb ho k => ?_)
  refine loc_I ho rfl (loc_I ho rfl (loc_I ho rfl (loc_I ho rfl (loc_I ho rfl (Valid_ref h0 h1 h2 h3 hf (fun g2 k2 => ?_))))))
  have hq2 := hq g2 (k.trans k2)
  have ho2 := k2.obj ho (fun f => f)
  unfold encOf at hq2
  cases hval : validOf (op : Int) rd rs1 rs2 v with
  | false => rw [hval, if_neg (by simp)] at hq2; exact br_t rfl hq2
  | true =>
    rw [hval, if_pos rfl] at hq2
    simp only at hq2
    refine br_f rfl (loc_I ho2 rfl ?_)
    obtain ⟨c, hc, ec, hcb⟩ := encW_bits h0 h1 h2 h3
    rw [ec] at hq2
    refine Place_ref (w := 0) (at_ := 26) (n := 6) (by decide) (by decide) (by decide) (by omega) (by omega) (fun R1 hR1 b1 => ?_)
    refine loc_I ho2 rfl (Place_ref (at_ := 22) (n := 4) hR1 (by decide) (by decide) (by omega) (by omega) (fun R2 hR2 b2 => ?_))
    refine loc_I ho2 rfl (Shape_ref h0 ?_)
    have hsh : (shapeOf (op : Int)).getD 0 = 5 ↔ rshape (op : Int) = 5 := by
      unfold rshape
      cases shapeOf (op : Int) with
      | none => simp
      | some s => simp
    by_cases e5 : rshape (op : Int) = 5
    · obtain ⟨rfl, rfl⟩ := h5 e5
      rw [if_pos (hsh.2 e5)] at hq2
      obtain ⟨d, hd, ed, hdb⟩ := wplace_low (v := v) hc (n := 18) (.inr rfl)
      rw [show ((18 : Nat) : Int) = 18 from rfl] at ed
      rw [ed] at hq2
      refine br_t (by rw [e5]; rfl) (loc_I ho2 rfl (Place_ref (at_ := 0) (n := 18) hR2 (by decide) (by decide) hv.1 hv.2 (fun R3 hR3 b3 => ?_)))
      have : R3 = d := by
        refine Nat.eq_of_testBit_eq (fun j => ?_)
        rw [b3, hdb]
        by_cases q : j < 18
        · rw [if_pos (by omega), if_pos q, Nat.sub_zero]
        · rw [if_neg (by omega), if_neg q, b2, b1, hcb, Nat.zero_testBit, Nat.zero_testBit, Nat.zero_testBit]
          simp only [Bool.and_false, Bool.or_false]
          by_cases q1 : 22 ≤ j ∧ j < 22 + 4
          · rw [if_pos q1, bit_nat, decide_eq_false (by omega), decide_eq_true (by omega)]; simp
          · rw [if_neg q1]
            by_cases q2 : 26 ≤ j ∧ j < 26 + 6
            · rw [if_pos q2, bit_nat, decide_eq_true (by omega), decide_eq_true (by omega), hi_bit (a := rd) (k := 4) (by omega) (by omega)]; simp
            · rw [if_neg q2]
              by_cases q3 : j ≥ 26
              · rw [decide_eq_true q3, decide_eq_true (by omega), hi_bit (a := rd) (k := 4) (by omega) (by omega), hi_bit (a := op) (k := 6) (by omega) (by omega)]; rfl
              · rw [decide_eq_false q3, decide_eq_false (by omega)]; rfl
      rw [this]; exact hq2
    · rw [if_neg (fun hh => e5 (hsh.1 hh))] at hq2
      obtain ⟨d, hd, ed, hdb⟩ := wplace_low (v := v) hc (n := 14) (.inl rfl)
      rw [show ((14 : Nat) : Int) = 14 from rfl] at ed
      rw [ed] at hq2
      refine br_f (beq_false_of_ne e5) (loc_I ho2 rfl (Place_ref (at_ := 18) (n := 4) hR2 (by decide) (by decide) (by omega) (by omega) (fun R3 hR3 b3 => ?_)))
      refine loc_I ho2 rfl (Place_ref (at_ := 14) (n := 4) hR3 (by decide) (by decide) (by omega) (by omega) (fun R4 hR4 b4 => ?_))
      unfold palisaderef02_Encode.j9
      refine loc_I ho2 rfl (Place_ref (at_ := 0) (n := 14) hR4 (by decide) (by decide) hv.1 hv.2 (fun R5 hR5 b5 => ?_))
      have : R5 = d := by
        refine Nat.eq_of_testBit_eq (fun j => ?_)
        rw [b5, hdb]
        by_cases q : j < 14
        · rw [if_pos (by omega), if_pos q, Nat.sub_zero]
        · rw [if_neg (by omega), if_neg q, b4, b3, b2, b1, hcb, Nat.zero_testBit]
          by_cases q0 : 14 ≤ j ∧ j < 14 + 4
          · rw [if_pos q0, bit_nat, decide_eq_false (p := j ≥ 26) (by omega), decide_eq_false (p := j ≥ 22) (by omega), decide_eq_false (p := j ≥ 18) (by omega), decide_eq_true (by omega)]; simp
          rw [if_neg q0]
          have z2 : rs2.testBit (j - 14) = false := hi_bit (k := 4) (by omega) (by omega)
          by_cases q1 : 18 ≤ j ∧ j < 18 + 4
          · rw [if_pos q1, bit_nat, z2, decide_eq_false (p := j ≥ 26) (by omega), decide_eq_false (p := j ≥ 22) (by omega), decide_eq_true (p := j ≥ 18) (by omega)]; simp
          rw [if_neg q1]
          have z1 : rs1.testBit (j - 18) = false := hi_bit (k := 4) (by omega) (by omega)
          by_cases q2 : 22 ≤ j ∧ j < 22 + 4
          · rw [if_pos q2, bit_nat, z2, z1, decide_eq_false (p := j ≥ 26) (by omega), decide_eq_true (p := j ≥ 22) (by omega)]; simp
          rw [if_neg q2]
          have z0 : rd.testBit (j - 22) = false := hi_bit (k := 4) (by omega) (by omega)
          by_cases q3 : 26 ≤ j ∧ j < 26 + 6
          · rw [if_pos q3, bit_nat, z2, z1, z0, decide_eq_true (p := j ≥ 26) (by omega)]; simp
          rw [if_neg q3, hi_bit (a := op) (k := 6) (by omega) (by omega), z2, z1, z0]; simp
      rw [this]; exact hq2

end
end Go.Insn
