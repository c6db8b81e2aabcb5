/- States: their cells. -/
import Derived.Test.YtkfgkcdehmjmcaaGreatDoorHartD
set_option linter.unusedSimpArgs false
set_option linter.unusedVariables false
set_option maxRecDepth 100000
namespace Go.Hart
open Go.Lift Go.Fn Go.Mem Go.Insn

/-- A state has its registers and its mode as numbers. -/
theorem state_cells {l : List V} (hl : l.length = 34) (hx : ∀ i, i < 16 → ∃ v, l[i]? = some (.int .u64 v) ∧ 0 ≤ v ∧ v ≤ 18446744073709551615) (hm : ∃ v, l[17]? = some (.int .i64 v)) :
    ∃ x0 x1 x2 x3 x4 x5 x6 x7 x8 x9 x10 x11 x12 x13 x14 x15 : Int, ∃ m : Int, ∃ y16 y18 y19 y20 y21 y22 y23 y24 y25 y26 y27 y28 y29 y30 y31 y32 y33 : V, (∀ i, i < 16 → 0 ≤ [x0, x1, x2, x3, x4, x5, x6, x7, x8, x9, x10, x11, x12, x13, x14, x15].getD i 0 ∧ [x0, x1, x2, x3, x4, x5, x6, x7, x8, x9, x10, x11, x12, x13, x14, x15].getD i 0 ≤ 18446744073709551615) ∧ l = .int .u64 x0 :: .int .u64 x1 :: .int .u64 x2 :: .int .u64 x3 :: .int .u64 x4 :: .int .u64 x5 :: .int .u64 x6 :: .int .u64 x7 :: .int .u64 x8 :: .int .u64 x9 :: .int .u64 x10 :: .int .u64 x11 :: .int .u64 x12 :: .int .u64 x13 :: .int .u64 x14 :: .int .u64 x15 :: y16 :: .int .i64 m :: y18 :: y19 :: y20 :: y21 :: y22 :: y23 :: y24 :: y25 :: y26 :: y27 :: y28 :: y29 :: y30 :: y31 :: y32 :: y33 :: [] := by
  obtain ⟨z0, z1, z2, z3, z4, z5, z6, z7, z8, z9, z10, z11, z12, z13, z14, z15, z16, z17, z18, z19, z20, z21, z22, z23, z24, z25, z26, z27, z28, z29, z30, z31, z32, z33, rfl⟩ : ∃ z0 z1 z2 z3 z4 z5 z6 z7 z8 z9 z10 z11 z12 z13 z14 z15 z16 z17 z18 z19 z20 z21 z22 z23 z24 z25 z26 z27 z28 z29 z30 z31 z32 z33, l = z0 :: z1 :: z2 :: z3 :: z4 :: z5 :: z6 :: z7 :: z8 :: z9 :: z10 :: z11 :: z12 :: z13 :: z14 :: z15 :: z16 :: z17 :: z18 :: z19 :: z20 :: z21 :: z22 :: z23 :: z24 :: z25 :: z26 :: z27 :: z28 :: z29 :: z30 :: z31 :: z32 :: z33 :: [] := by
    match l, hl with
    | z0 :: z1 :: z2 :: z3 :: z4 :: z5 :: z6 :: z7 :: z8 :: z9 :: z10 :: z11 :: z12 :: z13 :: z14 :: z15 :: z16 :: z17 :: z18 :: z19 :: z20 :: z21 :: z22 :: z23 :: z24 :: z25 :: z26 :: z27 :: z28 :: z29 :: z30 :: z31 :: z32 :: z33 :: [], _ => exact ⟨_, _, _, _, _, _, _, _, _, _, _, _, _, _, _, _, _, _, _, _, _, _, _, _, _, _, _, _, _, _, _, _, _, _, rfl⟩
  obtain ⟨x0, e, r0⟩ := hx 0 (by omega)
  obtain rfl : z0 = .int .u64 x0 := by simpa using e
  clear e
  obtain ⟨x1, e, r1⟩ := hx 1 (by omega)
  obtain rfl : z1 = .int .u64 x1 := by simpa using e
  clear e
  obtain ⟨x2, e, r2⟩ := hx 2 (by omega)
  obtain rfl : z2 = .int .u64 x2 := by simpa using e
  clear e
  obtain ⟨x3, e, r3⟩ := hx 3 (by omega)
  obtain rfl : z3 = .int .u64 x3 := by simpa using e
  clear e
  obtain ⟨x4, e, r4⟩ := hx 4 (by omega)
  obtain rfl : z4 = .int .u64 x4 := by simpa using e
  clear e
  obtain ⟨x5, e, r5⟩ := hx 5 (by omega)
  obtain rfl : z5 = .int .u64 x5 := by simpa using e
  clear e
  obtain ⟨x6, e, r6⟩ := hx 6 (by omega)
  obtain rfl : z6 = .int .u64 x6 := by simpa using e
  clear e
  obtain ⟨x7, e, r7⟩ := hx 7 (by omega)
  obtain rfl : z7 = .int .u64 x7 := by simpa using e
  clear e
  obtain ⟨x8, e, r8⟩ := hx 8 (by omega)
  obtain rfl : z8 = .int .u64 x8 := by simpa using e
  clear e
  obtain ⟨x9, e, r9⟩ := hx 9 (by omega)
  obtain rfl : z9 = .int .u64 x9 := by simpa using e
  clear e
  obtain ⟨x10, e, r10⟩ := hx 10 (by omega)
  obtain rfl : z10 = .int .u64 x10 := by simpa using e
  clear e
  obtain ⟨x11, e, r11⟩ := hx 11 (by omega)
  obtain rfl : z11 = .int .u64 x11 := by simpa using e
  clear e
  obtain ⟨x12, e, r12⟩ := hx 12 (by omega)
  obtain rfl : z12 = .int .u64 x12 := by simpa using e
  clear e
  obtain ⟨x13, e, r13⟩ := hx 13 (by omega)
  obtain rfl : z13 = .int .u64 x13 := by simpa using e
  clear e
  obtain ⟨x14, e, r14⟩ := hx 14 (by omega)
  obtain rfl : z14 = .int .u64 x14 := by simpa using e
  clear e
  obtain ⟨x15, e, r15⟩ := hx 15 (by omega)
  obtain rfl : z15 = .int .u64 x15 := by simpa using e
  clear e
  obtain ⟨m, e⟩ := hm
  obtain rfl : z17 = .int .i64 m := by simpa using e
  refine ⟨_, _, _, _, _, _, _, _, _, _, _, _, _, _, _, _, m, _, _, _, _, _, _, _, _, _, _, _, _, _, _, _, _, _, fun i hi => ?_, rfl⟩
  have : i = 0 ∨ i = 1 ∨ i = 2 ∨ i = 3 ∨ i = 4 ∨ i = 5 ∨ i = 6 ∨ i = 7 ∨ i = 8 ∨ i = 9 ∨ i = 10 ∨ i = 11 ∨ i = 12 ∨ i = 13 ∨ i = 14 ∨ i = 15 := by omega
  rcases this with rfl | rfl | rfl | rfl | rfl | rfl | rfl | rfl | rfl | rfl | rfl | rfl | rfl | rfl | rfl | rfl
  · exact r0
  · exact r1
  · exact r2
  · exact r3
  · exact r4
  · exact r5
  · exact r6
  · exact r7
  · exact r8
  · exact r9
  · exact r10
  · exact r11
  · exact r12
  · exact r13
  · exact r14
  · exact r15

theorem and1 (m : Int) : ibits .and .i64 m 1 = 0 ∨ ibits .and .i64 m 1 = 1 := by
  have hle : (BitVec.ofInt 64 m &&& BitVec.ofInt 64 1).toNat ≤ 1 := by
    rw [BitVec.toNat_and]; exact Nat.and_le_right
  have : ibits .and .i64 m 1 = IntKind.i64.wrap ((BitVec.ofInt 64 m &&& BitVec.ofInt 64 1).toNat : Int) := rfl
  rw [this, wrap64]; omega

theorem and255 (b : Int) : ∃ n : Fin 256, ibits .and .u64 b 255 = ((n.val : Nat) : Int) := by
  have hle : (BitVec.ofInt 64 b &&& BitVec.ofInt 64 255).toNat ≤ 255 := by
    rw [BitVec.toNat_and]; exact Nat.and_le_right
  have : ibits .and .u64 b 255 = IntKind.u64.wrap ((BitVec.ofInt 64 b &&& BitVec.ofInt 64 255).toNat : Int) := rfl
  exact ⟨⟨_, Nat.lt_succ_of_le hle⟩, by rw [this, wrapu64]⟩

end Go.Hart
