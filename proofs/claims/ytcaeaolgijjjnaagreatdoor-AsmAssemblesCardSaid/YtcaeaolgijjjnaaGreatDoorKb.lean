/- The reference's fields and numbers, in closed form; the same of the program's. -/
import Derived.Test.YtcaeaolgijjjnaaGreatDoorKa
set_option linter.unusedSimpArgs false
set_option linter.unusedVariables false

set_option linter.unusedSimpArgs false
set_option linter.unusedVariables false
set_option maxRecDepth 100000
namespace Go.Insn
open Go.Lift Go.Fn

theorem wrapu32' {x : Int} (h1 : 0 ≤ x) (h2 : x ≤ 4294967295) : IntKind.u32.wrap x = x := by
  simp only [IntKind.wrap, IntKind.bits, IntKind.signed]
  simp
  omega

theorem fdiv_nat (w k : Nat) : Int.fdiv (w : Int) (2 ^ k) = ((w / 2 ^ k : Nat) : Int) := by
  rw [show ((2 : Int) ^ k) = ((2 ^ k : Nat) : Int) by simp]
  exact (Int.ofNat_fdiv w (2 ^ k)).symm

theorem shr64 {w k : Nat} (hk : k ≤ 63) : shrI .u64 (w : Int) (k : Int) = ((w / 2 ^ k : Nat) : Int) := by
  unfold shrI
  rw [show min ((k : Int)).toNat IntKind.u64.bits = k by show min _ 64 = k; simp; omega]
  exact fdiv_nat w k

theorem and_mask {a n : Nat} (ha : a < 2 ^ 32) (hn : n ≤ 32) : ibits .and .u64 (a : Int) (((2 ^ n - 1 : Nat)) : Int) = ((a % 2 ^ n : Nat) : Int) := by
  have hp : 2 ^ n ≤ 2 ^ 32 := Nat.pow_le_pow_right (by decide) hn
  have h0 : 0 < 2 ^ n := Nat.pow_pos (by decide)
  have e : ibits .and .u64 (a : Int) (((2 ^ n - 1 : Nat)) : Int) = IntKind.u64.wrap ((BitVec.ofInt 64 (a : Int) &&& BitVec.ofInt 64 (((2 ^ n - 1 : Nat)) : Int)).toNat : Int) := rfl
  rw [e, BitVec.toNat_and, BitVec.toNat_ofInt, BitVec.toNat_ofInt]
  have e1 : (((a : Int) % ((2 ^ 64 : Nat) : Int)).toNat) = a := by omega
  have e2 : ((((2 ^ n - 1 : Nat) : Int) % ((2 ^ 64 : Nat) : Int)).toNat) = 2 ^ n - 1 := by omega
  rw [e1, e2, Nat.and_two_pow_sub_one_eq_mod]
  have : a % 2 ^ n < 2 ^ n := Nat.mod_lt _ h0
  rw [wrapu64 (by omega) (by omega)]

section
variable {h : Heap}

end
end Go.Insn

set_option linter.unusedSimpArgs false
set_option linter.unusedVariables false
set_option maxRecDepth 100000
namespace Go.Insn
open Go.Lift Go.Fn

theorem wsign_id14 {v : Int} (h1 : -8192 ≤ v) (h2 : v < 8192) : wsign v 14 = v := by
  unfold wsign shlI shrI
  rw [show IntKind.i64.wrap (64 - 14) = 50 by decide, show (2 : Int) ^ min ((50 : Int)).toNat IntKind.i64.bits = 1125899906842624 by decide]
  rw [wrap64 (by omega) (by omega)]
  exact Int.mul_fdiv_cancel v (by decide)

theorem wsign_id18 {v : Int} (h1 : -131072 ≤ v) (h2 : v < 131072) : wsign v 18 = v := by
  unfold wsign shlI shrI
  rw [show IntKind.i64.wrap (64 - 18) = 46 by decide, show (2 : Int) ^ min ((46 : Int)).toNat IntKind.i64.bits = 70368744177664 by decide]
  rw [wrap64 (by omega) (by omega)]
  exact Int.mul_fdiv_cancel v (by decide)

section
variable {h : Heap}

theorem Fits14 {v : Int} (h1 : -8192 ≤ v) (h2 : v < 8192) {Q : Bool → Heap → Prop} (hq : Q true h) : zf33 v 14 Q h := by
  unfold zf33
  refine br_t rfl (br_t rfl (nneg_of (by decide) ?_))
  rw [show shlI .i64 1 (IntKind.u64.wrap (IntKind.i64.wrap (14 - 1))) = 8192 by decide]
  refine br_t (decide_eq_true (by rw [show IntKind.i64.wrap (0 - 8192) = -8192 by decide]; omega)) (nneg_of (by decide) ?_)
  rw [show IntKind.i64.wrap (8192 - 1) = 8191 by decide, decide_eq_true (by omega)]
  exact hq

theorem Fits18 {v : Int} (h1 : -131072 ≤ v) (h2 : v < 131072) {Q : Bool → Heap → Prop} (hq : Q true h) : zf33 v 18 Q h := by
  unfold zf33
  refine br_t rfl (br_t rfl (nneg_of (by decide) ?_))
  rw [show shlI .i64 1 (IntKind.u64.wrap (IntKind.i64.wrap (18 - 1))) = 131072 by decide]
  refine br_t (decide_eq_true (by rw [show IntKind.i64.wrap (0 - 131072) = -131072 by decide]; omega)) (nneg_of (by decide) ?_)
  rw [show IntKind.i64.wrap (131072 - 1) = 131071 by decide, decide_eq_true (by omega)]
  exact hq

/-- The reference's shape of an operation. -/
def rshape (op : Int) : Int := match shapeOf op with | some s => s | none => -1


theorem Shape_ref {n : Nat} (hn : n < 64) {Q : Int → Heap → Prop} (hq : Q (rshape (n : Int)) h) : zf36 (n : Int) Q h := by
  unfold zf36 zf36.j3 zf36.j4 zf36.j5 zf36.j7 zf36.j9
  rcases (by omega : n = 0 ∨ n = 1 ∨ n = 2 ∨ n = 3 ∨ n = 4 ∨ n = 5 ∨ n = 6 ∨ n = 7 ∨ n = 8 ∨ n = 9 ∨ n = 10 ∨ n = 11 ∨ n = 12 ∨ n = 13 ∨ n = 14 ∨ n = 15 ∨ n = 16 ∨ n = 17 ∨ n = 18 ∨ n = 19 ∨ n = 20 ∨ n = 21 ∨ n = 22 ∨ n = 23 ∨ n = 24 ∨ n = 25 ∨ n = 26 ∨ n = 27 ∨ n = 28 ∨ n = 29 ∨ n = 30 ∨ n = 31 ∨ n = 32 ∨ n = 33 ∨ n = 34 ∨ n = 35 ∨ n = 36 ∨ n = 37 ∨ n = 38 ∨ n = 39 ∨ n = 40 ∨ n = 41 ∨ n = 42 ∨ n = 43 ∨ n = 44 ∨ n = 45 ∨ n = 46 ∨ n = 47 ∨ n = 48 ∨ n = 49 ∨ n = 50 ∨ n = 51 ∨ n = 52 ∨ n = 53 ∨ n = 54 ∨ n = 55 ∨ n = 56 ∨ n = 57 ∨ n = 58 ∨ n = 59 ∨ n = 60 ∨ n = 61 ∨ n = 62 ∨ n = 63) with rfl | rfl | rfl | rfl | rfl | rfl | rfl | rfl | rfl | rfl | rfl | rfl | rfl | rfl | rfl | rfl | rfl | rfl | rfl | rfl | rfl | rfl | rfl | rfl | rfl | rfl | rfl | rfl | rfl | rfl | rfl | rfl | rfl | rfl | rfl | rfl | rfl | rfl | rfl | rfl | rfl | rfl | rfl | rfl | rfl | rfl | rfl | rfl | rfl | rfl | rfl | rfl | rfl | rfl | rfl | rfl | rfl | rfl | rfl | rfl | rfl | rfl | rfl | rfl <;> exact hq

end
end Go.Insn

set_option linter.unusedSimpArgs false
set_option linter.unusedVariables false
set_option maxRecDepth 100000
namespace Go.Insn
open Go.Lift Go.Fn

theorem rshape_range {n : Nat} (hn : n < 64) : rshape (n : Int) = -1 ∨ rshape (n : Int) = 0 ∨ rshape (n : Int) = 1 ∨ rshape (n : Int) = 2 ∨ rshape (n : Int) = 3 ∨ rshape (n : Int) = 4 ∨ rshape (n : Int) = 5 ∨ rshape (n : Int) = 6 := by
  have key : ∀ n : Fin 64, rshape ((n.val : Nat) : Int) = -1 ∨ rshape ((n.val : Nat) : Int) = 0 ∨ rshape ((n.val : Nat) : Int) = 1 ∨ rshape ((n.val : Nat) : Int) = 2 ∨ rshape ((n.val : Nat) : Int) = 3 ∨ rshape ((n.val : Nat) : Int) = 4 ∨ rshape ((n.val : Nat) : Int) = 5 ∨ rshape ((n.val : Nat) : Int) = 6 := by decide +kernel
  exact key ⟨n, hn⟩

theorem shapeOf_of {op : Int} (h : rshape op ≠ -1) : shapeOf op = some (rshape op) := by
  unfold rshape at h ⊢
  cases hs : shapeOf op with
  | none => rw [hs] at h; exact absurd rfl h
  | some s => rfl

theorem shapeOf_none {n : Nat} (hn : n < 64) (h : rshape (n : Int) = -1) : shapeOf (n : Int) = none := by
  have key : ∀ n : Fin 64, rshape ((n.val : Nat) : Int) = -1 → shapeOf ((n.val : Nat) : Int) = none := by decide +kernel
  exact key ⟨n, hn⟩ h

theorem regOk_t {r : Nat} (h : r < 16) : regOk (r : Int) true = true := by
  unfold regOk
  rw [decide_eq_false (by omega), decide_eq_false (p := (r : Int) > 15) (by omega)]
  simp

theorem regOk_f {r : Nat} (h : r < 16) : regOk (r : Int) false = ((r : Int) == 0) := by
  unfold regOk
  rw [decide_eq_false (by omega), decide_eq_false (p := (r : Int) > 15) (by omega)]
  by_cases e : r = 0
  · subst e; rfl
  · rw [decide_eq_true (by omega), beq_false_of_ne (by omega)]; rfl

section
variable {h : Heap}

/-- A number that the shape's field has. -/
def FitsB (sh v : Int) : Prop := (sh = 5 → -131072 ≤ v ∧ v < 131072) ∧ (sh ≠ 5 → -8192 ≤ v ∧ v < 8192)

theorem imm_ref {n : Nat} {v : Int} (hn : n < 64) (hf : FitsB (rshape (n : Int)) v) {Q : Bool → Heap → Prop} (hq : Q (immOk (n : Int) (rshape (n : Int)) v) h) : zf38 (n : Int) v Q h := by
  unfold immOk at hq
  have j5 : ¬ (n = 18 ∨ n = 19 ∨ n = 20) → ¬ (n = 46 ∨ n = 47 ∨ n = 48) → zf38.j5 (n : Int) v Q h := by
    intro h1 h2
    rw [if_neg (by omega), if_neg (by omega)] at hq
    unfold zf38.j5
    refine Shape_ref hn ?_
    by_cases e5 : rshape (n : Int) = 5
    · rw [if_neg (by omega), if_pos e5, wsign_id18 (hf.1 e5).1 (hf.1 e5).2] at hq
      rw [e5]
      refine br_f rfl (br_f rfl (br_f rfl (br_t rfl (Fits18 (hf.1 e5).1 (hf.1 e5).2 ?_))))
      rw [beq_self_eq_true] at hq; exact hq
    · have hf := hf.2 e5
      by_cases e2 : rshape (n : Int) = 2 ∨ rshape (n : Int) = 3 ∨ rshape (n : Int) = 4
      · rw [if_pos e2, wsign_id14 hf.1 hf.2, beq_self_eq_true] at hq
        have F := Fits14 (h := h) hf.1 hf.2 hq
        rcases e2 with e | e | e
        · rw [e]; exact br_t rfl F
        · rw [e]; exact br_f rfl (br_t rfl F)
        · rw [e]; exact br_f rfl (br_f rfl (br_t rfl F))
      · rw [if_neg e2, if_neg e5] at hq
        exact br_f (beq_false_of_ne (by omega)) (br_f (beq_false_of_ne (by omega)) (br_f (beq_false_of_ne (by omega)) (br_f (beq_false_of_ne e5) hq)))
  have j3 : ¬ (n = 18 ∨ n = 19 ∨ n = 20) → zf38.j3 (n : Int) v Q h := by
    intro h1
    unfold zf38.j3
    by_cases h2 : n = 46 ∨ n = 47 ∨ n = 48
    · rw [if_neg (by omega), if_pos (by omega)] at hq
      refine br_t (decide_eq_true (by omega)) (br_t (decide_eq_true (by omega)) ?_)
      by_cases hv : v ≥ 0
      · refine br_t (decide_eq_true hv) ?_
        rw [decide_eq_true hv, Bool.true_and] at hq
        rw [show decide (v ≤ 4095) = decide (v < 4096) by rw [decide_eq_decide]; omega]; exact hq
      · refine br_f (decide_eq_false hv) ?_
        rw [decide_eq_false hv, Bool.false_and] at hq; exact hq
    · by_cases h3 : n ≥ 46
      · exact br_t (decide_eq_true (by omega)) (br_f (decide_eq_false (by omega)) (j5 h1 h2))
      · exact br_f (decide_eq_false (by omega)) (j5 h1 h2)
  unfold zf38
  by_cases h1 : n = 18 ∨ n = 19 ∨ n = 20
  · rw [if_pos (by omega)] at hq
    refine br_t (decide_eq_true (by omega)) (br_t (decide_eq_true (by omega)) ?_)
    by_cases hv : v ≥ 0
    · refine br_t (decide_eq_true hv) ?_
      rw [decide_eq_true hv, Bool.true_and] at hq
      rw [show decide (v ≤ 63) = decide (v < 64) by rw [decide_eq_decide]; omega]; exact hq
    · refine br_f (decide_eq_false hv) ?_
      rw [decide_eq_false hv, Bool.false_and] at hq; exact hq
  · by_cases h3 : n ≥ 18
    · exact br_t (decide_eq_true (by omega)) (br_f (decide_eq_false (by omega)) (j3 h1))
    · exact br_f (decide_eq_false (by omega)) (j3 h1)

theorem reg_ref {r : Nat} (hr : r < 16) {Q : Bool → Heap → Prop} (hq : Q true h) : zf39 (r : Int) Q h := by
  unfold zf39
  refine br_t (decide_eq_true (by omega)) ?_
  rw [decide_eq_true (by omega)]; exact hq

theorem Valid_ref {n rd rs1 rs2 : Nat} {v : Int} (hn : n < 64) (h1 : rd < 16) (h2 : rs1 < 16) (h3 : rs2 < 16) (hf : FitsB (rshape (n : Int)) v) {Q : Bool → Heap → Prop} (hq : ∀ h', Keeps none_ h h' → Q (validOf (n : Int) rd rs1 rs2 v) h') : zf37 (n : Int) rd rs1 rs2 v Q h := by
  unfold zf37
  refine al_of (fun b g hb ho k => ?_)
  refine loc_I ho rfl (Shape_ref hn ?_)
  have hq := hq g k
  by_cases en : rshape (n : Int) = -1
  · refine br_t (by rw [en]; rfl) ?_
    unfold validOf at hq
    rw [shapeOf_none hn en] at hq
    exact hq
  refine br_f (decide_eq_false (by have := rshape_range hn; omega)) ?_
  refine loc_I ho rfl (reg_ref h1 (br_f rfl (loc_I ho rfl (reg_ref h2 (br_f rfl (loc_I ho rfl (reg_ref h3 (br_f rfl (loc_I ho rfl (loc_I ho rfl (imm_ref hn hf ?_))))))))))) 
  unfold validOf at hq
  rw [shapeOf_of en] at hq
  simp only at hq
  cases hi : immOk (n : Int) (rshape (n : Int)) v with
  | false => rw [hi, Bool.false_and] at hq; exact br_t rfl hq
  | true =>
    rw [hi, Bool.true_and] at hq
    refine br_f rfl ?_
    rcases rshape_range hn with e' | e | e | e | e | e | e | e
    · exact absurd e' en
    · rw [e] at hq ⊢
      replace hq : Q (!((n : Int) == 37 && (rs2 : Int) != 0) && (regOk rd false && (regOk rs1 false && (regOk rs2 false && true)))) g := hq
      rw [regOk_f h1, regOk_f h2, regOk_f h3] at hq
      unfold zf37.j4 zf37.j5 zf37.j6
      refine br_f rfl (br_f rfl ?_)
      refine br_f rfl ?_
      have n37 : ((n : Int) == 37) = false := beq_false_of_ne (fun hh => by rw [hh] at e; revert e; decide)
      rw [n37] at hq
      refine br_f rfl (br_f rfl ?_)
      unfold zf37.j7
      refine br_f rfl (loc_I ho rfl ?_)
      by_cases z0 : rd = 0
      case neg => exact br_f (beq_false_of_ne (by omega)) (by rw [show (((rd : Nat) : Int) == 0) = false from beq_false_of_ne (by omega)] at hq; simpa using hq)
      subst z0
      refine br_t rfl ?_
      refine br_f rfl (loc_I ho rfl ?_)
      by_cases z1 : rs1 = 0
      case neg => exact br_f (beq_false_of_ne (by omega)) (by rw [show (((rs1 : Nat) : Int) == 0) = false from beq_false_of_ne (by omega)] at hq; simpa using hq)
      subst z1
      refine br_t rfl ?_
      refine br_f rfl (loc_I ho rfl ?_)
      simpa using hq
    · rw [e] at hq ⊢
      replace hq : Q (!((n : Int) == 37 && (rs2 : Int) != 0) && (regOk rd true && (regOk rs1 true && (regOk rs2 true && true)))) g := hq
      rw [regOk_t h1, regOk_t h2, regOk_t h3] at hq
      unfold zf37.j4 zf37.j5 zf37.j6
      refine br_t rfl ?_
      refine br_t rfl ?_
      refine br_t rfl (loc_I ho rfl ?_)
      by_cases e37 : n = 37
      · subst e37
        refine br_f rfl (br_f rfl ?_)
        unfold zf37.j7
        refine br_t rfl (br_t rfl (br_f rfl (loc_I ho rfl ?_)))
        by_cases z : rs2 = 0
        · subst z; exact hq
        · rw [beq_false_of_ne (by omega)]
          rw [show (!(((37 : Nat) : Int) == 37 && ((rs2 : Nat) : Int) != 0) && (true && (true && (true && true)))) = false by
            have : (((rs2 : Nat) : Int) != 0) = true := by rw [bne_iff_ne]; omega
            rw [this]; rfl] at hq
          exact hq
      · refine br_t (by rw [bne_iff_ne]; omega) ?_
        unfold zf37.j7
        refine br_t rfl (br_t rfl (br_t rfl ?_))
        rw [show ((n : Int) == 37) = false from beq_false_of_ne (by omega)] at hq
        exact hq
    · rw [e] at hq ⊢
      replace hq : Q (!((n : Int) == 37 && (rs2 : Int) != 0) && (regOk rd true && (regOk rs1 true && (regOk rs2 false && true)))) g := hq
      rw [regOk_t h1, regOk_t h2, regOk_f h3] at hq
      unfold zf37.j4 zf37.j5 zf37.j6
      refine br_f rfl (br_t rfl ?_)
      refine br_t rfl ?_
      have n37 : ((n : Int) == 37) = false := beq_false_of_ne (fun hh => by rw [hh] at e; revert e; decide)
      rw [n37] at hq
      refine br_f rfl (br_f rfl ?_)
      unfold zf37.j7
      refine br_t rfl ?_
      refine br_t rfl ?_
      refine br_f rfl (loc_I ho rfl ?_)
      simpa using hq
    · rw [e] at hq ⊢
      replace hq : Q (!((n : Int) == 37 && (rs2 : Int) != 0) && (regOk rd false && (regOk rs1 true && (regOk rs2 true && true)))) g := hq
      rw [regOk_f h1, regOk_t h2, regOk_t h3] at hq
      unfold zf37.j4 zf37.j5 zf37.j6
      refine br_f rfl (br_f rfl ?_)
      refine br_t rfl ?_
      have n37 : ((n : Int) == 37) = false := beq_false_of_ne (fun hh => by rw [hh] at e; revert e; decide)
      rw [n37] at hq
      refine br_f rfl (br_t rfl ?_)
      unfold zf37.j7
      refine br_f rfl (loc_I ho rfl ?_)
      by_cases z0 : rd = 0
      case neg => exact br_f (beq_false_of_ne (by omega)) (by rw [show (((rd : Nat) : Int) == 0) = false from beq_false_of_ne (by omega)] at hq; simpa using hq)
      subst z0
      refine br_t rfl ?_
      refine br_t rfl ?_
      refine br_t rfl ?_
      simpa using hq
    · rw [e] at hq ⊢
      replace hq : Q (!((n : Int) == 37 && (rs2 : Int) != 0) && (regOk rd false && (regOk rs1 true && (regOk rs2 true && true)))) g := hq
      rw [regOk_f h1, regOk_t h2, regOk_t h3] at hq
      unfold zf37.j4 zf37.j5 zf37.j6
      refine br_f rfl (br_f rfl ?_)
      refine br_t rfl ?_
      have n37 : ((n : Int) == 37) = false := beq_false_of_ne (fun hh => by rw [hh] at e; revert e; decide)
      rw [n37] at hq
      refine br_f rfl (br_f rfl ?_)
      unfold zf37.j7
      refine br_f rfl (loc_I ho rfl ?_)
      by_cases z0 : rd = 0
      case neg => exact br_f (beq_false_of_ne (by omega)) (by rw [show (((rd : Nat) : Int) == 0) = false from beq_false_of_ne (by omega)] at hq; simpa using hq)
      subst z0
      refine br_t rfl ?_
      refine br_t rfl ?_
      refine br_t rfl ?_
      simpa using hq
    · rw [e] at hq ⊢
      replace hq : Q (!((n : Int) == 37 && (rs2 : Int) != 0) && (regOk rd true && (regOk rs1 false && (regOk rs2 false && true)))) g := hq
      rw [regOk_t h1, regOk_f h2, regOk_f h3] at hq
      unfold zf37.j4 zf37.j5 zf37.j6
      refine br_f rfl (br_f rfl ?_)
      refine br_t rfl ?_
      have n37 : ((n : Int) == 37) = false := beq_false_of_ne (fun hh => by rw [hh] at e; revert e; decide)
      rw [n37] at hq
      refine br_f rfl (br_f rfl ?_)
      unfold zf37.j7
      refine br_t rfl ?_
      refine br_f rfl (loc_I ho rfl ?_)
      by_cases z1 : rs1 = 0
      case neg => exact br_f (beq_false_of_ne (by omega)) (by rw [show (((rs1 : Nat) : Int) == 0) = false from beq_false_of_ne (by omega)] at hq; simpa using hq)
      subst z1
      refine br_t rfl ?_
      refine br_f rfl (loc_I ho rfl ?_)
      simpa using hq
    · rw [e] at hq ⊢
      replace hq : Q (!((n : Int) == 37 && (rs2 : Int) != 0) && (regOk rd false && (regOk rs1 true && (regOk rs2 false && true)))) g := hq
      rw [regOk_f h1, regOk_t h2, regOk_f h3] at hq
      unfold zf37.j4 zf37.j5 zf37.j6
      refine br_f rfl (br_f rfl ?_)
      refine br_t rfl ?_
      have n37 : ((n : Int) == 37) = false := beq_false_of_ne (fun hh => by rw [hh] at e; revert e; decide)
      rw [n37] at hq
      refine br_f rfl (br_f rfl ?_)
      unfold zf37.j7
      refine br_f rfl (loc_I ho rfl ?_)
      by_cases z0 : rd = 0
      case neg => exact br_f (beq_false_of_ne (by omega)) (by rw [show (((rd : Nat) : Int) == 0) = false from beq_false_of_ne (by omega)] at hq; simpa using hq)
      subst z0
      refine br_t rfl ?_
      refine br_t rfl ?_
      refine br_f rfl (loc_I ho rfl ?_)
      simpa using hq

end
end Go.Insn

set_option linter.unusedSimpArgs false
set_option linter.unusedVariables false
set_option maxRecDepth 100000
namespace Go.Insn
open Go.Lift Go.Fn

/-- A bit of a number, two's complement. -/
def ibit (v : Int) (i : Nat) : Bool := v / 2 ^ i % 2 == 1

theorem or32 {a b : Nat} (ha : a < 2 ^ 32) (hb : b < 2 ^ 32) : ibits .or .u32 (a : Int) (b : Int) = ((a ||| b : Nat) : Int) := by
  have e : ibits .or .u32 (a : Int) (b : Int) = IntKind.u32.wrap ((BitVec.ofInt 32 (a : Int) ||| BitVec.ofInt 32 (b : Int)).toNat : Int) := rfl
  rw [e, BitVec.toNat_or, BitVec.toNat_ofInt, BitVec.toNat_ofInt]
  rw [show (((a : Int) % ((2 ^ 32 : Nat) : Int)).toNat) = a by omega, show (((b : Int) % ((2 ^ 32 : Nat) : Int)).toNat) = b by omega]
  have := Nat.or_lt_two_pow ha hb
  rw [wrapu32' (by omega) (by omega)]

theorem and32 {a b : Nat} (ha : a < 2 ^ 32) (hb : b < 2 ^ 32) : ibits .and .u32 (a : Int) (b : Int) = ((a &&& b : Nat) : Int) := by
  have e : ibits .and .u32 (a : Int) (b : Int) = IntKind.u32.wrap ((BitVec.ofInt 32 (a : Int) &&& BitVec.ofInt 32 (b : Int)).toNat : Int) := rfl
  rw [e, BitVec.toNat_and, BitVec.toNat_ofInt, BitVec.toNat_ofInt]
  rw [show (((a : Int) % ((2 ^ 32 : Nat) : Int)).toNat) = a by omega, show (((b : Int) % ((2 ^ 32 : Nat) : Int)).toNat) = b by omega]
  have : a &&& b ≤ a := Nat.and_le_left
  rw [wrapu32' (by omega) (by omega)]

theorem andNot32 {a b : Nat} (ha : a < 2 ^ 32) (hb : b < 2 ^ 32) : ∃ c : Nat, c < 2 ^ 32 ∧ ibits .andNot .u32 (a : Int) (b : Int) = (c : Int) ∧ ∀ j, c.testBit j = (a.testBit j && !b.testBit j) := by
  have e : ibits .andNot .u32 (a : Int) (b : Int) = IntKind.u32.wrap ((BitVec.ofInt 32 (a : Int) &&& ~~~ BitVec.ofInt 32 (b : Int)).toNat : Int) := rfl
  have hl := (BitVec.ofInt 32 (a : Int) &&& ~~~ BitVec.ofInt 32 (b : Int)).isLt
  refine ⟨(BitVec.ofInt 32 (a : Int) &&& ~~~ BitVec.ofInt 32 (b : Int)).toNat, hl, by rw [e, wrapu32' (by omega) (by omega)], fun j => ?_⟩
  have ea : (BitVec.ofInt 32 (a : Int)).toNat = a := by rw [BitVec.toNat_ofInt]; omega
  have eb : (BitVec.ofInt 32 (b : Int)).toNat = b := by rw [BitVec.toNat_ofInt]; omega
  rw [← BitVec.getLsbD]
  rw [BitVec.getLsbD_and, BitVec.getLsbD_not]
  unfold BitVec.getLsbD
  rw [ea, eb]
  by_cases hj : j < 32
  · rw [decide_eq_true hj, Bool.true_and]
  · rw [Nat.testBit_lt_two_pow (Nat.lt_of_lt_of_le ha (Nat.pow_le_pow_right (by decide) (by omega)))]; simp

theorem bit_of {v : Int} {i : Nat} (hi : i ≤ 31) (h1 : -9223372036854775808 ≤ v) (h2 : v ≤ 9223372036854775807) : (ibits .and .i64 (shrI .i64 v (i : Int)) 1 == 1) = ibit v i := by
  have es : shrI .i64 v (i : Int) = v / 2 ^ i := by
    unfold shrI
    rw [show min ((i : Int)).toNat IntKind.i64.bits = i by show min _ 64 = i; simp; omega]
    exact Int.fdiv_eq_ediv_of_nonneg v (by exact Int.le_of_lt (Int.pow_pos (by decide)))
  rw [es]
  unfold ibit
  generalize v / 2 ^ i = y
  have e : ibits .and .i64 y 1 = IntKind.i64.wrap ((BitVec.ofInt 64 y &&& BitVec.ofInt 64 1).toNat : Int) := rfl
  have e2 : (BitVec.ofInt 64 y &&& BitVec.ofInt 64 1).toNat = (y % 2).toNat := by
    rw [BitVec.toNat_and, BitVec.toNat_ofInt, show (BitVec.ofInt 64 1).toNat = 2 ^ 1 - 1 from rfl, Nat.and_two_pow_sub_one_eq_mod]
    omega
  rw [e, e2, wrap64 (by omega) (by omega)]
  congr 1
  omega

theorem bit_nat {v i : Nat} : ibit (v : Int) i = v.testBit i := by
  unfold ibit
  rw [Nat.testBit_eq_decide_div_mod_eq]
  rw [show ((2 : Int) ^ i) = ((2 ^ i : Nat) : Int) by simp, ← Int.natCast_ediv]
  generalize v / 2 ^ i = y
  by_cases h : y % 2 = 1
  · rw [decide_eq_true h]; simp; omega
  · rw [decide_eq_false h]; simp; omega

section
variable {h : Heap}

theorem Place_ref {w at_ n : Nat} {v : Int} (hw : w < 2 ^ 32) (h1 : 1 ≤ n) (h2 : at_ + n ≤ 32) (hv1 : -9223372036854775808 ≤ v) (hv2 : v ≤ 9223372036854775807) {Q : Int → Heap → Prop}
    (hq : ∀ R : Nat, R < 2 ^ 32 → (∀ j, R.testBit j = if at_ ≤ j ∧ j < at_ + n then ibit v (j - at_) else w.testBit j) → Q (R : Int) h) : zf34 (w : Int) v (at_ : Int) (n : Int) Q h := by
  unfold zf34
  refine br_f (decide_eq_false (by omega)) (br_f (decide_eq_false (by omega)) (br_f (decide_eq_false (by omega)) (br_f (decide_eq_false (by omega)) (br_f (decide_eq_false (by rw [wrap64] <;> omega)) ?_))))
  unfold zf34.j4
  intro I HI
  have main : ∀ k i : Nat, i + k = n → ∀ R : Nat, R < 2 ^ 32 → (∀ j, R.testBit j = if at_ ≤ j ∧ j < at_ + i then ibit v (j - at_) else w.testBit j) → I (R : Int) v (at_ : Int) (n : Int) (i : Int) h := by
    intro k
    induction k with
    | zero =>
      intro i hi R hR hb
      obtain rfl : i = n := by omega
      refine HI _ _ _ _ _ _ ?_
      unfold zf34.b4
      exact br_f (decide_eq_false (by omega)) (hq R hR hb)
    | succ k ih =>
      intro i hi R hR hb
      refine HI _ _ _ _ _ _ ?_
      unfold zf34.b4
      refine br_t (decide_eq_true (by omega)) ?_
      have e1 : IntKind.u64.wrap (IntKind.i64.wrap ((at_ : Int) + (i : Int))) = ((at_ + i : Nat) : Int) := by
        rw [wrap64 (x := (at_ : Int) + (i : Int)), wrapu64] <;> omega
      have e2 : IntKind.u64.wrap (i : Int) = (i : Int) := by rw [wrapu64] <;> omega
      rw [e1, e2]
      refine nneg_of (by omega) (nneg_of (by omega) ?_)
      have e3 : shlI .u32 1 ((at_ + i : Nat) : Int) = ((2 ^ (at_ + i) : Nat) : Int) := by
        unfold shlI
        rw [show min (((at_ + i : Nat) : Int)).toNat IntKind.u32.bits = at_ + i by show min _ 32 = _; simp; omega, Int.one_mul]
        have := Nat.pow_lt_pow_right (a := 2) (by decide) (show at_ + i < 32 by omega)
        rw [show ((2 : Int) ^ (at_ + i)) = ((2 ^ (at_ + i) : Nat) : Int) by simp]
        generalize 2 ^ (at_ + i) = y at this ⊢
        rw [wrapu32' (by omega) (by omega)]
      have hp : 2 ^ (at_ + i) < 2 ^ 32 := Nat.pow_lt_pow_right (by decide) (by omega)
      rw [e3, bit_of (by omega) hv1 hv2]
      obtain ⟨c, hc, ec, hcb⟩ := andNot32 hR hp
      rw [ec]
      have ew : IntKind.i64.wrap ((i : Int) + 1) = ((i + 1 : Nat) : Int) := by rw [wrap64] <;> omega
      unfold zf34.j5
      rw [ew]
      cases hbit : ibit v i with
      | true =>
        refine br_t rfl ?_
        rw [or32 hc hp]
        refine ih (i + 1) (by omega) _ (Nat.or_lt_two_pow hc hp) (fun j => ?_)
        rw [Nat.testBit_or, hcb, hb, Nat.testBit_two_pow]
        by_cases hj : at_ + i = j
        · subst hj
          rw [decide_eq_true rfl, Bool.or_true, if_pos (by omega), Nat.add_sub_cancel_left, hbit]
        · rw [decide_eq_false hj]
          simp only [Bool.not_false, Bool.and_true, Bool.or_false]
          by_cases hin : at_ ≤ j ∧ j < at_ + i
          · rw [if_pos hin, if_pos (by omega)]
          · rw [if_neg hin, if_neg (by omega)]
      | false =>
        refine br_f rfl ?_
        refine ih (i + 1) (by omega) _ hc (fun j => ?_)
        rw [hcb, hb, Nat.testBit_two_pow]
        by_cases hj : at_ + i = j
        · subst hj
          rw [decide_eq_true rfl, Bool.not_true, Bool.and_false, if_pos (by omega), Nat.add_sub_cancel_left, hbit]
        · rw [decide_eq_false hj]
          simp only [Bool.not_false, Bool.and_true]
          by_cases hin : at_ ≤ j ∧ j < at_ + i
          · rw [if_pos hin, if_pos (by omega)]
          · rw [if_neg hin, if_neg (by omega)]
  exact main n 0 (by omega) w hw (fun j => by rw [if_neg (by omega)])

end
end Go.Insn

set_option linter.unusedSimpArgs false
set_option linter.unusedVariables false
set_option maxRecDepth 100000
namespace Go.Insn
open Go.Lift Go.Fn

theorem u32_wrap (v : Int) : IntKind.u32.wrap v = (((v % 4294967296).toNat : Nat) : Int) := by
  simp only [IntKind.wrap, IntKind.bits, IntKind.signed]
  simp
  omega

theorem low_bit {v : Int} {j : Nat} (hj : j < 32) : ((v % 4294967296).toNat).testBit j = ibit v j := by
  rw [← bit_nat, Int.toNat_of_nonneg (by omega)]
  unfold ibit
  congr 1
  have e : (4294967296 : Int) = 2 ^ j * (2 * 2 ^ (31 - j)) := by
    rw [← Int.pow_succ', ← Int.pow_add, show j + (31 - j + 1) = 32 by omega]; rfl
  have hp : (2 : Int) ^ j ≠ 0 := Int.ne_of_gt (Int.pow_pos (by decide))
  have hv : v = v % 4294967296 + 2 ^ j * ((2 * 2 ^ (31 - j)) * (v / 4294967296)) := by
    rw [← Int.mul_assoc, ← e]
    omega
  have hd : v / 2 ^ j = v % 4294967296 / 2 ^ j + (2 * 2 ^ (31 - j)) * (v / 4294967296) := by
    conv => lhs; rw [hv]
    rw [Int.add_mul_ediv_left _ _ hp]
  rw [hd, Int.mul_assoc]
  generalize 2 ^ (31 - j) * (v / 4294967296) = y
  omega

theorem wplace_low {e n : Nat} {v : Int} (he : e < 2 ^ 32) (hn : n = 14 ∨ n = 18) : ∃ c : Nat, c < 2 ^ 32 ∧ wplace (e : Int) v 0 (n : Int) = (c : Int) ∧ ∀ j, c.testBit j = if j < n then ibit v j else e.testBit j := by
  have hm : IntKind.u32.wrap (shlI .u64 (wmask (n : Int)) 0) = ((2 ^ n - 1 : Nat) : Int) := by
    rcases hn with rfl | rfl <;> decide
  have hml : 2 ^ n - 1 < 2 ^ 32 := by rcases hn with rfl | rfl <;> decide
  have hu : shlI .u32 (IntKind.u32.wrap v) 0 = (((v % 4294967296).toNat : Nat) : Int) := by
    unfold shlI
    rw [show (2 : Int) ^ min ((0 : Int)).toNat IntKind.u32.bits = 1 by decide, Int.mul_one, u32_wrap v, wrapu32' (by omega) (by omega)]
  have hul : (v % 4294967296).toNat < 2 ^ 32 := by omega
  obtain ⟨c1, hc1, ec1, hb1⟩ := andNot32 he hml
  have hal : (v % 4294967296).toNat &&& (2 ^ n - 1) < 2 ^ 32 := Nat.lt_of_le_of_lt Nat.and_le_left hul
  refine ⟨c1 ||| ((v % 4294967296).toNat &&& (2 ^ n - 1)), Nat.or_lt_two_pow hc1 hal, ?_, fun j => ?_⟩
  · unfold wplace
    rw [hm, hu, ec1, and32 hul hml, or32 hc1 hal]
  · rw [Nat.testBit_or, Nat.testBit_and, hb1, Nat.testBit_two_pow_sub_one]
    by_cases hj : j < n
    · rw [if_pos hj, decide_eq_true hj, low_bit (by omega)]; simp
    · rw [if_neg hj, decide_eq_false hj]; simp

theorem shl_nat {a k : Nat} (h : a * 2 ^ k < 2 ^ 32) (ha : a < 2 ^ 32) (hk : k ≤ 31) : shlI .u32 (IntKind.u32.wrap (a : Int)) (k : Int) = ((a <<< k : Nat) : Int) := by
  unfold shlI
  rw [show min ((k : Int)).toNat IntKind.u32.bits = k by show min _ 32 = k; simp; omega, wrapu32' (x := (a : Int)) (by omega) (by omega)]
  rw [show ((2 : Int) ^ k) = ((2 ^ k : Nat) : Int) by simp, ← Int.natCast_mul, Nat.shiftLeft_eq]
  generalize a * 2 ^ k = y at h ⊢
  rw [wrapu32' (by omega) (by omega)]

theorem encW_bits {op rd rs1 rs2 : Nat} (h0 : op < 64) (h1 : rd < 16) (h2 : rs1 < 16) (h3 : rs2 < 16) : ∃ c : Nat, c < 2 ^ 32 ∧ encW (op : Int) rd rs1 rs2 = (c : Int) ∧ ∀ j, c.testBit j = (((decide (j ≥ 26) && op.testBit (j - 26)) || (decide (j ≥ 22) && rd.testBit (j - 22))) || (decide (j ≥ 18) && rs1.testBit (j - 18)) || (decide (j ≥ 14) && rs2.testBit (j - 14))) := by
  have l0 : op <<< 26 < 2 ^ 32 := by rw [Nat.shiftLeft_eq]; omega
  have l1 : rd <<< 22 < 2 ^ 32 := by rw [Nat.shiftLeft_eq]; omega
  have l2 : rs1 <<< 18 < 2 ^ 32 := by rw [Nat.shiftLeft_eq]; omega
  have l3 : rs2 <<< 14 < 2 ^ 32 := by rw [Nat.shiftLeft_eq]; omega
  refine ⟨op <<< 26 ||| rd <<< 22 ||| rs1 <<< 18 ||| rs2 <<< 14, Nat.or_lt_two_pow (Nat.or_lt_two_pow (Nat.or_lt_two_pow l0 l1) l2) l3, ?_, fun j => ?_⟩
  · unfold encW
    have s0 := shl_nat (a := op) (k := 26) (by omega) (by omega) (by omega)
    have s1 := shl_nat (a := rd) (k := 22) (by omega) (by omega) (by omega)
    have s2 := shl_nat (a := rs1) (k := 18) (by omega) (by omega) (by omega)
    have s3 := shl_nat (a := rs2) (k := 14) (by omega) (by omega) (by omega)
    rw [show ((26 : Nat) : Int) = 26 from rfl] at s0
    rw [show ((22 : Nat) : Int) = 22 from rfl] at s1
    rw [show ((18 : Nat) : Int) = 18 from rfl] at s2
    rw [show ((14 : Nat) : Int) = 14 from rfl] at s3
    rw [s0, s1, s2, s3, or32 l0 l1, or32 (Nat.or_lt_two_pow l0 l1) l2, or32 (Nat.or_lt_two_pow (Nat.or_lt_two_pow l0 l1) l2) l3]
  · simp only [Nat.testBit_or, Nat.testBit_shiftLeft]

theorem hi_bit {a k j : Nat} (h : a < 2 ^ k) (hj : k ≤ j) : a.testBit j = false := Nat.testBit_lt_two_pow (Nat.lt_of_lt_of_le h (Nat.pow_le_pow_right (by decide) hj))

section
variable {h : Heap}

theorem Encode_ref {op rd rs1 rs2 : Nat} {v : Int} (h0 : op < 64) (h1 : rd < 16) (h2 : rs1 < 16) (h3 : rs2 < 16) (hf : FitsB (rshape (op : Int)) v) (h5 : rshape (op : Int) = 5 → rs1 = 0 ∧ rs2 = 0) {Q : Int → Int → Heap → Prop} (hq : ∀ h', Keeps none_ h h' → Q (encOf (op : Int) rd rs1 rs2 v).1 (encOf (op : Int) rd rs1 rs2 v).2 h') : zf35 (op : Int) rd rs1 rs2 v Q h := by
  have hv : -9223372036854775808 ≤ v ∧ v ≤ 9223372036854775807 := by
    by_cases e : rshape (op : Int) = 5
    · have := hf.1 e; omega
    · have := hf.2 e; omega
  unfold zf35
  refine al_of (fun b g hb ho k => ?_)
  refine loc_I ho rfl (loc_I ho rfl (loc_I ho rfl (loc_I ho rfl (loc_I ho rfl (Valid_ref h0 h1 h2 h3 hf (fun g2 k2 => ?_))))))
  have hq2 := hq g2 (k.trans k2)
  have ho2 := k2.obj ho (fun f => f)
  unfold encOf at hq2
  cases hval : validOf (op : Int) rd rs1 rs2 v with
  | false => rw [hval, if_neg (by simp)] at hq2; exact br_t rfl hq2
  | true =>
    rw [hval, if_pos rfl] at hq2
    simp only at hq2
    refine br_f rfl (loc_I ho2 rfl ?_)
    obtain ⟨c, hc, ec, hcb⟩ := encW_bits h0 h1 h2 h3
    rw [ec] at hq2
    refine Place_ref (w := 0) (at_ := 26) (n := 6) (by decide) (by decide) (by decide) (by omega) (by omega) (fun R1 hR1 b1 => ?_)
    refine loc_I ho2 rfl (Place_ref (at_ := 22) (n := 4) hR1 (by decide) (by decide) (by omega) (by omega) (fun R2 hR2 b2 => ?_))
    refine loc_I ho2 rfl (Shape_ref h0 ?_)
    have hsh : (shapeOf (op : Int)).getD 0 = 5 ↔ rshape (op : Int) = 5 := by
      unfold rshape
      cases shapeOf (op : Int) with
      | none => simp
      | some s => simp
    by_cases e5 : rshape (op : Int) = 5
    · obtain ⟨rfl, rfl⟩ := h5 e5
      rw [if_pos (hsh.2 e5)] at hq2
      obtain ⟨d, hd, ed, hdb⟩ := wplace_low (v := v) hc (n := 18) (.inr rfl)
      rw [show ((18 : Nat) : Int) = 18 from rfl] at ed
      rw [ed] at hq2
      refine br_t (by rw [e5]; rfl) (loc_I ho2 rfl (Place_ref (at_ := 0) (n := 18) hR2 (by decide) (by decide) hv.1 hv.2 (fun R3 hR3 b3 => ?_)))
      have : R3 = d := by
        refine Nat.eq_of_testBit_eq (fun j => ?_)
        rw [b3, hdb]
        by_cases q : j < 18
        · rw [if_pos (by omega), if_pos q, Nat.sub_zero]
        · rw [if_neg (by omega), if_neg q, b2, b1, hcb, Nat.zero_testBit, Nat.zero_testBit, Nat.zero_testBit]
          simp only [Bool.and_false, Bool.or_false]
          by_cases q1 : 22 ≤ j ∧ j < 22 + 4
          · rw [if_pos q1, bit_nat, decide_eq_false (by omega), decide_eq_true (by omega)]; simp
          · rw [if_neg q1]
            by_cases q2 : 26 ≤ j ∧ j < 26 + 6
            · rw [if_pos q2, bit_nat, decide_eq_true (by omega), decide_eq_true (by omega), hi_bit (a := rd) (k := 4) (by omega) (by omega)]; simp
            · rw [if_neg q2]
              by_cases q3 : j ≥ 26
              · rw [decide_eq_true q3, decide_eq_true (by omega), hi_bit (a := rd) (k := 4) (by omega) (by omega), hi_bit (a := op) (k := 6) (by omega) (by omega)]; rfl
              · rw [decide_eq_false q3, decide_eq_false (by omega)]; rfl
      rw [this]; exact hq2
    · rw [if_neg (fun hh => e5 (hsh.1 hh))] at hq2
      obtain ⟨d, hd, ed, hdb⟩ := wplace_low (v := v) hc (n := 14) (.inl rfl)
      rw [show ((14 : Nat) : Int) = 14 from rfl] at ed
      rw [ed] at hq2
      refine br_f (beq_false_of_ne e5) (loc_I ho2 rfl (Place_ref (at_ := 18) (n := 4) hR2 (by decide) (by decide) (by omega) (by omega) (fun R3 hR3 b3 => ?_)))
      refine loc_I ho2 rfl (Place_ref (at_ := 14) (n := 4) hR3 (by decide) (by decide) (by omega) (by omega) (fun R4 hR4 b4 => ?_))
      unfold zf35.j9
      refine loc_I ho2 rfl (Place_ref (at_ := 0) (n := 14) hR4 (by decide) (by decide) hv.1 hv.2 (fun R5 hR5 b5 => ?_))
      have : R5 = d := by
        refine Nat.eq_of_testBit_eq (fun j => ?_)
        rw [b5, hdb]
        by_cases q : j < 14
        · rw [if_pos (by omega), if_pos q, Nat.sub_zero]
        · rw [if_neg (by omega), if_neg q, b4, b3, b2, b1, hcb, Nat.zero_testBit]
          by_cases q0 : 14 ≤ j ∧ j < 14 + 4
          · rw [if_pos q0, bit_nat, decide_eq_false (p := j ≥ 26) (by omega), decide_eq_false (p := j ≥ 22) (by omega), decide_eq_false (p := j ≥ 18) (by omega), decide_eq_true (by omega)]; simp
          rw [if_neg q0]
          have z2 : rs2.testBit (j - 14) = false := hi_bit (k := 4) (by omega) (by omega)
          by_cases q1 : 18 ≤ j ∧ j < 18 + 4
          · rw [if_pos q1, bit_nat, z2, decide_eq_false (p := j ≥ 26) (by omega), decide_eq_false (p := j ≥ 22) (by omega), decide_eq_true (p := j ≥ 18) (by omega)]; simp
          rw [if_neg q1]
          have z1 : rs1.testBit (j - 18) = false := hi_bit (k := 4) (by omega) (by omega)
          by_cases q2 : 22 ≤ j ∧ j < 22 + 4
          · rw [if_pos q2, bit_nat, z2, z1, decide_eq_false (p := j ≥ 26) (by omega), decide_eq_true (p := j ≥ 22) (by omega)]; simp
          rw [if_neg q2]
          have z0 : rd.testBit (j - 22) = false := hi_bit (k := 4) (by omega) (by omega)
          by_cases q3 : 26 ≤ j ∧ j < 26 + 6
          · rw [if_pos q3, bit_nat, z2, z1, z0, decide_eq_true (p := j ≥ 26) (by omega)]; simp
          rw [if_neg q3, hi_bit (a := op) (k := 6) (by omega) (by omega), z2, z1, z0]; simp
      rw [this]; exact hq2

end
end Go.Insn

set_option linter.unusedSimpArgs false
set_option linter.unusedVariables false
set_option maxRecDepth 100000
namespace Go.Insn
open Go.Lift Go.Fn

section
variable {h : Heap}

end
end Go.Insn

set_option linter.unusedSimpArgs false
set_option linter.unusedVariables false
set_option maxRecDepth 100000
namespace Go.Insn
open Go.Lift Go.Fn

/-- How deep a Decimal may call itself. -/
def DecAt : Nat → Ifc → Prop
  | 0, _ => True
  | n + 1, U => ∃ U', DecAt n U' ∧ ∀ v κ h, zf41 U' v (fun r h => κ (.str r) h) h → U.callV (.fn 334 []) [.int .i64 v] κ h

theorem DecAt.less : ∀ {n : Nat} {U : Ifc}, DecAt (n + 1) U → DecAt n U
  | 0, _, _ => trivial
  | n + 1, U, ⟨U', d, f⟩ => ⟨U', DecAt.less d, f⟩

theorem digit_u8 {u : Nat} (h : u < 10) : IntKind.u8.wrap (IntKind.i64.wrap (48 + (u : Int))) = (((UInt8.ofNat (48 + u)).toNat : Nat) : Int) := by
  rcases (by omega : u = 0 ∨ u = 1 ∨ u = 2 ∨ u = 3 ∨ u = 4 ∨ u = 5 ∨ u = 6 ∨ u = 7 ∨ u = 8 ∨ u = 9) with rfl | rfl | rfl | rfl | rfl | rfl | rfl | rfl | rfl | rfl <;> decide

theorem Decimal_nat : ∀ {n : Nat} {U : Ifc} {u : Nat} {h : Heap} {Q : List UInt8 → Heap → Prop}, DecAt n U → n ≤ 20 → u ≤ 9223372036854775807 → u < 10 ^ (n + 1) → (∀ h', Keeps none_ h h' → (Lib.decDigits u).length ≤ n + 1 → Q (Lib.decDigits u) h') → zf41 U (u : Int) Q h := by
  intro n
  induction n with
  | zero =>
    intro U u h Q d hn h63 hu hq
    unfold zf41
    refine br_f (decide_eq_false (by omega)) (br_t (decide_eq_true (by omega)) ?_)
    refine al_of (fun b g hb ho k => ?_)
    rw [digit_u8 (by omega)] at ho
    have hq := hq g k (by rw [Lib.decDigits_one (by omega)]; exact Nat.le_refl 1)
    rw [Lib.decDigits_one (by omega)] at hq
    refine cellsS_of (vs := strCells [UInt8.ofNat (48 + u)]) ⟨rfl, fun p hp i v hv => ?_, fun hp => by cases hp⟩ ?_
    · cases hp
      rw [get_cells ho, Nat.zero_add]; exact hv
    · rw [bytesOf_str]; exact hq
  | succ n ih =>
    intro U u h Q d hn h63 hu hq
    by_cases h10 : u < 10
    · unfold zf41
      refine br_f (decide_eq_false (by omega)) (br_t (decide_eq_true (by omega)) ?_)
      refine al_of (fun b g hb ho k => ?_)
      rw [digit_u8 h10] at ho
      have hq := hq g k (by rw [Lib.decDigits_one h10]; simp)
      rw [Lib.decDigits_one h10] at hq
      refine cellsS_of (vs := strCells [UInt8.ofNat (48 + u)]) ⟨rfl, fun p hp i v hv => ?_, fun hp => by cases hp⟩ ?_
      · cases hp
        rw [get_cells ho, Nat.zero_add]; exact hv
      · rw [bytesOf_str]; exact hq
    · obtain ⟨U', d', f⟩ := d
      have hq10 : u / 10 < 10 ^ (n + 1) := by
        rw [Nat.pow_succ] at hu
        exact Nat.div_lt_of_lt_mul (by rw [Nat.mul_comm]; exact hu)
      unfold zf41
      refine br_f (decide_eq_false (by omega)) (br_f (decide_eq_false (by omega)) (nz_of (by decide) ?_))
      have e1 : IntKind.i64.wrap (Int.tdiv (u : Int) 10) = ((u / 10 : Nat) : Int) := by
        rw [Int.tdiv_eq_ediv_of_nonneg (by omega), wrap64] <;> omega
      rw [e1]
      refine f _ _ _ (ih d' (by omega) (by omega) hq10 (fun g1 k1 l1 => ?_))
      refine nz_of (by decide) ?_
      have e2 : Int.tmod (u : Int) 10 = ((u % 10 : Nat) : Int) := by
        rw [Int.tmod_eq_emod_of_nonneg (by omega)]; omega
      rw [e2]
      refine f _ _ _ (ih d' (by omega) (by omega) (Nat.lt_of_lt_of_le (Nat.mod_lt u (by decide)) (by rw [Nat.pow_succ]; have : 0 < 10 ^ n := Nat.pow_pos (by decide); omega)) (fun g2 k2 l2 => ?_))
      have ed : Lib.decDigits u = Lib.decDigits (u / 10) ++ Lib.decDigits (u % 10) := by
        conv => lhs; rw [Lib.decDigits, dif_neg h10]
        rw [Lib.decDigits_one (i := u % 10) (by omega)]
      refine ⟨by omega, ?_⟩
      rw [← ed]
      refine hq g2 (k1.trans k2) ?_
      rw [ed, List.length_append, Lib.decDigits_one (i := u % 10) (by omega)]
      simp
      omega

theorem Decimal_int {n : Nat} {U : Ifc} {v : Int} {h : Heap} {Q : List UInt8 → Heap → Prop} (d : DecAt (n + 1) U) (hn : n ≤ 20) (h63 : v.natAbs ≤ 9223372036854775807) (hv : v.natAbs < 10 ^ (n + 1)) (hq : ∀ h', Keeps none_ h h' → (Lib.itoa v).length ≤ n + 2 → Q (Lib.itoa v) h') : zf41 U v Q h := by
  by_cases h0 : v < 0
  · obtain ⟨U', d', f⟩ := d
    unfold zf41
    refine br_t (decide_eq_true h0) ?_
    have e : IntKind.i64.wrap (0 - v) = ((v.natAbs : Nat) : Int) := by rw [wrap64] <;> omega
    rw [e]
    refine f _ _ _ (Decimal_nat d' hn h63 hv (fun g k l => ?_))
    refine ⟨by simp; omega, ?_⟩
    have ei : Lib.itoa v = 45 :: Lib.decDigits v.natAbs := by unfold Lib.itoa; rw [if_pos h0]
    rw [ei] at hq
    exact hq g k (by simp; omega)
  · obtain ⟨u, rfl⟩ : ∃ u : Nat, v = (u : Int) := ⟨v.toNat, by omega⟩
    have ei : Lib.itoa (u : Int) = Lib.decDigits u := by unfold Lib.itoa; rw [if_neg h0]; rfl
    rw [ei] at hq
    exact Decimal_nat d.less hn (by omega) (by simpa using hv) (fun g k l => hq g k (by omega))

/-! ### tables -/

def ordOf (op : Int) : List UInt8 :=
  match rshape op with
  | 1 => if op = 37 then [100, 97] else [100, 97, 98]
  | 2 => if op ≥ 23 ∧ op ≤ 25 ∨ op = 36 ∨ op ≥ 46 then [100, 105, 97] else [100, 97, 105]
  | 3 => [98, 105, 97]
  | 4 => [97, 98, 109]
  | 5 => if op = 35 then [100, 109] else [100, 105]
  | 6 => [97]
  | _ => []

theorem Order_ref {n : Nat} (hn : n < 64) {h : Heap} {Q : List UInt8 → Heap → Prop} (hq : Q (ordOf (n : Int)) h) : zf45 (n : Int) Q h := by
  unfold zf45
  refine Shape_ref hn ?_
  rcases (by omega : n = 0 ∨ n = 1 ∨ n = 2 ∨ n = 3 ∨ n = 4 ∨ n = 5 ∨ n = 6 ∨ n = 7 ∨ n = 8 ∨ n = 9 ∨ n = 10 ∨ n = 11 ∨ n = 12 ∨ n = 13 ∨ n = 14 ∨ n = 15 ∨ n = 16 ∨ n = 17 ∨ n = 18 ∨ n = 19 ∨ n = 20 ∨ n = 21 ∨ n = 22 ∨ n = 23 ∨ n = 24 ∨ n = 25 ∨ n = 26 ∨ n = 27 ∨ n = 28 ∨ n = 29 ∨ n = 30 ∨ n = 31 ∨ n = 32 ∨ n = 33 ∨ n = 34 ∨ n = 35 ∨ n = 36 ∨ n = 37 ∨ n = 38 ∨ n = 39 ∨ n = 40 ∨ n = 41 ∨ n = 42 ∨ n = 43 ∨ n = 44 ∨ n = 45 ∨ n = 46 ∨ n = 47 ∨ n = 48 ∨ n = 49 ∨ n = 50 ∨ n = 51 ∨ n = 52 ∨ n = 53 ∨ n = 54 ∨ n = 55 ∨ n = 56 ∨ n = 57 ∨ n = 58 ∨ n = 59 ∨ n = 60 ∨ n = 61 ∨ n = 62 ∨ n = 63) with rfl | rfl | rfl | rfl | rfl | rfl | rfl | rfl | rfl | rfl | rfl | rfl | rfl | rfl | rfl | rfl | rfl | rfl | rfl | rfl | rfl | rfl | rfl | rfl | rfl | rfl | rfl | rfl | rfl | rfl | rfl | rfl | rfl | rfl | rfl | rfl | rfl | rfl | rfl | rfl | rfl | rfl | rfl | rfl | rfl | rfl | rfl | rfl | rfl | rfl | rfl | rfl | rfl | rfl | rfl | rfl | rfl | rfl | rfl | rfl | rfl | rfl | rfl | rfl <;> exact hq

end Go.Insn

set_option linter.unusedSimpArgs false
set_option linter.unusedVariables false
set_option maxRecDepth 100000
namespace Go.Insn
open Go.Lift Go.Fn

def namesL : List (List UInt8) := [97, 100, 100] :: [115, 117, 98] :: [97, 110, 100] :: [111, 114] :: [120, 111, 114] :: [115, 108, 108] :: [115, 114, 108] :: [115, 114, 97] :: [115, 108, 116] :: [115, 108, 116, 117] :: [109, 117, 108] :: [100, 105, 118, 117] :: [114, 101, 109, 117] :: [97, 100, 100, 105] :: [97, 110, 100, 105] :: [111, 114, 105] :: [120, 111, 114, 105] :: [115, 108, 108, 105] :: [115, 114, 108, 105] :: [115, 114, 97, 105] :: [115, 108, 116, 105] :: [108, 117, 105] :: [108, 100] :: [108, 119] :: [108, 98] :: [115, 100] :: [115, 119] :: [115, 98] :: [98, 101, 113] :: [98, 110, 101] :: [98, 108, 116] :: [98, 103, 101] :: [98, 108, 116, 117] :: [98, 103, 101, 117] :: [106, 97, 108] :: [106, 97, 108, 114] :: [108, 114] :: [115, 99] :: [97, 109, 111, 97, 100, 100] :: [97, 109, 111, 115, 119, 112] :: [102, 101, 110, 99, 101] :: [101, 99, 97, 108, 108] :: [115, 114, 101, 116] :: [119, 102, 105] :: [115, 102, 101, 110, 99, 101] :: [99, 115, 114, 114, 119] :: [99, 115, 114, 114, 115] :: [99, 115, 114, 114, 99] :: []

/-- An operand's text. -/
def part (d : Dec) (c : UInt8) : List UInt8 := if c = 100 then 120 :: Lib.itoa d.rd else if c = 97 then 120 :: Lib.itoa d.rs1 else if c = 98 then 120 :: Lib.itoa d.rs2 else Lib.itoa d.imm

/-- What is known of an instruction that was read. -/
structure DecIs (d : Dec) : Prop where
  op : 1 ≤ d.op ∧ d.op ≤ 48
  rd : 0 ≤ d.rd ∧ d.rd < 16
  rs1 : 0 ≤ d.rs1 ∧ d.rs1 < 16
  rs2 : 0 ≤ d.rs2 ∧ d.rs2 < 16
  imm : -131072 ≤ d.imm ∧ d.imm < 131072
  e : d.e = 0

section
variable {U : Ifc} {h0 h : Heap}

end
end Go.Insn

set_option linter.unusedSimpArgs false
set_option linter.unusedVariables false
set_option maxRecDepth 100000
namespace Go.Insn
open Go.Lift Go.Fn

theorem ord_len {n : Nat} (hn : n < 64) : (ordOf (n : Int)).length ≤ 3 := by
  have key : ∀ n : Fin 64, (ordOf ((n.val : Nat) : Int)).length ≤ 3 := by decide +kernel
  exact key ⟨n, hn⟩

theorem names_len : namesL.length = 48 := by decide +kernel

section
variable {U : Ifc} {h : Heap}

theorem Names_ref {Q : Sl → Heap → Prop} (hq : ∀ b h', h.obj b = none → h'.obj b = some (.cells (namesL.map V.str) false) → Keeps none_ h h' → Q ⟨some ⟨b, 0⟩, 48, 48⟩ h') : zf43 Q h := by
  unfold zf43
  exact al_of (fun b g hb ho k => hq b g hb ho k)

end
end Go.Insn

set_option linter.unusedSimpArgs false
set_option linter.unusedVariables false
set_option maxRecDepth 100000
namespace Go.Insn
open Go.Lift Go.Fn

section
variable {h : Heap}

theorem Contains_of {b c n : Nat} {ks : List Int} {mk : Bool} {rest : List V} (ho : h.obj b = some (.cells (ks.map (V.int .i64) ++ rest) mk)) (hn : ks.length = n) (hl : n ≤ 1000) (a : Int) {Q : Bool → Heap → Prop} (hq : Q (decide (a ∈ ks)) h) : zf54 ⟨some ⟨b, 0⟩, n, c⟩ a Q h := by
  unfold zf54 zf55 zf55.j2
  intro I HI
  have main : ∀ k i : Nat, i + k = n → a ∉ ks.take i → I ⟨some ⟨b, 0⟩, n, c⟩ a (n : Int) (i : Int) h := by
    intro k
    induction k with
    | zero =>
      intro i hi hni
      refine HI _ _ _ _ _ ?_
      unfold zf55.b2
      refine br_f (decide_eq_false (by omega)) ?_
      rw [List.take_of_length_le (by omega)] at hni
      rw [decide_eq_false hni] at hq
      exact hq
    | succ k ih =>
      intro i hi hni
      refine HI _ _ _ _ _ ?_
      unfold zf55.b2
      refine br_t (decide_eq_true (by omega)) (ix_of (by omega) (by show (i : Int) < (n : Int); omega) ?_)
      rw [der_some, Int.toNat_natCast]
      have hg : h.get b (0 + i * 1) = some (.int .i64 (ks[i]'(by omega))) := by
        rw [get_cells ho, Nat.zero_add, Nat.mul_one, List.getElem?_append_left (by simp; omega), List.getElem?_map, List.getElem?_eq_getElem (by omega)]
        rfl
      refine rdI_of hg ?_
      by_cases e : a = ks[i]'(by omega)
      · refine br_t (by rw [beq_iff_eq]; exact e) ?_
        have hm : a ∈ ks := by rw [e]; exact List.getElem_mem _
        rw [decide_eq_true hm] at hq
        show Q (decide ((i : Int) ≥ 0)) h
        rw [decide_eq_true (by omega)]; exact hq
      · refine br_f (beq_false_of_ne e) ?_
        have ew : IntKind.i64.wrap ((i : Int) + 1) = ((i + 1 : Nat) : Int) := by rw [wrap64] <;> omega
        rw [ew]
        refine ih (i + 1) (by omega) ?_
        rw [List.take_add_one, List.getElem?_eq_getElem (by omega)]
        intro hm
        rcases List.mem_append.1 hm with hm | hm
        · exact hni hm
        · simp at hm; exact e hm
  exact main n 0 (by omega) (by simp)

def ordTab : List (List UInt8) := [] :: [100, 97, 98] :: [100, 97, 105] :: [98, 105, 97] :: [97, 98, 109] :: [100, 105] :: [97] :: []

theorem Order_asm {n : Nat} (hn : n < 64) (hs : rshape (n : Int) ≠ -1) {Q : List UInt8 → Heap → Prop} (hq : ∀ h', Keeps none_ h h' → Q (ordOf (n : Int)) h') : zf8 (n : Int) Q h := by
  have key : ∀ n : Fin 64, rshape ((n.val : Nat) : Int) ≠ -1 → ordOf ((n.val : Nat) : Int) = (if ((n.val : Nat) : Int) = 37 then [100, 97] else if ((n.val : Nat) : Int) = 35 then [100, 109] else if ((n.val : Nat) : Int) ∈ ([23, 24, 25, 36, 46, 47, 48] : List Int) then [100, 105, 97] else ordTab.getD (rshape ((n.val : Nat) : Int)).toNat []) := by decide +kernel
  have key := key ⟨n, hn⟩ hs
  simp only at key
  rw [key] at hq
  unfold zf8
  refine Shape_of (fun g1 k1 => ?_)
  rw [shapeOf_of hs]
  simp only [Option.getD_some]
  by_cases e1 : (n : Int) = 37
  · rw [if_pos e1] at hq
    exact br_t (by rw [beq_iff_eq]; exact e1) (hq g1 k1)
  rw [if_neg e1] at hq
  refine br_f (beq_false_of_ne e1) ?_
  by_cases e2 : (n : Int) = 35
  · rw [if_pos e2] at hq
    exact br_t (by rw [beq_iff_eq]; exact e2) (hq g1 k1)
  rw [if_neg e2] at hq
  refine br_f (beq_false_of_ne e2) ?_
  refine al_of (fun b3 g3 hb3 ho3 k3 => ?_)
  refine Contains_of (ks := [23, 24, 25, 36, 46, 47, 48]) (rest := []) (mk := false) (by rw [List.append_nil]; exact ho3) rfl (by decide) (n : Int) ?_
  by_cases e3 : (n : Int) ∈ ([23, 24, 25, 36, 46, 47, 48] : List Int)
  · rw [if_pos e3] at hq
    rw [decide_eq_true e3]
    exact br_t rfl (hq g3 (k1.trans k3))
  rw [if_neg e3] at hq
  rw [decide_eq_false e3]
  refine br_f rfl (al_of (fun b5 g5 hb5 ho5 k5 => ?_))
  have hr := rshape_range hn
  obtain ⟨s, es⟩ : ∃ s : Nat, rshape (n : Int) = (s : Int) := ⟨(rshape (n : Int)).toNat, by omega⟩
  rw [es] at hq ⊢
  refine ix_of (by omega) (by omega) ?_
  rw [Int.toNat_natCast] at hq ⊢
  have hg : g5.get b5 (0 + s * 1) = some (.str (ordTab.getD s [])) := by
    rw [get_cells ho5, Nat.zero_add, Nat.mul_one]
    rcases (by omega : s = 0 ∨ s = 1 ∨ s = 2 ∨ s = 3 ∨ s = 4 ∨ s = 5 ∨ s = 6) with rfl | rfl | rfl | rfl | rfl | rfl | rfl <;> rfl
  exact rdStr_of hg (hq g5 ((k1.trans k3).trans k5))

end
end Go.Insn

set_option linter.unusedSimpArgs false
set_option linter.unusedVariables false
set_option maxRecDepth 100000
namespace Go.Insn
open Go.Lift Go.Fn

theorem rune_ascii {s : List UInt8} {i : Nat} (hi : i < s.length) (ha : (s.getD i 0).toNat < 128) : runeAt s i = ((s.getD i 0).toNat, 1) := by
  unfold runeAt Utf8.decode
  have e : ((⟨s.toArray⟩ : ByteArray).get! (i + 0)).toNat = (s.getD i 0).toNat := by
    show ((s.toArray)[i]!).toNat = _
    rw [List.getD_eq_getElem?_getD, List.getElem?_eq_getElem hi]
    simp [hi]
  simp only [e]
  rw [if_pos ha]

section
variable {h0 h : Heap} {W : Nat → Prop} {L : List (Nat × HO)}

end

section
variable {U : Ifc} {h0 h : Heap}

end
end Go.Insn

set_option linter.unusedSimpArgs false
set_option linter.unusedVariables false
set_option maxRecDepth 100000
namespace Go.Asm
open Go.Lift Go.Fn Go.Insn

theorem u8n (n : Nat) (h : n < 256) : (UInt8.ofNat n).toNat = n := by simp; omega

/-- The last byte of a rune beyond ASCII is beyond ASCII. -/
theorem runeStr_big {x : Nat} (hx : 128 ≤ x) (h2 : x ≤ 1114111) : ∃ l : List UInt8, runeStr (x : Int) = l ∧ 2 ≤ l.length ∧ l.length ≤ 4 ∧ 128 ≤ (l.getD (l.length - 1) 0).toNat := by
  unfold runeStr Utf8.encode
  have hc : 128 ≤ (if Utf8.valid (x : Int) = true then ((x : Int)).toNat else Utf8.runeError) ∧ (if Utf8.valid (x : Int) = true then ((x : Int)).toNat else Utf8.runeError) ≤ 1114111 := by
    split
    · constructor <;> omega
    · decide
  simp only
  generalize (if Utf8.valid (x : Int) = true then ((x : Int)).toNat else Utf8.runeError) = c at hc ⊢
  obtain ⟨c1, c2⟩ := hc
  rw [if_neg (by omega)]
  split
  · exact ⟨_, rfl, by simp, by simp, by show 128 ≤ (UInt8.ofNat (128 + c % 64)).toNat; rw [u8n _ (by omega)]; omega⟩
  · split
    · exact ⟨_, rfl, by simp, by simp, by show 128 ≤ (UInt8.ofNat (128 + c % 64)).toNat; rw [u8n _ (by omega)]; omega⟩
    · exact ⟨_, rfl, by simp, by simp, by show 128 ≤ (UInt8.ofNat (128 + c % 64)).toNat; rw [u8n _ (by omega)]; omega⟩

theorem indexByte_none : ∀ {l : List UInt8} {c : UInt8}, c ∉ l → Lib.indexByte l c = -1
  | [], _, _ => rfl
  | b :: l, c, h => by
    have h1 : b ≠ c := fun e => h (by rw [e]; exact List.mem_cons_self)
    have h2 := indexByte_none (l := l) (c := c) (fun hm => h (List.mem_cons_of_mem _ hm))
    unfold Lib.indexByte
    rw [if_neg (by simpa using h1), h2, if_pos (by decide)]

def sepS : List UInt8 := [32, 44, 9, 40, 41]

theorem sep_of {x : Nat} (hx : x ≤ 1114111) {Q : Bool → Heap → Prop} {h : Heap} (hq : ∀ h', Q (sepR x) h') : zf10 (x : Int) Q h := by
  unfold zf10 zf59 zf66
  refine br_t (decide_eq_true (by omega)) ?_
  by_cases h1 : x < 128
  · refine br_t (decide_eq_true (by omega)) ?_
    have key : ∀ x : Fin 128, decide (Lib.indexByte [32, 44, 9, 40, 41] (IntKind.u8.wrap ((x.val : Nat) : Int)).toNat.toUInt8 ≥ 0) = sepR x.val := by decide +kernel
    have := key ⟨x, h1⟩
    simp only at this
    unfold zf65 indexByteI
    show Q (decide (Lib.indexByte [32, 44, 9, 40, 41] (IntKind.u8.wrap (x : Int)).toNat.toUInt8 ≥ 0)) h
    rw [this]
    exact hq h
  · refine br_f (decide_eq_false (by omega)) ?_
    have hs : sepR x = false := by
      unfold sepR
      simp only [Bool.or_eq_false_iff, beq_eq_false_iff_ne]
      omega
    rw [hs] at hq
    have hq1 : ∀ h', Q (decide ((-1 : Int) ≥ 0)) h' := fun h' => by
      have hm1 : (decide ((-1 : Int) ≥ 0)) = false := by decide
      rw [hm1]; exact hq h'
    unfold zf66.j36
    by_cases h2 : (x : Int) = 65533
    · refine br_t (by rw [beq_iff_eq]; exact h2) (fun b hb => ?_)
      unfold zf66.j38
      intro I H
      have main : ∀ k pos : Nat, pos + k = 5 → ∀ h : Heap, h.obj b = some (.siter sepS pos) → I ⟨b, 0⟩ h := by
        intro k
        induction k with
        | zero =>
          intro pos hp h ho
          refine H _ _ ?_
          unfold zf66.b38
          refine ⟨rfl, sepS, pos, ho, ?_⟩
          rw [if_neg (by show ¬ pos < 5; omega)]
          exact hq1 h
        | succ k ih =>
          intro pos hp h ho
          refine H _ _ ?_
          unfold zf66.b38
          refine ⟨rfl, sepS, pos, ho, ?_⟩
          have hb : pos < 5 := by omega
          have ha : ∀ i : Fin 5, (sepS.getD i.val 0).toNat < 128 := by decide
          have ha := ha ⟨pos, hb⟩
          rw [if_pos (by show pos < 5; omega), rune_ascii (by show pos < 5; omega) ha]
          refine br_f (beq_false_of_ne (by show (((sepS.getD pos 0).toNat : Nat) : Int) ≠ 65533; simp only at ha; omega)) ?_
          exact ih (pos + 1) (by omega) _ (by simp [Heap.setO])
      exact main 5 0 rfl _ Heap.new_obj
    · refine br_f (beq_false_of_ne h2) ?_
      have fin : zf66.j1 [32, 44, 9, 40, 41] (x : Int) (fun r1 h => Q (decide (r1 ≥ 0)) h) h := by
        obtain ⟨l, hl, l2, l4, lb⟩ := runeStr_big (x := x) (by omega) hx
        unfold zf66.j1 zf66.j5
        rw [hl]
        intro I H
        refine H _ _ _ _ _ ?_
        unfold zf66.b5
        have ew : IntKind.i64.wrap ((l.length : Int) - 1) = ((l.length - 1 : Nat) : Int) := by rw [wrap64] <;> omega
        rw [ew]
        generalize hn : l.length - 1 = n at lb ⊢
        have ew2 : IntKind.i64.wrap ((n : Int) + 1) = ((n + 1 : Nat) : Int) := by rw [wrap64] <;> omega
        have hne : ∀ i : Fin 5, (sepS.getD i.val 0).toNat < 128 := by decide
        refine br_t (decide_eq_true (by show (n : Int) < 5; omega)) (ix_of (by omega) (by show (n : Int) < 5; omega) (ix_of (by omega) (by omega) ?_))
        rw [Int.toNat_natCast]
        have h5 := hne ⟨n, by omega⟩
        simp only at h5
        refine br_t (by rw [bne_iff_ne]; show (((sepS.getD n 0).toNat : Int)) ≠ _; omega) ?_
        rw [ew2]
        refine sb_of (by omega) (by show ((n + 1 : Nat) : Int) ≤ 5; omega) (ix_of (by omega) (by omega) ?_)
        rw [Int.toNat_natCast, Int.toNat_natCast]
        unfold zf65 indexByteI
        generalize hc : l.getD n 0 = c at lb
        have ec : ((c.toNat : Nat) : Int).toNat.toUInt8 = c := by simp
        rw [ec, indexByte_none (c := c)]
        · refine br_t (by decide) ?_
          exact hq1 h
        · intro hm
          have : c ∈ sepS := List.mem_of_mem_drop (List.mem_of_mem_take hm)
          have ks : ∀ c ∈ sepS, c.toNat < 128 := by decide
          have := ks c this
          omega
      unfold zf72
      generalize decide (0 ≤ (x : Int)) = d1
      generalize decide ((x : Int) < 55296) = d2
      generalize decide (57343 < (x : Int)) = d3
      generalize decide ((x : Int) ≤ 1114111) = d4
      cases d1 <;> cases d2 <;> cases d3 <;> cases d4 <;> first | exact fin | exact hq1 h

end Go.Asm
