/- The reference's instructions that may be. -/
import Derived.Test.YtgigbjieppllgaaDoorShB
set_option linter.unusedSimpArgs false
set_option linter.unusedVariables false
set_option maxRecDepth 100000
namespace Go.Insn
open Go.Lift Go.Fn

theorem rshape_range {n : Nat} (hn : n < 64) : rshape (n : Int) = -1 ∨ rshape (n : Int) = 0 ∨ rshape (n : Int) = 1 ∨ rshape (n : Int) = 2 ∨ rshape (n : Int) = 3 ∨ rshape (n : Int) = 4 ∨ rshape (n : Int) = 5 ∨ rshape (n : Int) = 6 := by
  have key : ∀ n : Fin 64, rshape ((n.val : Nat) : Int) = -1 ∨ rshape ((n.val : Nat) : Int) = 0 ∨ rshape ((n.val : Nat) : Int) = 1 ∨ rshape ((n.val : Nat) : Int) = 2 ∨ rshape ((n.val : Nat) : Int) = 3 ∨ rshape ((n.val : Nat) : Int) = 4 ∨ rshape ((n.val : Nat) : Int) = 5 ∨ rshape ((n.val : Nat) : Int) = 6 := by decide +kernel
  exact key ⟨n, hn⟩

theorem shapeOf_of {op : Int} (h : rshape op ≠ -1) : shapeOf op = some (rshape op) := by
  unfold rshape at h ⊢
  cases hs : shapeOf op with
  | none => rw [hs] at h; exact absurd rfl h
  | some s => rfl

theorem shapeOf_none {n : Nat} (hn : n < 64) (h : rshape (n : Int) = -1) : shapeOf (n : Int) = none := by
  have key : ∀ n : Fin 64, rshape ((n.val : Nat) : Int) = -1 → shapeOf ((n.val : Nat) : Int) = none := by decide +kernel
  exact key ⟨n, hn⟩ h

theorem regOk_t {r : Nat} (h : r < 16) : regOk (r : Int) true = true := by
  unfold regOk
  rw [decide_eq_false (by omega), decide_eq_false (p := (r : Int) > 15) (by omega)]
  simp

theorem regOk_f {r : Nat} (h : r < 16) : regOk (r : Int) false = ((r : Int) == 0) := by
  unfold regOk
  rw [decide_eq_false (by omega), decide_eq_false (p := (r : Int) > 15) (by omega)]
  by_cases e : r = 0
  · subst e; rfl
  · rw [decide_eq_true (by omega), beq_false_of_ne (by omega)]; rfl

section
variable {h : Heap}

/-- A number that the shape's field has. -/
def FitsB (sh v : Int) : Prop := (sh = 5 → -131072 ≤ v ∧ v < 131072) ∧ (sh ≠ 5 → -8192 ≤ v ∧ v < 8192)

theorem imm_ref {n : Nat} {v : Int} (hn : n < 64) (hf : FitsB (rshape (n : Int)) v) {Q : Bool → Heap → Prop} (hq : Q (immOk (n : Int) (rshape (n : Int)) v) h) : palisaderef02_imm (n : Int) v Q h := by
  unfold immOk at hq
  have j5 : ¬ (n = 18 ∨ n = 19 ∨ n = 20) → ¬ (n = 46 ∨ n = 47 ∨ n = 48) → palisaderef02_imm.j5 (n : Int) v Q h := by
    intro h1 h2
    rw [if_neg (by omega), if_neg (by omega)] at hq
    unfold palisaderef02_imm.j5
    refine Shape_ref hn ?_
    by_cases e5 : rshape (n : Int) = 5
    · rw [if_neg (by omega), if_pos e5, wsign_id18 (hf.1 e5).1 (hf.1 e5).2] at hq
      rw [e5]
      refine br_f rfl (br_f rfl (br_f rfl (br_t rfl (Fits18 (hf.1 e5).1 (hf.1 e5).2 ?_))))
      rw [beq_self_eq_true] at hq; exact hq
    · have hf := hf.2 e5
      by_cases e2 : rshape (n : Int) = 2 ∨ rshape (n : Int) = 3 ∨ rshape (n : Int) = 4
      · rw [if_pos e2, wsign_id14 hf.1 hf.2, beq_self_eq_true] at hq
        have F := Fits14 (h := h) hf.1 hf.2 hq
        rcases e2 with e | e | e
        · rw [e]; exact br_t rfl F
        · rw [e]; exact br_f rfl (br_t rfl F)
        · rw [e]; exact br_f rfl (br_f rfl (br_t rfl F))
      · rw [if_neg e2, if_neg e5] at hq
        exact br_f (beq_false_of_ne (by omega)) (br_f (beq_false_of_ne (by omega)) (br_f (beq_false_of_ne (by omega)) (br_f (beq_false_of_ne e5) hq)))
  have j3 : ¬ (n = 18 ∨ n = 19 ∨ n = 20) → palisaderef02_imm.j3 (n : Int) v Q h := by
    intro h1
    unfold palisaderef02_imm.j3
    by_cases h2 : n = 46 ∨ n = 47 ∨ n = 48
    · rw [if_neg (by omega), if_pos (by omega)] at hq
      refine br_t (decide_eq_true (by omega)) (br_t (decide_eq_true (by omega)) ?_)
      by_cases hv : v ≥ 0
      · refine br_t (decide_eq_true hv) ?_
        rw [decide_eq_true hv, Bool.true_and] at hq
        rw [show decide (v ≤ 4095) = decide (v < 4096) by rw [decide_eq_decide]; omega]; exact hq
      · refine br_f (decide_eq_false hv) ?_
        rw [decide_eq_false hv, Bool.false_and] at hq; exact hq
    · by_cases h3 : n ≥ 46
      · exact br_t (decide_eq_true (by omega)) (br_f (decide_eq_false (by omega)) (j5 h1 h2))
      · exact br_f (decide_eq_false (by omega)) (j5 h1 h2)
  unfold palisaderef02_imm
  by_cases h1 : n = 18 ∨ n = 19 ∨ n = 20
  · rw [if_pos (by omega)] at hq
    refine br_t (decide_eq_true (by omega)) (br_t (decide_eq_true (by omega)) ?_)
    by_cases hv : v ≥ 0
    · refine br_t (decide_eq_true hv) ?_
      rw [decide_eq_true hv, Bool.true_and] at hq
      rw [show decide (v ≤ 63) = decide (v < 64) by rw [decide_eq_decide]; omega]; exact hq
    · refine br_f (decide_eq_false hv) ?_
      rw [decide_eq_false hv, Bool.false_and] at hq; exact hq
  · by_cases h3 : n ≥ 18
    · exact br_t (decide_eq_true (by omega)) (br_f (decide_eq_false (by omega)) (j3 h1))
    · exact br_f (decide_eq_false (by omega)) (j3 h1)

theorem reg_ref {r : Nat} (hr : r < 16) {Q : Bool → Heap → Prop} (hq : Q true h) : palisaderef02_reg (r : Int) Q h := by
  unfold palisaderef02_reg
  refine br_t (decide_eq_true (by omega)) ?_
  rw [decide_eq_true (by omega)]; exact hq

theorem Valid_ref {n rd rs1 rs2 : Nat} {v : Int} (hn : n < 64) (h1 : rd < 16) (h2 : rs1 < 16) (h3 : rs2 < 16) (hf : FitsB (rshape (n : Int)) v) {Q : Bool → Heap → Prop} (hq : ∀ h', Keeps none_ h h' → Q (validOf (n : Int) rd rs1 rs2 v) h') : palisaderef02_Valid (n : Int) rd rs1 rs2 v Q h := by
  unfold palisaderef02_Valid
  refine al_of (fun b g hb ho k => ?_)
  refine loc_I ho rfl (Shape_ref hn ?_)
  have hq := hq g k
  by_cases en : rshape (n : Int) = -1
  · refine br_t (by rw [en]; rfl) ?_
    unfold validOf at hq
    rw [shapeOf_none hn en] at hq
    exact hq
  refine br_f (decide_eq_false (by have := rshape_range hn; omega)) ?_
  refine loc_I ho rfl (reg_ref h1 (br_f rfl (loc_I ho rfl (reg_ref h2 (br_f rfl (loc_I ho rfl (reg_ref h3 (br_f rfl (loc_I ho rfl (loc_I ho rfl (imm_ref hn hf ?_))))))))))) 
  unfold validOf at hq
  rw [shapeOf_of en] at hq
  simp only at hq
  cases hi : immOk (n : Int) (rshape (n : Int)) v with
  | false => rw [hi, Bool.false_and] at hq; exact br_t rfl hq
  | true =>
    rw [hi, Bool.true_and] at hq
    refine br_f rfl ?_
    rcases rshape_range hn with e' | e | e | e | e | e | e | e
    · exact absurd e' en
    · rw [e] at hq ⊢
      replace hq : Q (!((n : Int) == 37 && (rs2 : Int) != 0) && (regOk rd false && (regOk rs1 false && (regOk rs2 false && true)))) g := hq
      rw [regOk_f h1, regOk_f h2, regOk_f h3] at hq
      unfold palisaderef02_Valid.j4 palisaderef02_Valid.j5 palisaderef02_Valid.j6
      refine br_f rfl (br_f rfl ?_)
      refine br_f rfl ?_
      have n37 : ((n : Int) == 37) = false := beq_false_of_ne (fun hh => by rw [hh] at e; revert e; decide)
      rw [n37] at hq
      refine br_f rfl (br_f rfl ?_)
      unfold palisaderef02_Valid.j7
      refine br_f rfl (loc_I ho rfl ?_)
      by_cases z0 : rd = 0
      case neg => exact br_f (beq_false_of_ne (by omega)) (by rw [show (((rd : Nat) : Int) == 0) = false from beq_false_of_ne (by omega)] at hq; simpa using hq)
      subst z0
      refine br_t rfl ?_
      refine br_f rfl (loc_I ho rfl ?_)
      by_cases z1 : rs1 = 0
      case neg => exact br_f (beq_false_of_ne (by omega)) (by rw [show (((rs1 : Nat) : Int) == 0) = false from beq_false_of_ne (by omega)] at hq; simpa using hq)
      subst z1
      refine br_t rfl ?_
      refine br_f rfl (loc_I ho rfl ?_)
      simpa using hq
    · rw [e] at hq ⊢
      replace hq : Q (!((n : Int) == 37 && (rs2 : Int) != 0) && (regOk rd true && (regOk rs1 true && (regOk rs2 true && true)))) g := hq
      rw [regOk_t h1, regOk_t h2, regOk_t h3] at hq
      unfold palisaderef02_Valid.j4 palisaderef02_Valid.j5 palisaderef02_Valid.j6
      refine br_t rfl ?_
      refine br_t rfl ?_
      refine br_t rfl (loc_I ho rfl ?_)
      by_cases e37 : n = 37
      · subst e37
        refine br_f rfl (br_f rfl ?_)
        unfold palisaderef02_Valid.j7
        refine br_t rfl (br_t rfl (br_f rfl (loc_I ho rfl ?_)))
        by_cases z : rs2 = 0
        · subst z; exact hq
        · rw [beq_false_of_ne (by omega)]
          rw [show (!(((37 : Nat) : Int) == 37 && ((rs2 : Nat) : Int) != 0) && (true && (true && (true && true)))) = false by
            have : (((rs2 : Nat) : Int) != 0) = true := by rw [bne_iff_ne]; omega
            rw [this]; rfl] at hq
          exact hq
      · refine br_t (by rw [bne_iff_ne]; omega) ?_
        unfold palisaderef02_Valid.j7
        refine br_t rfl (br_t rfl (br_t rfl ?_))
        rw [show ((n : Int) == 37) = false from beq_false_of_ne (by omega)] at hq
        exact hq
    · rw [e] at hq ⊢
      replace hq : Q (!((n : Int) == 37 && (rs2 : Int) != 0) && (regOk rd true && (regOk rs1 true && (regOk rs2 false && true)))) g := hq
      rw [regOk_t h1, regOk_t h2, regOk_f h3] at hq
      unfold palisaderef02_Valid.j4 palisaderef02_Valid.j5 palisaderef02_Valid.j6
      refine br_f rfl (br_t rfl ?_)
      refine br_t rfl ?_
      have n37 : ((n : Int) == 37) = false := beq_false_of_ne (fun hh => by rw [hh] at e; revert e; decide)
      rw [n37] at hq
      refine br_f rfl (br_f rfl ?_)
      unfold palisaderef02_Valid.j7
      refine br_t rfl ?_
      refine br_t rfl ?_
      refine br_f rfl (loc_I ho rfl ?_)
      simpa using hq
    · rw [e] at hq ⊢
      replace hq : Q (!((n : Int) == 37 && (rs2 : Int) != 0) && (regOk rd false && (regOk rs1 true && (regOk rs2 true && true)))) g := hq
      rw [regOk_f h1, regOk_t h2, regOk_t h3] at hq
      unfold palisaderef02_Valid.j4 palisaderef02_Valid.j5 palisaderef02_Valid.j6
      refine br_f rfl (br_f rfl ?_)
      refine br_t rfl ?_
      have n37 : ((n : Int) == 37) = false := beq_false_of_ne (fun hh => by rw [hh] at e; revert e; decide)
      rw [n37] at hq
      refine br_f rfl (br_t rfl ?_)
      unfold palisaderef02_Valid.j7
      refine br_f rfl (loc_I ho rfl ?_)
      by_cases z0 : rd = 0
      case neg => exact br_f (beq_false_of_ne (by omega)) (by rw [show (((rd : Nat) : Int) == 0) = false from beq_false_of_ne (by omega)] at hq; simpa using hq)
      subst z0
      refine br_t rfl ?_
      refine br_t rfl ?_
      refine br_t rfl ?_
      simpa using hq
    · rw [e] at hq ⊢
      replace hq : Q (!((n : Int) == 37 && (rs2 : Int) != 0) && (regOk rd false && (regOk rs1 true && (regOk rs2 true && true)))) g := hq
      rw [regOk_f h1, regOk_t h2, regOk_t h3] at hq
      unfold palisaderef02_Valid.j4 palisaderef02_Valid.j5 palisaderef02_Valid.j6
      refine br_f rfl (br_f rfl ?_)
      refine br_t rfl ?_
      have n37 : ((n : Int) == 37) = false := beq_false_of_ne (fun hh => by rw [hh] at e; revert e; decide)
      rw [n37] at hq
      refine br_f rfl (br_f rfl ?_)
      unfold palisaderef02_Valid.j7
      refine br_f rfl (loc_I ho rfl ?_)
      by_cases z0 : rd = 0
      case neg => exact br_f (beq_false_of_ne (by omega)) (by rw [show (((rd : Nat) : Int) == 0) = false from beq_false_of_ne (by omega)] at hq; simpa using hq)
      subst z0
      refine br_t rfl ?_
      refine br_t rfl ?_
      refine br_t rfl ?_
      simpa using hq
    · rw [e] at hq ⊢
      replace hq : Q (!((n : Int) == 37 && (rs2 : Int) != 0) && (regOk rd true && (regOk rs1 false && (regOk rs2 false && true)))) g := hq
      rw [regOk_t h1, regOk_f h2, regOk_f h3] at hq
      unfold palisaderef02_Valid.j4 palisaderef02_Valid.j5 palisaderef02_Valid.j6
      refine br_f rfl (br_f rfl ?_)
      refine br_t rfl ?_
      have n37 : ((n : Int) == 37) = false := beq_false_of_ne (fun hh => by rw [hh] at e; revert e; decide)
      rw [n37] at hq
      refine br_f rfl (br_f rfl ?_)
      unfold palisaderef02_Valid.j7
      refine br_t rfl ?_
      refine br_f rfl (loc_I ho rfl ?_)
      by_cases z1 : rs1 = 0
      case neg => exact br_f (beq_false_of_ne (by omega)) (by rw [show (((rs1 : Nat) : Int) == 0) = false from beq_false_of_ne (by omega)] at hq; simpa using hq)
      subst z1
      refine br_t rfl ?_
      refine br_f rfl (loc_I ho rfl ?_)
      simpa using hq
    · rw [e] at hq ⊢
      replace hq : Q (!((n : Int) == 37 && (rs2 : Int) != 0) && (regOk rd false && (regOk rs1 true && (regOk rs2 false && true)))) g := hq
      rw [regOk_f h1, regOk_t h2, regOk_f h3] at hq
      unfold palisaderef02_Valid.j4 palisaderef02_Valid.j5 palisaderef02_Valid.j6
      refine br_f rfl (br_f rfl ?_)
      refine br_t rfl ?_
      have n37 : ((n : Int) == 37) = false := beq_false_of_ne (fun hh => by rw [hh] at e; revert e; decide)
      rw [n37] at hq
      refine br_f rfl (br_f rfl ?_)
      unfold palisaderef02_Valid.j7
      refine br_f rfl (loc_I ho rfl ?_)
      by_cases z0 : rd = 0
      case neg => exact br_f (beq_false_of_ne (by omega)) (by rw [show (((rd : Nat) : Int) == 0) = false from beq_false_of_ne (by omega)] at hq; simpa using hq)
      subst z0
      refine br_t rfl ?_
      refine br_t rfl ?_
      refine br_f rfl (loc_I ho rfl ?_)
      simpa using hq

end
end Go.Insn
