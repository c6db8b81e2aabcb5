/- The reference's fields and numbers, in closed form; the same of the program's. -/
import Derived.Test.YtcaeaolgijjjnaaGreatDoorKa

set_option linter.unusedSimpArgs false
set_option linter.unusedVariables false
set_option maxRecDepth 100000
namespace Go.Insn
open Go.Lift Go.Fn

def fld (w at_ n : Nat) : Int := ((w / 2 ^ at_ % 2 ^ n : Nat) : Int)
def sgn (v : Int) (n : Nat) : Int := if v ≥ 2 ^ (n - 1) then v - 2 ^ n else v

theorem fdiv_nat (w k : Nat) : Int.fdiv (w : Int) (2 ^ k) = ((w / 2 ^ k : Nat) : Int) := by
  rw [show ((2 : Int) ^ k) = ((2 ^ k : Nat) : Int) by simp]
  exact (Int.ofNat_fdiv w (2 ^ k)).symm

theorem shr64 {w k : Nat} (hk : k ≤ 63) : shrI .u64 (w : Int) (k : Int) = ((w / 2 ^ k : Nat) : Int) := by
  unfold shrI
  rw [show min ((k : Int)).toNat IntKind.u64.bits = k by show min _ 64 = k; simp; omega]
  exact fdiv_nat w k

theorem and_mask {a n : Nat} (ha : a < 2 ^ 32) (hn : n ≤ 32) : ibits .and .u64 (a : Int) (((2 ^ n - 1 : Nat)) : Int) = ((a % 2 ^ n : Nat) : Int) := by
  have hp : 2 ^ n ≤ 2 ^ 32 := Nat.pow_le_pow_right (by decide) hn
  have h0 : 0 < 2 ^ n := Nat.pow_pos (by decide)
  have e : ibits .and .u64 (a : Int) (((2 ^ n - 1 : Nat)) : Int) = IntKind.u64.wrap ((BitVec.ofInt 64 (a : Int) &&& BitVec.ofInt 64 (((2 ^ n - 1 : Nat)) : Int)).toNat : Int) := rfl
  rw [e, BitVec.toNat_and, BitVec.toNat_ofInt, BitVec.toNat_ofInt]
  have e1 : (((a : Int) % ((2 ^ 64 : Nat) : Int)).toNat) = a := by omega
  have e2 : ((((2 ^ n - 1 : Nat) : Int) % ((2 ^ 64 : Nat) : Int)).toNat) = 2 ^ n - 1 := by omega
  rw [e1, e2, Nat.and_two_pow_sub_one_eq_mod]
  have : a % 2 ^ n < 2 ^ n := Nat.mod_lt _ h0
  rw [wrapu64 (by omega) (by omega)]

theorem wfield_eq {w at_ n : Nat} (hw : w < 2 ^ 32) (h : at_ + n ≤ 32) : wfield (w : Int) (at_ : Int) (n : Int) = fld w at_ n := by
  unfold wfield fld
  have hp : 2 ^ n ≤ 2 ^ 32 := Nat.pow_le_pow_right (by decide) (by omega)
  have h0 : 0 < 2 ^ n := Nat.pow_pos (by decide)
  rw [wrapu64 (x := (w : Int)) (by omega) (by omega), shr64 (by omega)]
  have em : wmask (n : Int) = ((2 ^ n - 1 : Nat) : Int) := by
    unfold wmask shlI
    rw [show min ((n : Int)).toNat IntKind.u64.bits = n by show min _ 64 = n; simp; omega, Int.one_mul]
    rw [show ((2 : Int) ^ n) = ((2 ^ n : Nat) : Int) by simp]
    rw [wrapu64 (x := ((2 ^ n : Nat) : Int)) (by omega) (by omega), wrapu64 (by omega) (by omega)]
    omega
  have hd : w / 2 ^ at_ ≤ w := Nat.div_le_self _ _
  rw [em, and_mask (by omega) (by omega)]
  have : w / 2 ^ at_ % 2 ^ n < 2 ^ n := Nat.mod_lt _ h0
  rw [wrap64 (by omega) (by omega)]

section
variable {h : Heap}

end
end Go.Insn

set_option linter.unusedSimpArgs false
set_option linter.unusedVariables false
set_option maxRecDepth 100000
namespace Go.Insn
open Go.Lift Go.Fn

theorem wrap64_hi {x : Int} (h1 : 9223372036854775808 ≤ x) (h2 : x < 18446744073709551616) : IntKind.i64.wrap x = x - 18446744073709551616 := by
  simp only [IntKind.wrap, IntKind.bits, IntKind.signed]
  simp
  split <;> omega

theorem sgn14 (v : Int) : sgn v 14 = if v ≥ 8192 then v - 16384 else v := by
  unfold sgn
  rw [show (2 : Int) ^ (14 - 1) = 8192 by decide, show (2 : Int) ^ 14 = 16384 by decide]

theorem sgn18 (v : Int) : sgn v 18 = if v ≥ 131072 then v - 262144 else v := by
  unfold sgn
  rw [show (2 : Int) ^ (18 - 1) = 131072 by decide, show (2 : Int) ^ 18 = 262144 by decide]

theorem wsign_id14 {v : Int} (h1 : -8192 ≤ v) (h2 : v < 8192) : wsign v 14 = v := by
  unfold wsign shlI shrI
  rw [show IntKind.i64.wrap (64 - 14) = 50 by decide, show (2 : Int) ^ min ((50 : Int)).toNat IntKind.i64.bits = 1125899906842624 by decide]
  rw [wrap64 (by omega) (by omega)]
  exact Int.mul_fdiv_cancel v (by decide)

theorem wsign_id18 {v : Int} (h1 : -131072 ≤ v) (h2 : v < 131072) : wsign v 18 = v := by
  unfold wsign shlI shrI
  rw [show IntKind.i64.wrap (64 - 18) = 46 by decide, show (2 : Int) ^ min ((46 : Int)).toNat IntKind.i64.bits = 70368744177664 by decide]
  rw [wrap64 (by omega) (by omega)]
  exact Int.mul_fdiv_cancel v (by decide)

theorem wsign14 {v : Int} (h1 : 0 ≤ v) (h2 : v < 16384) : wsign v 14 = sgn v 14 := by
  rw [sgn14]
  by_cases h : v ≥ 8192
  · rw [if_pos h]
    unfold wsign shlI shrI
    rw [show IntKind.i64.wrap (64 - 14) = 50 by decide, show (2 : Int) ^ min ((50 : Int)).toNat IntKind.i64.bits = 1125899906842624 by decide]
    rw [wrap64_hi (by omega) (by omega), show v * 1125899906842624 - 18446744073709551616 = (v - 16384) * 1125899906842624 by omega]
    exact Int.mul_fdiv_cancel _ (by decide)
  · rw [if_neg h]
    exact wsign_id14 (by omega) (by omega)

theorem wsign18 {v : Int} (h1 : 0 ≤ v) (h2 : v < 262144) : wsign v 18 = sgn v 18 := by
  rw [sgn18]
  by_cases h : v ≥ 131072
  · rw [if_pos h]
    unfold wsign shlI shrI
    rw [show IntKind.i64.wrap (64 - 18) = 46 by decide, show (2 : Int) ^ min ((46 : Int)).toNat IntKind.i64.bits = 70368744177664 by decide]
    rw [wrap64_hi (by omega) (by omega), show v * 70368744177664 - 18446744073709551616 = (v - 262144) * 70368744177664 by omega]
    exact Int.mul_fdiv_cancel _ (by decide)
  · rw [if_neg h]
    exact wsign_id18 (by omega) (by omega)

section
variable {h : Heap}

/-- The reference's shape of an operation. -/
def rshape (op : Int) : Int := match shapeOf op with | some s => s | none => -1


end
end Go.Insn

set_option linter.unusedSimpArgs false
set_option linter.unusedVariables false
set_option maxRecDepth 100000
namespace Go.Insn
open Go.Lift Go.Fn

theorem rshape_range {n : Nat} (hn : n < 64) : rshape (n : Int) = -1 ∨ rshape (n : Int) = 0 ∨ rshape (n : Int) = 1 ∨ rshape (n : Int) = 2 ∨ rshape (n : Int) = 3 ∨ rshape (n : Int) = 4 ∨ rshape (n : Int) = 5 ∨ rshape (n : Int) = 6 := by
  have key : ∀ n : Fin 64, rshape ((n.val : Nat) : Int) = -1 ∨ rshape ((n.val : Nat) : Int) = 0 ∨ rshape ((n.val : Nat) : Int) = 1 ∨ rshape ((n.val : Nat) : Int) = 2 ∨ rshape ((n.val : Nat) : Int) = 3 ∨ rshape ((n.val : Nat) : Int) = 4 ∨ rshape ((n.val : Nat) : Int) = 5 ∨ rshape ((n.val : Nat) : Int) = 6 := by decide +kernel
  exact key ⟨n, hn⟩

theorem shapeOf_of {op : Int} (h : rshape op ≠ -1) : shapeOf op = some (rshape op) := by
  unfold rshape at h ⊢
  cases hs : shapeOf op with
  | none => rw [hs] at h; exact absurd rfl h
  | some s => rfl

theorem shapeOf_none {n : Nat} (hn : n < 64) (h : rshape (n : Int) = -1) : shapeOf (n : Int) = none := by
  have key : ∀ n : Fin 64, rshape ((n.val : Nat) : Int) = -1 → shapeOf ((n.val : Nat) : Int) = none := by decide +kernel
  exact key ⟨n, hn⟩ h

section
variable {h : Heap}

end
end Go.Insn

set_option linter.unusedSimpArgs false
set_option linter.unusedVariables false
set_option maxRecDepth 100000
namespace Go.Insn
open Go.Lift Go.Fn

section
variable {h : Heap}

end
end Go.Insn

set_option linter.unusedSimpArgs false
set_option linter.unusedVariables false
set_option maxRecDepth 100000
namespace Go.Insn
open Go.Lift Go.Fn

theorem u32_wrap (v : Int) : IntKind.u32.wrap v = (((v % 4294967296).toNat : Nat) : Int) := by
  simp only [IntKind.wrap, IntKind.bits, IntKind.signed]
  simp
  omega

section
variable {h : Heap}

end
end Go.Insn

set_option linter.unusedSimpArgs false
set_option linter.unusedVariables false
set_option maxRecDepth 100000
namespace Go.Insn
open Go.Lift Go.Fn

section
variable {h : Heap}

end
end Go.Insn

set_option linter.unusedSimpArgs false
set_option linter.unusedVariables false
set_option maxRecDepth 100000
namespace Go.Insn
open Go.Lift Go.Fn

/-! ### tables -/

def ordOf (op : Int) : List UInt8 :=
  match rshape op with
  | 1 => if op = 37 then [100, 97] else [100, 97, 98]
  | 2 => if op ≥ 23 ∧ op ≤ 25 ∨ op = 36 ∨ op ≥ 46 then [100, 105, 97] else [100, 97, 105]
  | 3 => [98, 105, 97]
  | 4 => [97, 98, 109]
  | 5 => if op = 35 then [100, 109] else [100, 105]
  | 6 => [97]
  | _ => []

end Go.Insn

set_option linter.unusedSimpArgs false
set_option linter.unusedVariables false
set_option maxRecDepth 100000
namespace Go.Insn
open Go.Lift Go.Fn

def namesL : List (List UInt8) := [97, 100, 100] :: [115, 117, 98] :: [97, 110, 100] :: [111, 114] :: [120, 111, 114] :: [115, 108, 108] :: [115, 114, 108] :: [115, 114, 97] :: [115, 108, 116] :: [115, 108, 116, 117] :: [109, 117, 108] :: [100, 105, 118, 117] :: [114, 101, 109, 117] :: [97, 100, 100, 105] :: [97, 110, 100, 105] :: [111, 114, 105] :: [120, 111, 114, 105] :: [115, 108, 108, 105] :: [115, 114, 108, 105] :: [115, 114, 97, 105] :: [115, 108, 116, 105] :: [108, 117, 105] :: [108, 100] :: [108, 119] :: [108, 98] :: [115, 100] :: [115, 119] :: [115, 98] :: [98, 101, 113] :: [98, 110, 101] :: [98, 108, 116] :: [98, 103, 101] :: [98, 108, 116, 117] :: [98, 103, 101, 117] :: [106, 97, 108] :: [106, 97, 108, 114] :: [108, 114] :: [115, 99] :: [97, 109, 111, 97, 100, 100] :: [97, 109, 111, 115, 119, 112] :: [102, 101, 110, 99, 101] :: [101, 99, 97, 108, 108] :: [115, 114, 101, 116] :: [119, 102, 105] :: [115, 102, 101, 110, 99, 101] :: [99, 115, 114, 114, 119] :: [99, 115, 114, 114, 115] :: [99, 115, 114, 114, 99] :: []

/-- An operand's text. -/
def part (d : Dec) (c : UInt8) : List UInt8 := if c = 100 then 120 :: Lib.itoa d.rd else if c = 97 then 120 :: Lib.itoa d.rs1 else if c = 98 then 120 :: Lib.itoa d.rs2 else Lib.itoa d.imm

def textOf (d : Dec) : List UInt8 := (ordOf d.op).foldl (fun acc c => acc ++ [32] ++ part d c) (namesL.getD (d.op - 1).toNat [])

/-- What is known of an instruction that was read. -/
structure DecIs (d : Dec) : Prop where
  op : 1 ≤ d.op ∧ d.op ≤ 48
  rd : 0 ≤ d.rd ∧ d.rd < 16
  rs1 : 0 ≤ d.rs1 ∧ d.rs1 < 16
  rs2 : 0 ≤ d.rs2 ∧ d.rs2 < 16
  imm : -131072 ≤ d.imm ∧ d.imm < 131072
  e : d.e = 0

theorem op_range {n : Nat} (hn : n < 64) (h : rshape (n : Int) ≠ -1) : 1 ≤ n ∧ n ≤ 48 := by
  have key : ∀ n : Fin 64, rshape ((n.val : Nat) : Int) ≠ -1 → 1 ≤ n.val ∧ n.val ≤ 48 := by decide +kernel
  exact key ⟨n, hn⟩ h

theorem decRest_is {w v : Int} {op rd rs1 rs2 : Nat} (h0 : op < 64) (h1 : rd < 16) (h2 : rs1 < 16) (h3 : rs2 < 16) (hs : rshape (op : Int) ≠ -1) (hv : -131072 ≤ v ∧ v < 131072) : (decRest w op rd rs1 rs2 v).e = 10 ∨ DecIs (decRest w op rd rs1 rs2 v) := by
  unfold decRest
  by_cases e1 : (encOf (op : Int) rd rs1 rs2 v).2 ≠ 0
  · rw [if_pos e1]; exact .inl rfl
  · rw [if_neg e1]
    by_cases e2 : (encOf (op : Int) rd rs1 rs2 v).1 ≠ w
    · rw [if_pos e2]; exact .inl rfl
    · rw [if_neg e2]
      have := op_range h0 hs
      exact .inr ⟨⟨by show (1 : Int) ≤ (op : Int); omega, by show (op : Int) ≤ 48; omega⟩, ⟨by show (0 : Int) ≤ (rd : Int); omega, by show (rd : Int) < 16; omega⟩, ⟨by show (0 : Int) ≤ (rs1 : Int); omega, by show (rs1 : Int) < 16; omega⟩, ⟨by show (0 : Int) ≤ (rs2 : Int); omega, by show (rs2 : Int) < 16; omega⟩, hv, rfl⟩

theorem dec_is {w : Nat} (hw : w < 2 ^ 32) : (decOf (w : Int)).e = 10 ∨ DecIs (decOf (w : Int)) := by
  have f0 : wfield (w : Int) 26 6 = ((w / 2 ^ 26 % 2 ^ 6 : Nat) : Int) := wfield_eq (at_ := 26) (n := 6) hw (by decide)
  have f1 : wfield (w : Int) 22 4 = ((w / 2 ^ 22 % 2 ^ 4 : Nat) : Int) := wfield_eq (at_ := 22) (n := 4) hw (by decide)
  have f2 : wfield (w : Int) 18 4 = ((w / 2 ^ 18 % 2 ^ 4 : Nat) : Int) := wfield_eq (at_ := 18) (n := 4) hw (by decide)
  have f3 : wfield (w : Int) 14 4 = ((w / 2 ^ 14 % 2 ^ 4 : Nat) : Int) := wfield_eq (at_ := 14) (n := 4) hw (by decide)
  have f4 : wfield (w : Int) 0 14 = fld w 0 14 := wfield_eq (at_ := 0) (n := 14) hw (by decide)
  have f5 : wfield (w : Int) 0 18 = fld w 0 18 := wfield_eq (at_ := 0) (n := 18) hw (by decide)
  have b4 : 0 ≤ fld w 0 14 ∧ fld w 0 14 < 16384 := by unfold fld; omega
  have b5 : 0 ≤ fld w 0 18 ∧ fld w 0 18 < 262144 := by unfold fld; omega
  unfold decOf
  rw [f0, f1, f2, f3, f4, f5, wsign14 b4.1 b4.2, wsign18 b5.1 b5.2]
  have l0 : w / 2 ^ 26 % 2 ^ 6 < 64 := by omega
  have l1 : w / 2 ^ 22 % 2 ^ 4 < 16 := by omega
  have l2 : w / 2 ^ 18 % 2 ^ 4 < 16 := by omega
  have l3 : w / 2 ^ 14 % 2 ^ 4 < 16 := by omega
  generalize w / 2 ^ 26 % 2 ^ 6 = op at l0 ⊢
  generalize w / 2 ^ 22 % 2 ^ 4 = rd at l1 ⊢
  generalize w / 2 ^ 18 % 2 ^ 4 = rs1 at l2 ⊢
  generalize w / 2 ^ 14 % 2 ^ 4 = rs2 at l3 ⊢
  by_cases en : rshape (op : Int) = -1
  · rw [shapeOf_none l0 en]; exact .inl rfl
  · rw [shapeOf_of en]
    by_cases e5 : rshape (op : Int) = 5
    · simp only [if_pos e5]
      exact decRest_is (rs1 := 0) (rs2 := 0) l0 l1 (by decide) (by decide) en (by rw [sgn18]; split <;> omega)
    · simp only [if_neg e5]
      exact decRest_is l0 l1 l2 l3 en (by rw [sgn14]; split <;> omega)

section
variable {U : Ifc} {h0 h : Heap}

theorem itoa_len {v : Int} (h : v.natAbs < 10000000000) : (Lib.itoa v).length ≤ 11 := by
  have hl : ∀ n u : Nat, u < 10 ^ (n + 1) → (Lib.decDigits u).length ≤ n + 1 := by
    intro n
    induction n with
    | zero => intro u hu; rw [Lib.decDigits_one (by omega)]; exact Nat.le_refl 1
    | succ n ih =>
      intro u hu
      by_cases h10 : u < 10
      · rw [Lib.decDigits_one h10]; simp
      · have hq10 : u / 10 < 10 ^ (n + 1) := by
          rw [Nat.pow_succ] at hu
          exact Nat.div_lt_of_lt_mul (by rw [Nat.mul_comm]; exact hu)
        rw [Lib.decDigits, dif_neg h10, List.length_append]
        have := ih _ hq10
        simp; omega
  unfold Lib.itoa
  split
  · have := hl 9 v.natAbs (by omega)
    simp; omega
  · have := hl 9 v.toNat (by omega)
    omega

theorem part_len {d : Dec} (D : DecIs d) (c : UInt8) : (part d c).length ≤ 12 := by
  obtain ⟨_, a, b, e, i, _⟩ := D
  unfold part
  split
  · have := itoa_len (v := d.rd) (by omega); simp; omega
  · split
    · have := itoa_len (v := d.rs1) (by omega); simp; omega
    · split
      · have := itoa_len (v := d.rs2) (by omega); simp; omega
      · have := itoa_len (v := d.imm) (by omega); omega

end
end Go.Insn

set_option linter.unusedSimpArgs false
set_option linter.unusedVariables false
set_option maxRecDepth 100000
namespace Go.Insn
open Go.Lift Go.Fn

def textW (w : Int) : List UInt8 := if (decOf w).e ≠ 0 then [46, 119, 111, 114, 100, 32] ++ Lib.itoa w else textOf (decOf w)

theorem ord_len {n : Nat} (hn : n < 64) : (ordOf (n : Int)).length ≤ 3 := by
  have key : ∀ n : Fin 64, (ordOf ((n.val : Nat) : Int)).length ≤ 3 := by decide +kernel
  exact key ⟨n, hn⟩

theorem name_len {n : Nat} (hn : n < 48) : (namesL.getD n []).length ≤ 10 := by
  have key : ∀ n : Fin 48, (namesL.getD n.val []).length ≤ 10 := by decide +kernel
  exact key ⟨n, hn⟩

theorem names_len : namesL.length = 48 := by decide +kernel

section
variable {U : Ifc} {h : Heap}

end
end Go.Insn

set_option linter.unusedSimpArgs false
set_option linter.unusedVariables false
set_option maxRecDepth 100000
namespace Go.Insn
open Go.Lift Go.Fn

section
variable {h : Heap}

theorem Contains_of {b c n : Nat} {ks : List Int} {mk : Bool} {rest : List V} (ho : h.obj b = some (.cells (ks.map (V.int .i64) ++ rest) mk)) (hn : ks.length = n) (hl : n ≤ 1000) (a : Int) {Q : Bool → Heap → Prop} (hq : Q (decide (a ∈ ks)) h) : zf53 ⟨some ⟨b, 0⟩, n, c⟩ a Q h := by
  unfold zf53 zf54 zf54.j2
  intro I HI
  have main : ∀ k i : Nat, i + k = n → a ∉ ks.take i → I ⟨some ⟨b, 0⟩, n, c⟩ a (n : Int) (i : Int) h := by
    intro k
    induction k with
    | zero =>
      intro i hi hni
      refine HI _ _ _ _ _ ?_
      unfold zf54.b2
      refine br_f (decide_eq_false (by omega)) ?_
      rw [List.take_of_length_le (by omega)] at hni
      rw [decide_eq_false hni] at hq
      exact hq
    | succ k ih =>
      intro i hi hni
      refine HI _ _ _ _ _ ?_
      unfold zf54.b2
      refine br_t (decide_eq_true (by omega)) (ix_of (by omega) (by show (i : Int) < (n : Int); omega) ?_)
      rw [der_some, Int.toNat_natCast]
      have hg : h.get b (0 + i * 1) = some (.int .i64 (ks[i]'(by omega))) := by
        rw [get_cells ho, Nat.zero_add, Nat.mul_one, List.getElem?_append_left (by simp; omega), List.getElem?_map, List.getElem?_eq_getElem (by omega)]
        rfl
      refine rdI_of hg ?_
      by_cases e : a = ks[i]'(by omega)
      · refine br_t (by rw [beq_iff_eq]; exact e) ?_
        have hm : a ∈ ks := by rw [e]; exact List.getElem_mem _
        rw [decide_eq_true hm] at hq
        show Q (decide ((i : Int) ≥ 0)) h
        rw [decide_eq_true (by omega)]; exact hq
      · refine br_f (beq_false_of_ne e) ?_
        have ew : IntKind.i64.wrap ((i : Int) + 1) = ((i + 1 : Nat) : Int) := by rw [wrap64] <;> omega
        rw [ew]
        refine ih (i + 1) (by omega) ?_
        rw [List.take_add_one, List.getElem?_eq_getElem (by omega)]
        intro hm
        rcases List.mem_append.1 hm with hm | hm
        · exact hni hm
        · simp at hm; exact e hm
  exact main n 0 (by omega) (by simp)

def ordTab : List (List UInt8) := [] :: [100, 97, 98] :: [100, 97, 105] :: [98, 105, 97] :: [97, 98, 109] :: [100, 105] :: [97] :: []

theorem Order_asm {n : Nat} (hn : n < 64) (hs : rshape (n : Int) ≠ -1) {Q : List UInt8 → Heap → Prop} (hq : ∀ h', Keeps none_ h h' → Q (ordOf (n : Int)) h') : zf8 (n : Int) Q h := by
  have key : ∀ n : Fin 64, rshape ((n.val : Nat) : Int) ≠ -1 → ordOf ((n.val : Nat) : Int) = (if ((n.val : Nat) : Int) = 37 then [100, 97] else if ((n.val : Nat) : Int) = 35 then [100, 109] else if ((n.val : Nat) : Int) ∈ ([23, 24, 25, 36, 46, 47, 48] : List Int) then [100, 105, 97] else ordTab.getD (rshape ((n.val : Nat) : Int)).toNat []) := by decide +kernel
  have key := key ⟨n, hn⟩ hs
  simp only at key
  rw [key] at hq
  unfold zf8
  refine Shape_of (fun g1 k1 => ?_)
  rw [shapeOf_of hs]
  simp only [Option.getD_some]
  by_cases e1 : (n : Int) = 37
  · rw [if_pos e1] at hq
    exact br_t (by rw [beq_iff_eq]; exact e1) (hq g1 k1)
  rw [if_neg e1] at hq
  refine br_f (beq_false_of_ne e1) ?_
  by_cases e2 : (n : Int) = 35
  · rw [if_pos e2] at hq
    exact br_t (by rw [beq_iff_eq]; exact e2) (hq g1 k1)
  rw [if_neg e2] at hq
  refine br_f (beq_false_of_ne e2) ?_
  refine al_of (fun b3 g3 hb3 ho3 k3 => ?_)
  refine Contains_of (ks := [23, 24, 25, 36, 46, 47, 48]) (rest := []) (mk := false) (by rw [List.append_nil]; exact ho3) rfl (by decide) (n : Int) ?_
  by_cases e3 : (n : Int) ∈ ([23, 24, 25, 36, 46, 47, 48] : List Int)
  · rw [if_pos e3] at hq
    rw [decide_eq_true e3]
    exact br_t rfl (hq g3 (k1.trans k3))
  rw [if_neg e3] at hq
  rw [decide_eq_false e3]
  refine br_f rfl (al_of (fun b5 g5 hb5 ho5 k5 => ?_))
  have hr := rshape_range hn
  obtain ⟨s, es⟩ : ∃ s : Nat, rshape (n : Int) = (s : Int) := ⟨(rshape (n : Int)).toNat, by omega⟩
  rw [es] at hq ⊢
  refine ix_of (by omega) (by omega) ?_
  rw [Int.toNat_natCast] at hq ⊢
  have hg : g5.get b5 (0 + s * 1) = some (.str (ordTab.getD s [])) := by
    rw [get_cells ho5, Nat.zero_add, Nat.mul_one]
    rcases (by omega : s = 0 ∨ s = 1 ∨ s = 2 ∨ s = 3 ∨ s = 4 ∨ s = 5 ∨ s = 6) with rfl | rfl | rfl | rfl | rfl | rfl | rfl <;> rfl
  exact rdStr_of hg (hq g5 ((k1.trans k3).trans k5))

end
end Go.Insn

set_option linter.unusedSimpArgs false
set_option linter.unusedVariables false
set_option maxRecDepth 100000
namespace Go.Insn
open Go.Lift Go.Fn

theorem rune_ascii {s : List UInt8} {i : Nat} (hi : i < s.length) (ha : (s.getD i 0).toNat < 128) : runeAt s i = ((s.getD i 0).toNat, 1) := by
  unfold runeAt Utf8.decode
  have e : ((⟨s.toArray⟩ : ByteArray).get! (i + 0)).toNat = (s.getD i 0).toNat := by
    show ((s.toArray)[i]!).toNat = _
    rw [List.getD_eq_getElem?_getD, List.getElem?_eq_getElem hi]
    simp [hi]
  simp only [e]
  rw [if_pos ha]

section
variable {h0 h : Heap} {W : Nat → Prop} {L : List (Nat × HO)}

theorem app_one {n c cb bytes : Nat} {z vs rest new : List V} {mk : Bool} {κ : Sl → Heap → Prop} (S : St h0 W ((cb, .cells (vs ++ rest) mk) :: L) h) (hvs : vs.length = n) (hc : n ≤ c) (hr : rest.length = (c - n) * 1) (hnew : new.length = 1) (hz : z.length = 1) (hb : bytes ≤ 1000) (hn : n ≤ 1000)
    (hk : ∀ cb' c' rest' mk' h', St h0 W ((cb', .cells (vs ++ new ++ rest') mk') :: L) h' → n + 1 ≤ c' → rest'.length = (c' - (n + 1)) * 1 → κ ⟨some ⟨cb', 0⟩, n + 1, c'⟩ h') : appS 1 bytes z ⟨some ⟨cb, 0⟩, n, c⟩ new 1 κ h := by
  have O : Own h ⟨some ⟨cb, 0⟩, n, c⟩ 1 vs cb := ⟨rfl, hc, by rw [hvs]; simp, rest, mk, S.obj i0, hr⟩
  refine appS_own O (by omega) hz (by show (n + 1) * bytes ≤ _; have := Nat.mul_le_mul (show n + 1 ≤ 1001 by omega) hb; omega) (by show n + 1 ≤ _; omega) (fun s h1 cb' O1 hl hbb k1 => ?_)
  obtain ⟨rest', mk', ho, hr'⟩ := O1.obj
  have hp := O1.p
  have hc' := O1.cap
  obtain ⟨sp, sl, sc⟩ := s
  simp only at hp hl hc' hr'
  subst hp hl
  rcases hbb with rfl | hf
  · exact hk cb' sc rest' mk' h1 (S.put i0 ho k1) hc' hr'
  · have S1 : St h0 W L h1 := S.tail.keepW k1 (fun b y hb e => by
      have := S.nodup
      simp only [List.map_cons, List.nodup_cons] at this
      exact this.1 (List.mem_map.2 ⟨(b, y), hb, e⟩)) (fun zz e hz => by
        rcases S.new cb _ (List.mem_cons_self) with h2 | h2
        · exact absurd h2 (by rw [← e]; exact hz)
        · rw [e]; exact h2)
    have hn0 : h0.obj cb' = none := by
      cases hh : h0.obj cb' with
      | none => rfl
      | some z => exact absurd hf (S.keeps.known cb' (by rw [hh]; simp))
    exact hk cb' sc rest' mk' h1 (S1.add ho (.inl hn0) (S.tail.fresh (x := .cells [] false) hf)) hc' hr'

end

section
variable {U : Ifc} {h0 h : Heap}

theorem itoa_of (ht : (3, Lib.pow10Tab.map (V.int .u64)) ∈ U.tabs) {v : Int} (h1 : -9223372036854775808 ≤ v) (h2 : v ≤ 9223372036854775807) {Q : List UInt8 → Heap → Prop} (hq : Q (Lib.itoa v) h) : zf57 U v Q h := by
  unfold zf57
  exact ⟨h1, h2, ht, hq⟩

theorem loop_asm (ht : (3, Lib.pow10Tab.map (V.int .u64)) ∈ U.tabs) {d : Dec} (D : DecIs d) {b it : Nat} {nm ord : List UInt8} {Q : List UInt8 → Heap → Prop} (ho : ord.length ≤ 10) (hnm : nm.length ≤ 10) (hasc : ∀ i, i < ord.length → (ord.getD i 0).toNat < 128) {I : Ptr → Sl → Ptr → Heap → Prop} (HI : ∀ a1 a2 a3 h, zf2.b6 U I a1 a2 a3 Q h → I a1 a2 a3 h) :
    ∀ k i : Nat, i + k = ord.length → ∀ (sb c : Nat) (rest : List V) (mk : Bool) (h : Heap), St h0 none_ [(sb, .cells ((nm :: (ord.take i).map (part d)).map V.str ++ rest) mk), (it, .siter ord i), (b, .cells [.int .i64 d.op, .int .i64 d.rd, .int .i64 d.rs1, .int .i64 d.rs2, .int .i64 d.imm] false)] h → i + 1 ≤ c → rest.length = (c - (i + 1)) * 1 → (∀ h', Keeps none_ h0 h' → Q (Lib.join (nm :: ord.map (part d)) [32]) h') → I ⟨b, 0⟩ ⟨some ⟨sb, 0⟩, i + 1, c⟩ ⟨it, 0⟩ h := by
  intro k
  induction k with
  | zero =>
    intro i hi sb c rest mk h S hc hr hq
    refine HI _ _ _ _ ?_
    unfold zf2.b6
    refine ⟨rfl, ord, i, S.obj i1, ?_⟩
    rw [if_neg (by omega)]
    unfold zf66
    rw [List.take_of_length_le (by omega)] at S
    refine ⟨⟨sb, 0⟩, nm :: ord.map (part d), rfl, by simp; omega, hc, fun j x hj => ?_, by rw [S.obj i0]; simp, by simp; omega, ?_, hq h S.keeps⟩
    · rw [get_cells (S.obj i0), Nat.zero_add, List.getElem?_append_left (by
        rcases Nat.lt_or_ge j (nm :: ord.map (part d)).length with h1 | h1
        · rw [List.length_map]; exact h1
        · rw [List.getElem?_eq_none h1] at hj; cases hj), List.getElem?_map, hj]
      rfl
    · rw [Lib.join_cons]
      unfold Lib.joinTail
      have hl : ∀ l : List UInt8, (((l.map (part d)).map ([32] ++ ·)).flatten).length ≤ 13 * l.length := by
        intro l
        induction l with
        | nil => simp
        | cons x l ih =>
          have := part_len D x
          simp only [List.map_cons, List.flatten_cons, List.length_append, List.length_cons, List.length_nil] at ih ⊢
          omega
      have := hl ord
      rw [List.length_append]
      omega
  | succ k ih =>
    intro i hi sb c rest mk h S hc hr hq
    refine HI _ _ _ _ ?_
    unfold zf2.b6
    refine ⟨rfl, ord, i, S.obj i1, ?_⟩
    rw [if_pos (by omega), rune_ascii (by omega) (hasc i (by omega))]
    have S1 : St h0 none_ [(sb, .cells ((nm :: (ord.take i).map (part d)).map V.str ++ rest) mk), (it, .siter ord (i + 1)), (b, .cells [.int .i64 d.op, .int .i64 d.rd, .int .i64 d.rs1, .int .i64 d.rs2, .int .i64 d.imm] false)] (h.setO it (.siter ord (i + 1))) := S.put i1 (by simp [Heap.setO]) (Keeps.setO (S.obj i1))
    have et : ord.take (i + 1) = ord.take i ++ [ord.getD i 0] := by
      rw [List.take_add_one, List.getElem?_eq_getElem (by omega), List.getD_eq_getElem?_getD, List.getElem?_eq_getElem (by omega)]; rfl
    have ih := fun sb c rest mk h S hc hr => ih (i + 1) (by omega) sb c rest mk h S hc hr hq
    rw [et] at ih
    generalize h.setO it (.siter ord (i + 1)) = g1 at S1 ⊢
    generalize ord.getD i 0 = cc at ih ⊢
    refine S1.alM (fun m g2 S2 => ?_)
    refine S2.rI (i := 3) rfl rfl (S2.mapPut i0 (fun g3 S3 => ?_))
    refine S3.rI (i := 3) rfl rfl (S3.mapPut i0 (fun g4 S4 => ?_))
    refine S4.rI (i := 3) rfl rfl (S4.mapPut i0 (fun g5 S5 => ?_))
    have S6 : St h0 none_ [(m, .map (.int .i32) [(.int .i32 100, .int .i64 d.rd), (.int .i32 97, .int .i64 d.rs1), (.int .i32 98, .int .i64 d.rs2)] [0, 1, 2] 3), (sb, .cells ((nm :: (ord.take i).map (part d)).map V.str ++ rest) mk), (it, .siter ord (i + 1)), (b, .cells [.int .i64 d.op, .int .i64 d.rd, .int .i64 d.rs1, .int .i64 d.rs2, .int .i64 d.imm] false)] g5 := S5
    refine S6.mapGet i0 ?_
    have S7 := S6.tail
    clear S1 S2 S3 S4 S5 S6
    have D' := D
    obtain ⟨_, a, r1, r2, im, _⟩ := D'
    have fin : ∀ (s : List UInt8) (g : Heap), s = part d cc → Keeps none_ g5 g → ∀ b3 g', g.obj b3 = none → g'.obj b3 = some (.cells [.str s] false) → Keeps none_ g g' → appS 1 16 [.str []] ⟨some ⟨sb, 0⟩, i + 1, c⟩ [.str s] 1 (fun s4 h => I ⟨b, 0⟩ s4 ⟨it, 0⟩ h) g' := by
      intro s g hs k1 b3 g' hb3 ho3 k2
      subst hs
      have S8 := (S7.keep k1).keep k2
      refine app_one S8 (by simp; omega) hc hr rfl rfl (by decide) (by omega) (fun cb' c' rest' mk' g3 S9 hc' hr' => ?_)
      refine ih cb' c' rest' mk' g3 ?_ hc' hr'
      rw [List.map_append, List.map_cons, List.map_append]
      exact S9
    have rdn : ∀ (s : List UInt8) (b3 : Nat) (g' : Heap) {κ : List V → Prop}, g'.obj b3 = some (.cells [.str s] false) → κ [.str s] → rdN (1 * 1) (⟨b3, 0⟩ : Ptr) κ g' := fun s b3 g' κ ho hk => rdN_held rfl (fun j v hj => by rw [get_cells ho, Nat.zero_add]; exact hj) hk
    have regs : ∀ v : Int, 0 ≤ v ∧ v < 16 → (120 :: Lib.itoa v) = part d cc → zf2.j11 U I ⟨b, 0⟩ ⟨some ⟨sb, 0⟩, i + 1, c⟩ v ⟨it, 0⟩ Q g5 := by
      intro v hv hp
      unfold zf2.j11
      have := itoa_len (v := v) (by omega)
      refine itoa_of ht (by omega) (by omega) ⟨by simp; omega, al_of (fun b3 g' hb ho k => rdn _ b3 g' ho (fin _ g5 hp (Keeps.refl _ _) b3 g' hb ho k))⟩
    have cu : ∀ m : UInt8, ((cc.toNat : Nat) : Int) = ((m.toNat : Nat) : Int) ↔ cc = m := fun m => ⟨fun hh => UInt8.toNat_inj.1 (by omega), fun hh => by rw [hh]⟩
    have mf : mfind (.int .i32 ((cc.toNat : Nat) : Int)) [(.int .i32 100, .int .i64 d.rd), (.int .i32 97, .int .i64 d.rs1), (.int .i32 98, .int .i64 d.rs2)] = if cc = 100 then some (.int .i64 d.rd) else if cc = 97 then some (.int .i64 d.rs1) else if cc = 98 then some (.int .i64 d.rs2) else none := by
      simp only [mfind, keq]
      have q : ∀ m : UInt8, (((cc.toNat : Nat) : Int) == ((m.toNat : Nat) : Int)) = decide (cc = m) := fun m => by
        by_cases e : cc = m
        · rw [decide_eq_true e, e]; simp
        · rw [decide_eq_false e]; exact beq_false_of_ne (fun hh => e ((cu m).1 hh))
      rw [show (((cc.toNat : Nat) : Int) == 100) = decide (cc = 100) from q 100, show (((cc.toNat : Nat) : Int) == 97) = decide (cc = 97) from q 97, show (((cc.toNat : Nat) : Int) == 98) = decide (cc = 98) from q 98]
      by_cases e1 : cc = 100
      · rw [if_pos e1, decide_eq_true e1]; rfl
      rw [if_neg e1, decide_eq_false e1]
      by_cases e2 : cc = 97
      · rw [if_pos e2, decide_eq_true e2]; rfl
      rw [if_neg e2, decide_eq_false e2]
      by_cases e3 : cc = 98
      · rw [if_pos e3, decide_eq_true e3]; rfl
      rw [if_neg e3, decide_eq_false e3]; rfl
    rw [mf]
    by_cases e1 : cc = 100
    · rw [if_pos e1]
      exact regs d.rd a (by unfold part; rw [if_pos e1])
    rw [if_neg e1]
    by_cases e2 : cc = 97
    · rw [if_pos e2]
      exact regs d.rs1 r1 (by unfold part; rw [if_neg e1, if_pos e2])
    rw [if_neg e2]
    by_cases e3 : cc = 98
    · rw [if_pos e3]
      exact regs d.rs2 r2 (by unfold part; rw [if_neg e1, if_neg e2, if_pos e3])
    rw [if_neg e3]
    show zf2.j12 U I ⟨b, 0⟩ ⟨some ⟨sb, 0⟩, i + 1, c⟩ ⟨it, 0⟩ Q g5
    unfold zf2.j12
    refine S7.rI (i := 2) rfl rfl (itoa_of ht (by omega) (by omega) (al_of (fun b3 g' hb ho k => rdn _ b3 g' ho (fin _ g5 ?_ (Keeps.refl _ _) b3 g' hb ho k))))
    unfold part; rw [if_neg e1, if_neg e2, if_neg e3]

end
end Go.Insn

set_option linter.unusedSimpArgs false
set_option linter.unusedVariables false
set_option maxRecDepth 100000
namespace Go.Asm
open Go.Lift Go.Fn Go.Insn

theorem u8n (n : Nat) (h : n < 256) : (UInt8.ofNat n).toNat = n := by simp; omega

/-- The last byte of a rune beyond ASCII is beyond ASCII. -/
theorem runeStr_big {x : Nat} (hx : 128 ≤ x) (h2 : x ≤ 1114111) : ∃ l : List UInt8, runeStr (x : Int) = l ∧ 2 ≤ l.length ∧ l.length ≤ 4 ∧ 128 ≤ (l.getD (l.length - 1) 0).toNat := by
  unfold runeStr Utf8.encode
  have hc : 128 ≤ (if Utf8.valid (x : Int) = true then ((x : Int)).toNat else Utf8.runeError) ∧ (if Utf8.valid (x : Int) = true then ((x : Int)).toNat else Utf8.runeError) ≤ 1114111 := by
    split
    · constructor <;> omega
    · decide
  simp only
  generalize (if Utf8.valid (x : Int) = true then ((x : Int)).toNat else Utf8.runeError) = c at hc ⊢
  obtain ⟨c1, c2⟩ := hc
  rw [if_neg (by omega)]
  split
  · exact ⟨_, rfl, by simp, by simp, by show 128 ≤ (UInt8.ofNat (128 + c % 64)).toNat; rw [u8n _ (by omega)]; omega⟩
  · split
    · exact ⟨_, rfl, by simp, by simp, by show 128 ≤ (UInt8.ofNat (128 + c % 64)).toNat; rw [u8n _ (by omega)]; omega⟩
    · exact ⟨_, rfl, by simp, by simp, by show 128 ≤ (UInt8.ofNat (128 + c % 64)).toNat; rw [u8n _ (by omega)]; omega⟩

theorem indexByte_none : ∀ {l : List UInt8} {c : UInt8}, c ∉ l → Lib.indexByte l c = -1
  | [], _, _ => rfl
  | b :: l, c, h => by
    have h1 : b ≠ c := fun e => h (by rw [e]; exact List.mem_cons_self)
    have h2 := indexByte_none (l := l) (c := c) (fun hm => h (List.mem_cons_of_mem _ hm))
    unfold Lib.indexByte
    rw [if_neg (by simpa using h1), h2, if_pos (by decide)]

def sepS : List UInt8 := [32, 44, 9, 40, 41]

theorem sep_of {x : Nat} (hx : x ≤ 1114111) {Q : Bool → Heap → Prop} {h : Heap} (hq : ∀ h', Q (sepR x) h') : zf10 (x : Int) Q h := by
  unfold zf10 zf58 zf65
  refine br_t (decide_eq_true (by omega)) ?_
  by_cases h1 : x < 128
  · refine br_t (decide_eq_true (by omega)) ?_
    have key : ∀ x : Fin 128, decide (Lib.indexByte [32, 44, 9, 40, 41] (IntKind.u8.wrap ((x.val : Nat) : Int)).toNat.toUInt8 ≥ 0) = sepR x.val := by decide +kernel
    have := key ⟨x, h1⟩
    simp only at this
    unfold zf64 indexByteI
    show Q (decide (Lib.indexByte [32, 44, 9, 40, 41] (IntKind.u8.wrap (x : Int)).toNat.toUInt8 ≥ 0)) h
    rw [this]
    exact hq h
  · refine br_f (decide_eq_false (by omega)) ?_
    have hs : sepR x = false := by
      unfold sepR
      simp only [Bool.or_eq_false_iff, beq_eq_false_iff_ne]
      omega
    rw [hs] at hq
    have hq1 : ∀ h', Q (decide ((-1 : Int) ≥ 0)) h' := fun h' => by
      have hm1 : (decide ((-1 : Int) ≥ 0)) = false := by decide
      rw [hm1]; exact hq h'
    unfold zf65.j36
    by_cases h2 : (x : Int) = 65533
    · refine br_t (by rw [beq_iff_eq]; exact h2) (fun b hb => ?_)
      unfold zf65.j38
      intro I H
      have main : ∀ k pos : Nat, pos + k = 5 → ∀ h : Heap, h.obj b = some (.siter sepS pos) → I ⟨b, 0⟩ h := by
        intro k
        induction k with
        | zero =>
          intro pos hp h ho
          refine H _ _ ?_
          unfold zf65.b38
          refine ⟨rfl, sepS, pos, ho, ?_⟩
          rw [if_neg (by show ¬ pos < 5; omega)]
          exact hq1 h
        | succ k ih =>
          intro pos hp h ho
          refine H _ _ ?_
          unfold zf65.b38
          refine ⟨rfl, sepS, pos, ho, ?_⟩
          have hb : pos < 5 := by omega
          have ha : ∀ i : Fin 5, (sepS.getD i.val 0).toNat < 128 := by decide
          have ha := ha ⟨pos, hb⟩
          rw [if_pos (by show pos < 5; omega), rune_ascii (by show pos < 5; omega) ha]
          refine br_f (beq_false_of_ne (by show (((sepS.getD pos 0).toNat : Nat) : Int) ≠ 65533; simp only at ha; omega)) ?_
          exact ih (pos + 1) (by omega) _ (by simp [Heap.setO])
      exact main 5 0 rfl _ Heap.new_obj
    · refine br_f (beq_false_of_ne h2) ?_
      have fin : zf65.j1 [32, 44, 9, 40, 41] (x : Int) (fun r1 h => Q (decide (r1 ≥ 0)) h) h := by
        obtain ⟨l, hl, l2, l4, lb⟩ := runeStr_big (x := x) (by omega) hx
        unfold zf65.j1 zf65.j5
        rw [hl]
        intro I H
        refine H _ _ _ _ _ ?_
        unfold zf65.b5
        have ew : IntKind.i64.wrap ((l.length : Int) - 1) = ((l.length - 1 : Nat) : Int) := by rw [wrap64] <;> omega
        rw [ew]
        generalize hn : l.length - 1 = n at lb ⊢
        have ew2 : IntKind.i64.wrap ((n : Int) + 1) = ((n + 1 : Nat) : Int) := by rw [wrap64] <;> omega
        have hne : ∀ i : Fin 5, (sepS.getD i.val 0).toNat < 128 := by decide
        refine br_t (decide_eq_true (by show (n : Int) < 5; omega)) (ix_of (by omega) (by show (n : Int) < 5; omega) (ix_of (by omega) (by omega) ?_))
        rw [Int.toNat_natCast]
        have h5 := hne ⟨n, by omega⟩
        simp only at h5
        refine br_t (by rw [bne_iff_ne]; show (((sepS.getD n 0).toNat : Int)) ≠ _; omega) ?_
        rw [ew2]
        refine sb_of (by omega) (by show ((n + 1 : Nat) : Int) ≤ 5; omega) (ix_of (by omega) (by omega) ?_)
        rw [Int.toNat_natCast, Int.toNat_natCast]
        unfold zf64 indexByteI
        generalize hc : l.getD n 0 = c at lb
        have ec : ((c.toNat : Nat) : Int).toNat.toUInt8 = c := by simp
        rw [ec, indexByte_none (c := c)]
        · refine br_t (by decide) ?_
          exact hq1 h
        · intro hm
          have : c ∈ sepS := List.mem_of_mem_drop (List.mem_of_mem_take hm)
          have ks : ∀ c ∈ sepS, c.toNat < 128 := by decide
          have := ks c this
          omega
      unfold zf71
      generalize decide (0 ≤ (x : Int)) = d1
      generalize decide ((x : Int) < 55296) = d2
      generalize decide (57343 < (x : Int)) = d3
      generalize decide ((x : Int) ≤ 1114111) = d4
      cases d1 <;> cases d2 <;> cases d3 <;> cases d4 <;> first | exact fin | exact hq1 h

end Go.Asm
