/- The reference's decimals; tables. -/
import Derived.Test.YtgigbjieppllgaaDoorShF
set_option linter.unusedSimpArgs false
set_option linter.unusedVariables false
set_option maxRecDepth 100000
namespace Go.Insn
open Go.Lift Go.Fn

/-- How deep a Decimal may call itself. -/
def DecAt : Nat → Ifc → Prop
  | 0, _ => True
  | n + 1, U => ∃ U', DecAt n U' ∧ ∀ v κ h, palisaderef03_Decimal U' v (fun r h => κ (.str r) h) h → U.callV (.fn 334 []) [.int .i64 v] κ h

theorem DecAt.less : ∀ {n : Nat} {U : Ifc}, DecAt (n + 1) U → DecAt n U
  | 0, _, _ => trivial
  | n + 1, U, ⟨U', d, f⟩ => ⟨U', DecAt.less d, f⟩

theorem digit_u8 {u : Nat} (h : u < 10) : IntKind.u8.wrap (IntKind.i64.wrap (48 + (u : Int))) = (((UInt8.ofNat (48 + u)).toNat : Nat) : Int) := by
  rcases (by omega : u = 0 ∨ u = 1 ∨ u = 2 ∨ u = 3 ∨ u = 4 ∨ u = 5 ∨ u = 6 ∨ u = 7 ∨ u = 8 ∨ u = 9) with rfl | rfl | rfl | rfl | rfl | rfl | rfl | rfl | rfl | rfl <;> decide

theorem Decimal_nat : ∀ {n : Nat} {U : Ifc} {u : Nat} {h : Heap} {Q : List UInt8 → Heap → Prop}, DecAt n U → n ≤ 20 → u ≤ 9223372036854775807 → u < 10 ^ (n + 1) → (∀ h', Keeps none_ h h' → (Lib.decDigits u).length ≤ n + 1 → Q (Lib.decDigits u) h') → palisaderef03_Decimal U (u : Int) Q h := by
  intro n
  induction n with
  | zero =>
    intro U u h Q d hn h63 hu hq
    unfold palisaderef03_Decimal
    refine br_f (decide_eq_false (by omega)) (br_t (decide_eq_true (by omega)) ?_)
    refine al_of (fun b g hb ho k => ?_)
    rw [digit_u8 (by omega)] at ho
    have hq := hq g k (by rw [Lib.decDigits_one (by omega)]; exact Nat.le_refl 1)
    rw [Lib.decDigits_one (by omega)] at hq
    refine cellsS_of (vs := strCells [UInt8.ofNat (48 + u)]) ⟨rfl, fun p hp i v hv => ?_, fun hp => by cases hp⟩ ?_
    · cases hp
      rw [get_cells ho, Nat.zero_add]; exact hv
    · rw [bytesOf_str]; exact hq
  | succ n ih =>
    intro U u h Q d hn h63 hu hq
    by_cases h10 : u < 10
    · unfold palisaderef03_Decimal
      refine br_f (decide_eq_false (by omega)) (br_t (decide_eq_true (by omega)) ?_)
      refine al_of (fun b g hb ho k => ?_)
      rw [digit_u8 h10] at ho
      have hq := hq g k (by rw [Lib.decDigits_one h10]; simp)
      rw [Lib.decDigits_one h10] at hq
      refine cellsS_of (vs := strCells [UInt8.ofNat (48 + u)]) ⟨rfl, fun p hp i v hv => ?_, fun hp => by cases hp⟩ ?_
      · cases hp
        rw [get_cells ho, Nat.zero_add]; exact hv
      · rw [bytesOf_str]; exact hq
    · obtain ⟨U', d', f⟩ := d
      have hq10 : u / 10 < 10 ^ (n + 1) := by
        rw [Nat.pow_succ] at hu
        exact Nat.div_lt_of_lt_mul (by rw [Nat.mul_comm]; exact hu)
      unfold palisaderef03_Decimal
      refine br_f (decide_eq_false (by omega)) (br_f (decide_eq_false (by omega)) (nz_of (by decide) ?_))
      have e1 : IntKind.i64.wrap (Int.tdiv (u : Int) 10) = ((u / 10 : Nat) : Int) := by
        rw [Int.tdiv_eq_ediv_of_nonneg (by omega), wrap64] <;> omega
      rw [e1]
      refine f _ _ _ (ih d' (by omega) (by omega) hq10 (fun g1 k1 l1 => ?_))
      refine nz_of (by decide) ?_
      have e2 : Int.tmod (u : Int) 10 = ((u % 10 : Nat) : Int) := by
        rw [Int.tmod_eq_emod_of_nonneg (by omega)]; omega
      rw [e2]
      refine f _ _ _ (ih d' (by omega) (by omega) (Nat.lt_of_lt_of_le (Nat.mod_lt u (by decide)) (by rw [Nat.pow_succ]; have : 0 < 10 ^ n := Nat.pow_pos (by decide); omega)) (fun g2 k2 l2 => ?_))
      have ed : Lib.decDigits u = Lib.decDigits (u / 10) ++ Lib.decDigits (u % 10) := by
        conv => lhs; rw [Lib.decDigits, dif_neg h10]
        rw [Lib.decDigits_one (i := u % 10) (by omega)]
      refine ⟨by omega, ?_⟩
      rw [← ed]
      refine hq g2 (k1.trans k2) ?_
      rw [ed, List.length_append, Lib.decDigits_one (i := u % 10) (by omega)]
      simp
      omega

theorem Decimal_int {n : Nat} {U : Ifc} {v : Int} {h : Heap} {Q : List UInt8 → Heap → Prop} (d : DecAt (n + 1) U) (hn : n ≤ 20) (h63 : v.natAbs ≤ 9223372036854775807) (hv : v.natAbs < 10 ^ (n + 1)) (hq : ∀ h', Keeps none_ h h' → (Lib.itoa v).length ≤ n + 2 → Q (Lib.itoa v) h') : palisaderef03_Decimal U v Q h := by
  by_cases h0 : v < 0
  · obtain ⟨U', d', f⟩ := d
    unfold palisaderef03_Decimal
    refine br_t (decide_eq_true h0) ?_
    have e : IntKind.i64.wrap (0 - v) = ((v.natAbs : Nat) : Int) := by rw [wrap64] <;> omega
    rw [e]
    refine f _ _ _ (Decimal_nat d' hn h63 hv (fun g k l => ?_))
    refine ⟨by simp; omega, ?_⟩
    have ei : Lib.itoa v = 45 :: Lib.decDigits v.natAbs := by unfold Lib.itoa; rw [if_pos h0]
    rw [ei] at hq
    exact hq g k (by simp; omega)
  · obtain ⟨u, rfl⟩ : ∃ u : Nat, v = (u : Int) := ⟨v.toNat, by omega⟩
    have ei : Lib.itoa (u : Int) = Lib.decDigits u := by unfold Lib.itoa; rw [if_neg h0]; rfl
    rw [ei] at hq
    exact Decimal_nat d.less hn (by omega) (by simpa using hv) (fun g k l => hq g k (by omega))

/-! ### tables -/

def ordOf (op : Int) : List UInt8 :=
  match rshape op with
  | 1 => if op = 37 then [100, 97] else [100, 97, 98]
  | 2 => if op ≥ 23 ∧ op ≤ 25 ∨ op = 36 ∨ op ≥ 46 then [100, 105, 97] else [100, 97, 105]
  | 3 => [98, 105, 97]
  | 4 => [97, 98, 109]
  | 5 => if op = 35 then [100, 109] else [100, 105]
  | 6 => [97]
  | _ => []

theorem Order_ref {n : Nat} (hn : n < 64) {h : Heap} {Q : List UInt8 → Heap → Prop} (hq : Q (ordOf (n : Int)) h) : palisaderef03_Order (n : Int) Q h := by
  unfold palisaderef03_Order
  refine Shape_ref hn ?_
  rcases (by omega : n = 0 ∨ n = 1 ∨ n = 2 ∨ n = 3 ∨ n = 4 ∨ n = 5 ∨ n = 6 ∨ n = 7 ∨ n = 8 ∨ n = 9 ∨ n = 10 ∨ n = 11 ∨ n = 12 ∨ n = 13 ∨ n = 14 ∨ n = 15 ∨ n = 16 ∨ n = 17 ∨ n = 18 ∨ n = 19 ∨ n = 20 ∨ n = 21 ∨ n = 22 ∨ n = 23 ∨ n = 24 ∨ n = 25 ∨ n = 26 ∨ n = 27 ∨ n = 28 ∨ n = 29 ∨ n = 30 ∨ n = 31 ∨ n = 32 ∨ n = 33 ∨ n = 34 ∨ n = 35 ∨ n = 36 ∨ n = 37 ∨ n = 38 ∨ n = 39 ∨ n = 40 ∨ n = 41 ∨ n = 42 ∨ n = 43 ∨ n = 44 ∨ n = 45 ∨ n = 46 ∨ n = 47 ∨ n = 48 ∨ n = 49 ∨ n = 50 ∨ n = 51 ∨ n = 52 ∨ n = 53 ∨ n = 54 ∨ n = 55 ∨ n = 56 ∨ n = 57 ∨ n = 58 ∨ n = 59 ∨ n = 60 ∨ n = 61 ∨ n = 62 ∨ n = 63) with rfl | rfl | rfl | rfl | rfl | rfl | rfl | rfl | rfl | rfl | rfl | rfl | rfl | rfl | rfl | rfl | rfl | rfl | rfl | rfl | rfl | rfl | rfl | rfl | rfl | rfl | rfl | rfl | rfl | rfl | rfl | rfl | rfl | rfl | rfl | rfl | rfl | rfl | rfl | rfl | rfl | rfl | rfl | rfl | rfl | rfl | rfl | rfl | rfl | rfl | rfl | rfl | rfl | rfl | rfl | rfl | rfl | rfl | rfl | rfl | rfl | rfl | rfl | rfl <;> exact hq

end Go.Insn
