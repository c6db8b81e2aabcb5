/- What the reference shows of a word. -/
import Derived.Test.YtgigbjieppllgaaDoorShG
set_option linter.unusedSimpArgs false
set_option linter.unusedVariables false
set_option maxRecDepth 100000
namespace Go.Insn
open Go.Lift Go.Fn

def namesL : List (List UInt8) := [97, 100, 100] :: [115, 117, 98] :: [97, 110, 100] :: [111, 114] :: [120, 111, 114] :: [115, 108, 108] :: [115, 114, 108] :: [115, 114, 97] :: [115, 108, 116] :: [115, 108, 116, 117] :: [109, 117, 108] :: [100, 105, 118, 117] :: [114, 101, 109, 117] :: [97, 100, 100, 105] :: [97, 110, 100, 105] :: [111, 114, 105] :: [120, 111, 114, 105] :: [115, 108, 108, 105] :: [115, 114, 108, 105] :: [115, 114, 97, 105] :: [115, 108, 116, 105] :: [108, 117, 105] :: [108, 100] :: [108, 119] :: [108, 98] :: [115, 100] :: [115, 119] :: [115, 98] :: [98, 101, 113] :: [98, 110, 101] :: [98, 108, 116] :: [98, 103, 101] :: [98, 108, 116, 117] :: [98, 103, 101, 117] :: [106, 97, 108] :: [106, 97, 108, 114] :: [108, 114] :: [115, 99] :: [97, 109, 111, 97, 100, 100] :: [97, 109, 111, 115, 119, 112] :: [102, 101, 110, 99, 101] :: [101, 99, 97, 108, 108] :: [115, 114, 101, 116] :: [119, 102, 105] :: [115, 102, 101, 110, 99, 101] :: [99, 115, 114, 114, 119] :: [99, 115, 114, 114, 115] :: [99, 115, 114, 114, 99] :: []

/-- An operand's text. -/
def part (d : Dec) (c : UInt8) : List UInt8 := if c = 100 then 120 :: Lib.itoa d.rd else if c = 97 then 120 :: Lib.itoa d.rs1 else if c = 98 then 120 :: Lib.itoa d.rs2 else Lib.itoa d.imm

def textOf (d : Dec) : List UInt8 := (ordOf d.op).foldl (fun acc c => acc ++ [32] ++ part d c) (namesL.getD (d.op - 1).toNat [])

/-- What is known of an instruction that was read. -/
structure DecIs (d : Dec) : Prop where
  op : 1 ≤ d.op ∧ d.op ≤ 48
  rd : 0 ≤ d.rd ∧ d.rd < 16
  rs1 : 0 ≤ d.rs1 ∧ d.rs1 < 16
  rs2 : 0 ≤ d.rs2 ∧ d.rs2 < 16
  imm : -131072 ≤ d.imm ∧ d.imm < 131072
  e : d.e = 0

theorem op_range {n : Nat} (hn : n < 64) (h : rshape (n : Int) ≠ -1) : 1 ≤ n ∧ n ≤ 48 := by
  have key : ∀ n : Fin 64, rshape ((n.val : Nat) : Int) ≠ -1 → 1 ≤ n.val ∧ n.val ≤ 48 := by decide +kernel
  exact key ⟨n, hn⟩ h

theorem decRest_is {w v : Int} {op rd rs1 rs2 : Nat} (h0 : op < 64) (h1 : rd < 16) (h2 : rs1 < 16) (h3 : rs2 < 16) (hs : rshape (op : Int) ≠ -1) (hv : -131072 ≤ v ∧ v < 131072) : (decRest w op rd rs1 rs2 v).e = 10 ∨ DecIs (decRest w op rd rs1 rs2 v) := by
  unfold decRest
  by_cases e1 : (encOf (op : Int) rd rs1 rs2 v).2 ≠ 0
  · rw [if_pos e1]; exact .inl rfl
  · rw [if_neg e1]
    by_cases e2 : (encOf (op : Int) rd rs1 rs2 v).1 ≠ w
    · rw [if_pos e2]; exact .inl rfl
    · rw [if_neg e2]
      have := op_range h0 hs
      exact .inr ⟨⟨by show (1 : Int) ≤ (op : Int); omega, by show (op : Int) ≤ 48; omega⟩, ⟨by show (0 : Int) ≤ (rd : Int); omega, by show (rd : Int) < 16; omega⟩, ⟨by show (0 : Int) ≤ (rs1 : Int); omega, by show (rs1 : Int) < 16; omega⟩, ⟨by show (0 : Int) ≤ (rs2 : Int); omega, by show (rs2 : Int) < 16; omega⟩, hv, rfl⟩

theorem dec_is {w : Nat} (hw : w < 2 ^ 32) : (decOf (w : Int)).e = 10 ∨ DecIs (decOf (w : Int)) := by
  have f0 : wfield (w : Int) 26 6 = ((w / 2 ^ 26 % 2 ^ 6 : Nat) : Int) := wfield_eq (at_ := 26) (n := 6) hw (by decide)
  have f1 : wfield (w : Int) 22 4 = ((w / 2 ^ 22 % 2 ^ 4 : Nat) : Int) := wfield_eq (at_ := 22) (n := 4) hw (by decide)
  have f2 : wfield (w : Int) 18 4 = ((w / 2 ^ 18 % 2 ^ 4 : Nat) : Int) := wfield_eq (at_ := 18) (n := 4) hw (by decide)
  have f3 : wfield (w : Int) 14 4 = ((w / 2 ^ 14 % 2 ^ 4 : Nat) : Int) := wfield_eq (at_ := 14) (n := 4) hw (by decide)
  have f4 : wfield (w : Int) 0 14 = fld w 0 14 := wfield_eq (at_ := 0) (n := 14) hw (by decide)
  have f5 : wfield (w : Int) 0 18 = fld w 0 18 := wfield_eq (at_ := 0) (n := 18) hw (by decide)
  have b4 : 0 ≤ fld w 0 14 ∧ fld w 0 14 < 16384 := by unfold fld; omega
  have b5 : 0 ≤ fld w 0 18 ∧ fld w 0 18 < 262144 := by unfold fld; omega
  unfold decOf
  rw [f0, f1, f2, f3, f4, f5, wsign14 b4.1 b4.2, wsign18 b5.1 b5.2]
  have l0 : w / 2 ^ 26 % 2 ^ 6 < 64 := by omega
  have l1 : w / 2 ^ 22 % 2 ^ 4 < 16 := by omega
  have l2 : w / 2 ^ 18 % 2 ^ 4 < 16 := by omega
  have l3 : w / 2 ^ 14 % 2 ^ 4 < 16 := by omega
  generalize w / 2 ^ 26 % 2 ^ 6 = op at l0 ⊢
  generalize w / 2 ^ 22 % 2 ^ 4 = rd at l1 ⊢
  generalize w / 2 ^ 18 % 2 ^ 4 = rs1 at l2 ⊢
  generalize w / 2 ^ 14 % 2 ^ 4 = rs2 at l3 ⊢
  by_cases en : rshape (op : Int) = -1
  · rw [shapeOf_none l0 en]; exact .inl rfl
  · rw [shapeOf_of en]
    by_cases e5 : rshape (op : Int) = 5
    · simp only [if_pos e5]
      exact decRest_is (rs1 := 0) (rs2 := 0) l0 l1 (by decide) (by decide) en (by rw [sgn18]; split <;> omega)
    · simp only [if_neg e5]
      exact decRest_is l0 l1 l2 l3 en (by rw [sgn14]; split <;> omega)

section
variable {U : Ifc} {h0 h : Heap}

theorem itoa_len {v : Int} (h : v.natAbs < 10000000000) : (Lib.itoa v).length ≤ 11 := by
  have hl : ∀ n u : Nat, u < 10 ^ (n + 1) → (Lib.decDigits u).length ≤ n + 1 := by
    intro n
    induction n with
    | zero => intro u hu; rw [Lib.decDigits_one (by omega)]; exact Nat.le_refl 1
    | succ n ih =>
      intro u hu
      by_cases h10 : u < 10
      · rw [Lib.decDigits_one h10]; simp
      · have hq10 : u / 10 < 10 ^ (n + 1) := by
          rw [Nat.pow_succ] at hu
          exact Nat.div_lt_of_lt_mul (by rw [Nat.mul_comm]; exact hu)
        rw [Lib.decDigits, dif_neg h10, List.length_append]
        have := ih _ hq10
        simp; omega
  unfold Lib.itoa
  split
  · have := hl 9 v.natAbs (by omega)
    simp; omega
  · have := hl 9 v.toNat (by omega)
    omega

theorem part_len {d : Dec} (D : DecIs d) (c : UInt8) : (part d c).length ≤ 12 := by
  obtain ⟨_, a, b, e, i, _⟩ := D
  unfold part
  split
  · have := itoa_len (v := d.rd) (by omega); simp; omega
  · split
    · have := itoa_len (v := d.rs1) (by omega); simp; omega
    · split
      · have := itoa_len (v := d.rs2) (by omega); simp; omega
      · have := itoa_len (v := d.imm) (by omega); omega

theorem loop_ref (du : DecAt 10 U) {d : Dec} (D : DecIs d) {b : Nat} {Q : List UInt8 → Heap → Prop} {ord : List UInt8} (ho : ord.length ≤ 10) {I : Ptr → List UInt8 → List UInt8 → Int → Heap → Prop} (HI : ∀ a1 a2 a3 a4 h, palisaderef03_Show.b7 U I a1 a2 a3 a4 Q h → I a1 a2 a3 a4 h) :
    ∀ k i : Nat, i + k = ord.length → ∀ (acc : List UInt8) (h : Heap), acc.length ≤ 100 + 20 * i → St h0 none_ [(b, .cells [.int .i64 d.op, .int .i64 d.rd, .int .i64 d.rs1, .int .i64 d.rs2, .int .i64 d.imm] false)] h → (∀ h', Keeps none_ h0 h' → Q ((ord.drop i).foldl (fun acc c => acc ++ [32] ++ part d c) acc) h') → I ⟨b, 0⟩ acc ord (i : Int) h := by
  intro k
  induction k with
  | zero =>
    intro i hi acc h hl S hq
    refine HI _ _ _ _ _ ?_
    unfold palisaderef03_Show.b7
    refine br_f (decide_eq_false (by omega)) ?_
    have := hq h S.keeps
    rw [List.drop_eq_nil_of_le (by omega)] at this
    exact this
  | succ k ih =>
    intro i hi acc h hl S hq
    refine HI _ _ _ _ _ ?_
    unfold palisaderef03_Show.b7
    refine br_t (decide_eq_true (by omega)) ?_
    have D' := D
    obtain ⟨_, a, r1, r2, im, _⟩ := D'
    refine S.rI i0 rfl (Decimal_int du (by decide) (by omega) (by omega) (fun g1 k1 l1 => ?_))
    have S1 := S.keep k1
    refine ix_of (by omega) (by omega) ?_
    rw [Int.toNat_natCast]
    have hdr : ord.drop i = ord.getD i 0 :: ord.drop (i + 1) := by
      rw [List.drop_eq_getElem_cons (by omega)]
      congr 1
      rw [List.getD_eq_getElem?_getD, List.getElem?_eq_getElem (by omega)]; rfl
    rw [hdr] at hq
    generalize ord.getD i 0 = c at hq ⊢
    have ew : IntKind.i64.wrap ((i : Int) + 1) = ((i + 1 : Nat) : Int) := by rw [wrap64] <;> omega
    have fin : ∀ (s : List UInt8) (g : Heap), s = part d c → Keeps none_ g1 g → palisaderef03_Show.j17 U I ⟨b, 0⟩ acc ord (i : Int) s Q g := by
      intro s g hs k2
      subst hs
      have pl := part_len D c
      unfold palisaderef03_Show.j17 palisaderef03_Show.j8
      refine ⟨by simp; omega, ⟨by simp; omega, ?_⟩⟩
      rw [ew]
      exact ih (i + 1) (by omega) _ _ (by simp; omega) (S1.keep k2) hq
    have cat : ∀ (s : List UInt8) {κ : List UInt8 → Prop}, s.length ≤ 20 → κ (120 :: s) → catS [120] s κ := fun s κ hs hk => ⟨by simp; omega, hk⟩
    have cu : ∀ m : UInt8, ((c.toNat : Nat) : Int) = ((m.toNat : Nat) : Int) ↔ c = m := fun m => ⟨fun hh => UInt8.toNat_inj.1 (by omega), fun hh => by rw [hh]⟩
    by_cases c1 : c = 100
    · refine br_t (by rw [beq_iff_eq]; exact (cu 100).2 c1) (S1.rI i0 rfl (Decimal_int du (by decide) (by omega) (by omega) (fun g2 k2 l2 => cat _ (by omega) (fin _ g2 ?_ k2))))
      unfold part; rw [if_pos c1]
    refine br_f (beq_false_of_ne (fun hh => c1 ((cu 100).1 hh))) ?_
    by_cases c2 : c = 97
    · refine br_t (by rw [beq_iff_eq]; exact (cu 97).2 c2) (S1.rI i0 rfl (Decimal_int du (by decide) (by omega) (by omega) (fun g2 k2 l2 => cat _ (by omega) (fin _ g2 ?_ k2))))
      unfold part; rw [if_neg c1, if_pos c2]
    refine br_f (beq_false_of_ne (fun hh => c2 ((cu 97).1 hh))) ?_
    by_cases c3 : c = 98
    · refine br_t (by rw [beq_iff_eq]; exact (cu 98).2 c3) (S1.rI i0 rfl (Decimal_int du (by decide) (by omega) (by omega) (fun g2 k2 l2 => cat _ (by omega) (fin _ g2 ?_ k2))))
      unfold part; rw [if_neg c1, if_neg c2, if_pos c3]
    refine br_f (beq_false_of_ne (fun hh => c3 ((cu 98).1 hh))) (fin _ g1 ?_ (Keeps.refl _ _))
    unfold part; rw [if_neg c1, if_neg c2, if_neg c3]

end
end Go.Insn
