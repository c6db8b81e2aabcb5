/- Numbers: what operations of a hart give. -/
import Derived.Test.YtkfgkcdehmjmcaaGreatDoorHartC
import Derived.KernelRfl
set_option linter.unusedSimpArgs false
set_option linter.unusedVariables false
set_option maxRecDepth 100000
namespace Go.Hart
open Go.Lift Go.Fn Go.Mem Go.Insn

theorem u32_of_sx {v : Int} (h0 : 0 ≤ v) (h1 : v ≤ 4294967295) : IntKind.u32.wrap (IntKind.u64.wrap (IntKind.i64.wrap (IntKind.i32.wrap v))) = v := by
  simp only [IntKind.wrap, IntKind.bits, IntKind.signed]
  simp
  split <;> split <;> omega

theorem val4_put {bs : List UInt8} {a : Nat} {w : Int} (ha : a + 4 ≤ bs.length) (h0 : 0 ≤ w) (h1 : w ≤ 4294967295) : IntKind.u32.wrap (valN 4 (put bs a (le 4 w.toNat)) (a : Int)) = w := by
  unfold valN sx
  rw [if_pos rfl]
  have hl := le_length 4 w.toNat
  have e : ((put bs a (le 4 w.toNat)).drop ((a : Int)).toNat).take 4 = le 4 w.toNat := by
    refine List.ext_getElem? (fun i => ?_)
    by_cases hi : i < 4
    · rw [List.getElem?_take_of_lt hi, List.getElem?_drop, Int.toNat_natCast, put_get (by omega), if_pos (by omega), Nat.add_sub_cancel_left]
    · rw [List.getElem?_eq_none (by simp; omega), List.getElem?_eq_none (by omega)]
  rw [e, byteSum_le 4 _ (by have : (256 : Nat) ^ 4 = 4294967296 := by decide
                            omega)]
  have : ((w.toNat : Nat) : Int) = w := by omega
  rw [this]
  exact u32_of_sx h0 h1

theorem val_put_ne {n : Nat} {bs x : List UInt8} {a b : Nat} (ha : a + x.length ≤ bs.length) (hb : b + n ≤ a ∨ a + x.length ≤ b) : valN n (put bs a x) (b : Int) = valN n bs (b : Int) := by
  unfold valN
  congr 3
  refine List.ext_getElem? (fun i => ?_)
  by_cases hi : i < n
  · rw [List.getElem?_take_of_lt hi, List.getElem?_drop, Int.toNat_natCast, put_get ha, if_neg (by omega), List.getElem?_take_of_lt hi, List.getElem?_drop]
  · rw [List.getElem?_eq_none (by simp; omega), List.getElem?_eq_none (by simp; omega)]

theorem shr_nat {a n : Nat} (hn : n ≤ 63) : shrI .u64 (a : Int) (n : Int) = ((a / 2 ^ n : Nat) : Int) := by
  unfold shrI
  have e : min ((n : Int)).toNat IntKind.u64.bits = n := by
    show min ((n : Int)).toNat 64 = n
    omega
  have hp : (2 : Int) ^ n = ((2 ^ n : Nat) : Int) := by push_cast; rfl
  rw [e, hp, Int.fdiv_eq_ediv_of_nonneg _ (Int.natCast_nonneg _)]
  exact (Int.natCast_ediv _ _).symm

theorem or_zero {a : Int} (h0 : 0 ≤ a) (h1 : a ≤ 18446744073709551615) : ibits .or .u64 a 0 = a := by
  have e : a = ((a.toNat : Nat) : Int) := by omega
  have := or_u64 (v := a.toNat) (w := 0) (by omega) (by omega)
  rw [← e] at this
  have h0' : ((0 : Nat) : Int) = 0 := rfl
  rw [h0'] at this
  rw [this, Nat.or_zero, ← e]

theorem xor_max {m : Nat} (hm : m < 2 ^ 64) : ibits .xor .u64 IntKind.u64.max (m : Int) = ((2 ^ 64 - 1 - m : Nat) : Int) := by
  have : ibits .xor .u64 IntKind.u64.max (m : Int) = IntKind.u64.wrap ((BitVec.ofInt 64 IntKind.u64.max ^^^ BitVec.ofInt 64 (m : Int)).toNat : Int) := rfl
  rw [this]
  have e1 : BitVec.ofInt 64 IntKind.u64.max = BitVec.allOnes 64 := by decide
  rw [e1, BitVec.ofInt_natCast, BitVec.allOnes_xor, BitVec.toNat_not, BitVec.toNat_ofNat, Nat.mod_eq_of_lt hm]
  exact wrapu64 (by omega) (by omega)

theorem and63 (b : Int) : 0 ≤ ibits .and .u64 b 63 ∧ ibits .and .u64 b 63 ≤ 63 := by
  have hle : (BitVec.ofInt 64 b &&& BitVec.ofInt 64 63).toNat ≤ 63 := by
    rw [BitVec.toNat_and]; exact Nat.and_le_right
  have : ibits .and .u64 b 63 = IntKind.u64.wrap ((BitVec.ofInt 64 b &&& BitVec.ofInt 64 63).toNat : Int) := rfl
  rw [this, wrapu64]
  omega

/-- A shift with the sign. -/
theorem sra_eq {a n : Int} (h0 : 0 ≤ a) (h1 : a ≤ 18446744073709551615) (n0 : 0 ≤ n) (n1 : n ≤ 63) :
    IntKind.u64.wrap (shrI .i64 (IntKind.i64.wrap a) n) = if (shrI .u64 a 63 == 1) = true then ibits .or .u64 (shrI .u64 a n) (ibits .xor .u64 IntKind.u64.max (shrI .u64 18446744073709551615 n)) else ibits .or .u64 (shrI .u64 a n) 0 := by
  obtain ⟨A, rfl⟩ : ∃ A : Nat, a = A := ⟨a.toNat, by omega⟩
  obtain ⟨N, rfl⟩ : ∃ N : Nat, n = N := ⟨n.toNat, by omega⟩
  have hN : N ≤ 63 := by omega
  have e63 : shrI .u64 (A : Int) 63 = ((A / 2 ^ 63 : Nat) : Int) := shr_nat (n := 63) (by omega)
  have emax : shrI .u64 18446744073709551615 (N : Int) = ((18446744073709551615 / 2 ^ N : Nat) : Int) := shr_nat (a := 18446744073709551615) hN
  rw [e63, shr_nat hN, emax]
  have hpow : 2 ^ N * 2 ^ (64 - N) = 2 ^ 64 := by rw [← Nat.pow_add]; congr 1; omega
  have hp1 : 1 ≤ 2 ^ N := Nat.one_le_two_pow
  have hk1 : 1 ≤ 2 ^ (64 - N) := Nat.one_le_two_pow
  have hshr : ∀ x : Int, shrI .i64 x (N : Int) = x / ((2 ^ N : Nat) : Int) := by
    intro x
    unfold shrI
    have e : min ((N : Int)).toNat IntKind.i64.bits = N := by
      show min ((N : Int)).toNat 64 = N
      omega
    have hp : (2 : Int) ^ N = ((2 ^ N : Nat) : Int) := by push_cast; rfl
    rw [e, hp, Int.fdiv_eq_ediv_of_nonneg _ (Int.natCast_nonneg _)]
  rw [hshr]
  have hA64 : A < 2 ^ 64 := by omega
  have hdiv : A / 2 ^ N < 2 ^ (64 - N) := by
    rw [Nat.div_lt_iff_lt_mul (by omega), Nat.mul_comm, hpow]; exact hA64
  by_cases hs : A < 2 ^ 63
  · have e0 : A / 2 ^ 63 = 0 := Nat.div_eq_of_lt hs
    rw [e0, if_neg (by decide)]
    have ew : IntKind.i64.wrap (A : Int) = A := wrap64 (by omega) (by omega)
    rw [ew]
    have hd : ((A : Int)) / ((2 ^ N : Nat) : Int) = ((A / 2 ^ N : Nat) : Int) := (Int.natCast_ediv _ _).symm
    have hle : A / 2 ^ N ≤ A := Nat.div_le_self _ _
    rw [hd]
    clear hd hdiv hshr emax
    generalize A / 2 ^ N = D at *
    rw [or_zero (by omega) (by omega), wrapu64 (by omega) (by omega)]
  · have e1 : A / 2 ^ 63 = 1 := by omega
    rw [e1, if_pos (by decide)]
    have ew : IntKind.i64.wrap (A : Int) = (A : Int) - 2 ^ 64 := by
      simp only [IntKind.wrap, IntKind.bits, IntKind.signed]
      simp
      split <;> omega
    rw [ew]
    have hmax : 18446744073709551615 / 2 ^ N = 2 ^ (64 - N) - 1 := by
      have : (18446744073709551615 : Nat) = (2 ^ (64 - N) - 1) * 2 ^ N + (2 ^ N - 1) := by
        have h2 : (2 ^ (64 - N) - 1) * 2 ^ N + 2 ^ N = 2 ^ 64 := by
          rw [← Nat.succ_mul, Nat.succ_eq_add_one, Nat.sub_add_cancel hk1, Nat.mul_comm, hpow]
        omega
      rw [this, Nat.mul_comm, Nat.mul_add_div (by omega), Nat.div_eq_of_lt (by omega)]
      omega
    have hK64 : 2 ^ (64 - N) ≤ 2 ^ 64 := Nat.pow_le_pow_right (by omega) (by omega)
    rw [hmax, xor_max (by clear hmax hdiv hpow; generalize 2 ^ (64 - N) = K at *; omega)]
    have hX : 2 ^ 64 - 1 - (2 ^ (64 - N) - 1) = (2 ^ N - 1) * 2 ^ (64 - N) := by
      rw [Nat.sub_mul, hpow]; omega
    have hA2 : A / 2 ^ N < 2 ^ 64 := by have := Nat.div_le_self A (2 ^ N); generalize A / 2 ^ N = D at *; omega
    rw [hX, or_u64 hA2 (by rw [Nat.sub_mul, hpow]; clear hmax hX; generalize 2 ^ (64 - N) = K at *; omega)]
    have hor : A / 2 ^ N ||| (2 ^ N - 1) * 2 ^ (64 - N) = (2 ^ N - 1) * 2 ^ (64 - N) + A / 2 ^ N := by
      have := Nat.shiftLeft_add_eq_or_of_lt hdiv (2 ^ N - 1)
      rw [Nat.shiftLeft_eq] at this
      rw [Nat.or_comm, ← this]
    rw [hor]
    have hq : ((A : Int) - 2 ^ 64) / ((2 ^ N : Nat) : Int) = ((A / 2 ^ N : Nat) : Int) - ((2 ^ (64 - N) : Nat) : Int) := by
      have e64 : (2 : Int) ^ 64 = ((2 ^ N : Nat) : Int) * ((2 ^ (64 - N) : Nat) : Int) := by
        rw [← Int.natCast_mul, hpow]; decide
      rw [e64, Int.sub_mul_ediv_left _ _ (by omega)]
      congr 1
    rw [hq]
    have hX2 : (2 ^ N - 1) * 2 ^ (64 - N) + 2 ^ (64 - N) = 2 ^ 64 := by
      rw [← Nat.succ_mul, Nat.succ_eq_add_one, Nat.sub_add_cancel hp1, hpow]
    generalize (2 ^ N - 1) * 2 ^ (64 - N) = Y at *
    generalize A / 2 ^ N = D at *
    generalize 2 ^ (64 - N) = K at *
    simp only [IntKind.wrap, IntKind.bits, IntKind.signed]
    simp
    omega

/-! ## a step's end -/

theorem done_of {U : Ifc} {h0 g : Heap} {W : Nat → Prop} {tb hb ob rb fb bb pm bm : Nat} {F B P M : HO} {w nx : Int} {d : Dec} {x0 x1 x2 x3 x4 x5 x6 x7 x8 x9 x10 x11 x12 x13 x14 x15 pc md : Int} {Q : Int → Int → Int → Int → Bool → Bool → Int → Heap → Prop}
    (S : St h0 W [(tb, .cells (trapC 0 0 0 false 0) false), (hb, .cells (hartC rb fb bb w d nx) false), (ob, .cells (outC 0 0 0 0 false false) false), (rb, .cells (regsC x0 x1 x2 x3 x4 x5 x6 x7 x8 x9 x10 x11 x12 x13 x14 x15 pc md) false), (fb, F), (bb, B), (pm, P), (bm, M)] g)
    (hQ : ∀ g', St h0 W [(rb, .cells (regsC x0 x1 x2 x3 x4 x5 x6 x7 x8 x9 x10 x11 x12 x13 x14 x15 nx md) false), (fb, F), (bb, B), (pm, P), (bm, M)] g' → Q 0 0 0 0 false false 0 g') :
    behindOp U rb ob hb tb Q (.agg [.int .i64 0, .int .u64 0, .int .u64 0, .bool false, .int .i64 0]) g := by
  unfold behindOp
  repeat (first | ((with_reducible first | apply St.rI | apply St.rB | apply St.rP | apply St.rSl | apply St.rV | apply St.rM | apply St.rS); assumption; (first | exact i0 | exact i1 | exact i2 | exact i3 | exact i4 | exact i5 | exact i6 | exact i7 | exact i8 | exact i9 | exact i10 | exact i11 | exact i12 | exact i13 | exact i14 | exact i15); rfl) | with_reducible refine der_of ?_ | ((with_reducible refine br_t ?_ ?_); rfl) | ((with_reducible refine br_f ?_ ?_); rfl) | ((with_reducible refine br_t ?_ ?_); assumption) | ((with_reducible refine br_f ?_ ?_); assumption) | ((first | ((with_reducible apply St.wrL); assumption; (first | exact i0 | exact i1 | exact i2 | exact i3 | exact i4 | exact i5 | exact i6 | exact i7 | exact i8 | exact i9 | exact i10 | exact i11 | exact i12 | exact i13 | exact i14 | exact i15); exact Nat.le_of_ble_eq_true rfl) | ((with_reducible apply St.wr); assumption; (first | exact i0 | exact i1 | exact i2 | exact i3 | exact i4 | exact i5 | exact i6 | exact i7 | exact i8 | exact i9 | exact i10 | exact i11 | exact i12 | exact i13 | exact i14 | exact i15); rfl)); intro g_ S_; simp only [Ptr.add, List.set, splice, List.take, List.drop, List.nil_append, List.append_nil, List.cons_append, List.length_cons, List.length_nil, Nat.zero_add, Nat.add_zero, Nat.reduceAdd, Nat.reduceMul, Nat.mul_one, Int.toNat_zero, Int.toNat_one, Int.reduceToNat] at S_) | ((with_reducible apply St.al); assumption; intro b_ g_ S_) | ((with_reducible refine ix_of ?_ ?_ ?_); exact of_decide_eq_true rfl; exact of_decide_eq_true rfl) | ((with_reducible first | refine nz_of ?_ ?_ | refine nneg_of ?_ ?_); exact of_decide_eq_true rfl) | ((with_reducible refine chk_of ?_ ?_); rfl) | (with_reducible first | apply asI_of | apply asB_of | apply asP_of | apply asSl_of | apply asAggV_of | apply asTupV_of | apply asCons_of | apply asNil_of | apply isNil_n | apply isNil_i | apply nilC_i) | ((with_reducible apply St.rN); assumption; (first | exact i0 | exact i1 | exact i2 | exact i3 | exact i4 | exact i5 | exact i6 | exact i7 | exact i8 | exact i9 | exact i10 | exact i11 | exact i12 | exact i13 | exact i14 | exact i15); exact Nat.le_of_ble_eq_true rfl) | ((with_reducible refine And.intro ?_ ?_); rfl) | ((with_reducible refine And.intro ?_ ?_); (apply St.ck1; assumption; (first | exact i0 | exact i1 | exact i2 | exact i3 | exact i4 | exact i5 | exact i6 | exact i7 | exact i8 | exact i9 | exact i10 | exact i11 | exact i12 | exact i13 | exact i14 | exact i15); rfl)) | ((with_reducible apply exAnd); rfl))
  unfold hart_Step.j8
  repeat (first | ((with_reducible first | apply St.rI | apply St.rB | apply St.rP | apply St.rSl | apply St.rV | apply St.rM | apply St.rS); assumption; (first | exact i0 | exact i1 | exact i2 | exact i3 | exact i4 | exact i5 | exact i6 | exact i7 | exact i8 | exact i9 | exact i10 | exact i11 | exact i12 | exact i13 | exact i14 | exact i15); rfl) | with_reducible refine der_of ?_ | ((with_reducible refine br_t ?_ ?_); rfl) | ((with_reducible refine br_f ?_ ?_); rfl) | ((with_reducible refine br_t ?_ ?_); assumption) | ((with_reducible refine br_f ?_ ?_); assumption) | ((first | ((with_reducible apply St.wrL); assumption; (first | exact i0 | exact i1 | exact i2 | exact i3 | exact i4 | exact i5 | exact i6 | exact i7 | exact i8 | exact i9 | exact i10 | exact i11 | exact i12 | exact i13 | exact i14 | exact i15); exact Nat.le_of_ble_eq_true rfl) | ((with_reducible apply St.wr); assumption; (first | exact i0 | exact i1 | exact i2 | exact i3 | exact i4 | exact i5 | exact i6 | exact i7 | exact i8 | exact i9 | exact i10 | exact i11 | exact i12 | exact i13 | exact i14 | exact i15); rfl)); intro g_ S_; simp only [Ptr.add, List.set, splice, List.take, List.drop, List.nil_append, List.append_nil, List.cons_append, List.length_cons, List.length_nil, Nat.zero_add, Nat.add_zero, Nat.reduceAdd, Nat.reduceMul, Nat.mul_one, Int.toNat_zero, Int.toNat_one, Int.reduceToNat] at S_) | ((with_reducible apply St.al); assumption; intro b_ g_ S_) | ((with_reducible refine ix_of ?_ ?_ ?_); exact of_decide_eq_true rfl; exact of_decide_eq_true rfl) | ((with_reducible first | refine nz_of ?_ ?_ | refine nneg_of ?_ ?_); exact of_decide_eq_true rfl) | ((with_reducible refine chk_of ?_ ?_); rfl) | (with_reducible first | apply asI_of | apply asB_of | apply asP_of | apply asSl_of | apply asAggV_of | apply asTupV_of | apply asCons_of | apply asNil_of | apply isNil_n | apply isNil_i | apply nilC_i) | ((with_reducible apply St.rN); assumption; (first | exact i0 | exact i1 | exact i2 | exact i3 | exact i4 | exact i5 | exact i6 | exact i7 | exact i8 | exact i9 | exact i10 | exact i11 | exact i12 | exact i13 | exact i14 | exact i15); exact Nat.le_of_ble_eq_true rfl) | ((with_reducible refine And.intro ?_ ?_); rfl) | ((with_reducible refine And.intro ?_ ?_); (apply St.ck1; assumption; (first | exact i0 | exact i1 | exact i2 | exact i3 | exact i4 | exact i5 | exact i6 | exact i7 | exact i8 | exact i9 | exact i10 | exact i11 | exact i12 | exact i13 | exact i14 | exact i15); rfl)) | ((with_reducible apply exAnd); rfl))
  exact hQ _ (St.pick S_ [3, 4, 5, 6, 7] (by decide) rfl)

/-- The word of an operation on the registers 1 and 2, into 3. -/
def wM (op : Int) : Int := op * 67108864 + 12877824

theorem keq_refl (l : List V) (h : l.all (fun v => match v with | .int _ _ => true | .bool _ => true | .str _ => true | _ => false) = true) : keqL l l = true := by
  induction l with
  | nil => rfl
  | cons v l ih =>
    simp only [List.all_cons, Bool.and_eq_true] at h
    simp only [keqL, Bool.and_eq_true]
    refine ⟨?_, ih h.2⟩
    cases v <;> simp_all [keq]

theorem regs_same {x0 x1 x2 x3 x4 x5 x6 x7 x8 x9 x10 x11 x12 x13 x14 x15 pc md : Int} {xs ys : List V} {κ : Bool → Prop} (hx : xs = regsC x0 x1 x2 x3 x4 x5 x6 x7 x8 x9 x10 x11 x12 x13 x14 x15 pc md) (hy : ys = regsC x0 x1 x2 x3 x4 x5 x6 x7 x8 x9 x10 x11 x12 x13 x14 x15 pc md) (hk : κ true) : eqAgo [.int .u64, .int .u64, .int .u64, .int .u64, .int .u64, .int .u64, .int .u64, .int .u64, .int .u64, .int .u64, .int .u64, .int .u64, .int .u64, .int .u64, .int .u64, .int .u64, .int .u64, .int .i64] xs ys κ := by
  subst hx hy
  have hf : fitsL [.int .u64, .int .u64, .int .u64, .int .u64, .int .u64, .int .u64, .int .u64, .int .u64, .int .u64, .int .u64, .int .u64, .int .u64, .int .u64, .int .u64, .int .u64, .int .u64, .int .u64, .int .i64] (regsC x0 x1 x2 x3 x4 x5 x6 x7 x8 x9 x10 x11 x12 x13 x14 x15 pc md) := by simp [regsC, fitsL, keyIs]
  refine ⟨hf, hf, ?_⟩
  rw [keq_refl (regsC x0 x1 x2 x3 x4 x5 x6 x7 x8 x9 x10 x11 x12 x13 x14 x15 pc md) rfl]
  exact hk

/-! the reference's encoding -/

def rbit (w v a i : Int) : Int :=
  if (ibits .and .i64 (shrI .i64 v (IntKind.u64.wrap i)) 1 == 1) = true then ibits .or .u32 (ibits .andNot .u32 w (shlI .u32 1 (IntKind.u64.wrap (IntKind.i64.wrap (a + i))))) (shlI .u32 1 (IntKind.u64.wrap (IntKind.i64.wrap (a + i))))
  else ibits .andNot .u32 w (shlI .u32 1 (IntKind.u64.wrap (IntKind.i64.wrap (a + i))))
def rgo (v a : Int) : Nat → Int → Int → Int
  | 0, _, w => w
  | k + 1, i, w => rgo v a k (i + 1) (rbit w v a i)

theorem rplace_of {h : Heap} {w v a n : Int} (ha : 0 ≤ a ∧ a ≤ 31) (hn : 1 ≤ n ∧ n ≤ 32) (hs : a + n ≤ 32) {Q : Int → Heap → Prop} (hq : Q (rgo v a n.toNat 0 w) h) : palisaderef01_Place w v a n Q h := by
  unfold palisaderef01_Place
  refine br_f (by simp; omega) (br_f (by simp; omega) (br_f (by simp; omega) (br_f (by simp; omega) (br_f (by rw [wrap64]; simp; omega) ?_))))
  unfold palisaderef01_Place.j4
  intro I HI
  have key : ∀ (k : Nat) (i w' : Int), i + k = n → 0 ≤ i → rgo v a k i w' = rgo v a n.toNat 0 w → I w' v a n i h := by
    intro k
    induction k with
    | zero =>
      intro i w' hi h0 e
      refine HI _ _ _ _ _ _ ?_
      unfold palisaderef01_Place.b4
      refine br_f (by simp; omega) ?_
      have e : w' = _ := e
      rw [e]; exact hq
    | succ k ih =>
      intro i w' hi h0 e
      refine HI _ _ _ _ _ _ ?_
      unfold palisaderef01_Place.b4
      have e1 : IntKind.i64.wrap (i + 1) = i + 1 := wrap64
      refine br_t (by simp; omega) (nneg_of (wrapu64_range _).1 (nneg_of (wrapu64_range _).1 ?_))
      have e : rgo v a k (i + 1) (rbit w' v a i) = rgo v a n.toNat 0 w := e
      refine br_if (fun c => ?_) (fun c => ?_)
      · unfold palisaderef01_Place.j5
        rw [e1]
        unfold rbit at e
        rw [if_pos c] at e
        exact ih (i + 1) _ (by omega) (by omega) e
      · unfold palisaderef01_Place.j5
        rw [e1]
        unfold rbit at e
        rw [if_neg (by rw [c]; decide)] at e
        exact ih (i + 1) _ (by omega) (by omega) e
  exact key n.toNat 0 w (by omega) (by omega) rfl

def rthree (op rd a b : Int) : Int := rgo 0 0 14 0 (rgo b 14 4 0 (rgo a 18 4 0 (rgo rd 22 4 0 (rgo op 26 6 0 0))))

theorem val_at {Q : Int → Int → Heap → Prop} {v w : Int} {g : Heap} (e : v = w) (h : Q w 0 g) : Q v 0 g := e ▸ h

theorem enc_math {op : Int} (hop : 1 ≤ op ∧ op ≤ 13) : 0 ≤ wM op ∧ wM op ≤ 4294967295 ∧ (∀ (Q : Int → Int → Heap → Prop) g, (∀ g', Keeps none_ g g' → Q (wM op) 0 g') → palisaderef02_Encode op 3 1 2 0 Q g) ∧ decOf (wM op) = ⟨op, 3, 1, 2, 0, 0⟩ ∧ ifind op actsL = some (.fn 157 []) := by
  have all : op = 1 ∨ op = 2 ∨ op = 3 ∨ op = 4 ∨ op = 5 ∨ op = 6 ∨ op = 7 ∨ op = 8 ∨ op = 9 ∨ op = 10 ∨ op = 11 ∨ op = 12 ∨ op = 13 := by omega
  rcases all with rfl | rfl | rfl | rfl | rfl | rfl | rfl | rfl | rfl | rfl | rfl | rfl | rfl
  all_goals refine ⟨by decide, by decide, fun Q g hq => ?_, by kernel_rfl, by kernel_rfl⟩
  all_goals unfold palisaderef02_Encode
  all_goals have S := St.start g none_
  all_goals repeat (first | ((with_reducible first | apply St.rI | apply St.rB | apply St.rP | apply St.rSl | apply St.rV | apply St.rM | apply St.rS); assumption; (first | exact i0 | exact i1 | exact i2 | exact i3 | exact i4 | exact i5 | exact i6 | exact i7 | exact i8 | exact i9 | exact i10 | exact i11 | exact i12 | exact i13 | exact i14 | exact i15); rfl) | with_reducible refine der_of ?_ | ((with_reducible refine br_t ?_ ?_); rfl) | ((with_reducible refine br_f ?_ ?_); rfl) | ((with_reducible refine br_t ?_ ?_); assumption) | ((with_reducible refine br_f ?_ ?_); assumption) | ((first | ((with_reducible apply St.wrL); assumption; (first | exact i0 | exact i1 | exact i2 | exact i3 | exact i4 | exact i5 | exact i6 | exact i7 | exact i8 | exact i9 | exact i10 | exact i11 | exact i12 | exact i13 | exact i14 | exact i15); exact Nat.le_of_ble_eq_true rfl) | ((with_reducible apply St.wr); assumption; (first | exact i0 | exact i1 | exact i2 | exact i3 | exact i4 | exact i5 | exact i6 | exact i7 | exact i8 | exact i9 | exact i10 | exact i11 | exact i12 | exact i13 | exact i14 | exact i15); rfl)); intro g_ S_; simp only [Ptr.add, List.set, splice, List.take, List.drop, List.nil_append, List.append_nil, List.cons_append, List.length_cons, List.length_nil, Nat.zero_add, Nat.add_zero, Nat.reduceAdd, Nat.reduceMul, Nat.mul_one, Int.toNat_zero, Int.toNat_one, Int.reduceToNat] at S_) | ((with_reducible apply St.al); assumption; intro b_ g_ S_) | ((with_reducible refine ix_of ?_ ?_ ?_); exact of_decide_eq_true rfl; exact of_decide_eq_true rfl) | ((with_reducible first | refine nz_of ?_ ?_ | refine nneg_of ?_ ?_); exact of_decide_eq_true rfl) | ((with_reducible refine chk_of ?_ ?_); rfl) | (with_reducible first | apply asI_of | apply asB_of | apply asP_of | apply asSl_of | apply asAggV_of | apply asTupV_of | apply asCons_of | apply asNil_of | apply isNil_n | apply isNil_i | apply nilC_i) | ((with_reducible apply St.rN); assumption; (first | exact i0 | exact i1 | exact i2 | exact i3 | exact i4 | exact i5 | exact i6 | exact i7 | exact i8 | exact i9 | exact i10 | exact i11 | exact i12 | exact i13 | exact i14 | exact i15); exact Nat.le_of_ble_eq_true rfl) | ((with_reducible refine And.intro ?_ ?_); rfl) | ((with_reducible refine And.intro ?_ ?_); (apply St.ck1; assumption; (first | exact i0 | exact i1 | exact i2 | exact i3 | exact i4 | exact i5 | exact i6 | exact i7 | exact i8 | exact i9 | exact i10 | exact i11 | exact i12 | exact i13 | exact i14 | exact i15); rfl)) | ((with_reducible apply exAnd); rfl) | unfold palisaderef02_Valid | unfold palisaderef02_Shape | unfold palisaderef02_Shape.j4 | unfold palisaderef02_Shape.j5 | unfold palisaderef02_Shape.j7 | unfold palisaderef02_Shape.j9 | unfold palisaderef02_reg | unfold palisaderef02_imm | unfold palisaderef02_imm.j3 | unfold palisaderef02_imm.j5 | unfold palisaderef02_Valid.j4 | unfold palisaderef02_Valid.j5 | unfold palisaderef02_Valid.j6 | unfold palisaderef02_Valid.j7)
  all_goals iterate 5 (
    refine rplace_of (by decide) (by decide) (by decide) ?_
    repeat (first | ((with_reducible first | apply St.rI | apply St.rB | apply St.rP | apply St.rSl | apply St.rV | apply St.rM | apply St.rS); assumption; (first | exact i0 | exact i1 | exact i2 | exact i3 | exact i4 | exact i5 | exact i6 | exact i7 | exact i8 | exact i9 | exact i10 | exact i11 | exact i12 | exact i13 | exact i14 | exact i15); rfl) | with_reducible refine der_of ?_ | ((with_reducible refine br_t ?_ ?_); rfl) | ((with_reducible refine br_f ?_ ?_); rfl) | ((with_reducible refine br_t ?_ ?_); assumption) | ((with_reducible refine br_f ?_ ?_); assumption) | ((first | ((with_reducible apply St.wrL); assumption; (first | exact i0 | exact i1 | exact i2 | exact i3 | exact i4 | exact i5 | exact i6 | exact i7 | exact i8 | exact i9 | exact i10 | exact i11 | exact i12 | exact i13 | exact i14 | exact i15); exact Nat.le_of_ble_eq_true rfl) | ((with_reducible apply St.wr); assumption; (first | exact i0 | exact i1 | exact i2 | exact i3 | exact i4 | exact i5 | exact i6 | exact i7 | exact i8 | exact i9 | exact i10 | exact i11 | exact i12 | exact i13 | exact i14 | exact i15); rfl)); intro g_ S_; simp only [Ptr.add, List.set, splice, List.take, List.drop, List.nil_append, List.append_nil, List.cons_append, List.length_cons, List.length_nil, Nat.zero_add, Nat.add_zero, Nat.reduceAdd, Nat.reduceMul, Nat.mul_one, Int.toNat_zero, Int.toNat_one, Int.reduceToNat] at S_) | ((with_reducible apply St.al); assumption; intro b_ g_ S_) | ((with_reducible refine ix_of ?_ ?_ ?_); exact of_decide_eq_true rfl; exact of_decide_eq_true rfl) | ((with_reducible first | refine nz_of ?_ ?_ | refine nneg_of ?_ ?_); exact of_decide_eq_true rfl) | ((with_reducible refine chk_of ?_ ?_); rfl) | (with_reducible first | apply asI_of | apply asB_of | apply asP_of | apply asSl_of | apply asAggV_of | apply asTupV_of | apply asCons_of | apply asNil_of | apply isNil_n | apply isNil_i | apply nilC_i) | ((with_reducible apply St.rN); assumption; (first | exact i0 | exact i1 | exact i2 | exact i3 | exact i4 | exact i5 | exact i6 | exact i7 | exact i8 | exact i9 | exact i10 | exact i11 | exact i12 | exact i13 | exact i14 | exact i15); exact Nat.le_of_ble_eq_true rfl) | ((with_reducible refine And.intro ?_ ?_); rfl) | ((with_reducible refine And.intro ?_ ?_); (apply St.ck1; assumption; (first | exact i0 | exact i1 | exact i2 | exact i3 | exact i4 | exact i5 | exact i6 | exact i7 | exact i8 | exact i9 | exact i10 | exact i11 | exact i12 | exact i13 | exact i14 | exact i15); rfl)) | ((with_reducible apply exAnd); rfl) | unfold palisaderef02_Valid | unfold palisaderef02_Shape | unfold palisaderef02_Shape.j4 | unfold palisaderef02_Shape.j5 | unfold palisaderef02_Shape.j7 | unfold palisaderef02_Shape.j9 | unfold palisaderef02_reg | unfold palisaderef02_imm | unfold palisaderef02_imm.j3 | unfold palisaderef02_imm.j5 | unfold palisaderef02_Valid.j4 | unfold palisaderef02_Valid.j5 | unfold palisaderef02_Valid.j6 | unfold palisaderef02_Valid.j7 | unfold palisaderef02_Encode.j9))
  all_goals exact val_at (by kernel_rfl) (hq _ S_.keeps)

end Go.Hart
