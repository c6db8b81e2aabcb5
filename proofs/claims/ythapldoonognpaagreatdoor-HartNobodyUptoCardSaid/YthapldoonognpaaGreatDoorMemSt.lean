/- Numbers in a memory: what is stored, and loaded again. -/
import Derived.Test.YthapldoonognpaaGreatDoorMemNum
set_option linter.unusedSimpArgs false
set_option linter.unusedVariables false
set_option maxRecDepth 100000
namespace Go.Mem
open Go.Lift Go.Fn

/-- The n lowest bytes of a number. -/
def le : Nat → Nat → List UInt8
  | 0, _ => []
  | n + 1, v => UInt8.ofNat (v % 256) :: le n (v / 256)

theorem le_length : ∀ n v, (le n v).length = n
  | 0, _ => rfl
  | n + 1, v => by simp [le, le_length n]

theorem le_get : ∀ (n v i : Nat), i < n → (le n v)[i]? = some (UInt8.ofNat (v / 256 ^ i % 256))
  | 0, v, i, h => by omega
  | n + 1, v, 0, h => by simp [le]
  | n + 1, v, i + 1, h => by
    simp only [le, List.getElem?_cons_succ]
    rw [le_get n _ i (by omega), Nat.div_div_eq_div_mul, Nat.pow_succ, Nat.mul_comm]

def byteSum : List UInt8 → Nat
  | [] => 0
  | b :: bs => b.toNat + 256 * byteSum bs

theorem byteSum_le : ∀ n v, v < 256 ^ n → byteSum (le n v) = v
  | 0, v, h => by simp [le, byteSum] at *; omega
  | n + 1, v, h => by
    simp only [le, byteSum]
    rw [byteSum_le n (v / 256) (by rw [Nat.pow_succ] at h; omega)]
    have : (UInt8.ofNat (v % 256)).toNat = v % 256 := by simp
    rw [this]; omega

theorem or_u64 {v w : Nat} (hv : v < 2 ^ 64) (hw : w < 2 ^ 64) : ibits .or .u64 (v : Int) (w : Int) = ((v ||| w : Nat) : Int) := by
  unfold ibits
  show IntKind.u64.wrap (((BitVec.ofInt 64 (v : Int)) ||| (BitVec.ofInt 64 (w : Int))).toNat : Int) = _
  rw [BitVec.toNat_or, BitVec.ofInt_natCast, BitVec.ofInt_natCast, BitVec.toNat_ofNat, BitVec.toNat_ofNat, Nat.mod_eq_of_lt hv, Nat.mod_eq_of_lt hw]
  have := Nat.or_lt_two_pow hv hw
  exact wrapu64 (by omega) (by omega)

theorem pow_step {i : Nat} (h : i + 1 ≤ 8) : 256 ^ i * 256 ≤ 2 ^ 64 := by
  rw [← Nat.pow_succ]
  exact Nat.pow_le_pow_right (n := 256) (by omega) h

theorem pow_two (i : Nat) : 2 ^ (8 * i) = 256 ^ i := by rw [Nat.pow_mul]

theorem ldGo_sum : ∀ (l : List UInt8) (i v : Nat), i + l.length ≤ 8 → v < 256 ^ i → ldGo i (v : Int) l = ((v + 256 ^ i * byteSum l : Nat) : Int)
  | [], i, v, _, _ => by simp [ldGo, byteSum]
  | b :: l, i, v, hl, hv => by
    simp only [ldGo, byteSum]
    simp only [List.length_cons] at hl
    have hb : b.toNat < 256 := b.toNat_lt
    have hp := pow_step (i := i) (by omega)
    have hm : b.toNat * 256 ^ i + 256 ^ i ≤ 256 ^ i * 256 := by
      have : (b.toNat + 1) * 256 ^ i ≤ 256 * 256 ^ i := Nat.mul_le_mul_right _ (by omega)
      rw [Nat.add_mul, Nat.one_mul, Nat.mul_comm 256] at this
      exact this
    have hpos : 0 < 256 ^ i := Nat.pow_pos (by omega)
    have e1 : IntKind.u64.wrap (b.toNat : Int) = (b.toNat : Int) := wrapu64
    have e2 : IntKind.i64.wrap (8 * (i : Int)) = ((8 * i : Nat) : Int) := by rw [wrap64]; omega
    have e3 : shlI .u64 (b.toNat : Int) ((8 * i : Nat) : Int) = ((b.toNat * 256 ^ i : Nat) : Int) := by
      unfold shlI
      have : min ((8 * i : Nat) : Int).toNat IntKind.u64.bits = 8 * i := by
        show min ((8 * i : Nat) : Int).toNat 64 = 8 * i
        omega
      rw [this]
      have e : (b.toNat : Int) * 2 ^ (8 * i) = ((b.toNat * 256 ^ i : Nat) : Int) := by
        rw [← pow_two]; push_cast; rfl
      rw [e]
      exact wrapu64 (by omega) (by omega)
    rw [e1, e2, e3, or_u64 (by omega) (by omega)]
    have e4 : v ||| b.toNat * 256 ^ i = v + b.toNat * 256 ^ i := by
      have := Nat.shiftLeft_add_eq_or_of_lt (b := v) (i := 8 * i) (by rw [pow_two]; exact hv) b.toNat
      rw [Nat.shiftLeft_eq, pow_two] at this
      rw [Nat.or_comm, ← this, Nat.add_comm]
    rw [e4, ldGo_sum l (i + 1) _ (by omega) (by rw [Nat.pow_succ]; omega)]
    congr 1
    rw [Nat.pow_succ, Nat.mul_add, Nat.mul_comm (256 ^ i) b.toNat, Nat.mul_assoc]
    omega

theorem ldGo_le {v : Int} (h0 : 0 ≤ v) (h1 : v ≤ 18446744073709551615) : ldGo 0 0 (le 8 v.toNat) = v := by
  have := ldGo_sum (le 8 v.toNat) 0 0 (by rw [le_length]; omega) (by simp)
  rw [byteSum_le 8 _ (by have : (256 : Nat) ^ 8 = 18446744073709551616 := by decide
                         omega)] at this
  simp only [Nat.pow_zero, Nat.one_mul, Nat.zero_add] at this
  have e : ((0 : Nat) : Int) = 0 := rfl
  rw [e] at this
  rw [this]; omega

section
variable {U : Ifc} {h h' : Heap} {x : Nat → Int} {pb bb : Nat} {bs : List UInt8}

theorem wr_M {l : List V} {mk : Bool} {b o : Nat} {u v : V} {κ : Heap → Prop} {h : Heap} (ho : h.obj b = some (.cells l mk)) (hx : l[o]? = some u) (hk : ∀ h', h'.obj b = some (.cells (l.set o v) mk) → Keeps (· = b) h h' → κ h') : wr ⟨b, o⟩ v κ h := by
  have hg : h.getW b o = some u := (getW_cells ho _).trans hx
  refine wr_of hg (hk _ ?_ (Keeps.set hg))
  simp [Heap.set, ho, HO.set]

theorem shr_byte {v : Int} {i : Nat} (h0 : 0 ≤ v) (hi : i < 8) : IntKind.u8.wrap (shrI .u64 v ((8 * i : Nat) : Int)) = ((UInt8.ofNat (v.toNat / 256 ^ i % 256)).toNat : Int) := by
  unfold shrI
  have : min ((8 * i : Nat) : Int).toNat IntKind.u64.bits = 8 * i := by
    show min ((8 * i : Nat) : Int).toNat 64 = 8 * i
    omega
  rw [this]
  have e : v.fdiv (2 ^ (8 * i)) = ((v.toNat / 256 ^ i : Nat) : Int) := by
    have hv : v = (v.toNat : Int) := by omega
    have hp : (2 : Int) ^ (8 * i) = ((256 ^ i : Nat) : Int) := by rw [← pow_two]; push_cast; rfl
    rw [hp, Int.fdiv_eq_ediv_of_nonneg _ (Int.natCast_nonneg _)]
    conv => lhs; rw [hv]
    exact (Int.natCast_ediv _ _).symm
  rw [e]
  have h8 : (UInt8.ofNat (v.toNat / 256 ^ i % 256)).toNat = v.toNat / 256 ^ i % 256 := by simp
  rw [h8]
  generalize v.toNat / 256 ^ i = m
  simp only [IntKind.wrap, IntKind.bits, IntKind.signed]
  simp

theorem wstore_of (w : Wid U h x) (hk8 : knownB x 8 = true) {v : Int} (h0 : 0 ≤ v) {Q : Sl → Heap → Prop}
    (hq : ∀ h' b, Own h' ⟨some ⟨b, 0⟩, 8, 8⟩ 1 (strCells (le 8 v.toNat)) b → h.obj b = none → Keeps none_ h h' → Q ⟨some ⟨b, 0⟩, 8, 8⟩ h') : word_Store U v 8 Q h := by
  unfold word_Store
  refine known_of w ?_
  rw [hk8]
  refine br_f rfl ?_
  refine mkSl_of (sz := 1) (n := 8) rfl (by omega) (by omega) (fun h1 b O hb k1 => ?_)
  obtain ⟨rest, mk, ho, hr⟩ := O.obj
  have hr0 : rest = [] := List.length_eq_zero_iff.1 (by rw [hr]; simp)
  subst hr0
  rw [List.append_nil] at ho
  unfold word_Store.j5
  intro I H
  have key : ∀ (m i : Nat) (l : List V) (g : Heap), i + m = 8 → l.length = 8 → (∀ j, j < i → l[j]? = (strCells (le 8 v.toNat))[j]?) → g.obj b = some (.cells l mk) → Keeps (· = b) h1 g → I v ⟨some ⟨b, 0⟩, 8, 8⟩ 8 (i : Int) g := by
    intro m
    induction m with
    | zero =>
      intro i l g hi hl hj hg kg
      refine H _ _ _ _ _ ?_
      unfold word_Store.b5
      refine br_f (by simp; omega) ?_
      have el : l = strCells (le 8 v.toNat) := by
        refine List.ext_getElem? (fun j => ?_)
        by_cases hj8 : j < 8
        · exact hj j (by omega)
        · rw [List.getElem?_eq_none (by omega), List.getElem?_eq_none (by rw [strCells_length, le_length]; omega)]
      subst el
      exact hq g b ⟨rfl, Nat.le_refl _, by rw [strCells_length, le_length]; rfl, [], mk, by rw [List.append_nil]; exact hg, rfl⟩ hb (Keeps.widen' k1 kg hb)
    | succ m ih =>
      intro i l g hi hl hj hg kg
      refine H _ _ _ _ _ ?_
      unfold word_Store.b5
      have e8 : IntKind.i64.wrap (8 * (i : Int)) = ((8 * i : Nat) : Int) := by rw [wrap64]; omega
      refine br_t (by simp; omega) (nneg_of (by rw [e8]; omega) (ix_of (by omega) (by show (i : Int) < ((8 : Nat) : Int); omega) ?_))
      rw [der_some, e8, shr_byte h0 (by omega)]
      have hli : i < l.length := by omega
      refine wr_M (u := l[i]) hg (by simp [List.getElem?_eq_getElem hli]) (fun g1 hg1 q1 => ?_)
      have e0 : 0 + (i : Int).toNat * 1 = i := by omega
      rw [e0] at hg1
      rw [wrap64]
      have := ih (i + 1) _ g1 (by omega) (by rw [List.length_set]; exact hl) (fun j hjl => ?_) hg1 (kg.trans q1)
      · simpa using this
      · by_cases e : j = i
        · subst e
          rw [List.getElem?_set_self hli, strCells_get, le_get 8 _ j (by omega)]
          rfl
        · rw [List.getElem?_set_ne (by omega)]
          exact hj j (by omega)
  have hfl : (flatRep 8 [V.int .u8 0]).length = 8 := by rw [flatRep_length]; rfl
  have := key 8 0 _ h1 rfl hfl (fun j hj => by omega) ho (Keeps.refl _ _)
  simpa using this

/-- Store at a place that is right. -/
theorem Store8_of (w : Wid U h x) (hk8 : knownB x 8 = true) (R : Rep pb bb bs h) {a v : Int} (ha : 0 ≤ a) (hal : a + 8 ≤ bs.length) (h8 : a.tmod 8 = 0) (h0 : 0 ≤ v) {Q : Int → Heap → Prop}
    (hq : ∀ h', Rep pb bb (put bs a.toNat (le 8 v.toNat)) h' → Keeps (· = bb) h h' → Q 0 h') : mem_Memory_Store U (some ⟨pb, 0⟩) a 8 v Q h := by
  unfold mem_Memory_Store
  have hs := R.size
  have hl : lies bs.length a 8 = true := by simp [lies]; omega
  have e0 : ldErr bs.length a = 0 := by unfold ldErr; rw [if_neg (by simpa using h8), hl]; rfl
  refine number8_of R ha (by omega) (fun he => absurd e0 he) (fun _ hle d h1 hd hc hp k1 => ?_)
  refine br_t rfl (wstore_of (w.keep0 k1) hk8 h0 (fun h2 b O hb k2 => ?_))
  have R2 := (R.keep0 k1).keep0 k2
  refine cellsS_of O.held ?_
  obtain ⟨mk, harr⟩ := R2.arr
  have htk : (strCells (le 8 v.toNat)).take (min 8 d.len * 1) = strCells (le 8 v.toNat) := by rw [hd]; exact List.take_of_length_le (by rw [strCells_length, le_length]; decide)
  refine copyS_of (o := a.toNat) hp harr (by rw [htk, strCells_length, strCells_length, le_length]; omega) (fun h3 ho3 k3 => ?_)
  rw [htk, put_cells] at ho3
  have hpl : (put bs a.toNat (le 8 v.toNat)).length = bs.length := put_length (by rw [le_length]; omega)
  have k13 : Keeps (· = bb) h h3 := ((k1.trans k2).mono (fun _ f => f.elim)).trans k3
  refine hq h3 ⟨?_, ⟨mk, ho3⟩, R.ne, by rw [hpl]; exact R.size⟩ k13
  rw [hpl]
  exact k13.obj R.cell R.ne

end

/-- The words of a memory, at places that are right. -/
def wd (x : Nat → Int) (bs : List UInt8) (k : Nat) : Int := ldVal x bs ((8 * k : Nat) : Int)

theorem ldErr_right {len k : Nat} (h : 8 * k + 8 ≤ len) : ldErr len ((8 * k : Nat) : Int) = 0 := by
  unfold ldErr
  have h8 : ((8 * k : Nat) : Int).tmod 8 = 0 := by rw [Int.tmod_eq_emod_of_nonneg (by omega)]; omega
  have hl : lies len ((8 * k : Nat) : Int) 8 = true := by simp [lies]; omega
  rw [if_neg (by rw [h8]; simp), hl]; rfl

theorem wd_put {x : Nat → Int} {bs : List UInt8} {j k : Nat} {v : Int} (hk8 : knownB x 8 = true) (h0 : 0 ≤ v) (h1 : v ≤ 18446744073709551615) (hj : 8 * j + 8 ≤ bs.length) (hk : 8 * k + 8 ≤ bs.length) :
    wd x (put bs (8 * j) (le 8 v.toNat)) k = if k = j then v else wd x bs k := by
  have hl8 := le_length 8 v.toNat
  have hpl : (put bs (8 * j) (le 8 v.toNat)).length = bs.length := put_length (by omega)
  unfold wd ldVal
  rw [hpl, if_pos ⟨ldErr_right hk, hk8⟩]
  have et : ((8 * k : Nat) : Int).toNat = 8 * k := by omega
  rw [et]
  by_cases e : k = j
  · subst e
    rw [if_pos rfl]
    have : ((put bs (8 * k) (le 8 v.toNat)).drop (8 * k)).take 8 = le 8 v.toNat := by
      refine List.ext_getElem? (fun i => ?_)
      by_cases hi : i < 8
      · rw [List.getElem?_take_of_lt hi, List.getElem?_drop, put_get (by omega), if_pos (by omega), Nat.add_sub_cancel_left]
      · rw [List.getElem?_eq_none (by simp; omega), List.getElem?_eq_none (by omega)]
    rw [this, ldGo_le h0 h1]
  · rw [if_neg e, if_pos ⟨ldErr_right hk, hk8⟩]
    congr 1
    refine List.ext_getElem? (fun i => ?_)
    by_cases hi : i < 8
    · rw [List.getElem?_take_of_lt hi, List.getElem?_drop, put_get (by omega), if_neg (by omega), List.getElem?_take_of_lt hi, List.getElem?_drop]
    · rw [List.getElem?_eq_none (by simp; omega), List.getElem?_eq_none (by simp; omega)]

theorem wd_zero {x : Nat → Int} {n k : Nat} (hk : 8 * k + 8 ≤ n) : wd x (List.replicate n 0) k = 0 := by
  unfold wd ldVal
  split
  · have : ((List.replicate n (0 : UInt8)).drop ((8 * k : Nat) : Int).toNat).take 8 = le 8 0 := by
      refine List.ext_getElem? (fun i => ?_)
      by_cases hi : i < 8
      · rw [List.getElem?_take_of_lt hi, List.getElem?_drop, List.getElem?_replicate, if_pos (by omega), le_get 8 0 i hi]
        simp
      · rw [List.getElem?_eq_none (by simp; omega), List.getElem?_eq_none (by rw [le_length]; omega)]
    rw [this]
    exact ldGo_le (v := 0) (by omega) (by omega)
  · rfl

end Go.Mem
