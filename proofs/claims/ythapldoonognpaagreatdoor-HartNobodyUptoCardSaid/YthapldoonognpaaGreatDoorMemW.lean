/- Memories: numbers of one, four or eight bytes. -/
import Derived.Test.YthapldoonognpaaGreatDoorMemSt
set_option linter.unusedSimpArgs false
set_option linter.unusedVariables false
set_option maxRecDepth 100000
namespace Go.Mem
open Go.Lift Go.Fn

def isW (n : Nat) : Prop := n = 1 ∨ n = 4 ∨ n = 8
/-- What a number of so many bytes is read as. -/
def sx (n : Nat) (v : Int) : Int := if n = 4 then IntKind.u64.wrap (IntKind.i64.wrap (IntKind.i32.wrap v)) else v
def errN (n len : Nat) (a : Int) : Int := if a.tmod n ≠ 0 then 11 else if lies len a n then 0 else 12
def valN (n : Nat) (bs : List UInt8) (a : Int) : Int := sx n (byteSum ((bs.drop a.toNat).take n))

theorem byteSum_lt : ∀ l : List UInt8, byteSum l < 256 ^ l.length
  | [] => by simp [byteSum]
  | b :: l => by
    have := byteSum_lt l
    have hb : b.toNat < 256 := b.toNat_lt
    simp only [byteSum, List.length_cons, Nat.pow_succ]
    omega

theorem sx_range {n : Nat} (hn : isW n) {l : List UInt8} (hl : l.length = n) : 0 ≤ sx n (byteSum l) ∧ sx n (byteSum l) ≤ 18446744073709551615 := by
  unfold sx
  split
  · exact wrapu64_range _
  · have := byteSum_lt l
    rw [hl] at this
    rcases hn with rfl | rfl | rfl
    · have e : (256 : Nat) ^ 1 = 256 := by decide
      omega
    · omega
    · have e : (256 : Nat) ^ 8 = 18446744073709551616 := by decide
      omega

theorem valN_range {n : Nat} (hn : isW n) {bs : List UInt8} {a : Int} (h : errN n bs.length a = 0) (h0 : 0 ≤ a) : 0 ≤ valN n bs a ∧ valN n bs a ≤ 18446744073709551615 := by
  refine sx_range hn ?_
  unfold errN at h
  have hl : lies bs.length a n = true := by
    cases hl : lies bs.length a n with
    | true => rfl
    | false => rw [hl] at h; revert h; split <;> simp
  simp [lies] at hl
  simp; omega

section
variable {U : Ifc} {h h' : Heap} {x : Nat → Int} {pb bb : Nat} {bs : List UInt8}

theorem wloadN_of (w : Wid U h x) {n : Nat} (hn : isW n) (hk : knownB x n = true) {s : Sl} (H : Held h s 1 (strCells bs)) (hb : bs.length = n) (hcap : s.cap = n) (hp : s.p ≠ none) {Q : Int → Bool → Heap → Prop}
    (hq : Q (sx n (byteSum bs)) true h) {a3 : Int} (ew : a3 = ((n : Nat) : Int)) : word_Load U s 0 a3 Q h := by
  subst ew
  unfold word_Load
  have hl : s.len = n := by have := H.len; rw [strCells_length] at this; omega
  have hn8 : 1 ≤ n ∧ n ≤ 8 := by rcases hn with rfl | rfl | rfl <;> omega
  refine known_of w ?_
  rw [hk]
  refine br_f rfl (br_f rfl (br_f (by rw [hl, wrap64]; simp) ?_))
  rw [wrap64]
  refine sb_of (by omega) (by rw [hcap]; omega) (sb_of (by omega) (by omega) ?_)
  obtain ⟨p, hp⟩ : ∃ p, s.p = some p := by cases hs : s.p; exact absurd hs hp; exact ⟨_, rfl⟩
  have hsl : ∃ p', slp s.p ((0 : Int).toNat * 1) (0 : Int).toNat s.cap = some p' ∧ p'.b = p.b ∧ p'.o = p.o := by
    unfold slp
    rw [hp]
    split
    · exact ⟨p, rfl, rfl, rfl⟩
    · exact ⟨p.add 0, rfl, rfl, by simp [Ptr.add]⟩
  obtain ⟨p', hp', hpb, hpo⟩ := hsl
  rw [hp']
  have elen : ((0 : Int) + ((n : Nat) : Int)).toNat - (0 : Int).toNat = n := by omega
  rw [elen]
  unfold word_Load.j5
  intro I HI
  have hsum : ldGo 0 0 bs = (byteSum bs : Int) := by
    have := ldGo_sum bs 0 0 (by omega) (by simp)
    simpa using this
  have key : ∀ (m i : Nat) (v : Int), i + m = n → ldGo i v (bs.drop i) = ldGo 0 0 bs → I n v ⟨some p', n, s.cap - (0 : Int).toNat⟩ ((n : Nat) : Int) (i : Int) h := by
    intro m
    induction m with
    | zero =>
      intro i v hi hv
      refine HI _ _ _ _ _ _ ?_
      unfold word_Load.b5
      rw [List.drop_of_length_le (by omega)] at hv
      have hv : v = ldGo 0 0 bs := hv
      rw [hsum] at hv
      refine br_f (by simp; omega) ?_
      unfold sx at hq
      by_cases h4 : n = 4
      · subst h4; rw [if_pos rfl] at hq
        refine br_t rfl ?_
        rw [hv]; exact hq
      · rw [if_neg h4] at hq
        refine br_f (by simp; omega) ?_
        rw [hv]; exact hq
    | succ m ih =>
      intro i v hi hv
      refine HI _ _ _ _ _ _ ?_
      unfold word_Load.b5
      have hlt : i < bs.length := by omega
      refine br_t (by simp; omega) (ix_of (by omega) (by simp; omega) ?_)
      rw [der_some, Int.toNat_natCast]
      have hbi : bs[i]? = some bs[i] := List.getElem?_eq_getElem hlt
      refine rdI_of (x := (bs[i].toNat : Int)) ?_ (nneg_of (by rw [wrap64]; omega) ?_)
      · show h.get p'.b (p'.o + i * 1) = _
        rw [hpb, hpo, Nat.mul_one]
        exact H.row p hp i _ (by rw [strCells_get, hbi]; rfl)
      · rw [wrap64 (x := (i : Int) + 1)]
        rw [List.drop_eq_getElem_cons hlt] at hv
        have := ih (i + 1) _ (by omega) hv
        simpa using this
  have := key n 0 0 (by omega) rfl
  simpa using this

theorem numberN_of (R : Rep pb bb bs h) {n : Nat} (hn : isW n) {a : Int} (ha : 0 ≤ a) (ha2 : a ≤ 18446744073709551615) {Q : Sl → Int → Heap → Prop}
    (he : errN n bs.length a ≠ 0 → ∀ h', Keeps none_ h h' → Q ⟨none, 0, 0⟩ (errN n bs.length a) h')
    (h00 : errN n bs.length a = 0 → a + n ≤ bs.length → ∀ d h', d.len = n → d.cap = n → d.p = some ⟨bb, a.toNat⟩ → Keeps none_ h h' → Q d 0 h') {a3 : Int} (ew : a3 = ((n : Nat) : Int)) : mem_Memory_number (some ⟨pb, 0⟩) a a3 Q h := by
  subst ew
  unfold mem_Memory_number
  have hn8 : 1 ≤ n ∧ n ≤ 8 := by rcases hn with rfl | rfl | rfl <;> omega
  have fin : mem_Memory_number.j5 (some ⟨pb, 0⟩) a ((n : Nat) : Int) Q h := by
    unfold mem_Memory_number.j5
    have e8 : IntKind.u64.wrap ((n : Nat) : Int) = n := wrapu64
    rw [e8]
    refine nz_of (by omega) (br_if (fun hm => ?_) (fun hm => ?_))
    · have e : errN n bs.length a = 11 := by unfold errN; rw [if_pos (by simpa using hm)]
      have := he (by rw [e]; decide) h (Keeps.refl _ _)
      rw [e] at this; exact this
    · have hm : ¬ a.tmod n ≠ 0 := by simpa using hm
      refine part_of R ha ha2 (by omega) (by omega) (fun h => by omega) (fun _ hl h' k => ?_) (fun _ hle hal d h' hd hc ⟨o, hp, ho, hol⟩ k => ?_)
      · have e : errN n bs.length a = 12 := by unfold errN; rw [if_neg hm, hl]; rfl
        have := he (by rw [e]; decide) h' k
        rw [e] at this; exact this
      · have hl : lies bs.length a n = true := by simp [lies]; omega
        have e : errN n bs.length a = 0 := by unfold errN; rw [if_neg hm, hl]; rfl
        refine h00 e (by omega) d h' (by rw [hd]; omega) (by rw [hc]; omega) (by rw [hp, ho (by omega)]) k
  refine none_of R (br_f rfl ?_)
  rcases hn with rfl | rfl | rfl
  · exact br_f rfl fin
  · exact br_t rfl (br_f rfl fin)
  · exact br_t rfl (br_t rfl (br_f rfl fin))

theorem LoadN_of (w : Wid U h x) (R : Rep pb bb bs h) {n : Nat} (hn : isW n) (hk : knownB x n = true) {a : Int} (ha : 0 ≤ a) (ha2 : a ≤ 18446744073709551615) {Q : Int → Int → Heap → Prop}
    (hq : errN n bs.length a = 0 → ∀ h', Keeps none_ h h' → Q (valN n bs a) 0 h') (he : errN n bs.length a ≠ 0 → ∀ h', Keeps none_ h h' → Q 0 (errN n bs.length a) h') {a3 : Int} (ew : a3 = ((n : Nat) : Int)) : mem_Memory_Load U (some ⟨pb, 0⟩) a a3 Q h := by
  unfold mem_Memory_Load
  refine numberN_of R hn ha ha2 (fun hne h' k => ?_) (fun h0 hle d h' hd hc hp k => ?_) ew
  · exact br_t (by simpa using hne) (he hne h' k)
  · refine br_f rfl ?_
    have R' := R.keep0 k
    have hH := R'.held hp (by rw [hd]; omega)
    rw [hd] at hH
    have hlen : ((bs.drop a.toNat).take n).length = n := by simp; omega
    exact wloadN_of (w.keep0 k) hn hk hH hlen hc (by rw [hp]; simp) (hq h0 h' k) ew

theorem wstoreN_of (w : Wid U h x) {n : Nat} (hn : isW n) (hk : knownB x n = true) {v : Int} (h0 : 0 ≤ v) {Q : Sl → Heap → Prop}
    (hq : ∀ h' b, Own h' ⟨some ⟨b, 0⟩, n, n⟩ 1 (strCells (le n v.toNat)) b → h.obj b = none → Keeps none_ h h' → Q ⟨some ⟨b, 0⟩, n, n⟩ h') {a3 : Int} (ew : a3 = ((n : Nat) : Int)) : word_Store U v a3 Q h := by
  subst ew
  unfold word_Store
  have hn8 : 1 ≤ n ∧ n ≤ 8 := by rcases hn with rfl | rfl | rfl <;> omega
  refine known_of w ?_
  rw [hk]
  refine br_f rfl ?_
  refine mkSl_of (sz := 1) (n := n) rfl (by omega) (by omega) (fun h1 b O hb k1 => ?_)
  obtain ⟨rest, mk, ho, hr⟩ := O.obj
  have hr0 : rest = [] := List.length_eq_zero_iff.1 (by rw [hr]; simp)
  subst hr0
  rw [List.append_nil] at ho
  unfold word_Store.j5
  intro I H
  have key : ∀ (m i : Nat) (l : List V) (g : Heap), i + m = n → l.length = n → (∀ j, j < i → l[j]? = (strCells (le n v.toNat))[j]?) → g.obj b = some (.cells l mk) → Keeps (· = b) h1 g → I v ⟨some ⟨b, 0⟩, n, n⟩ n (i : Int) g := by
    intro m
    induction m with
    | zero =>
      intro i l g hi hl hj hg kg
      refine H _ _ _ _ _ ?_
      unfold word_Store.b5
      refine br_f (by simp; omega) ?_
      have el : l = strCells (le n v.toNat) := by
        refine List.ext_getElem? (fun j => ?_)
        by_cases hj8 : j < n
        · exact hj j (by omega)
        · rw [List.getElem?_eq_none (by omega), List.getElem?_eq_none (by rw [strCells_length, le_length]; omega)]
      subst el
      exact hq g b ⟨rfl, Nat.le_refl _, by rw [strCells_length, le_length]; show n = n * 1; omega, [], mk, by rw [List.append_nil]; exact hg, by show 0 = (n - n) * 1; omega⟩ hb (Keeps.widen' k1 kg hb)
    | succ m ih =>
      intro i l g hi hl hj hg kg
      refine H _ _ _ _ _ ?_
      unfold word_Store.b5
      have e8 : IntKind.i64.wrap (8 * (i : Int)) = ((8 * i : Nat) : Int) := by rw [wrap64]; omega
      refine br_t (by simp; omega) (nneg_of (by rw [e8]; omega) (ix_of (by omega) (by show (i : Int) < ((n : Nat) : Int); omega) ?_))
      rw [der_some, e8, shr_byte h0 (by omega)]
      have hli : i < l.length := by omega
      refine wr_M (u := l[i]) hg (by simp [List.getElem?_eq_getElem hli]) (fun g1 hg1 q1 => ?_)
      have e0 : 0 + (i : Int).toNat * 1 = i := by omega
      rw [e0] at hg1
      rw [wrap64]
      have := ih (i + 1) _ g1 (by omega) (by rw [List.length_set]; exact hl) (fun j hjl => ?_) hg1 (kg.trans q1)
      · simpa using this
      · by_cases e : j = i
        · subst e
          rw [List.getElem?_set_self hli, strCells_get, le_get n _ j (by omega)]
          rfl
        · rw [List.getElem?_set_ne (by omega)]
          exact hj j (by omega)
  have hfl : (flatRep n [V.int .u8 0]).length = n := by rw [flatRep_length]; simp
  have := key n 0 _ h1 (by omega) hfl (fun j hj => by omega) ho (Keeps.refl _ _)
  simpa using this

theorem StoreN_of (w : Wid U h x) (R : Rep pb bb bs h) {n : Nat} (hn : isW n) (hk : knownB x n = true) {a v : Int} (ha : 0 ≤ a) (ha2 : a ≤ 18446744073709551615) (h0 : 0 ≤ v) {Q : Int → Heap → Prop}
    (hq : errN n bs.length a = 0 → a + n ≤ bs.length → ∀ h', Rep pb bb (put bs a.toNat (le n v.toNat)) h' → Keeps (· = bb) h h' → Q 0 h') (he : errN n bs.length a ≠ 0 → ∀ h', Keeps none_ h h' → Q (errN n bs.length a) h') {a3 : Int} (ew : a3 = ((n : Nat) : Int)) : mem_Memory_Store U (some ⟨pb, 0⟩) a a3 v Q h := by
  unfold mem_Memory_Store
  have hs := R.size
  have hn8 : 1 ≤ n ∧ n ≤ 8 := by rcases hn with rfl | rfl | rfl <;> omega
  refine numberN_of R hn ha ha2 (fun hne h' k => br_f (by simpa using hne) (he hne h' k)) (fun e0 hle d h1 hd hc hp k1 => ?_) ew
  refine br_t rfl (wstoreN_of (w.keep0 k1) hn hk h0 (fun h2 b O hb k2 => ?_) ew)
  have R2 := (R.keep0 k1).keep0 k2
  refine cellsS_of O.held ?_
  obtain ⟨mk, harr⟩ := R2.arr
  have htk : (strCells (le n v.toNat)).take (min n d.len * 1) = strCells (le n v.toNat) := by rw [hd, Nat.min_self, Nat.mul_one]; exact List.take_of_length_le (by rw [strCells_length, le_length]; omega)
  refine copyS_of (o := a.toNat) hp harr (by rw [htk, strCells_length, strCells_length, le_length]; omega) (fun h3 ho3 k3 => ?_)
  rw [htk, put_cells] at ho3
  have hpl : (put bs a.toNat (le n v.toNat)).length = bs.length := put_length (by rw [le_length]; omega)
  have k13 : Keeps (· = bb) h h3 := ((k1.trans k2).mono (fun _ f => f.elim)).trans k3
  refine hq e0 hle h3 ⟨?_, ⟨mk, ho3⟩, R.ne, by rw [hpl]; exact R.size⟩ k13
  rw [hpl]
  exact k13.obj R.cell R.ne

end
end Go.Mem
