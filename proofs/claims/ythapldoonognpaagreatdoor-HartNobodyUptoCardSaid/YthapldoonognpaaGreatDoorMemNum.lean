/- Numbers in a memory: what is loaded. -/
import Derived.Test.YthapldoonognpaaGreatDoorMem0
set_option linter.unusedSimpArgs false
set_option linter.unusedVariables false
set_option maxRecDepth 100000
namespace Go.Mem
open Go.Lift Go.Fn

/-- The widths, as they stand in the program's variable. -/
def Wid (U : Ifc) (h : Heap) (x : Nat → Int) : Prop := ∀ i, i < 4 → h.get (U.glob 1) i = some (.int .i64 (x i))

def knownB (x : Nat → Int) (a : Int) : Bool := (List.range 4).any fun i => x i == a && decide (x i > 0)

section
variable {U : Ifc} {h h' : Heap} {x : Nat → Int}

theorem Wid.keeps {S : Nat → Prop} (w : Wid U h x) (k : Keeps S h h') (hs : ¬ S (U.glob 1)) : Wid U h' x := by
  intro i hi
  have hg := w i hi
  have hn : h.obj (U.glob 1) ≠ none := by intro hn; unfold Heap.get at hg; rw [hn] at hg; cases hg
  rw [Heap.get_obj (k.same _ hn hs)]; exact hg
theorem Wid.keep0 (w : Wid U h x) (k : Keeps none_ h h') : Wid U h' x := w.keeps k (fun f => f)
theorem Wid.known (w : Wid U h x) : h.obj (U.glob 1) ≠ none := by
  have hg := w 0 (by omega)
  intro hn; unfold Heap.get at hg; rw [hn] at hg; cases hg

theorem known_of (w : Wid U h x) {a : Int} {Q : Bool → Heap → Prop} (hq : Q (knownB x a) h) : word_known U a Q h := by
  unfold word_known
  refine rdI_of (w 0 (by omega)) (rdI_of (w 1 (by omega)) (rdI_of (w 2 (by omega)) (rdI_of (w 3 (by omega)) ?_)))
  unfold word_known.j2
  intro I H
  have key : ∀ (m i : Nat), i + m = 4 → (∀ j, j < i → (x j == a && decide (x j > 0)) = false) → I a (x 0) (x 1) (x 2) (x 3) (i : Int) h := by
    intro m
    induction m with
    | zero =>
      intro i hi hno
      refine H _ _ _ _ _ _ _ ?_
      unfold word_known.b2
      refine br_f (by simp; omega) ?_
      have : knownB x a = false := by
        unfold knownB
        rw [List.any_eq_false]
        intro j hj
        have := hno j (by have := List.mem_range.1 hj; omega)
        simp only [this]; decide
      rw [this] at hq; exact hq
    | succ m ih =>
      intro i hi hno
      refine H _ _ _ _ _ _ _ ?_
      unfold word_known.b2
      refine br_t (by simp; omega) (ix_of (by omega) (by show (i : Int) < ((4 : Nat) : Int); omega) ?_)
      rw [Int.toNat_natCast, Nat.mul_one]
      have hx : ([.int .i64 (x 0), .int .i64 (x 1), .int .i64 (x 2), .int .i64 (x 3)] : List V)[i]? = some (.int .i64 (x i)) := by
        have : i = 0 ∨ i = 1 ∨ i = 2 ∨ i = 3 := by omega
        rcases this with rfl | rfl | rfl | rfl <;> rfl
      refine ⟨x i, hx, ?_⟩
      have next : (x i == a && decide (x i > 0)) = false → word_known.j6 U I a (x 0) (x 1) (x 2) (x 3) (i : Int) Q h := by
        intro hf
        unfold word_known.j6
        rw [wrap64]
        have := ih (i + 1) (by omega) (fun j hj => by
          by_cases e : j = i
          · subst e; exact hf
          · exact hno j (by omega))
        simpa using this
      refine br_if (fun h1 => br_if (fun h2 => ?_) (fun h2 => next (by rw [h1, h2]; rfl))) (fun h1 => next (by rw [h1]; rfl))
      have : knownB x a = true := List.any_eq_true.2 ⟨i, List.mem_range.2 (by omega), by rw [h1, h2]; rfl⟩
      rw [this] at hq; exact hq
  have := key 4 0 rfl (by intro j hj; omega)
  simpa using this

/-- The number of bytes, the lowest first. -/
def ldGo : Nat → Int → List UInt8 → Int
  | _, v, [] => v
  | i, v, b :: bs => ldGo (i + 1) (ibits .or .u64 v (shlI .u64 (IntKind.u64.wrap b.toNat) (IntKind.i64.wrap (8 * i)))) bs

theorem wload_of (w : Wid U h x) {s : Sl} {bs : List UInt8} (H : Held h s 1 (strCells bs)) (hb : bs.length = 8) (hcap : s.cap = 8) (hp : s.p ≠ none) {Q : Int → Bool → Heap → Prop}
    (hq : Q (if knownB x 8 then ldGo 0 0 bs else 0) (knownB x 8) h) : word_Load U s 0 8 Q h := by
  unfold word_Load
  have hl : s.len = 8 := by have := H.len; rw [strCells_length] at this; omega
  refine known_of w ?_
  cases hk : knownB x 8 with
  | false => rw [hk] at hq; exact br_t rfl hq
  | true =>
    rw [hk] at hq
    refine br_f rfl (br_f rfl (br_f (by rw [hl]; decide) ?_))
    rw [wrap64]
    refine sb_of (by omega) (by rw [hcap]; decide) (sb_of (by omega) (by decide) ?_)
    obtain ⟨p, hp⟩ : ∃ p, s.p = some p := by cases hs : s.p; exact absurd hs hp; exact ⟨_, rfl⟩
    have hsl : ∃ p', slp s.p ((0 : Int).toNat * 1) (0 : Int).toNat s.cap = some p' ∧ p'.b = p.b ∧ p'.o = p.o := by
      unfold slp
      rw [hp]
      split
      · exact ⟨p, rfl, rfl, rfl⟩
      · exact ⟨p.add 0, rfl, rfl, by simp [Ptr.add]⟩
    obtain ⟨p', hp', hpb, hpo⟩ := hsl
    rw [hp']
    unfold word_Load.j5
    intro I HI
    have key : ∀ (m i : Nat) (v : Int), i + m = 8 → ldGo i v (bs.drop i) = ldGo 0 0 bs → I 8 v ⟨some p', ((0 : Int) + 8).toNat - (0 : Int).toNat, s.cap - (0 : Int).toNat⟩ (((((0 : Int) + 8).toNat - (0 : Int).toNat : Nat)) : Int) (i : Int) h := by
      intro m
      induction m with
      | zero =>
        intro i v hi hv
        refine HI _ _ _ _ _ _ ?_
        unfold word_Load.b5
        refine br_f (by simp; omega) (br_f rfl ?_)
        rw [List.drop_of_length_le (by omega)] at hv
        have hv : v = ldGo 0 0 bs := hv
        rw [hv]; exact hq
      | succ m ih =>
        intro i v hi hv
        refine HI _ _ _ _ _ _ ?_
        unfold word_Load.b5
        have hlt : i < bs.length := by omega
        refine br_t (by simp; omega) (ix_of (by omega) (by simp; omega) ?_)
        rw [der_some, Int.toNat_natCast]
        have hbi : bs[i]? = some bs[i] := List.getElem?_eq_getElem hlt
        refine rdI_of (x := (bs[i].toNat : Int)) ?_ (nneg_of (by rw [wrap64]; omega) ?_)
        · show h.get p'.b (p'.o + i * 1) = _
          rw [hpb, hpo, Nat.mul_one]
          exact H.row p hp i _ (by rw [strCells_get, hbi]; rfl)
        · rw [wrap64 (x := (i : Int) + 1)]
          rw [List.drop_eq_getElem_cons hlt] at hv
          have := ih (i + 1) _ (by omega) hv
          simpa using this
    have := key 8 0 0 rfl rfl
    simpa using this

variable {pb bb : Nat} {bs : List UInt8}

def ldErr (len : Nat) (a : Int) : Int := if a.tmod 8 ≠ 0 then 11 else if lies len a 8 then 0 else 12
def ldVal (x : Nat → Int) (bs : List UInt8) (a : Int) : Int := if ldErr bs.length a = 0 ∧ knownB x 8 = true then ldGo 0 0 ((bs.drop a.toNat).take 8) else 0

theorem ibits_range (op : BinOp) (a b : Int) (ho : op = .or) : 0 ≤ ibits op .u64 a b ∧ ibits op .u64 a b ≤ 18446744073709551615 := by
  subst ho
  exact wrapu64_range _

theorem ldGo_range : ∀ (l : List UInt8) (i : Nat) (v : Int), (0 ≤ v ∧ v ≤ 18446744073709551615) → 0 ≤ ldGo i v l ∧ ldGo i v l ≤ 18446744073709551615
  | [], _, _, h => h
  | _ :: l, i, v, _ => ldGo_range l (i + 1) _ (ibits_range .or _ _ rfl)

theorem ldVal_range (x : Nat → Int) (bs : List UInt8) (a : Int) : 0 ≤ ldVal x bs a ∧ ldVal x bs a ≤ 18446744073709551615 := by
  unfold ldVal
  split
  · exact ldGo_range _ _ _ (by omega)
  · omega

theorem number8_of (R : Rep pb bb bs h) {a : Int} (ha : 0 ≤ a) (ha2 : a ≤ 18446744073709551615) {Q : Sl → Int → Heap → Prop}
    (he : ldErr bs.length a ≠ 0 → ∀ h', Keeps none_ h h' → Q ⟨none, 0, 0⟩ (ldErr bs.length a) h')
    (h00 : ldErr bs.length a = 0 → a + 8 ≤ bs.length → ∀ d h', d.len = 8 → d.cap = 8 → d.p = some ⟨bb, a.toNat⟩ → Keeps none_ h h' → Q d 0 h') : mem_Memory_number (some ⟨pb, 0⟩) a 8 Q h := by
  unfold mem_Memory_number
  refine none_of R (br_f rfl (br_t rfl (br_t rfl (br_f rfl ?_))))
  unfold mem_Memory_number.j5
  have e8 : IntKind.u64.wrap 8 = 8 := by decide
  rw [e8]
  refine nz_of (by decide) (br_if (fun hm => ?_) (fun hm => ?_))
  · have e : ldErr bs.length a = 11 := by
      unfold ldErr; rw [if_pos (by simpa using hm)]
    have := he (by rw [e]; decide) h (Keeps.refl _ _)
    rw [e] at this; exact this
  · have hm : ¬ a.tmod 8 ≠ 0 := by simpa using hm
    refine part_of R ha ha2 (by omega) (by omega) (fun h => by omega) (fun _ hl h' k => ?_) (fun _ hle hal d h' hd hc ⟨o, hp, ho, hol⟩ k => ?_)
    · have e : ldErr bs.length a = 12 := by unfold ldErr; rw [if_neg hm, hl]; rfl
      have := he (by rw [e]; decide) h' k
      rw [e] at this; exact this
    · have hl : lies bs.length a 8 = true := by simp [lies]; omega
      have e : ldErr bs.length a = 0 := by unfold ldErr; rw [if_neg hm, hl]; rfl
      refine h00 e (by omega) d h' (by rw [hd]; rfl) (by rw [hc]; rfl) (by rw [hp, ho (by omega)]) k

theorem Load8_of (w : Wid U h x) (R : Rep pb bb bs h) {a : Int} (ha : 0 ≤ a) (ha2 : a ≤ 18446744073709551615) {Q : Int → Int → Heap → Prop}
    (hq : ∀ h', Keeps none_ h h' → Q (ldVal x bs a) (ldErr bs.length a) h') : mem_Memory_Load U (some ⟨pb, 0⟩) a 8 Q h := by
  unfold mem_Memory_Load
  refine number8_of R ha ha2 (fun he h' k => ?_) (fun he hle d h' hd hc hp k => ?_)
  · have hv : ldVal x bs a = 0 := by unfold ldVal; rw [if_neg (fun h => he h.1)]
    have := hq h' k
    rw [hv] at this
    refine br_t ?_ this
    simp; exact he
  · refine br_f rfl ?_
    have R' := R.keep0 k
    have hH := R'.held hp (by rw [hd]; omega)
    rw [hd] at hH
    have hlen : ((bs.drop a.toNat).take 8).length = 8 := by simp; omega
    refine wload_of (w.keep0 k) hH hlen hc (by rw [hp]; simp) ?_
    have := hq h' k
    rw [he] at this
    have hv : ldVal x bs a = if knownB x 8 then ldGo 0 0 ((bs.drop a.toNat).take 8) else 0 := by
      unfold ldVal
      cases knownB x 8 <;> simp [he]
    rw [hv] at this
    exact this

end
end Go.Mem
