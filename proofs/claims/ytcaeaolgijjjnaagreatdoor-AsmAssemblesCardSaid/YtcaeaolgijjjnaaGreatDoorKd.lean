/- AsmShows: the plain law. -/
import Derived.Test.YtcaeaolgijjjnaaGreatDoorKb
import Derived.Test.YtcaeaolgijjjnaaGreatDoorKc
import Derived.Lib.SplitLaws
set_option linter.unusedSimpArgs false
set_option linter.unusedVariables false

set_option linter.unusedSimpArgs false
set_option linter.unusedVariables false
set_option maxRecDepth 100000
namespace Go.Insn
open Go.Lift Go.Fn

def namesTxt : List UInt8 := ([97, 100, 100, 32, 115, 117, 98, 32, 97, 110, 100, 32, 111, 114, 32, 120, 111, 114, 32, 115, 108, 108, 32, 115, 114, 108, 32, 115, 114, 97, 32, 115, 108, 116, 32, 115, 108, 116, 117, 32, 109, 117, 108, 32, 100, 105, 118, 117, 32, 114, 101, 109, 117, 32, 97, 100, 100, 105, 32, 97, 110, 100, 105, 32, 111, 114, 105, 32, 120, 111, 114, 105, 32, 115, 108, 108, 105, 32, 115, 114, 108, 105, 32, 115, 114, 97, 105, 32, 115, 108, 116, 105, 32, 108, 117, 105, 32, 108, 100, 32, 108, 119, 32, 108, 98, 32, 115, 100, 32, 115, 119, 32, 115, 98, 32, 98, 101, 113, 32, 98, 110, 101, 32, 98, 108, 116, 32, 98, 103, 101, 32, 98, 108, 116, 117, 32, 98, 103, 101, 117, 32, 106, 97, 108, 32, 106, 97, 108, 114, 32, 108, 114, 32, 115, 99, 32, 97, 109, 111, 97, 100, 100, 32, 97, 109, 111, 115, 119, 112, 32, 102, 101, 110, 99, 101, 32, 101, 99, 97, 108, 108, 32, 115, 114, 101, 116, 32, 119, 102, 105, 32, 115, 102, 101, 110, 99, 101, 32, 99, 115, 114, 114, 119, 32, 99, 115, 114, 114, 115, 32, 99, 115, 114, 114, 99] : List UInt8)

theorem fields_names : Lib.fields namesTxt = namesL := by kernel_rfl
theorem names_ascii : ∀ b ∈ namesTxt, b.toNat < 128 := by
  have : (namesTxt.all fun b => decide (b.toNat < 128)) = true := by kernel_rfl
  intro b hb
  simpa using List.all_eq_true.1 this b hb
theorem namesTxt_len : namesTxt.length < 4294967281 := by
  have : namesTxt.length = 215 := by kernel_rfl
  omega

theorem ord_ascii {n : Nat} (hn : n < 64) : ∀ i, i < (ordOf (n : Int)).length → ((ordOf (n : Int)).getD i 0).toNat < 128 := by
  have key : ∀ n : Fin 64, ((ordOf ((n.val : Nat) : Int)).all fun b => decide (b.toNat < 128)) = true := by decide +kernel
  have key := key ⟨n, hn⟩
  intro i hi
  have := List.all_eq_true.1 key _ (List.getElem_mem hi)
  rw [List.getD_eq_getElem?_getD, List.getElem?_eq_getElem hi]
  simpa using this

section
variable {U : Ifc} {h : Heap}

/-- What is known of the library's tables. -/
structure AU (U : Ifc) (h : Heap) : Prop where
  pow : (3, Lib.pow10Tab.map (V.int .u64)) ∈ U.tabs
  asc : ∀ c : Nat, c < 256 → h.get (U.glob 4) c = some (.int .u8 (if Lib.isSp (UInt8.ofNat c) then 1 else 0))

end
end Go.Insn

set_option linter.unusedSimpArgs false
set_option linter.unusedVariables false
set_option maxRecDepth 100000
namespace Go.Asm
open Go.Lift Go.Fn Go.Insn

section
variable {h : Heap}

theorem HasPrefix1 {a : Str} {c : UInt8} {Q : Bool → Heap → Prop} (hq : Q (a.head? == some c) h) : zf23 a [c] Q h := by
  unfold zf23
  cases a with
  | nil => exact br_f (decide_eq_false (by simp)) hq
  | cons b d =>
    refine br_t (decide_eq_true (by simp only [List.length_cons, List.length_nil]; omega)) (sb_of (by simp) (by simp only [List.length_cons, List.length_nil]; omega) ?_)
    have e : (((b :: d).drop 0).take ((([c] : List UInt8).length : Int).toNat - 0) == [c]) = ((b :: d).head? == some c) := by
      show ([b] == [c]) = (some b == some c)
      by_cases hb : b = c
      · rw [hb]; simp
      · rw [beq_false_of_ne (fun e => hb (by injection e)), beq_false_of_ne (fun e => hb (Option.some.inj e))]
    rw [e]; exact hq

theorem TrimPrefix45 {a : Str} {Q : Str → Heap → Prop} (hq : Q (unsign a) h) : zf70 a [45] Q h := by
  unfold zf70 zf25
  refine HasPrefix1 ?_
  cases a with
  | nil => exact br_f rfl hq
  | cons b d =>
    by_cases hb : b = 45
    · subst hb
      refine br_t rfl (sb_of (by decide) (by simp only [List.length_cons, List.length_nil]; omega) ?_)
      show Q (d.take ((45 :: d : Str).length - 1)) h
      rw [List.take_of_length_le (by simp)]
      exact hq
    · have e : unsign (b :: d) = b :: d := if_neg (by simpa using hb)
      rw [e] at hq
      exact br_f (beq_false_of_ne (fun e => hb (Option.some.inj e))) hq

theorem CutPrefix120 {a : Str} {Q : Str → Bool → Heap → Prop} (h1 : ∀ d, a = 120 :: d → Q d true h) (h2 : a.head? ≠ some 120 → Q a false h) : zf61 a [120] Q h := by
  unfold zf61 zf22
  refine HasPrefix1 ?_
  cases a with
  | nil => exact br_t rfl (h2 (by simp))
  | cons b d =>
    by_cases hb : b = 120
    · subst hb
      refine br_f rfl (sb_of (by decide) (by simp only [List.length_cons, List.length_nil]; omega) ?_)
      show Q (d.take ((120 :: d : Str).length - 1)) true h
      rw [List.take_of_length_le (by simp)]
      exact h1 d rfl
    · exact br_t (by show (!(some b == some 120)) = true; rw [beq_false_of_ne (fun e => hb (Option.some.inj e))]; rfl) (h2 (fun e => hb (Option.some.inj e)))

theorem trim_of {s cs : Str} {κ : Str → Heap → Prop} (h1 : s.length ≤ 9223372036854775807) (h2 : cs.length < 4294967281) (h3 : ∀ b ∈ cs, b.toNat < 128) (hk : κ (Lib.trimS s cs) h) : zf69 s cs κ h := ⟨h1, h2, h3, hk⟩

theorem dropWhile_bad {p : UInt8 → Bool} : ∀ {l : Str}, l.all p = false → ∃ x ∈ l.dropWhile p, p x = false
  | [], h => by cases h
  | b :: l, h => by
    cases hb : p b with
    | true =>
      rw [List.all_cons, hb, Bool.true_and] at h
      obtain ⟨x, hx, hp⟩ := dropWhile_bad h
      exact ⟨x, by rw [List.dropWhile_cons, hb, if_pos rfl]; exact hx, hp⟩
    | false => exact ⟨b, by rw [List.dropWhile_cons, hb, if_neg (by decide)]; exact List.mem_cons_self, hb⟩

theorem dropWhile_all {p : UInt8 → Bool} : ∀ {l : Str}, l.all p = true → l.dropWhile p = []
  | [], _ => rfl
  | b :: l, h => by
    simp only [List.all_cons, Bool.and_eq_true] at h
    rw [List.dropWhile_cons, h.1, if_pos rfl]; exact dropWhile_all h.2

theorem trimS_nil (l cs : Str) : (Lib.trimS l cs == []) = l.all (cs.contains ·) := by
  unfold Lib.trimS Lib.trimLeftS Lib.trimRightS
  cases h : l.all (cs.contains ·) with
  | true =>
    have : l.reverse.all (cs.contains ·) = true := by rw [List.all_reverse]; exact h
    rw [dropWhile_all this]
    rfl
  | false =>
    have : l.reverse.all (cs.contains ·) = false := by rw [List.all_reverse]; exact h
    obtain ⟨x, hx, hp⟩ := dropWhile_bad this
    have h2 : ((l.reverse.dropWhile (cs.contains ·)).reverse).all (cs.contains ·) = false := by
      rw [List.all_eq_false]
      exact ⟨x, List.mem_reverse.2 hx, by rw [hp]; decide⟩
    obtain ⟨y, hy, _⟩ := dropWhile_bad h2
    exact beq_false_of_ne (List.ne_nil_of_mem hy)

theorem digits_all (l : Str) : l.all (([48, 49, 50, 51, 52, 53, 54, 55, 56, 57] : Str).contains ·) = l.all isDig := by
  congr 1
  funext b
  have key : ∀ b : Fin 256, ([48, 49, 50, 51, 52, 53, 54, 55, 56, 57] : Str).contains (UInt8.ofNat b.val) = isDig (UInt8.ofNat b.val) := by decide +kernel
  have := key ⟨b.toNat, b.toNat_lt⟩
  simpa using this

theorem names_all (l : Str) : l.all (([97, 98, 99, 100, 101, 102, 103, 104, 105, 106, 107, 108, 109, 110, 111, 112, 113, 114, 115, 116, 117, 118, 119, 120, 121, 122, 48, 49, 50, 51, 52, 53, 54, 55, 56, 57, 95] : Str).contains ·) = l.all nameCh := by
  congr 1
  funext b
  have key : ∀ b : Fin 256, ([97, 98, 99, 100, 101, 102, 103, 104, 105, 106, 107, 108, 109, 110, 111, 112, 113, 114, 115, 116, 117, 118, 119, 120, 121, 122, 48, 49, 50, 51, 52, 53, 54, 55, 56, 57, 95] : Str).contains (UInt8.ofNat b.val) = nameCh (UInt8.ofNat b.val) := by decide +kernel
  have := key ⟨b.toNat, b.toNat_lt⟩
  simpa using this

theorem decFrom_val : ∀ {d : Str} {v : Nat}, d.all isDig = true → Lib.decFrom v d = some (valGo v d)
  | [], v, _ => rfl
  | b :: d, v, h => by
    simp only [List.all_cons, Bool.and_eq_true] at h
    have hb := isDig_iff.1 h.1
    have e : Lib.digitVal b = some (b.toNat - 48) := by unfold Lib.digitVal; rw [if_pos hb]
    show (match Lib.digitVal b with | some d' => Lib.decFrom (v * 10 + d') d | none => none) = _
    rw [e]
    exact decFrom_val h.2

theorem atoi_num {s : Str} (h : numOk s = true) : Lib.atoi s = some (numVal s) := by
  unfold numOk at h
  simp only [Bool.and_eq_true, decide_eq_true_eq] at h
  obtain ⟨l1, _, _, ld⟩ := h
  have dn : ∀ {d : Str}, 1 ≤ d.length → d.all isDig = true → Lib.decNat d = some (valGo 0 d) := by
    intro d hl hd
    unfold Lib.decNat
    rw [if_neg (by cases d with | nil => simp at hl | cons _ _ => simp), decFrom_val hd]
  cases s with
  | nil => simp [unsign] at l1
  | cons b r =>
    unfold numVal
    show (if (b == 45) = true then (Lib.decNat r).map (fun (m : Nat) => -(m : Int)) else if (b == 43) = true then (Lib.decNat r).map (fun (m : Nat) => (m : Int)) else (Lib.decNat (b :: r)).map (fun (m : Nat) => (m : Int))) = _
    by_cases hb : (b == 45) = true
    · have eu : unsign (b :: r) = r := if_pos hb
      rw [eu] at l1 ld ⊢
      rw [if_pos hb, dn l1 ld]
      have : ((b :: r).getD 0 0 == 45) = true := hb
      rw [if_pos this]; rfl
    · have eu : unsign (b :: r) = b :: r := if_neg hb
      rw [eu] at l1 ld ⊢
      have h43 : ¬ (b == 43) = true := fun e => by
        simp only [List.all_cons, Bool.and_eq_true] at ld
        have := isDig_iff.1 ld.1
        rw [eq_of_beq e] at this
        exact absurd this.1 (by decide)
      rw [if_neg hb, if_neg h43, dn l1 ld]
      have : ¬ ((b :: r).getD 0 0 == 45) = true := hb
      rw [if_neg this]; rfl

theorem number_of {s : Str} (hl : s.length ≤ 1000000) {Q : Int → Bool → Heap → Prop} (hq : Q ((numOf s).getD 0) (numOf s).isSome h) : zf5 s Q h := by
  unfold zf5
  refine TrimPrefix45 ?_
  unfold numOf at hq
  have hno : numOk s = false → zf5.j3 Q h := by
    intro hf
    rw [if_neg (by rw [hf]; decide)] at hq
    exact hq
  have hul : (unsign s).length ≤ s.length := by
    cases s with
    | nil => simp [unsign]
    | cons b d =>
      show (if (b == 45) = true then d else b :: d).length ≤ _
      split <;> simp
  refine br_if (fun c => hno ?_) (fun c => ?_)
  · have := of_decide_eq_true c
    unfold numOk; rw [decide_eq_false (by omega)]; rfl
  have c := of_decide_eq_false c
  refine br_if (fun c => hno ?_) (fun c2 => ?_)
  · have := of_decide_eq_true c
    unfold numOk; rw [decide_eq_false (p := (unsign s).length ≤ 15) (by omega)]; simp
  have c2 := of_decide_eq_false c2
  refine trim_of (by omega) (by decide) (by decide) ?_
  rw [trimS_nil, digits_all]
  cases hd : (unsign s).all isDig with
  | false => exact br_t rfl (hno (by unfold numOk; rw [hd]; simp))
  | true =>
    refine br_f rfl (ix_of (by omega) (by omega) ?_)
    rw [show ((((unsign s).getD (Int.toNat 0) 0).toNat : Int) == 48) = ((unsign s).getD 0 0 == 48) from u8eq (b := (unsign s).getD 0 0) (n := 48) (by decide)]
    have hj4 : ((unsign s).getD 0 0 == 48 && s != [48]) = false → zf5.j4 s Q h := by
      intro hz
      have ho : numOk s = true := by
        unfold numOk
        rw [hd, hz, decide_eq_true (by omega), decide_eq_true (by omega)]; rfl
      rw [if_pos ho] at hq
      unfold zf5.j4 zf57 atoiI
      refine ⟨?_, numVal s, atoi_num ho, hq⟩
      cases s with
      | nil => simp
      | cons b d =>
        have : (b :: d).length ≤ (unsign (b :: d)).length + 1 := by
          show _ ≤ (if (b == 45) = true then d else b :: d).length + 1
          split <;> simp
        omega
    refine br_if (fun c3 => ?_) (fun c3 => hj4 (by rw [c3]; rfl))
    refine br_if (fun c4 => hno ?_) (fun c4 => hj4 ?_)
    · have hne : (s != [48]) = true := by rw [bne_iff_ne]; intro e; rw [e] at c4; simp at c4
      unfold numOk; rw [c3, hne]; simp
    · have : s = [48] := by
        have : (s == [48]) = true := by simpa using c4
        exact eq_of_beq this
      rw [this]; simp

theorem register_of {s : Str} (hl : s.length ≤ 1000000) {Q : Int → Bool → Heap → Prop} (h1 : 0 ≤ regOf s → Q (regOf s) true h) (h2 : regOf s < 0 → ∀ v, Q v false h) : zf13 s Q h := by
  unfold zf13
  refine CutPrefix120 (fun d hd => ?_) (fun hd => ?_)
  · subst hd
    refine number_of (by simp at hl; omega) ?_
    have e : regOf (120 :: d) = regV (numOf d) := rfl
    rw [e] at h1 h2
    refine br_t rfl ?_
    cases hn : numOf d with
    | none => rw [hn] at h2; exact br_f rfl (h2 (by decide) _)
    | some v =>
      rw [hn] at h1 h2
      unfold regV at h1 h2
      simp only [Option.getD_some, Option.isSome_some] at h1 h2 ⊢
      refine br_t rfl ?_
      by_cases hv : 0 ≤ v ∧ v ≤ 15
      · rw [if_pos hv] at h1
        refine br_t (decide_eq_true hv.1) ?_
        rw [decide_eq_true hv.2]; exact h1 hv.1
      · rw [if_neg hv] at h2
        refine br_if (fun c => ?_) (fun c => h2 (by decide) _)
        have := of_decide_eq_true c
        rw [decide_eq_false (fun hh => hv ⟨by omega, hh⟩)]; exact h2 (by decide) _
  · have e : regOf s = -1 := by
      cases s with
      | nil => rfl
      | cons b d =>
        have hb : b ≠ 120 := fun e => hd (by rw [e]; rfl)
        exact if_neg (by simpa using hb)
    rw [e] at h2
    exact number_of hl (br_f rfl (h2 (by decide) _))

theorem isName_of {s : Str} (hl : s.length ≤ 1000000) {Q : Bool → Heap → Prop} (hq : Q (nameOk s) h) : zf4 s Q h := by
  unfold zf4
  have hno : nameOk s = false → Q false h := fun e => by rw [e] at hq; exact hq
  refine register_of hl (fun h0 => br_f rfl (hno ?_)) (fun h0 v => br_t rfl ?_)
  · unfold nameOk; rw [decide_eq_false (p := regOf s < 0) (by omega)]; simp
  cases s with
  | nil => exact br_f rfl (hno rfl)
  | cons b d =>
    refine br_t rfl (br_if (fun c => ?_) (fun c => hno ?_))
    · refine trim_of (by omega) (by decide) (by decide) ?_
      rw [trimS_nil, names_all]
      cases ha : (b :: d).all nameCh with
      | false => exact br_f rfl (hno (by unfold nameOk; rw [ha]; simp))
      | true =>
        refine br_t rfl (ix_of (by omega) (by simp only [List.length_cons]; omega) ?_)
        have c := of_decide_eq_true c
        have ev : nameOk (b :: d) = !isDig b := by
          unfold nameOk
          rw [ha, decide_eq_true (p := 1 ≤ (b :: d).length) (by simp), decide_eq_true (p := (b :: d).length ≤ 30) (by omega), decide_eq_true (p := regOf (b :: d) < 0) h0]
          simp
        rw [ev] at hq
        have e0 : ((b :: d).getD (Int.toNat 0) 0) = b := rfl
        rw [e0]
        refine br_if (fun c3 => ?_) (fun c3 => ix_of (by omega) (by simp only [List.length_cons]; omega) ?_)
        · have := of_decide_eq_true c3
          have hf : isDig b = false := by unfold isDig; rw [decide_eq_false (by omega)]; rfl
          rw [hf] at hq; exact hq
        · have c3 := of_decide_eq_false c3
          rw [e0]
          have ed : decide (((b.toNat : Nat) : Int) > 57) = !isDig b := by
            unfold isDig
            rw [decide_eq_true (p := 48 ≤ b.toNat) (by omega), Bool.true_and, ← decide_not, decide_eq_decide]
            omega
          rw [ed]; exact hq
    · have := of_decide_eq_false c
      unfold nameOk; rw [decide_eq_false (p := (b :: d).length ≤ 30) (by omega)]; simp

end
end Go.Asm

set_option linter.unusedSimpArgs false
set_option linter.unusedVariables false
set_option maxRecDepth 100000
namespace Go.Asm
open Go.Lift Go.Fn Go.Insn

theorem mfind_mput {m m' : Str} {v : V} : ∀ {es : List (V × V)}, mfind (.str m) (mput (.str m') v es) = if m = m' then some v else mfind (.str m) es
  | [] => by
    simp only [mput, mfind, keq]
    by_cases e : m = m'
    · rw [if_pos e, e, beq_self_eq_true]; rfl
    · rw [if_neg e, beq_false_of_ne e]; rfl
  | (k, u) :: es => by
    simp only [mput]
    cases hk : keq (.str m') k with
    | true =>
      cases k with
      | str s =>
        have hs : m' = s := by simpa [keq] using hk
        subst hs
        simp only [cond_true, mfind, keq]
        by_cases e : m = m'
        · rw [if_pos e, e, beq_self_eq_true]; rfl
        · rw [if_neg e, beq_false_of_ne e]; rfl
      | _ => simp [keq] at hk
    | false =>
      simp only [cond_false, mfind]
      rw [mfind_mput (es := es)]
      by_cases e : m = m'
      · rw [if_pos e, if_pos e, e, hk]; rfl
      · rw [if_neg e, if_neg e]

/-- The operations' map, n of them put in. -/
def OpsMap (n : Nat) (es : List (V × V)) : Prop := ∀ s : Str, mfind (.str s) es = if namesL.idxOf s < n then some (.int .i64 ((namesL.idxOf s + 1 : Nat) : Int)) else none

theorem names_idx {i : Nat} (hi : i < 48) : namesL.idxOf (namesL.getD i []) = i := by
  have key : ∀ i : Fin 48, namesL.idxOf (namesL.getD i.val []) = i.val := by decide +kernel
  exact key ⟨i, hi⟩

theorem ops_put {n : Nat} (hn : n < 48) {es : List (V × V)} (h : OpsMap n es) : OpsMap (n + 1) (mput (.str (namesL.getD n [])) (.int .i64 ((n + 1 : Nat) : Int)) es) := by
  intro s
  rw [mfind_mput]
  by_cases e : s = namesL.getD n []
  · rw [if_pos e, e, names_idx hn, if_pos (by omega)]
  · rw [if_neg e, h s]
    have hne : namesL.idxOf s ≠ n := by
      intro hi
      have hlt : namesL.idxOf s < namesL.length := by rw [names_len]; omega
      have := List.getElem_idxOf hlt
      apply e
      rw [List.getD_eq_getElem?_getD, ← hi, List.getElem?_eq_getElem hlt, this]; rfl
    by_cases h1 : namesL.idxOf s < n
    · rw [if_pos h1, if_pos (by omega)]
    · rw [if_neg h1, if_neg (by omega)]

theorem putO_map {ks : Sh} {es : List (V × V)} {bs : List Nat} {c : Nat} {k v : V} : ∃ bs' c', putO ks es bs c k v = .map ks (mput k v es) bs' c' := by
  unfold putO
  split
  · exact ⟨_, _, rfl⟩
  · exact ⟨_, _, rfl⟩

section
variable {U : Ifc} {h g : Heap}

theorem operations_of (asc : ∀ c : Nat, c < 256 → h.get (U.glob 4) c = some (.int .u8 (if Lib.isSp (UInt8.ofNat c) then 1 else 0))) {Q : Option Nat → Heap → Prop}
    (hq : ∀ mb es bs c g, Keeps none_ h g → g.obj mb = some (.map .str es bs c) → OpsMap 48 es → Q (some mb) g) : zf7 U Q h := by
  unfold zf7
  refine (St.start h none_).alM (fun mb g1 S1 => ?_)
  unfold zf62
  refine ⟨namesTxt_len, names_ascii, fun c hc => ?_, fun nb hb => ?_⟩
  · have hg := asc c hc
    have hn : h.obj (U.glob 4) ≠ none := by intro hn; unfold Heap.get at hg; rw [hn] at hg; cases hg
    rw [Heap.get_obj (S1.keeps.same _ hn (fun f => f))]; exact hg
  have fe : Lib.fields ([97, 100, 100, 32, 115, 117, 98, 32, 97, 110, 100, 32, 111, 114, 32, 120, 111, 114, 32, 115, 108, 108, 32, 115, 114, 108, 32, 115, 114, 97, 32, 115, 108, 116, 32, 115, 108, 116, 117, 32, 109, 117, 108, 32, 100, 105, 118, 117, 32, 114, 101, 109, 117, 32, 97, 100, 100, 105, 32, 97, 110, 100, 105, 32, 111, 114, 105, 32, 120, 111, 114, 105, 32, 115, 108, 108, 105, 32, 115, 114, 108, 105, 32, 115, 114, 97, 105, 32, 115, 108, 116, 105, 32, 108, 117, 105, 32, 108, 100, 32, 108, 119, 32, 108, 98, 32, 115, 100, 32, 115, 119, 32, 115, 98, 32, 98, 101, 113, 32, 98, 110, 101, 32, 98, 108, 116, 32, 98, 103, 101, 32, 98, 108, 116, 117, 32, 98, 103, 101, 117, 32, 106, 97, 108, 32, 106, 97, 108, 114, 32, 108, 114, 32, 115, 99, 32, 97, 109, 111, 97, 100, 100, 32, 97, 109, 111, 115, 119, 112, 32, 102, 101, 110, 99, 101, 32, 101, 99, 97, 108, 108, 32, 115, 114, 101, 116, 32, 119, 102, 105, 32, 115, 102, 101, 110, 99, 101, 32, 99, 115, 114, 114, 119, 32, 99, 115, 114, 114, 115, 32, 99, 115, 114, 114, 99] : List UInt8) = namesL := fields_names
  rw [fe, names_len]
  have S2 := S1.more hb (h' := g1.new nb (.cells (namesL.map V.str) false)) Heap.new_obj (Keeps.new hb _)
  unfold zf7.j3
  intro I H
  have main : ∀ d i es bs c g, i + d = 48 → St h none_ [(nb, .cells (namesL.map V.str) false), (mb, .map .str es bs c)] g → OpsMap i es → I (some mb) ⟨some ⟨nb, 0⟩, 48, 48⟩ ((48 : Nat) : Int) (i : Int) g := by
    intro d
    induction d with
    | zero =>
      intro i es bs c g hi S hm
      have : i = 48 := by omega
      subst this
      refine H _ _ _ _ _ ?_
      unfold zf7.b3
      exact br_f rfl (hq mb es bs c g S.keeps (S.obj i1) hm)
    | succ d ih =>
      intro i es bs c g hi S hm
      refine H _ _ _ _ _ ?_
      unfold zf7.b3
      refine br_t (decide_eq_true (by omega)) (ix_of (by omega) (by show (i : Int) < 48; omega) ?_)
      rw [der_some, Int.toNat_natCast]
      have hl : i < namesL.length := by rw [names_len]; omega
      refine S.rS (i := 0) (x := namesL.getD i []) rfl (by
        show (namesL.map V.str)[0 + i * 1]? = _
        rw [Nat.zero_add, Nat.mul_one, List.getElem?_map, List.getD_eq_getElem?_getD, List.getElem?_eq_getElem hl]; rfl) ?_
      rw [wrap64 (x := (i : Int) + 1) (by omega) (by omega)]
      refine S.mapPut i1 (fun g2 S2 => ?_)
      obtain ⟨bs', c', e⟩ := putO_map (ks := .str) (es := es) (bs := bs) (c := c) (k := .str (namesL.getD i [])) (v := .int .i64 ((i : Int) + 1))
      rw [e] at S2
      exact ih (i + 1) _ bs' c' g2 (by omega) S2 (ops_put (by omega) hm)
  exact main 48 0 [] [] 0 _ rfl S2 (fun s => rfl)

theorem ops_find {es : List (V × V)} (h : OpsMap 48 es) (s : Str) : mfind (.str s) es = if opOf s = 0 then none else some (.int .i64 (opOf s : Int)) := by
  rw [h s]
  unfold opOf
  by_cases h1 : namesL.idxOf s < 48
  · rw [if_pos h1, if_pos h1, if_neg (by omega)]
  · rw [if_neg h1, if_neg h1, if_pos rfl]

theorem Order_zero {Q : Str → Heap → Prop} (hq : ∀ h', Keeps none_ h h' → Q [] h') : zf8 0 Q h := by
  unfold zf8
  refine Shape_of (fun g1 k1 => ?_)
  have hs : shapeOf 0 = none := by decide +kernel
  rw [hs]
  refine br_f rfl (br_f rfl (al_of (fun b3 g3 hb3 ho3 k3 => ?_)))
  refine Contains_of (ks := [23, 24, 25, 36, 46, 47, 48]) (rest := []) (mk := false) (by rw [List.append_nil]; exact ho3) rfl (by decide) 0 ?_
  rw [decide_eq_false (by decide)]
  refine br_f rfl (al_of (fun b5 g5 hb5 ho5 k5 => ?_))
  refine ix_of (by decide) (by decide) ?_
  have hg : g5.get b5 (0 + 0 * 1) = some (.str []) := by rw [get_cells ho5]; rfl
  exact rdStr_of hg (hq g5 ((k1.trans k3).trans k5))

/-- What operands come to, in the program. -/
def opP (Q : Int → Int → Int → Int → Int → Str → Bool → Heap → Prop) (g : Heap) : Option (Ins × Str) → Prop
  | some (x, want) => Q x.op x.rd x.rs1 x.rs2 x.imm want true g
  | none => ∀ x1 x2 x3 x4 x5 w, Q x1 x2 x3 x4 x5 w false g

def insL (op rd rs1 rs2 imm : Int) : List V := [.int .i64 op, .int .i64 rd, .int .i64 rs1, .int .i64 rs2, .int .i64 imm]

theorem rd5 {b : Nat} {l : List V} {op rd rs1 rs2 imm : Int} {mk : Bool} {p0 p1 p2 p3 p4 : Ptr} (hl : l.take 5 = insL op rd rs1 rs2 imm) (e0 : p0 = ⟨b, 0⟩) (e1 : p1 = ⟨b, 1⟩) (e2 : p2 = ⟨b, 2⟩) (e3 : p3 = ⟨b, 3⟩) (e4 : p4 = ⟨b, 4⟩)
    {κ : Int → Int → Int → Int → Int → Prop} (S : g.obj b = some (.cells l mk)) (hk : κ op rd rs1 rs2 imm) :
    rdI .i64 p0 (fun x1 => rdI .i64 p1 (fun x2 => rdI .i64 p2 (fun x3 => rdI .i64 p3 (fun x4 => rdI .i64 p4 (fun x5 => κ x1 x2 x3 x4 x5) g) g) g) g) g := by
  subst e0 e1 e2 e3 e4
  have hg : ∀ j : Nat, j < 5 → l[j]? = (insL op rd rs1 rs2 imm)[j]? := by
    intro j hj
    rw [← hl, List.getElem?_take_of_lt hj]
  exact loc_I S ((hg 0 (by decide)).trans rfl) (loc_I S ((hg 1 (by decide)).trans rfl) (loc_I S ((hg 2 (by decide)).trans rfl) (loc_I S ((hg 3 (by decide)).trans rfl) (loc_I S ((hg 4 (by decide)).trans rfl) hk))))

/-- An instruction is read, written where it stands, and read. -/
theorem same5 {b : Nat} {L : List (Nat × HO)} {i : Nat} {op rd rs1 rs2 imm : Int} (S : St h none_ L g) (hi : L[i]? = some (b, .cells (insL op rd rs1 rs2 imm) false)) {κ : Int → Int → Int → Int → Int → Heap → Prop} (hk : ∀ g', Keeps none_ h g' → κ op rd rs1 rs2 imm g') :
    rdI .i64 ((⟨b, 0⟩ : Ptr).add 0) (fun x1 => rdI .i64 ((⟨b, 0⟩ : Ptr).add 1) (fun x2 => rdI .i64 ((⟨b, 0⟩ : Ptr).add 2) (fun x3 => rdI .i64 ((⟨b, 0⟩ : Ptr).add 3) (fun x4 => rdI .i64 ((⟨b, 0⟩ : Ptr).add 4) (fun x5 =>
      wrL [.int .i64 x1, .int .i64 x2, .int .i64 x3, .int .i64 x4, .int .i64 x5] (⟨b, 0⟩ : Ptr) 0 (fun h => rdI .i64 ((⟨b, 0⟩ : Ptr).add 0) (fun x1 => rdI .i64 ((⟨b, 0⟩ : Ptr).add 1) (fun x2 => rdI .i64 ((⟨b, 0⟩ : Ptr).add 2) (fun x3 => rdI .i64 ((⟨b, 0⟩ : Ptr).add 3) (fun x4 => rdI .i64 ((⟨b, 0⟩ : Ptr).add 4) (fun x5 => κ x1 x2 x3 x4 x5 h) h) h) h) h) h) g) g) g) g) g) g := by
  refine rd5 rfl rfl rfl rfl rfl rfl (S.obj hi) (S.wrL hi (Nat.le_refl 5) (fun g' S' => ?_))
  have hil : i < L.length := by
    rcases Nat.lt_or_ge i L.length with h1 | h1
    · exact h1
    · rw [List.getElem?_eq_none h1] at hi; cases hi
  exact rd5 (l := splice (insL op rd rs1 rs2 imm) 0 (insL op rd rs1 rs2 imm)) rfl rfl rfl rfl rfl rfl (S'.obj (b := b) (x := .cells (splice (insL op rd rs1 rs2 imm) 0 (insL op rd rs1 rs2 imm)) false) (by rw [List.getElem?_set_self hil]; rfl)) (hk g' S'.keeps)


theorem operands_of_loop {n : Nat} (hn : n < 64) {ws : List Str} {sl : Sl} (W : Words h sl ws) (hws : ∀ w ∈ ws, w.length ≤ 1000000) {Q : Int → Int → Int → Int → Int → Str → Bool → Heap → Prop} {b1 fb it : Nat} {bs : List Nat} {c : Nat} {I : Sl → Ptr → Str → Option Nat → Ptr → Heap → Prop}
    (H : ∀ a1 a2 a3 a4 a5 h, zf6.b7 I a1 a2 a3 a4 a5 Q h → I a1 a2 a3 a4 a5 h) (hol : (ordOf (n : Int)).length = ws.length) :
    ∀ (cs : List UInt8) (ws' : List Str) (i : Nat) (x : Ins) (want : Str) (g : Heap), (ordOf (n : Int)).drop i = cs → ws.drop i = ws' → i ≤ ws.length → St h none_ [(it, .siter (ordOf (n : Int)) i), (fb, .map (.int .i32) [(.int .i32 100, .ptr (some ⟨b1, 1⟩)), (.int .i32 97, .ptr (some ⟨b1, 2⟩)), (.int .i32 98, .ptr (some ⟨b1, 3⟩))] bs c), (b1, .cells (insL x.op x.rd x.rs1 x.rs2 x.imm) false)] g → (∀ g', Keeps none_ h g' → opP Q g' (opnds cs ws' x want)) → I sl ⟨b1, 0⟩ want (some fb) ⟨it, 0⟩ g := by
  have hol3 := ord_len (n := n) hn
  have hasc := ord_ascii (n := n) hn
  intro cs
  induction cs with
  | nil =>
    intro ws' i x want g hd hw hi S hq
    refine H _ _ _ _ _ _ ?_
    unfold zf6.b7
    have := drop_nil hd
    have hwn : ws' = [] := by rw [← hw]; exact List.drop_eq_nil_of_le (by omega)
    subst hwn
    refine ⟨rfl, _, i, S.obj i0, ?_⟩
    rw [if_neg (by omega)]
    exact same5 S i2 hq
  | cons c' cs ih =>
    intro ws' i x want g hd hw hi S hq
    obtain ⟨hlt, hc, hr⟩ := drop_cons hd
    have hlt2 : i < ws.length := by omega
    obtain ⟨w, ws2, rfl⟩ : ∃ w ws2, ws' = w :: ws2 := by
      rw [List.drop_eq_getElem_cons hlt2] at hw
      exact ⟨_, _, hw.symm⟩
    have hwi : ws[i]? = some w := by
      rw [List.drop_eq_getElem_cons hlt2] at hw
      injection hw with h1 h2
      rw [List.getElem?_eq_getElem hlt2, h1]
    have hw2 : ws.drop (i + 1) = ws2 := by
      rw [List.drop_eq_getElem_cons hlt2] at hw
      injection hw with h1 h2
    have hwl := hws w (List.mem_of_getElem? hwi)
    refine H _ _ _ _ _ _ ?_
    unfold zf6.b7
    refine ⟨rfl, _, i, S.obj i0, ?_⟩
    rw [if_pos (by omega), rune_ascii (by omega) (hasc i (by omega)), hc]
    have S1 : St h none_ [(it, .siter (ordOf (n : Int)) (i + 1)), (fb, .map (.int .i32) [(.int .i32 100, .ptr (some ⟨b1, 1⟩)), (.int .i32 97, .ptr (some ⟨b1, 2⟩)), (.int .i32 98, .ptr (some ⟨b1, 3⟩))] bs c), (b1, .cells (insL x.op x.rd x.rs1 x.rs2 x.imm) false)] (g.setO it (.siter (ordOf (n : Int)) (i + 1))) := S.put i0 (by simp [Heap.setO]) (Keeps.setO (S.obj i0))
    generalize g.setO it (.siter (ordOf (n : Int)) (i + 1)) = g1 at S1 ⊢
    refine S1.mapGet i1 ?_
    rw [opnds_cons] at hq
    have bad : ∀ (x' : Ins) (g' : Heap), opnd x want c' w = none → St h none_ [(it, .siter (ordOf (n : Int)) (i + 1)), (fb, .map (.int .i32) [(.int .i32 100, .ptr (some ⟨b1, 1⟩)), (.int .i32 97, .ptr (some ⟨b1, 2⟩)), (.int .i32 98, .ptr (some ⟨b1, 3⟩))] bs c), (b1, .cells (insL x'.op x'.rd x'.rs1 x'.rs2 x'.imm) false)] g' → ∀ g2, Keeps none_ h g2 → ∀ x1 x2 x3 x4 x5 w, Q x1 x2 x3 x4 x5 w false g2 := by
      intro x' g' ho S' g2 k2 x1 x2 x3 x4 x5 w
      rw [ho] at hq
      exact hq g2 k2 _ _ _ _ _ _
    have good : ∀ (x' : Ins) (want' : Str) (g' : Heap), opnd x want c' w = some (x', want') → St h none_ [(it, .siter (ordOf (n : Int)) (i + 1)), (fb, .map (.int .i32) [(.int .i32 100, .ptr (some ⟨b1, 1⟩)), (.int .i32 97, .ptr (some ⟨b1, 2⟩)), (.int .i32 98, .ptr (some ⟨b1, 3⟩))] bs c), (b1, .cells (insL x'.op x'.rd x'.rs1 x'.rs2 x'.imm) false)] g' → I sl ⟨b1, 0⟩ want' (some fb) ⟨it, 0⟩ g' := by
      intro x' want' g' ho S'
      rw [ho] at hq
      exact ih ws2 (i + 1) x' want' g' hr hw2 (by omega) S' hq
    clear hq
    have regs : ∀ (x' : Ins) (g' : Heap) (e : Bool), (opnd x want c' w = if regOf w < 0 then none else some (x', want)) → (e = true → 0 ≤ regOf w) → (e = false → regOf w < 0) → St h none_ [(it, .siter (ordOf (n : Int)) (i + 1)), (fb, .map (.int .i32) [(.int .i32 100, .ptr (some ⟨b1, 1⟩)), (.int .i32 97, .ptr (some ⟨b1, 2⟩)), (.int .i32 98, .ptr (some ⟨b1, 3⟩))] bs c), (b1, .cells (insL x'.op x'.rd x'.rs1 x'.rs2 x'.imm) false)] g' → zf6.j12 I sl ⟨b1, 0⟩ want e (some fb) ⟨it, 0⟩ Q g' := by
      intro x' g' e ho h1 h2 S'
      unfold zf6.j12
      cases e with
      | false =>
        rw [if_pos (h2 rfl)] at ho
        exact br_t rfl (same5 (κ := fun x1 x2 x3 x4 x5 h => Q x1 x2 x3 x4 x5 [] false h) S' i2 (fun g2 k2 => bad x' g' ho S' g2 k2 _ _ _ _ _ _))
      | true =>
        rw [if_neg (by have := h1 rfl; omega)] at ho
        exact br_f rfl (good x' want g' ho S')
    -- a number, then perhaps a mark
    have num : c' = 105 ∨ c' = 109 → ix (i : Int) sl.len (fun n21 => der sl.p (fun p22 => rdStr (p22.add (n21 * 1)) (fun x23 => zf5 x23 (fun r24 r25 h => wr ((⟨b1, 0⟩ : Ptr).add 4) (.int .i64 r24) (fun h => zf6.j15 I sl ⟨b1, 0⟩ want r25 (some fb) (i : Int) ((c'.toNat : Nat) : Int) ⟨it, 0⟩ Q h) h) g1) g1)) := by
      intro hcc
      refine (W.keep S1.keeps).ixrd rfl hwi (number_of hwl (S1.wr i2 rfl (fun g2 S2 => ?_)))
      unfold zf6.j15 zf6.j16 zf6.j17
      cases hnum : numOf w with
      | some v =>
        rw [hnum] at S2
        have ho : opnd x want c' w = some (⟨x.op, x.rd, x.rs1, x.rs2, v⟩, want) := by
          rcases hcc with rfl | rfl
          · rw [opnd_i, hnum]
          · rw [opnd_m, hnum]
        exact br_f rfl (br_f rfl (good ⟨x.op, x.rd, x.rs1, x.rs2, v⟩ want g2 ho S2))
      | none =>
        rw [hnum] at S2
        have S2 : St h none_ [(it, .siter (ordOf (n : Int)) (i + 1)), (fb, .map (.int .i32) [(.int .i32 100, .ptr (some ⟨b1, 1⟩)), (.int .i32 97, .ptr (some ⟨b1, 2⟩)), (.int .i32 98, .ptr (some ⟨b1, 3⟩))] bs c), (b1, .cells (insL (⟨x.op, x.rd, x.rs1, x.rs2, 0⟩ : Ins).op (⟨x.op, x.rd, x.rs1, x.rs2, 0⟩ : Ins).rd (⟨x.op, x.rd, x.rs1, x.rs2, 0⟩ : Ins).rs1 (⟨x.op, x.rd, x.rs1, x.rs2, 0⟩ : Ins).rs2 (⟨x.op, x.rd, x.rs1, x.rs2, 0⟩ : Ins).imm) false)] g2 := S2
        refine br_t rfl ?_
        rcases hcc with rfl | rfl
        · have ho : opnd x want 105 w = none := by rw [opnd_i, hnum]
          exact br_t rfl (same5 (κ := fun x1 x2 x3 x4 x5 h => Q x1 x2 x3 x4 x5 [] false h) S2 i2 (fun g3 k3 => bad ⟨x.op, x.rd, x.rs1, x.rs2, 0⟩ g2 ho S2 g3 k3 _ _ _ _ _ _))
        · refine br_f rfl ((W.keep S2.keeps).ixrd rfl hwi (isName_of hwl ?_))
          cases hnm : nameOk w with
          | false =>
            have ho : opnd x want 109 w = none := by rw [opnd_m, hnum, hnm]; rfl
            exact br_t rfl (same5 (κ := fun x1 x2 x3 x4 x5 h => Q x1 x2 x3 x4 x5 [] false h) S2 i2 (fun g3 k3 => bad ⟨x.op, x.rd, x.rs1, x.rs2, 0⟩ g2 ho S2 g3 k3 _ _ _ _ _ _))
          | true =>
            have ho : opnd x want 109 w = some (⟨x.op, x.rd, x.rs1, x.rs2, 0⟩, w) := by rw [opnd_m, hnum, hnm]; rfl
            exact br_f rfl (br_t rfl ((W.keep S2.keeps).ixrd rfl hwi (good ⟨x.op, x.rd, x.rs1, x.rs2, 0⟩ w g2 ho S2)))
    rcases ord_chars hn c' (by rw [← hc, List.getD_eq_getElem?_getD, List.getElem?_eq_getElem hlt]; exact List.getElem_mem hlt) with rfl | rfl | rfl | rfl | rfl
    · refine asP_of (x := some ⟨b1, 1⟩) (br_t rfl ((W.keep S1.keeps).ixrd rfl hwi (register_of hwl (fun h0 => ?_) (fun h0 v => ?_))))
      · exact S1.wr i2 rfl (fun g2 S2 => regs ⟨x.op, regOf w, x.rs1, x.rs2, x.imm⟩ g2 true (opnd_d x want w) (fun _ => h0) (fun e => by cases e) S2)
      · exact S1.wr i2 rfl (fun g2 S2 => regs ⟨x.op, v, x.rs1, x.rs2, x.imm⟩ g2 false ((opnd_d x want w).trans (by rw [if_pos h0, if_pos h0])) (fun e => by cases e) (fun _ => h0) S2)
    · refine asP_of (x := some ⟨b1, 2⟩) (br_t rfl ((W.keep S1.keeps).ixrd rfl hwi (register_of hwl (fun h0 => ?_) (fun h0 v => ?_))))
      · exact S1.wr i2 rfl (fun g2 S2 => regs ⟨x.op, x.rd, regOf w, x.rs2, x.imm⟩ g2 true (opnd_a x want w) (fun _ => h0) (fun e => by cases e) S2)
      · exact S1.wr i2 rfl (fun g2 S2 => regs ⟨x.op, x.rd, v, x.rs2, x.imm⟩ g2 false ((opnd_a x want w).trans (by rw [if_pos h0, if_pos h0])) (fun e => by cases e) (fun _ => h0) S2)
    · refine asP_of (x := some ⟨b1, 3⟩) (br_t rfl ((W.keep S1.keeps).ixrd rfl hwi (register_of hwl (fun h0 => ?_) (fun h0 v => ?_))))
      · exact S1.wr i2 rfl (fun g2 S2 => regs ⟨x.op, x.rd, x.rs1, regOf w, x.imm⟩ g2 true (opnd_b x want w) (fun _ => h0) (fun e => by cases e) S2)
      · exact S1.wr i2 rfl (fun g2 S2 => regs ⟨x.op, x.rd, x.rs1, v, x.imm⟩ g2 false ((opnd_b x want w).trans (by rw [if_pos h0, if_pos h0])) (fun e => by cases e) (fun _ => h0) S2)
    · exact asP_of (x := none) (br_f rfl (num (.inl rfl)))
    · exact asP_of (x := none) (br_f rfl (num (.inr rfl)))

theorem operands_of {n : Nat} (hn : n ≤ 48) {ws : List Str} {sl : Sl} (W : Words h sl ws) (hws : ∀ w ∈ ws, w.length ≤ 1000000) {Q : Int → Int → Int → Int → Int → Str → Bool → Heap → Prop}
    (hq : n ≠ 0 → ∀ g', Keeps none_ h g' → opP Q g' (opnds (ordOf (n : Int)) ws ⟨n, 0, 0, 0, 0⟩ [])) (hq0 : n = 0 → ∀ g', Keeps none_ h g' → ∀ x1 x2 x3 x4 x5 w e, Q x1 x2 x3 x4 x5 w e g') : zf6 (n : Int) sl Q h := by
  unfold zf6
  refine (St.start h none_).al (fun b1 g1 S1 => S1.wr i0 rfl (fun g2 S2 => ?_))
  have S2 : St h none_ [(b1, .cells (insL (n : Int) 0 0 0 0) false)] g2 := S2
  have go : ∀ {o : Str} {R : Option (Ins × Str)}, (∀ i, i < o.length → (o.getD i 0).toNat < 128) → True := fun _ => trivial
  by_cases h0 : n = 0
  · subst h0
    refine Order_zero (fun g3 k3 => ?_)
    have S3 := S2.keep k3
    by_cases hl : ws.length = 0
    · have e : (((sl.len : Nat) : Int) != (([] : Str).length : Int)) = false := by rw [bne_eq_false_iff_eq, W.len, hl]; rfl
      refine br_f e (S3.alM (fun fb g4 S4 => S4.mapPut i0 (fun g5 S5 => S5.mapPut i0 (fun g6 S6 => S6.mapPut i0 (fun g7 S7 it hit => ?_)))))
      have S8 := S7.more hit (h' := g7.new it (.siter [] 0)) Heap.new_obj (Keeps.new hit _)
      unfold zf6.j7
      intro I H
      refine H _ _ _ _ _ _ ?_
      unfold zf6.b7
      refine ⟨rfl, [], 0, Heap.new_obj, ?_⟩
      rw [if_neg (by decide)]
      exact same5 (κ := fun x1 x2 x3 x4 x5 h => Q x1 x2 x3 x4 x5 [] true h) S8 (i := 2) rfl (fun g' k' => hq0 rfl g' k' _ _ _ _ _ _ _)
    · have e : (((sl.len : Nat) : Int) != (([] : Str).length : Int)) = true := by rw [bne_iff_ne, W.len]; simp only [List.length_nil]; omega
      exact br_t e (same5 (κ := fun x1 x2 x3 x4 x5 h => Q x1 x2 x3 x4 x5 [] false h) S3 i0 (fun g' k' => hq0 rfl g' k' _ _ _ _ _ _ _))
  · have hrs : rshape (n : Int) ≠ -1 := by
      have key : ∀ n : Fin 64, 1 ≤ n.val → n.val ≤ 48 → rshape ((n.val : Nat) : Int) ≠ -1 := by decide +kernel
      exact key ⟨n, by omega⟩ (by show 1 ≤ n; omega) (by show n ≤ 48; omega)
    refine Order_asm (by omega) hrs (fun g3 k3 => ?_)
    have S3 := S2.keep k3
    have hq := hq h0
    by_cases hl : (ordOf (n : Int)).length = ws.length
    · refine br_f (by rw [bne_eq_false_iff_eq, W.len]; omega) (S3.alM (fun fb g4 S4 => S4.mapPut i0 (fun g5 S5 => S5.mapPut i0 (fun g6 S6 => S6.mapPut i0 (fun g7 S7 it hit => ?_)))))
      have S8 := S7.more hit (h' := g7.new it (.siter (ordOf (n : Int)) 0)) Heap.new_obj (Keeps.new hit _)
      unfold zf6.j7
      intro I H
      exact operands_of_loop (bs := [0, 1, 2]) (c := 3) (by omega) W hws H hl (ordOf (n : Int)) ws 0 ⟨n, 0, 0, 0, 0⟩ [] _ rfl rfl (by omega) S8 hq
    · refine br_t (by rw [bne_iff_ne, W.len]; omega) ?_
      rw [opnds_len hl] at hq
      exact same5 (κ := fun x1 x2 x3 x4 x5 h => Q x1 x2 x3 x4 x5 [] false h) S3 i0 (fun g' k' => hq g' k' _ _ _ _ _ _)

end
end Go.Asm

set_option linter.unusedSimpArgs false
set_option linter.unusedVariables false
set_option maxRecDepth 100000
namespace Go.Asm
open Go.Lift Go.Fn Go.Insn

section
variable {h0 g h : Heap} {W : Nat → Prop} {L L' A B R I : List (Nat × HO)}

theorem _root_.Go.Lift.St.perm (S : St h0 W L g) (p : L'.Perm L) : St h0 W L' g :=
  ⟨(p.map (·.1)).nodup_iff.2 S.nodup, fun b x hb => S.objs b x (p.mem_iff.1 hb), fun b x hb => S.new b x (p.mem_iff.1 hb), S.keeps⟩

theorem perm_mid : (A ++ (R ++ I)).Perm (R ++ (A ++ I)) := by
  rw [← List.append_assoc, ← List.append_assoc]
  exact List.perm_append_comm.append_right I

/-- The program's items: a slice, the block that it has. -/
def ARow (sz : Nat) (it : Sl) (rowL : List (Nat × HO)) (vs : List V) : Prop :=
  (it = ⟨none, 0, 0⟩ ∧ vs = [] ∧ rowL = []) ∨ ∃ rb rest mk, rowL = [(rb, .cells (vs ++ rest) mk)] ∧ it.p = some ⟨rb, 0⟩ ∧ vs.length = it.len * sz ∧ it.len ≤ it.cap ∧ rest.length = (it.cap - it.len) * sz

theorem ARow.len {sz : Nat} {it : Sl} {rowL : List (Nat × HO)} {vs : List V} (r : ARow sz it rowL vs) : vs.length = it.len * sz := by
  rcases r with ⟨rfl, rfl, _⟩ | ⟨_, _, _, _, _, h, _⟩
  · simp
  · exact h

theorem ARow.app {sz bytes : Nat} {it : Sl} {rowL : List (Nat × HO)} {vs new z : List V} {κ : Sl → Heap → Prop} (r : ARow sz it rowL vs) (S : St h0 none_ (rowL ++ B) g) (hnew : new.length = 1 * sz) (hz : z.length = sz) (hb : (it.len + 1) * bytes ≤ 140737488355328) (hm : it.len + 1 ≤ 9223372036854775807)
    (hk : ∀ it' rowL' g', ARow sz it' rowL' (vs ++ new) → St h0 none_ (rowL' ++ B) g' → it'.len = it.len + 1 → κ it' g') : appS sz bytes z it new 1 κ g := by
  rcases r with ⟨rfl, rfl, rfl⟩ | ⟨rb, rest, mk, rfl, hp, hl, hc, hr⟩
  · refine appS_nil hnew (by decide) hz (by simpa using hb) (by decide) (fun s' h' b' O' hl hbn k' => ?_)
    obtain ⟨rest, mk, ho, hr⟩ := O'.obj
    have S1 := (St.sub (L' := B) S (by simp)).more hbn ho k'
    refine hk s' [(b', .cells (new ++ rest) mk)] h' (.inr ⟨b', rest, mk, rfl, O'.p, O'.len, O'.cap, hr⟩) S1 (by simpa using hl)
  · obtain ⟨p, sl, sc⟩ := it
    simp only at hp hl hc hr hb hm hk
    subst hp
    have O : Own g ⟨some ⟨rb, 0⟩, sl, sc⟩ sz vs rb := ⟨rfl, hc, hl, rest, mk, S.obj i0, hr⟩
    refine appS_own O hnew hz hb hm (fun s' h' b' O' hl' hbb k' => ?_)
    obtain ⟨rest', mk', ho, hr'⟩ := O'.obj
    refine hk s' [(b', .cells (vs ++ new ++ rest') mk')] h' (.inr ⟨b', rest', mk', rfl, O'.p, O'.len, O'.cap, hr'⟩) ?_ hl'
    rcases hbb with rfl | hf
    · exact S.put i0 ho k'
    · have hnt : ∀ b x, (b, x) ∈ B → ¬ b = rb := fun b x hb e => by
        have := S.nodup
        simp only [List.cons_append, List.nil_append, List.map_cons, List.nodup_cons] at this
        exact this.1 (List.mem_map.2 ⟨(b, x), hb, e⟩)
      have S1 : St h0 none_ B h' := (St.tail S).keepW k' (fun b x hb => hnt b x hb) (fun zz e hz => by
        rcases S.new rb _ (List.mem_cons_self) with h2 | h2
        · exact absurd h2 (by rw [← e]; exact hz)
        · exact h2.elim)
      have hn0 : h0.obj b' = none := by
        cases hh : h0.obj b' with
        | none => rfl
        | some z => exact absurd hf (S.keeps.known b' (by rw [hh]; simp))
      exact S1.add ho (.inl hn0) ((St.tail S).fresh (x := .cells [] false) hf)

end

/-- An item's cells. -/
def ITM (n b : Nat) : Body → List V
  | .blank => []
  | .fill k v => [.int .i64 n, .int .i64 k, .int .u32 v, .ptr none, .str []]
  | .ins _ want => [.int .i64 n, .int .i64 1, .int .u32 0, .ptr (some ⟨b, 0⟩), .str want]

/-- An instruction's block. -/
def INS (b : Nat) : Body → List (Nat × HO)
  | .ins y _ => [(b, .cells (insL y.op y.rd y.rs1 y.rs2 y.imm) false)]
  | _ => []

def itemsOf : Nat → List (Body × Nat) → List V
  | _, [] => []
  | n, (x, b) :: l => ITM n b x ++ itemsOf (n + 1) l

def insOf (l : List (Body × Nat)) : List (Nat × HO) := l.flatMap fun p => INS p.2 p.1

theorem itemsOf_snoc : ∀ (l : List (Body × Nat)) (n : Nat) (x : Body) (b : Nat), itemsOf n (l ++ [(x, b)]) = itemsOf n l ++ ITM (n + l.length) b x
  | [], n, x, b => by simp [itemsOf]
  | (y, c) :: l, n, x, b => by
    show ITM n c y ++ itemsOf (n + 1) (l ++ [(x, b)]) = ITM n c y ++ itemsOf (n + 1) l ++ _
    rw [itemsOf_snoc l (n + 1) x b, List.append_assoc, List.length_cons, show n + 1 + l.length = n + (l.length + 1) by omega]

theorem insOf_snoc (l : List (Body × Nat)) (x : Body) (b : Nat) : insOf (l ++ [(x, b)]) = insOf l ++ INS b x := by
  simp [insOf]


section
variable {U : Ifc} {h g : Heap} {pb mb fb : Nat} {M FO : HO} {X : List (Nat × HO)}

/-- The item is appended. -/
theorem read_j21 {b1 : Nat} {it : Sl} {rowL I : List (Nat × HO)} {vs : List V} {w k : Nat} {n v : Int} {ip : Option Ptr} {want : Str} {Q : V → Heap → Prop} (r : ARow 5 it rowL vs) (hlen : it.len ≤ 1000000) (hw : w ≤ 1000000000) (hk : k ≤ 1000000)
    (S : St h none_ ((b1, .cells [.int .i64 n, .int .i64 (k : Nat), .int .u32 v, .ptr ip, .str want] false) :: (fb, FO) :: (pb, .cells [.sl it, .map (some mb), .int .i64 (w : Nat)] false) :: (mb, M) :: (rowL ++ I)) g)
    (hq : ∀ it' rowL' g', ARow 5 it' rowL' (vs ++ [.int .i64 n, .int .i64 (k : Nat), .int .u32 v, .ptr ip, .str want]) → St h none_ ((fb, FO) :: (pb, .cells [.sl it', .map (some mb), .int .i64 ((w + k) : Nat)] false) :: (mb, M) :: (rowL' ++ I)) g' → Q .nilif g') :
    zf12.j21 U (some ⟨pb, 0⟩) ⟨b1, 0⟩ Q g := by
  unfold zf12.j21
  refine S.rSl (i := 2) rfl rfl (S.rI i0 rfl (S.rI i0 rfl (S.rI i0 rfl (S.rP i0 rfl (S.rS i0 rfl (S.al (fun b8 g1 S1 => ?_)))))))
  refine ⟨S1.ck1 (i := 3) rfl rfl, S1.rN i0 (Nat.le_refl 5) ?_⟩
  have S2 : St h none_ (rowL ++ ([(b8, .cells [.int .i64 n, .int .i64 (k : Nat), .int .u32 v, .ptr ip, .str want] false), (b1, .cells [.int .i64 n, .int .i64 (k : Nat), .int .u32 v, .ptr ip, .str want] false), (fb, FO), (pb, .cells [.sl it, .map (some mb), .int .i64 (w : Nat)] false), (mb, M)] ++ I)) g1 := S1.perm (perm_mid (A := [_, _, _, _, _])).symm
  refine r.app S2 rfl rfl (by omega) (by omega) (fun it' rowL' g2 r' S3 hl' => ?_)
  have S4 : St h none_ ((b8, .cells [.int .i64 n, .int .i64 (k : Nat), .int .u32 v, .ptr ip, .str want] false) :: (b1, .cells [.int .i64 n, .int .i64 (k : Nat), .int .u32 v, .ptr ip, .str want] false) :: (fb, FO) :: (pb, .cells [.sl it, .map (some mb), .int .i64 (w : Nat)] false) :: (mb, M) :: (rowL' ++ I)) g2 := S3.perm (perm_mid (A := [_, _, _, _, _]))
  refine der_of (S4.wr (i := 3) rfl rfl (fun g3 S5 => ?_))
  refine der_of (S5.rI (i := 3) rfl rfl (S5.rI (i := 1) rfl rfl (der_of (S5.wr (i := 3) rfl rfl (fun g4 S6 => ?_)))))
  have e : IntKind.i64.wrap ((w : Int) + (k : Int)) = ((w + k : Nat) : Int) := by rw [wrap64] <;> omega
  rw [e] at S6
  exact hq it' rowL' g4 r' S6.tail.tail

/-- What reading a line comes to. -/
def readP (h : Heap) (pb mb fb : Nat) (M FO : HO) (X : List (Nat × HO)) (n w : Nat) (ds : List (Body × Nat)) (Q : V → Heap → Prop) : Option Body → Prop
  | none => ∀ g, Keeps none_ h g → Q (.iface 6 (.agg [.int .i64 (n : Int)])) g
  | some b => ∀ it' rowL' g' k, ARow 5 it' rowL' (itemsOf 0 (ds ++ [(b, k)])) → St h none_ ((fb, FO) :: (pb, .cells [.sl it', .map (some mb), .int .i64 ((w + b.words) : Nat)] false) :: (mb, M) :: (rowL' ++ (X ++ insOf (ds ++ [(b, k)])))) g' → Q .nilif g'


theorem read_j10 {b1 n w : Nat} {ds : List (Body × Nat)} {it : Sl} {rowL : List (Nat × HO)} (hn : ds.length = n) (r : ARow 5 it rowL (itemsOf 0 ds)) (hlen : it.len ≤ 1000000) (hw : w ≤ 1000000000) {w0 : Str} {ws : List Str} {sl : Sl} (hw0 : w0 = dotWord ∨ w0 = dotFill) (S : St h none_ ((b1, .cells [.int .i64 (n : Nat), .int .i64 1, .int .u32 0, .ptr none, .str []] false) :: (fb, FO) :: (pb, .cells [.sl it, .map (some mb), .int .i64 (w : Nat)] false) :: (mb, M) :: (rowL ++ (X ++ insOf ds))) g) (W : Words g sl (w0 :: ws)) (hws : ∀ w' ∈ ws, w'.length ≤ 1000000) {Q : V → Heap → Prop}
    (hq : readP h pb mb fb M FO X n w ds Q (readB (w0 :: ws))) : zf12.j10 U (some ⟨pb, 0⟩) (n : Int) sl ⟨b1, 0⟩ Q g := by
  unfold zf12.j10
  rw [readB_cons, if_pos hw0] at hq
  have hlen2 := W.len
  simp only [List.length_cons] at hlen2
  match ws, W, hq, hlen2, hws with
  | [], W, hq, hlen2, _ =>
    simp only [List.length_nil] at hlen2
    exact br_t (by rw [bne_iff_ne]; omega) (hq g S.keeps)
  | _ :: _ :: _, W, hq, hlen2, _ =>
    simp only [List.length_cons] at hlen2
    exact br_t (by rw [bne_iff_ne]; omega) (hq g S.keeps)
  | [a], W, hq, hlen2, hws =>
    simp only [List.length_cons, List.length_nil] at hlen2
    refine br_f (by rw [bne_eq_false_iff_eq]; omega) (W.ixrd (i := 1) rfl rfl (number_of (hws a (List.mem_singleton.2 rfl)) (W.ixrd (i := 0) rfl rfl ?_)))
    simp only at hq
    by_cases hf : w0 = dotFill
    · rw [if_pos hf] at hq
      refine br_t (by rw [beq_iff_eq]; exact hf) ?_
      unfold zf12.j16 zf12.j17
      cases hnum : numOf a with
      | none => rw [hnum] at hq; exact br_t rfl (hq g S.keeps)
      | some v =>
        rw [hnum] at hq
        simp only [fillB] at hq
        simp only [Option.getD_some, Option.isSome_some]
        refine br_f rfl ?_
        by_cases hv : 0 ≤ v ∧ v ≤ 4096
        · rw [if_pos hv] at hq
          refine br_f (decide_eq_false (by omega)) (br_f (decide_eq_false (by omega)) (W.ixrd (i := 0) rfl rfl (br_t (by rw [beq_iff_eq]; exact hf) (S.wr i0 rfl (fun g2 S2 => ?_)))))
          obtain ⟨k, rfl⟩ : ∃ k : Nat, v = (k : Int) := ⟨v.toNat, by omega⟩
          refine read_j21 (k := k) (v := 0) r hlen hw (by omega) S2 (fun it' rowL' g' r' S' => ?_)
          refine hq it' rowL' g' 0 ?_ ?_
          · rw [itemsOf_snoc, Nat.zero_add, hn, Int.toNat_natCast]; exact r'
          · rw [insOf_snoc, Int.toNat_natCast]
            show St h none_ ((fb, FO) :: (pb, .cells [.sl it', .map (some mb), .int .i64 ((w + k) : Nat)] false) :: (mb, M) :: (rowL' ++ (X ++ (insOf ds ++ [])))) g'
            rw [List.append_nil]; exact S'
        · rw [if_neg hv] at hq
          refine br_if (fun _ => hq g S.keeps) (fun c => br_t (decide_eq_true ?_) (hq g S.keeps))
          have := of_decide_eq_false c; omega
    · rw [if_neg hf] at hq
      refine br_f (beq_false_of_ne hf) ?_
      unfold zf12.j16 zf12.j17
      cases hnum : numOf a with
      | none => rw [hnum] at hq; exact br_t rfl (hq g S.keeps)
      | some v =>
        rw [hnum] at hq
        simp only [wordB] at hq
        simp only [Option.getD_some, Option.isSome_some]
        refine br_f rfl ?_
        by_cases hv : -2147483648 ≤ v ∧ v ≤ 4294967295
        · rw [if_pos hv] at hq
          refine br_f (decide_eq_false (by omega)) (br_f (decide_eq_false (by omega)) (W.ixrd (i := 0) rfl rfl (br_f (beq_false_of_ne hf) (S.wr i0 rfl (fun g2 S2 => ?_)))))
          rw [u32_wrap] at S2
          refine read_j21 (k := 1) (v := (((v % 4294967296).toNat : Nat) : Int)) r hlen hw (by omega) S2 (fun it' rowL' g' r' S' => ?_)
          refine hq it' rowL' g' 0 ?_ ?_
          · rw [itemsOf_snoc, Nat.zero_add, hn]; exact r'
          · rw [insOf_snoc]
            show St h none_ ((fb, FO) :: (pb, .cells [.sl it', .map (some mb), .int .i64 ((w + 1) : Nat)] false) :: (mb, M) :: (rowL' ++ (X ++ (insOf ds ++ [])))) g'
            rw [List.append_nil]; exact S'
        · rw [if_neg hv] at hq
          refine br_if (fun _ => hq g S.keeps) (fun c => br_t (decide_eq_true ?_) (hq g S.keeps))
          have := of_decide_eq_false c; omega

theorem read_of (asc : ∀ c : Nat, c < 256 → h.get (U.glob 4) c = some (.int .u8 (if Lib.isSp (UInt8.ofNat c) then 1 else 0))) {n w : Nat} {ds : List (Body × Nat)} {it : Sl} {rowL : List (Nat × HO)} (hn : ds.length = n) (r : ARow 5 it rowL (itemsOf 0 ds)) (hlen : it.len ≤ 1000000) (hw : w ≤ 1000000000) {ws : List Str} {sl : Sl}
    (S : St h none_ ((fb, FO) :: (pb, .cells [.sl it, .map (some mb), .int .i64 (w : Nat)] false) :: (mb, M) :: (rowL ++ (X ++ insOf ds))) g) (hW : ∀ g', g'.obj fb = some FO → Words g' sl ws) (hws : ∀ w' ∈ ws, w'.length ≤ 1000000) {Q : V → Heap → Prop}
    (hq : readP h pb mb fb M FO X n w ds Q (readB ws)) : zf12 U (some ⟨pb, 0⟩) (n : Int) sl Q g := by
  unfold zf12
  refine S.al (fun b1 g1 S1 => S1.wrL i0 (Nat.le_refl 5) (fun g2 S2 => ?_))
  have S3 : St h none_ ((b1, .cells [.int .i64 (n : Nat), .int .i64 1, .int .u32 0, .ptr none, .str []] false) :: (fb, FO) :: (pb, .cells [.sl it, .map (some mb), .int .i64 (w : Nat)] false) :: (mb, M) :: (rowL ++ (X ++ insOf ds))) g2 := S2
  have W := hW g2 (S3.obj i1)
  cases ws with
  | nil =>
    refine br_t (by rw [W.len]; rfl) (hq it rowL g2 0 ?_ ?_)
    · rw [itemsOf_snoc]; show ARow 5 it rowL (itemsOf 0 ds ++ []); rw [List.append_nil]; exact r
    · rw [insOf_snoc]
      show St h none_ ((fb, FO) :: (pb, .cells [.sl it, .map (some mb), .int .i64 ((w + 0) : Nat)] false) :: (mb, M) :: (rowL ++ (X ++ (insOf ds ++ [])))) g2
      rw [List.append_nil]; exact S3.tail
  | cons w0 ws =>
    have hlen2 := W.len
    simp only [List.length_cons] at hlen2
    have hws2 : ∀ w' ∈ ws, w'.length ≤ 1000000 := fun w' h' => hws w' (List.mem_cons_of_mem _ h')
    refine br_f (beq_false_of_ne (by omega)) (W.ixrd (i := 0) rfl rfl ?_)
    by_cases h1 : w0 = dotWord
    · exact br_t (by rw [beq_iff_eq]; exact h1) (read_j10 hn r hlen hw (.inl h1) S3 W hws2 hq)
    refine br_f (beq_false_of_ne h1) (W.ixrd (i := 0) rfl rfl ?_)
    by_cases h2 : w0 = dotFill
    · exact br_t (by rw [beq_iff_eq]; exact h2) (read_j10 hn r hlen hw (.inr h2) S3 W hws2 hq)
    refine br_f (beq_false_of_ne h2) ?_
    -- the operation
    have hix : ∀ {κ : Str → Ptr → Prop}, (∀ p : Ptr, (∀ g', Keeps none_ g2 g' → g'.get p.b p.o = some (.str w0)) → κ w0 p) → ix 0 sl.len (fun n8 => der sl.p (fun p9 => rdStr (p9.add (n8 * 1)) (fun x10 => κ x10 (p9.add (n8 * 1))) g2)) := by
      intro κ hk
      refine ix_of (by decide) (by omega) ?_
      cases hp : sl.p with
      | none => have := W.held.nil hp; omega
      | some p =>
        rw [der_some]
        have hr : ∀ g', Keeps none_ g2 g' → g'.get p.b (p.o + 0 * 1) = some (.str w0) := fun g' k' => (W.keep k').held.row p hp (0 * 1) _ rfl
        exact rdStr_of (hr g2 (Keeps.refl _ _)) (hk _ hr)
    refine hix (κ := fun x10 q => zf7 U (fun r11 h => ck q [.str x10] 0 h ∧ (mapGet .str r11 (.str x10) (fun o12 => asI .i64 (o12.getD (.int .i64 0)) (fun x13 => zf12.j3 U (some ⟨pb, 0⟩) (n : Int) sl (⟨b1, 0⟩ : Ptr) x13 o12.isSome Q h)) h)) g2) (fun q hrq => ?_)
    have asc2 : ∀ c : Nat, c < 256 → g2.get (U.glob 4) c = some (.int .u8 (if Lib.isSp (UInt8.ofNat c) then 1 else 0)) := fun c hc => by
      have hg := asc c hc
      have hn : h.obj (U.glob 4) ≠ none := by intro hn; unfold Heap.get at hg; rw [hn] at hg; cases hg
      rw [Heap.get_obj (S3.keeps.same _ hn (fun f => f))]; exact hg
    refine operations_of asc2 (fun ob es bs c g3 k3 hob hom => ⟨⟨hrq g3 k3, trivial⟩, es, bs, c, hob, ?_⟩)
    have S4 := S3.keep k3
    have W4 := W.keep k3
    rw [ops_find hom]
    rw [readB_cons, if_neg (fun hh => hh.elim h1 h2)] at hq
    -- what follows
    have j3 : ∀ (m : Nat) (known : Bool), m ≤ 48 → (known = true → m ≠ 0 ∧ m = opOf w0) → (known = false → m = 0 ∧ opOf w0 = 0) → zf12.j3 U (some ⟨pb, 0⟩) (n : Int) sl (⟨b1, 0⟩ : Ptr) (m : Int) known Q g3 := by
      intro m known hm hk1 hk2
      unfold zf12.j3
      have fin : ∀ (x : Ins) (want : Str) (e : Bool) (g4 : Heap), Keeps none_ g3 g4 → ((known = false ∨ e = false) → ∀ g, Keeps none_ h g → Q (.iface 6 (.agg [.int .i64 (n : Int)])) g) → (known = true → e = true → readP h pb mb fb M FO X n w ds Q (some (.ins x want))) →
          al [.int .i64 0, .int .i64 0, .int .i64 0, .int .i64 0, .int .i64 0] (fun b9 h => wrL [.int .i64 x.op, .int .i64 x.rd, .int .i64 x.rs1, .int .i64 x.rs2, .int .i64 x.imm] (⟨b9, 0⟩ : Ptr) 0 (fun h => br (!known) (zf12.j5 U (n : Int) Q h) (br (!e) (zf12.j5 U (n : Int) Q h) (wr ((⟨b1, 0⟩ : Ptr).add 3) (.ptr (some (⟨b9, 0⟩ : Ptr))) (fun h => wr ((⟨b1, 0⟩ : Ptr).add 4) (.str want) (fun h => zf12.j21 U (some ⟨pb, 0⟩) ⟨b1, 0⟩ Q h) h) h))) h) g4 := by
        intro x want e g4 k4 hbad hgood
        refine (S4.keep k4).al (fun b9 g5 S5 => S5.wrL i0 (Nat.le_refl 5) (fun g6 S6 => ?_))
        unfold zf12.j5
        cases known with
        | false => exact br_t rfl (hbad (.inl rfl) g6 S6.keeps)
        | true =>
          cases e with
          | false => exact br_f rfl (br_t rfl (hbad (.inr rfl) g6 S6.keeps))
          | true =>
            refine br_f rfl (br_f rfl (S6.wr i1 rfl (fun g7 S7 => S7.wr i1 rfl (fun g8 S8 => ?_))))
            have hgood := hgood rfl rfl
            have S9 : St h none_ ((b9, .cells (insL x.op x.rd x.rs1 x.rs2 x.imm) false) :: (b1, .cells [.int .i64 (n : Nat), .int .i64 1, .int .u32 0, .ptr (some ⟨b9, 0⟩), .str want] false) :: (fb, FO) :: (pb, .cells [.sl it, .map (some mb), .int .i64 (w : Nat)] false) :: (mb, M) :: (rowL ++ (X ++ insOf ds))) g8 := S8
            have S10 : St h none_ ((b1, .cells [.int .i64 (n : Nat), .int .i64 (1 : Nat), .int .u32 0, .ptr (some ⟨b9, 0⟩), .str want] false) :: (fb, FO) :: (pb, .cells [.sl it, .map (some mb), .int .i64 (w : Nat)] false) :: (mb, M) :: (rowL ++ (X ++ insOf (ds ++ [(.ins x want, b9)])))) g8 := by
              refine S9.perm ?_
              rw [insOf_snoc]
              show ((b1, _) :: (fb, _) :: _ :: (mb, _) :: (rowL ++ (X ++ (insOf ds ++ [(b9, _)])))).Perm _
              have : ∀ {a b c d e : Nat × HO} {X Z Y : List (Nat × HO)}, (a :: b :: c :: d :: (X ++ (Z ++ (Y ++ [e])))).Perm (e :: a :: b :: c :: d :: (X ++ (Z ++ Y))) := by
                intro a b c d e X Z Y
                have := List.perm_append_comm (l₁ := [e]) (l₂ := a :: b :: c :: d :: (X ++ (Z ++ Y)))
                simp only [List.cons_append, List.nil_append, List.append_assoc] at this
                exact this.symm
              exact this
            refine read_j21 (k := 1) r hlen hw (by omega) S10 (fun it' rowL' g' r' S' => ?_)
            refine hgood it' rowL' g' b9 ?_ S'
            rw [itemsOf_snoc, Nat.zero_add, hn]; exact r'
      refine sb_of (by omega) (by omega) (operands_of (n := m) hm W4.tail hws2 (fun hm0 g4 k4 => ?_) (fun hm0 g4 k4 x1 x2 x3 x4 x5 wd e => ?_))
      · cases known with
        | false => exact absurd (hk2 rfl).1 hm0
        | true =>
          have hmo := (hk1 rfl).2
          rw [if_neg (by omega)] at hq
          subst hmo
          cases ho : opnds (ordOf (opOf w0 : Int)) ws ⟨opOf w0, 0, 0, 0, 0⟩ [] with
          | none =>
            rw [ho] at hq
            intro x1 x2 x3 x4 x5 wd
            exact fin ⟨x1, x2, x3, x4, x5⟩ wd false g4 k4 (fun _ => hq) (fun _ e => by cases e)
          | some p =>
            obtain ⟨x, want⟩ := p
            rw [ho] at hq
            exact fin x want true g4 k4 (fun e => by rcases e with e | e <;> cases e) (fun _ _ => hq)
      · cases known with
        | true => exact absurd hm0 (hk1 rfl).1
        | false =>
          rw [if_pos (hk2 rfl).2] at hq
          exact fin ⟨x1, x2, x3, x4, x5⟩ wd e g4 k4 (fun _ => hq) (fun e _ => by cases e)
    by_cases h0 : opOf w0 = 0
    · rw [if_pos h0]
      exact asI_of (x := 0) (j3 0 false (by decide) (fun e => by cases e) (fun _ => ⟨rfl, h0⟩))
    · rw [if_neg h0]
      exact asI_of (j3 (opOf w0) true (opOf_le w0) (fun _ => ⟨h0, rfl⟩) (fun e => by cases e))

end
end Go.Asm

set_option linter.unusedSimpArgs false
set_option linter.unusedVariables false
set_option maxRecDepth 100000
namespace Go.Asm
open Go.Lift Go.Fn Go.Insn

/-- The words of a line without remarks. -/
def words0 : Str → Str → List Str
  | w, [] => if w.isEmpty then [] else [w]
  | w, b :: s => if isSep b then (if w.isEmpty then words0 [] s else w :: words0 [] s) else words0 (w ++ [b]) s

theorem words0_cons (w : Str) (b : UInt8) (s : Str) : words0 w (b :: s) = if isSep b then (if w.isEmpty then words0 [] s else w :: words0 [] s) else words0 (w ++ [b]) s := rfl

theorem wordsGo_cut : ∀ (s w : Str), wordsGo w s = words0 w (s.takeWhile (· != 35))
  | [], w => rfl
  | b :: s, w => by
    rw [List.takeWhile_cons]
    by_cases hb : b = 35
    · subst hb
      rw [show ((35 : UInt8) != 35) = false by decide, if_neg (by decide)]
      show (if ((35 : UInt8) == 35) = true then (if w.isEmpty then [] else [w]) else _) = _
      rw [if_pos (by decide)]
      rfl
    · have h1 : (b != 35) = true := by rw [bne_iff_ne]; exact hb
      rw [h1, if_pos rfl, words0_cons]
      show (if (b == 35) = true then _ else if isSep b then (if w.isEmpty then wordsGo [] s else w :: wordsGo [] s) else wordsGo (w ++ [b]) s) = _
      rw [if_neg (by simpa using hb), wordsGo_cut s [], wordsGo_cut s (w ++ [b])]

theorem index_one (c b : UInt8) (l : Str) : Lib.index (b :: l) [c] = if c = b then 0 else if Lib.index l [c] == -1 then -1 else Lib.index l [c] + 1 := by
  show (if ([c] : Str).isPrefixOf (b :: l) then (0 : Int) else _) = _
  by_cases h : c = b
  · subst h
    rw [if_pos rfl, if_pos (by simp [List.isPrefixOf])]
  · rw [if_neg h, if_neg (by simp [List.isPrefixOf]; exact h)]

theorem take_index (c : UInt8) : ∀ s : Str, (if 0 ≤ Lib.index s [c] then s.take (Lib.index s [c]).toNat else s) = s.takeWhile (· != c)
  | [] => by simp [Lib.index]
  | b :: l => by
    have ih := take_index c l
    have hge := Lib.index_ge l [c]
    rw [index_one, List.takeWhile_cons]
    by_cases h : c = b
    · subst h
      rw [if_pos rfl, show (c != c) = false by simp]
      simp
    · rw [if_neg h, show (b != c) = true by rw [bne_iff_ne]; exact fun e => h e.symm, if_pos (rfl : true = true)]
      by_cases hm : Lib.index l [c] = -1
      · rw [hm] at ih ⊢
        rw [if_neg (by decide)] at ih
        rw [← ih]; simp
      · have e : (if (Lib.index l [c] == -1) = true then (-1 : Int) else Lib.index l [c] + 1) = Lib.index l [c] + 1 := if_neg (by simpa using hm)
        rw [e, if_pos (by omega)]
        rw [if_pos (by omega)] at ih
        rw [show (Lib.index l [c] + 1).toNat = (Lib.index l [c]).toNat + 1 by omega, List.take_succ_cons, ih]

theorem cut_hash (s : Str) : (Lib.cut s [35]).1 = s.takeWhile (· != 35) := by
  rw [← take_index]
  unfold Lib.cut
  split <;> rfl

theorem split_hit : ∀ (s : Str) (i : Nat), Lib.index s [10] = (i : Int) → split s = s.take i :: split (s.drop (i + 1))
  | [], i, h => by simp [Lib.index] at h
  | b :: l, i, h => by
    have hge := Lib.index_ge l [10]
    rw [index_one] at h
    rw [split_cons]
    by_cases hb : (10 : UInt8) = b
    · subst hb
      rw [if_pos rfl] at h
      have : i = 0 := by omega
      subst this
      rw [if_pos (by decide)]; rfl
    · rw [if_neg hb] at h
      rw [if_neg (by simpa using fun e => hb e.symm)]
      by_cases hm : Lib.index l [10] = -1
      · rw [hm] at h; simp at h
      · rw [if_neg (by simpa using hm)] at h
        obtain ⟨j, rfl⟩ : ∃ j, i = j + 1 := ⟨i - 1, by omega⟩
        rw [split_hit l j (by omega)]; rfl

theorem split_miss : ∀ (s : Str), Lib.index s [10] = -1 → split s = [s]
  | [], _ => rfl
  | b :: l, h => by
    have hge := Lib.index_ge l [10]
    rw [index_one] at h
    rw [split_cons]
    by_cases hb : (10 : UInt8) = b
    · rw [if_pos hb] at h; cases h
    · rw [if_neg hb] at h
      rw [if_neg (by simpa using fun e => hb e.symm)]
      by_cases hm : Lib.index l [10] = -1
      · rw [split_miss l hm]
      · rw [if_neg (by simpa using hm)] at h; omega

theorem splitK_split : ∀ (k : Nat) (s : Str), s.length ≤ k → Lib.splitK [10] 0 (Lib.count s [10]) s = split s := by
  intro k
  induction k with
  | zero =>
    intro s hs
    have : s = [] := List.length_eq_zero_iff.1 (by omega)
    subst this; rfl
  | succ k ih =>
    intro s hs
    have hge := Lib.index_ge s [10]
    by_cases hm : Lib.index s [10] = -1
    · rw [Lib.count_miss hm, split_miss s hm]; rfl
    · obtain ⟨i, hi⟩ : ∃ i : Nat, Lib.index s [10] = i := ⟨(Lib.index s [10]).toNat, by omega⟩
      rw [Lib.count_hit (by simp) hi, split_hit s i hi, Nat.add_comm]
      show (if (Lib.index s [10] == -1) = true then [s] else s.take ((Lib.index s [10]).toNat + 0) :: Lib.splitK [10] 0 (Lib.count (s.drop (i + 1)) [10]) (s.drop ((Lib.index s [10]).toNat + 1))) = _
      rw [if_neg (by simpa using hm), hi, Int.toNat_natCast, Nat.add_zero, ih _ (by
        rw [List.length_drop]
        rcases Nat.eq_zero_or_pos s.length with h0 | h0
        · omega
        · omega)]

theorem splitL_split (s : Str) : splitL s [10] = split s := by
  unfold splitL
  rw [Lib.splitB_data]
  exact splitK_split s.length s (Nat.le_refl _)

theorem get_ba (l : Str) (j : Nat) : ((⟨l.toArray⟩ : ByteArray).get! j) = l.getD j 0 := by
  show (l.toArray)[j]! = _
  rw [List.getD_eq_getElem?_getD]
  by_cases hj : j < l.length
  · rw [List.getElem?_eq_getElem hj]; simp [hj]
  · rw [List.getElem?_eq_none (by omega)]
    simp [hj]; rfl

theorem ba_sz (l : Str) : (⟨l.toArray⟩ : ByteArray).size = l.length := by simp [ByteArray.size]

/-- A rune that begins beyond ASCII lies beyond ASCII, all of its bytes. -/
theorem decode_hi (l : Str) (i : Nat) (hi : i < l.length) (hb : 128 ≤ (l.getD i 0).toNat) :
    128 ≤ (Utf8.decode ⟨l.toArray⟩ i).1 ∧ 1 ≤ (Utf8.decode ⟨l.toArray⟩ i).2 ∧ i + (Utf8.decode ⟨l.toArray⟩ i).2 ≤ l.length ∧ ∀ k, k < (Utf8.decode ⟨l.toArray⟩ i).2 → 128 ≤ (l.getD (i + k) 0).toNat := by
  have one : 128 ≤ (Utf8.runeError, 1).1 ∧ 1 ≤ ((Utf8.runeError, 1) : Nat × Nat).2 ∧ i + ((Utf8.runeError, 1) : Nat × Nat).2 ≤ l.length ∧ ∀ k, k < ((Utf8.runeError, 1) : Nat × Nat).2 → 128 ≤ (l.getD (i + k) 0).toNat := by
    refine ⟨by decide, by decide, by show i + 1 ≤ _; omega, fun k hk => ?_⟩
    have hk : k < 1 := hk
    have : k = 0 := by omega
    rw [this]; exact hb
  unfold Utf8.decode
  simp only [get_ba, ba_sz, Nat.add_zero]
  have cont : ∀ k, (decide (i + k < l.length) && (l.getD (i + k) 0).toNat / 64 == 2) = true → i + k < l.length ∧ 128 ≤ (l.getD (i + k) 0).toNat := by
    intro k hk
    simp only [Bool.and_eq_true, decide_eq_true_eq, beq_iff_eq] at hk
    exact ⟨hk.1, by omega⟩
  rw [if_neg (by omega)]
  split
  · rename_i h1
    simp only [Bool.and_eq_true] at h1
    have c1 := cont 1 (by simpa using h1.2)
    split
    · rename_i h2
      refine ⟨by simpa using h2, by show 1 ≤ 2; decide, by show i + 2 ≤ _; omega, fun k hk => ?_⟩
      have hk : k < 2 := hk
      rcases (by omega : k = 0 ∨ k = 1) with rfl | rfl
      · exact hb
      · exact c1.2
    · exact one
  · split
    · rename_i h1
      simp only [Bool.and_eq_true] at h1
      have c1 := cont 1 (by simpa using h1.1.2)
      have c2 := cont 2 (by simpa using h1.2)
      split
      · rename_i h2
        simp only [Bool.and_eq_true, decide_eq_true_eq] at h2
        refine ⟨by simp only; omega, by show 1 ≤ 3; decide, by show i + 3 ≤ _; omega, fun k hk => ?_⟩
        have hk : k < 3 := hk
        rcases (by omega : k = 0 ∨ k = 1 ∨ k = 2) with rfl | rfl | rfl
        · exact hb
        · exact c1.2
        · exact c2.2
      · exact one
    · split
      · rename_i h1
        simp only [Bool.and_eq_true] at h1
        have c1 := cont 1 (by simpa using h1.1.1.2)
        have c2 := cont 2 (by simpa using h1.1.2)
        have c3 := cont 3 (by simpa using h1.2)
        split
        · rename_i h2
          simp only [Bool.and_eq_true, decide_eq_true_eq] at h2
          refine ⟨by simp only; omega, by show 1 ≤ 4; decide, by show i + 4 ≤ _; omega, fun k hk => ?_⟩
          have hk : k < 4 := hk
          rcases (by omega : k = 0 ∨ k = 1 ∨ k = 2 ∨ k = 3) with rfl | rfl | rfl | rfl
          · exact hb
          · exact c1.2
          · exact c2.2
          · exact c3.2
        · exact one
      · exact one

theorem sep_low {b : UInt8} (hb : b.toNat < 128) : sepR b.toNat = isSep b := by
  unfold sepR isSep
  have e : ∀ n : Nat, n < 128 → ((b.toNat == n) = (b == UInt8.ofNat n)) := by
    intro n hn
    by_cases h : b = UInt8.ofNat n
    · rw [h]; simp; omega
    · rw [beq_false_of_ne h]
      exact beq_false_of_ne (fun hh => h (byte_eq hh (by omega)))
  rw [e 32 (by decide), e 44 (by decide), e 9 (by decide), e 40 (by decide), e 41 (by decide)]
  rfl

theorem sep_high {x : Nat} (hx : 128 ≤ x) : sepR x = false := by
  unfold sepR
  simp only [Bool.or_eq_false_iff, beq_eq_false_iff_ne]
  omega

theorem words0_high : ∀ (d w s : Str), (∀ b ∈ d, 128 ≤ b.toNat) → words0 w (d ++ s) = words0 (w ++ d) s
  | [], w, s, _ => by rw [List.nil_append, List.append_nil]
  | b :: d, w, s, h => by
    have hb := h b List.mem_cons_self
    have hs : isSep b = false := by
      unfold isSep
      simp only [Bool.or_eq_false_iff, beq_eq_false_iff_ne]
      have ne : ∀ n : Nat, n < 128 → b ≠ UInt8.ofNat n := fun n hn e => by rw [e] at hb; simp at hb; omega
      exact ⟨ne 32 (by decide), ne 44 (by decide), ne 9 (by decide), ne 40 (by decide), ne 41 (by decide)⟩
    rw [List.cons_append, words0_cons, hs, if_neg (by decide), words0_high d (w ++ [b]) s (fun c hc => h c (List.mem_cons_of_mem _ hc)), List.append_assoc]
    rfl

/-- The piece from a to b. -/
def piece (l : Str) (x : Nat × Nat) : Str := (l.drop x.1).take (x.2 - x.1)

def curOf (l : Str) (pos : Nat) : Option Nat → Str
  | some a => piece l (a, pos)
  | none => []

theorem extract_piece (l : Str) (x : Nat × Nat) (h : x.1 ≤ x.2) (h2 : x.2 ≤ l.length) : ((⟨l.toArray⟩ : ByteArray).extract x.1 x.2).data.toList = piece l x := by
  rw [Lib.extract_data]
  unfold piece
  simp [List.drop_take]

theorem spans_words (l : Str) : ∀ (f pos : Nat) (st : Option Nat) (acc : List (Nat × Nat)), l.length ≤ pos + f → pos ≤ l.length → (∀ a, st = some a → a < pos) → (∀ x ∈ acc, x.1 ≤ x.2 ∧ x.2 ≤ l.length) →
    (∀ x ∈ Lib.closeSpans ⟨l.toArray⟩ (Lib.spansFromP sepR ⟨l.toArray⟩ f pos st acc), x.1 ≤ x.2 ∧ x.2 ≤ l.length) ∧
    (Lib.closeSpans ⟨l.toArray⟩ (Lib.spansFromP sepR ⟨l.toArray⟩ f pos st acc)).map (piece l) = acc.map (piece l) ++ words0 (curOf l pos st) (l.drop pos) := by
  have fin : ∀ (pos : Nat) (st : Option Nat) (acc : List (Nat × Nat)), pos = l.length → (∀ a, st = some a → a < pos) → (∀ x ∈ acc, x.1 ≤ x.2 ∧ x.2 ≤ l.length) →
      (∀ x ∈ Lib.closeSpans ⟨l.toArray⟩ (acc, st), x.1 ≤ x.2 ∧ x.2 ≤ l.length) ∧ (Lib.closeSpans ⟨l.toArray⟩ (acc, st)).map (piece l) = acc.map (piece l) ++ words0 (curOf l pos st) (l.drop pos) := by
    intro pos st acc hp hst hacc
    subst hp
    rw [List.drop_eq_nil_of_le (Nat.le_refl _)]
    cases st with
    | none =>
      refine ⟨hacc, ?_⟩
      show acc.map (piece l) = acc.map (piece l) ++ []
      rw [List.append_nil]
    | some a =>
      have ha := hst a rfl
      unfold Lib.closeSpans
      simp only [ba_sz]
      refine ⟨fun x hx => ?_, ?_⟩
      · rcases List.mem_append.1 hx with hx | hx
        · exact hacc x hx
        · rw [List.mem_singleton.1 hx]; exact ⟨by simp only; omega, Nat.le_refl _⟩
      · rw [List.map_append]
        congr 1
        show [piece l (a, l.length)] = if (piece l (a, l.length)).isEmpty then [] else [piece l (a, l.length)]
        have : (piece l (a, l.length)).isEmpty = false := by
          cases hc : piece l (a, l.length) with
          | nil =>
            have := congrArg List.length hc
            unfold piece at this
            simp at this; omega
          | cons _ _ => rfl
        rw [this]; rfl
  intro f
  induction f with
  | zero =>
    intro pos st acc hf hp hst hacc
    exact fin pos st acc (by omega) hst hacc
  | succ f ih =>
    intro pos st acc hf hp hst hacc
    unfold Lib.spansFromP
    rw [ba_sz]
    by_cases hlt : pos < l.length
    case neg => rw [if_neg hlt]; exact fin pos st acc (by omega) hst hacc
    rw [if_pos hlt]
    have hd : l.drop pos = l.getD pos 0 :: l.drop (pos + 1) := by
      rw [List.drop_eq_getElem_cons hlt, List.getD_eq_getElem?_getD, List.getElem?_eq_getElem hlt]; rfl
    by_cases hb : (l.getD pos 0).toNat < 128
    · have hdec : Utf8.decode ⟨l.toArray⟩ pos = ((l.getD pos 0).toNat, 1) := rune_ascii hlt hb
      rw [hdec, sep_low hb, hd, words0_cons]
      cases hs : isSep (l.getD pos 0) with
      | true =>
        rw [if_pos rfl, if_pos rfl]
        cases st with
        | none =>
          have := ih (pos + 1) none acc (by omega) (by omega) (fun a h => by cases h) hacc
          exact this
        | some a =>
          have ha := hst a rfl
          have := ih (pos + 1) none (acc ++ [(a, pos)]) (by omega) (by omega) (fun a h => by cases h) (fun x hx => by
            rcases List.mem_append.1 hx with hx | hx
            · exact hacc x hx
            · rw [List.mem_singleton.1 hx]; exact ⟨by simp only; omega, by simp only; omega⟩)
          refine ⟨this.1, this.2.trans ?_⟩
          rw [List.map_append, List.append_assoc]
          congr 1
          have hne : (curOf l pos (some a)).isEmpty = false := by
            show (piece l (a, pos)).isEmpty = false
            cases hc : piece l (a, pos) with
            | nil =>
              have := congrArg List.length hc
              unfold piece at this
              simp at this; omega
            | cons _ _ => rfl
          rw [hne]; rfl
      | false =>
        rw [if_neg (by decide), if_neg (by decide)]
        have grow : ∀ a, a ≤ pos → piece l (a, pos + 1) = piece l (a, pos) ++ [l.getD pos 0] := fun a ha => take_one ha hlt rfl
        cases st with
        | none =>
          have := ih (pos + 1) (some pos) acc (by omega) (by omega) (fun a h => by cases h; omega) hacc
          refine ⟨this.1, this.2.trans ?_⟩
          show _ ++ words0 (piece l (pos, pos + 1)) _ = _
          rw [grow pos (Nat.le_refl _)]
          have : piece l (pos, pos) = [] := by unfold piece; simp
          rw [this]; rfl
        | some a =>
          have ha := hst a rfl
          have := ih (pos + 1) (some a) acc (by omega) (by omega) (fun a' h => by cases h; omega) hacc
          refine ⟨this.1, this.2.trans ?_⟩
          show _ ++ words0 (piece l (a, pos + 1)) _ = _
          rw [grow a (by omega)]; rfl
    · obtain ⟨d1, d2, d3, d4⟩ := decode_hi l pos hlt (by omega)
      generalize Utf8.decode ⟨l.toArray⟩ pos = rw_ at d1 d2 d3 d4 ⊢
      obtain ⟨r, wd⟩ := rw_
      simp only at d1 d2 d3 d4 ⊢
      rw [sep_high d1, if_neg (by decide)]
      have hsplit : l.drop pos = piece l (pos, pos + wd) ++ l.drop (pos + wd) := by
        unfold piece
        simp only [Nat.add_sub_cancel_left]
        rw [← List.drop_drop, List.take_append_drop]
      have hhigh : ∀ b ∈ piece l (pos, pos + wd), 128 ≤ b.toNat := by
        intro b hb
        obtain ⟨k, hk⟩ := List.mem_iff_getElem?.1 hb
        unfold piece at hk
        simp only [Nat.add_sub_cancel_left] at hk
        have hkw : k < wd := by
          rcases Nat.lt_or_ge k wd with h1 | h1
          · exact h1
          · rw [List.getElem?_eq_none (by simp; omega)] at hk; cases hk
        rw [List.getElem?_take_of_lt hkw, List.getElem?_drop] at hk
        have := d4 k hkw
        rw [List.getD_eq_getElem?_getD, hk] at this
        exact this
      have join : ∀ a, a ≤ pos → piece l (a, pos + wd) = piece l (a, pos) ++ piece l (pos, pos + wd) := by
        intro a ha
        unfold piece
        simp only
        rw [show pos + wd - a = (pos - a) + wd by omega, List.take_add, List.drop_drop, show a + (pos - a) = pos by omega, Nat.add_sub_cancel_left]
      rw [hsplit, words0_high _ _ _ hhigh]
      cases st with
      | none =>
        have := ih (pos + wd) (some pos) acc (by omega) (by omega) (fun a h => by cases h; omega) hacc
        exact this
      | some a =>
        have ha := hst a rfl
        have := ih (pos + wd) (some a) acc (by omega) (by omega) (fun a' h => by cases h; omega) hacc
        refine ⟨this.1, this.2.trans ?_⟩
        show _ ++ words0 (piece l (a, pos + wd)) _ = _
        rw [join a (by omega)]; rfl

theorem fields_words (l : Str) : (Lib.goFieldsP sepR ⟨l.toArray⟩).map (·.data.toList) = words0 [] l := by
  have := spans_words l l.length 0 none [] (by omega) (by omega) (fun a h => by cases h) (fun x hx => by cases hx)
  unfold Lib.goFieldsP Lib.spansOfP
  rw [ba_sz, List.map_map]
  have e2 := this.2
  rw [List.map_nil, List.nil_append, List.drop_zero] at e2
  rw [show words0 [] l = words0 (curOf l 0 none) l from rfl, ← e2]
  exact List.map_congr_left (fun x hx => extract_piece l x (this.1 x hx).1 (this.1 x hx).2)

theorem line_words (s : Str) : (Lib.goFieldsP sepR ⟨((Lib.cut s [35]).1).toArray⟩).map (·.data.toList) = wordsGo [] s := by
  rw [fields_words, cut_hash, ← wordsGo_cut]

end Go.Asm

set_option linter.unusedSimpArgs false
set_option linter.unusedVariables false
set_option maxRecDepth 100000
namespace Go.Asm
open Go.Lift Go.Fn Go.Insn

theorem place_snoc (m : Str) : ∀ (l : List Ln) (x : Ln), place m (l ++ [x]) = match place m l with | some p => some p | none => if x.mark = m then some (total l) else none
  | [], x => by
    show (if x.mark = m then some 0 else (none : Option Nat).map _) = (if x.mark = m then some (total []) else none)
    split <;> rfl
  | y :: l, x => by
    rw [List.cons_append, place_cons, place_cons, place_snoc m l x, total_cons]
    by_cases h : y.mark = m
    · rw [if_pos h, if_pos h]
    · rw [if_neg h, if_neg h]
      cases place m l with
      | some p => rfl
      | none =>
        simp only [Option.map_none]
        by_cases hx : x.mark = m
        · rw [if_pos hx, if_pos hx, Option.map_some, Nat.add_comm]
        · rw [if_neg hx, if_neg hx]; rfl

theorem place_some {m : Str} : ∀ {l : List Ln}, (place m l).isSome = decide (m ∈ l.map (·.mark))
  | [] => rfl
  | x :: l => by
    rw [place_cons, List.map_cons]
    by_cases h : x.mark = m
    · rw [if_pos h, decide_eq_true (List.mem_cons.2 (.inl h.symm))]; rfl
    · rw [if_neg h, Option.isSome_map, place_some (l := l), decide_eq_decide]
      constructor
      · exact fun hm => List.mem_cons_of_mem _ hm
      · intro hm
        rcases List.mem_cons.1 hm with hm | hm
        · exact absurd hm.symm h
        · exact hm

theorem total_snoc (l : List Ln) (x : Ln) : total (l ++ [x]) = total l + x.body.words := by simp [total]

/-- The marks' map. -/
def markV (l : List Ln) (m : Str) : Option V := if m = [] then none else match place m l with | some p => some (.int .i64 (p : Int)) | none => none
def MarksOk (es : List (V × V)) (l : List Ln) : Prop := ∀ m : Str, mfind (.str m) es = markV l m

theorem marks_none {es : List (V × V)} {l : List Ln} (h : MarksOk es l) {x : Ln} (hx : x.mark = []) : MarksOk es (l ++ [x]) := by
  intro m
  rw [h m]
  unfold markV
  by_cases hm : m = []
  · rw [if_pos hm, if_pos hm]
  · rw [if_neg hm, if_neg hm, place_snoc]
    have hne : ¬ x.mark = m := fun e => hm (by rw [← e, hx])
    cases place m l with
    | some p => rfl
    | none => simp only [if_neg hne]

theorem marks_put {es : List (V × V)} {l : List Ln} (h : MarksOk es l) {x : Ln} (hx : x.mark ≠ []) (hn : x.mark ∉ l.map (·.mark)) : MarksOk (mput (.str x.mark) (.int .i64 (total l : Nat)) es) (l ++ [x]) := by
  intro m
  rw [mfind_mput, h m]
  unfold markV
  by_cases hm : m = []
  · rw [if_pos hm, if_pos hm, if_neg (fun e => hx (by rw [← e, hm]))]
  · rw [if_neg hm, if_neg hm, place_snoc]
    by_cases e : m = x.mark
    · rw [if_pos e]
      have hp : place m l = none := by
        have := place_some (m := m) (l := l)
        rw [decide_eq_false (by rw [e]; exact hn)] at this
        cases hq : place m l with
        | none => rfl
        | some p => rw [hq] at this; cases this
      rw [hp]
      simp only [if_pos e.symm]
    · rw [if_neg e]
      have hne : ¬ x.mark = m := fun hh => e hh.symm
      cases place m l with
      | some p => rfl
      | none => simp only [if_neg hne]

def bodies (ds : List (Ln × Nat)) : List (Body × Nat) := ds.map fun p => (p.1.body, p.2)
def lnsOf (ds : List (Ln × Nat)) : List Ln := ds.map (·.1)

theorem itemsOf_le : ∀ (l : List (Body × Nat)) (n : Nat), (itemsOf n l).length ≤ 5 * l.length
  | [], _ => by simp [itemsOf]
  | (x, b) :: l, n => by
    have := itemsOf_le l (n + 1)
    unfold itemsOf
    rw [List.length_append, List.length_cons]
    have : (ITM n b x).length ≤ 5 := by cases x <;> simp [ITM]
    omega

section
variable {h : Heap}

theorem last_take {w : Str} {c : UInt8} (hw : w ≠ []) : ((w.drop (w.length - 1)).take (w.length - (w.length - 1)) == [c]) = (w.getLast? == some c) := by
  have hp := List.length_pos_iff.2 hw
  rw [last_is hw, List.drop_eq_getElem_cons (by omega), List.drop_eq_nil_of_le (by omega), List.take_of_length_le (by simp; omega), List.getD_eq_getElem?_getD, List.getElem?_eq_getElem (by omega)]
  show ([_] == [c]) = (some _ == some c)
  simp only [Option.getD_some]
  generalize w[w.length - 1]'(by omega) = b
  by_cases hb : b = c
  · rw [hb]; simp
  · rw [beq_false_of_ne (fun e => hb (by injection e)), beq_false_of_ne (fun e => hb (Option.some.inj e))]

theorem HasSuffix1 {w : Str} {c : UInt8} (hl : w.length ≤ 1000000) {Q : Bool → Heap → Prop} (hq : Q (w.getLast? == some c) h) : zf24 w [c] Q h := by
  unfold zf24
  by_cases hw : w = []
  · subst hw
    exact br_f (decide_eq_false (by simp)) hq
  · have hp := List.length_pos_iff.2 hw
    have ew : IntKind.i64.wrap ((w.length : Int) - (([c] : Str).length : Int)) = ((w.length - 1 : Nat) : Int) := by
      simp only [List.length_cons, List.length_nil]
      rw [wrap64] <;> omega
    rw [ew]
    refine br_t (decide_eq_true (by simp only [List.length_cons, List.length_nil]; omega)) (sb_of (by omega) (by omega) ?_)
    rw [Int.toNat_natCast, last_take hw]
    exact hq

theorem TrimSuffix1 {w : Str} {c : UInt8} (hl : w.length ≤ 1000000) (hw : w.getLast? = some c) {Q : Str → Heap → Prop} (hq : Q w.dropLast h) : zf71 w [c] Q h := by
  unfold zf71 zf26
  refine HasSuffix1 hl ?_
  rw [hw]
  have hne : w ≠ [] := by intro e; rw [e] at hw; cases hw
  have hp := List.length_pos_iff.2 hne
  have ew : IntKind.i64.wrap ((w.length : Int) - (([c] : Str).length : Int)) = ((w.length - 1 : Nat) : Int) := by
    simp only [List.length_cons, List.length_nil]
    rw [wrap64] <;> omega
  rw [ew]
  refine br_t (beq_self_eq_true _) (sb_of (by omega) (by omega) ?_)
  rw [Int.toNat_natCast, List.drop_zero, Nat.sub_zero, ← List.dropLast_eq_take]
  exact hq

end


/-- What is known of the library's variables, for the assembler. -/
structure AsU (U : Ifc) (h : Heap) : Prop where
  asc : ∀ c : Nat, c < 256 → h.get (U.glob 4) c = some (.int .u8 (if Lib.isSp (UInt8.ofNat c) then 1 else 0))
  one : oneTab U 5

theorem AsU.keep {U : Ifc} {h g : Heap} (a : AsU U h) (k : Keeps none_ h g) : AsU U g := by
  refine ⟨fun c hc => ?_, a.one⟩
  have hg := a.asc c hc
  have hn : h.obj (U.glob 4) ≠ none := by intro hn; unfold Heap.get at hg; rw [hn] at hg; cases hg
  rw [Heap.get_obj (k.same _ hn (fun f => f))]; exact hg

/-- What a parse comes to. -/
def parseR (h : Heap) (Q : Option Ptr → V → Heap → Prop) (l : List Ln) : Prop :=
  if total l > 16384 then ∀ g, Keeps none_ h g → Q none (.iface 5 (.int .i64 3)) g else
      ∀ pb mb it rowL es bs c ds g, lnsOf ds = l → ARow 5 it rowL (itemsOf 0 (bodies ds)) → MarksOk es l → St h none_ ((pb, .cells [.sl it, .map (some mb), .int .i64 ((total l) : Nat)] false) :: (mb, .map .str es bs c) :: (rowL ++ insOf (bodies ds))) g → Q (some ⟨pb, 0⟩) .nilif g

def parseQ (h : Heap) (Q : Option Ptr → V → Heap → Prop) : Nat ⊕ List Ln → Prop
  | .inl n => ∀ g, Keeps none_ h g → Q none (.iface 6 (.agg [.int .i64 (n : Int)])) g
  | .inr l => parseR h Q l

section
variable {U : Ifc} {h g : Heap}

theorem parse_j15 (au : AsU U h) {pb mb fb : Nat} {M FO : HO} {X : List (Nat × HO)} {ds : List (Ln × Nat)} {it : Sl} {rowL : List (Nat × HO)} (hds : ds.length ≤ 100000) (r : ARow 5 it rowL (itemsOf 0 (bodies ds))) (hw : total (lnsOf ds) ≤ 1000000000) {ws : List Str} {sl lsl : Sl} {ll : Int}
    (S : St h none_ ((fb, FO) :: (pb, .cells [.sl it, .map (some mb), .int .i64 ((total (lnsOf ds)) : Nat)] false) :: (mb, M) :: (rowL ++ (X ++ insOf (bodies ds)))) g) (hW : ∀ g', g'.obj fb = some FO → Words g' sl ws) (hws : ∀ w' ∈ ws, w'.length ≤ 1000000) {Q : Option Ptr → V → Heap → Prop} {I : Ptr → Sl → Int → Int → Heap → Prop}
    (hbad : readB ws = none → ∀ g', Keeps none_ h g' → Q none (.iface 6 (.agg [.int .i64 (ds.length : Int)])) g')
    (hgood : ∀ b, readB ws = some b → ∀ it' rowL' g' k, ARow 5 it' rowL' (itemsOf 0 (bodies ds ++ [(b, k)])) → St h none_ ((pb, .cells [.sl it', .map (some mb), .int .i64 ((total (lnsOf ds) + b.words) : Nat)] false) :: (mb, M) :: (rowL' ++ (X ++ insOf (bodies ds ++ [(b, k)])))) g' → I ⟨pb, 0⟩ lsl ll ((ds.length + 1 : Nat) : Int) g') :
    zf9.j15 U I ⟨pb, 0⟩ (ds.length : Int) sl lsl ll (ds.length : Int) Q g := by
  unfold zf9.j15
  have hil : it.len ≤ 1000000 := by
    have h1 := r.len
    have h2 := itemsOf_le (bodies ds) 0
    have h3 : (bodies ds).length = ds.length := by simp [bodies]
    omega
  refine read_of au.asc (n := ds.length) (by simp [bodies]) r hil hw S hW hws ?_
  cases hb : readB ws with
  | none =>
    intro g' k'
    refine isNil_i ?_
    refine br_t rfl ?_
    exact chk_of rfl (hbad hb g' k')
  | some b =>
    intro it' rowL' g' k r' S'
    refine isNil_n ?_
    refine br_f rfl ?_
    rw [wrap64 (x := (ds.length : Int) + 1) (by omega) (by omega)]
    exact hgood b hb it' rowL' g' k r' S'.tail

theorem mark_dec (m : Str) (l : List Ln) (hm : m ≠ []) : (markV l m).isSome = decide (m ∈ l.map (·.mark)) := by
  unfold markV
  rw [if_neg hm, ← place_some]
  cases place m l <;> rfl

theorem parse_of (au : AsU U h) {s : Str} (hs : s.length ≤ 65536) {Q : Option Ptr → V → Heap → Prop} (hq : parseQ h Q (linesGo 0 [] (split s))) : zf9 U s Q h := by
  unfold zf9
  refine (St.start h none_).alM (fun mb g1 S1 => S1.al (fun pb g2 S2 => ?_))
  unfold zf68
  refine ⟨by omega, by decide, au.one, fun lb hlb => ?_⟩
  rw [splitL_split]
  have S3 := S2.more hlb (h' := g2.new lb (.cells ((split s).map V.str) false)) Heap.new_obj (Keeps.new hlb _)
  have hcount := split_count s
  have hlens := split_len s
  generalize split s = ls at S3 hq hcount hlens ⊢
  unfold zf9.j4
  intro I H
  have main : ∀ (ss : List Str) (ds : List (Ln × Nat)) (it : Sl) (rowL : List (Nat × HO)) (es : List (V × V)) (bs : List Nat) (c : Nat) (g : Heap), ls.drop ds.length = ss → ds.length ≤ ls.length → ARow 5 it rowL (itemsOf 0 (bodies ds)) → MarksOk es (lnsOf ds) → (∀ x ∈ lnsOf ds, BodyOk x.body) →
      St h none_ ((pb, .cells [.sl it, .map (some mb), .int .i64 ((total (lnsOf ds)) : Nat)] false) :: (mb, .map .str es bs c) :: (rowL ++ ([(lb, .cells (ls.map V.str) false)] ++ insOf (bodies ds)))) g → parseQ h Q (linesGo ds.length (lnsOf ds) ss) → I ⟨pb, 0⟩ ⟨some ⟨lb, 0⟩, ls.length, ls.length⟩ ((ls.length : Nat) : Int) (ds.length : Int) g := by
    intro ss
    induction ss with
    | nil =>
      intro ds it rowL es bs c g hd hdl r hm hok S hq
      have hge : ls.length ≤ ds.length := by
        have := congrArg List.length hd
        rw [List.length_drop] at this; simp at this; omega
      refine H _ _ _ _ _ ?_
      unfold zf9.b4
      refine br_f (decide_eq_false (by omega)) (S.rI i0 rfl ?_)
      have hq : parseR h Q (lnsOf ds) := hq
      unfold parseR at hq
      by_cases ht : total (lnsOf ds) > 16384
      · rw [if_pos ht] at hq
        exact br_t (decide_eq_true (by omega)) (hq g S.keeps)
      · rw [if_neg ht] at hq
        refine br_f (decide_eq_false (by omega)) (hq pb mb it rowL es bs c ds g rfl r hm (S.sub ?_))
        exact ((List.Sublist.refl rowL).append (List.sublist_append_right _ _)).cons_cons _ |>.cons_cons _
    | cons t ss ih =>
      intro ds it rowL es bs c g hd hdl r hm hok S hq
      have hlt : ds.length < ls.length := by
        rcases Nat.lt_or_ge ds.length ls.length with h1 | h1
        · exact h1
        · rw [List.drop_eq_nil_of_le h1] at hd; cases hd
      have hd2 := hd
      rw [List.drop_eq_getElem_cons hlt] at hd2
      injection hd2 with ht hss
      have hti : ls[ds.length]? = some t := by rw [List.getElem?_eq_getElem hlt, ht]
      have htl := hlens t (List.mem_of_getElem? hti)
      have htot : total (lnsOf ds) ≤ 1000000000 := by
        have := total_le hok
        have : (lnsOf ds).length = ds.length := by simp [lnsOf]
        omega
      refine H _ _ _ _ _ ?_
      unfold zf9.b4
      refine br_t (decide_eq_true (by omega)) (ix_of (by omega) (by show (ds.length : Int) < (ls.length : Int); omega) ?_)
      rw [der_some, Int.toNat_natCast]
      have hlo : g.obj lb = some (.cells (ls.map V.str) false) := S.objs lb _ (by simp)
      have hgl : g.get lb (0 + ds.length * 1) = some (.str t) := by
        rw [get_cells hlo, Nat.zero_add, Nat.mul_one, List.getElem?_map, hti]; rfl
      refine rdStr_of hgl ?_
      unfold zf60
      refine ⟨by omega, au.one, ?_⟩
      unfold zf63
      have hcl : (Lib.cut t [35]).1.length ≤ t.length := by rw [cut_hash]; exact (List.takeWhile_sublist _).length_le
      refine ⟨by omega, rfl, fun fb hfb => ?_⟩
      have hws := line_words t
      have hflen : (Lib.goFieldsP sepR ⟨((Lib.cut t [35]).1).toArray⟩).length = (wordsGo [] t).length := by rw [← hws, List.length_map]
      rw [hws, hflen]
      have S4 := S.more hfb (h' := g.new fb (.cells ((wordsGo [] t).map V.str) false)) Heap.new_obj (Keeps.new hfb _)
      generalize g.new fb (.cells ((wordsGo [] t).map V.str) false) = g4 at S4 ⊢
      have hwl : ∀ w ∈ wordsGo [] t, w.length ≤ 1000000 := fun w hw => by have := words_len t [] w hw; simp at this; omega
      have hwn := words_ne t []
      rw [linesGo_cons] at hq
      have hro : ∀ x, readL t = some x → BodyOk x.body := fun x hx => readL_ok hx
      unfold readL at hq hro
      generalize wordsGo [] t = ws at S4 hwl hwn hq hro ⊢
      have hW : ∀ g', g'.obj fb = some (.cells (ws.map V.str) false) → Words g' ⟨some ⟨fb, 0⟩, ws.length, ws.length⟩ ws := fun g' ho => ⟨⟨by simp, fun p hp i v hv => by cases hp; rw [get_cells ho, Nat.zero_add]; exact hv, fun hp => by cases hp⟩, Nat.le_refl _⟩
      have W := hW g4 (S4.obj i0)
      -- the next line
      have step : ∀ (x : Ln) (k : Nat) (it' : Sl) (rowL' : List (Nat × HO)) (es' : List (V × V)) (bs' : List Nat) (c' : Nat) (g' : Heap), readW ws = some x → ¬ (x.mark ≠ [] ∧ x.mark ∈ (lnsOf ds).map (·.mark)) → MarksOk es' (lnsOf ds ++ [x]) → ARow 5 it' rowL' (itemsOf 0 (bodies ds ++ [(x.body, k)])) →
          St h none_ ((pb, .cells [.sl it', .map (some mb), .int .i64 ((total (lnsOf ds) + x.body.words) : Nat)] false) :: (mb, .map .str es' bs' c') :: (rowL' ++ ([(lb, .cells (ls.map V.str) false)] ++ insOf (bodies ds ++ [(x.body, k)])))) g' → I ⟨pb, 0⟩ ⟨some ⟨lb, 0⟩, ls.length, ls.length⟩ ((ls.length : Nat) : Int) ((ds.length + 1 : Nat) : Int) g' := by
        intro x k it' rowL' es' bs' c' g' hx hn hm' r' S'
        rw [hx] at hq
        simp only [if_neg hn] at hq
        have eb : bodies (ds ++ [(x, k)]) = bodies ds ++ [(x.body, k)] := by simp [bodies]
        have el : lnsOf (ds ++ [(x, k)]) = lnsOf ds ++ [x] := by simp [lnsOf]
        have en : (ds ++ [(x, k)]).length = ds.length + 1 := by simp
        have := ih (ds ++ [(x, k)]) it' rowL' es' bs' c' g' (by rw [en]; exact hss) (by rw [en]; omega) (by rw [eb]; exact r') (by rw [el]; exact hm') (fun y hy => by
          rw [el] at hy
          rcases List.mem_append.1 hy with hy | hy
          · exact hok y hy
          · rw [List.mem_singleton.1 hy]; exact hro _ hx) (by rw [eb, el, total_snoc]; exact S') (by rw [en, el]; exact hq)
        rw [en] at this
        exact this
      have bad : readW ws = none → ∀ g', Keeps none_ h g' → Q none (.iface 6 (.agg [.int .i64 (ds.length : Int)])) g' := by
        intro hx
        rw [hx] at hq
        exact hq
      have dup : ∀ x, readW ws = some x → x.mark ≠ [] → x.mark ∈ (lnsOf ds).map (·.mark) → ∀ g', Keeps none_ h g' → Q none (.iface 6 (.agg [.int .i64 (ds.length : Int)])) g' := by
        intro x hx h1 h2
        rw [hx] at hq
        simp only [if_pos (And.intro h1 h2)] at hq
        exact hq
      clear hq
      have plain : (ws = [] ∨ ∃ w ws', ws = w :: ws' ∧ w.getLast? ≠ some 58) → readW ws = withMark [] (readB ws) := by
        rintro (e | ⟨w, ws', e, hl⟩)
        · subst e; rfl
        · subst e
          show (if w.getLast? = some 58 then _ else withMark [] (readB (w :: ws'))) = _
          rw [if_neg hl]
      have go15 : (ws = [] ∨ ∃ w ws', ws = w :: ws' ∧ w.getLast? ≠ some 58) → zf9.j15 U I ⟨pb, 0⟩ (ds.length : Int) ⟨some ⟨fb, 0⟩, ws.length, ws.length⟩ ⟨some ⟨lb, 0⟩, ls.length, ls.length⟩ ((ls.length : Nat) : Int) (ds.length : Int) Q g4 := by
        intro hp
        have hp := plain hp
        refine parse_j15 au (by omega) r htot S4 hW hwl (fun hb => bad (by rw [hp, hb]; rfl)) (fun b hb it' rowL' g' k r' S' => ?_)
        exact step ⟨[], b⟩ k it' rowL' es bs c g' (by rw [hp, hb]; rfl) (fun hh => hh.1 rfl) (marks_none hm rfl) r' S'
      cases ws with
      | nil => exact br_f rfl (go15 (.inl rfl))
      | cons w ws' =>
        have hwl0 := hwl w List.mem_cons_self
        refine br_t (decide_eq_true (by simp only [List.length_cons]; omega)) (W.ixrd (i := 0) rfl rfl ?_)
        unfold zf64
        refine HasSuffix1 hwl0 ?_
        by_cases hc : w.getLast? = some 58
        case neg => exact br_f (beq_false_of_ne hc) (go15 (.inr ⟨w, ws', rfl, hc⟩))
        refine br_t (by rw [hc]; rfl) ?_
        unfold zf9.j9 zf9.j12
        have hrw : readW (w :: ws') = if nameOk w.dropLast then withMark w.dropLast (readB ws') else none := by
          show (if w.getLast? = some 58 then _ else _) = _
          rw [if_pos hc]
        refine W.ixrd (i := 0) rfl rfl (TrimSuffix1 hwl0 hc (S4.rM (i := 1) rfl rfl (S4.mapGet (i := 2) rfl ?_)))
        rw [hm w.dropLast]
        have hmk : ∀ {κ : Int → Prop}, (∀ z, κ z) → asI .i64 ((markV (lnsOf ds) w.dropLast).getD (.int .i64 0)) κ := by
          intro κ hk
          unfold markV
          split
          · exact asI_of (hk 0)
          · split
            · exact asI_of (hk _)
            · exact asI_of (hk 0)
        refine hmk (fun z => ?_)
        have hdl : w.dropLast.length ≤ 1000000 := by simp; omega
        by_cases hne : w.dropLast = []
        · -- a mark without a name
          have e1 : markV (lnsOf ds) w.dropLast = none := by unfold markV; rw [if_pos hne]
          rw [e1]
          refine br_f rfl (isName_of hdl ?_)
          have e2 : nameOk w.dropLast = false := by rw [hne]; rfl
          rw [e2]
          exact br_t rfl (bad (by rw [hrw, e2]; rfl) g4 S4.keeps)
        rw [mark_dec _ _ hne]
        by_cases hin : w.dropLast ∈ (lnsOf ds).map (·.mark)
        · refine br_t (decide_eq_true hin) ?_
          -- twice, or none
          cases hrd : readW (w :: ws') with
          | none => exact bad hrd g4 S4.keeps
          | some x =>
            have hxm : x.mark = w.dropLast := by
              rw [hrw] at hrd
              split at hrd
              · cases hb : readB ws' with
                | none => rw [hb] at hrd; cases hrd
                | some b => rw [hb] at hrd; cases hrd; rfl
              · cases hrd
            exact dup x hrd (by rw [hxm]; exact hne) (by rw [hxm]; exact hin) g4 S4.keeps
        · refine br_f (decide_eq_false hin) (isName_of hdl ?_)
          cases hn : nameOk w.dropLast with
          | false => exact br_t rfl (bad (by rw [hrw, hn]; rfl) g4 S4.keeps)
          | true =>
            rw [hn, if_pos rfl] at hrw
            refine br_f rfl (S4.rM (i := 1) rfl rfl (S4.rI (i := 1) rfl rfl (S4.mapPut (i := 2) rfl (fun g5 S5 => ?_))))
            obtain ⟨bs', c', e⟩ := putO_map (ks := .str) (es := es) (bs := bs) (c := c) (k := .str w.dropLast) (v := .int .i64 ((total (lnsOf ds) : Nat) : Int))
            rw [e] at S5
            have S5 : St h none_ ((fb, .cells ((w :: ws').map V.str) false) :: (pb, .cells [.sl it, .map (some mb), .int .i64 ((total (lnsOf ds)) : Nat)] false) :: (mb, .map .str (mput (.str w.dropLast) (.int .i64 ((total (lnsOf ds) : Nat) : Int)) es) bs' c') :: (rowL ++ ([(lb, .cells (ls.map V.str) false)] ++ insOf (bodies ds)))) g5 := S5
            unfold zf9.j14
            refine sb_of (by omega) (by simp only [List.length_cons]; omega) ?_
            refine parse_j15 au (by omega) r htot S5 (ws := ws') (fun g' ho => (hW g' ho).tail) (fun w' h' => hwl w' (List.mem_cons_of_mem _ h')) (fun hb => bad (by rw [hrw, hb]; rfl)) (fun b hb it' rowL' g' k r' S' => ?_)
            exact step ⟨w.dropLast, b⟩ k it' rowL' _ bs' c' g' (by rw [hrw, hb]; rfl) (fun hh => hin hh.2) (marks_put hm hne hin) r' S'
  refine main ls [] ⟨none, 0, 0⟩ [] [] [] 0 _ rfl (by simp) (.inl ⟨rfl, rfl, rfl⟩) (fun m => ?_) (fun x hx => by cases hx) ?_ hq
  · unfold markV; split <;> rfl
  · exact S3.perm (by
      show [_, _, _].Perm [_, _, _]
      exact (List.Perm.trans (List.Perm.swap _ _ _) (List.Perm.cons _ (List.Perm.swap _ _ _))).symm)

end
end Go.Asm

set_option linter.unusedSimpArgs false
set_option linter.unusedVariables false
set_option maxRecDepth 100000
namespace Go.Asm
open Go.Lift Go.Fn Go.Insn

section
variable {h0 g : Heap} {sl : Sl} {sz bytes m : Nat} {vs new z : List V} {T : Nat → Prop}

theorem _root_.Go.Lift.Row.appm {κ : Sl → Heap → Prop} (R : Row h0 g sl sz vs) (k : Keeps T h0 g) (hnew : new.length = m * sz) (hz : z.length = sz) (hb : (sl.len + m) * bytes ≤ 140737488355328) (hm : sl.len + m ≤ 9223372036854775807)
    (hk : ∀ sl' g', Row h0 g' sl' sz (vs ++ new) → sl'.len = sl.len + m → Keeps (fun z => h0.obj z = none) g g' → κ sl' g') : appS sz bytes z sl new m κ g := by
  have fresh : ∀ b', g.obj b' = none → h0.obj b' = none := fun b' hb => by
    cases hh : h0.obj b' with
    | none => rfl
    | some y => exact absurd hb (k.known b' (by rw [hh]; simp))
  rcases R with ⟨rfl, rfl⟩ | ⟨b, O, hb0⟩
  · by_cases h0m : m = 0
    · subst h0m
      have hn : new = [] := List.length_eq_zero_iff.1 (by rw [hnew, Nat.zero_mul])
      subst hn
      unfold appS
      rw [if_pos (by decide)]
      exact ⟨rfl, hk ⟨none, 0, 0⟩ g (.inl ⟨rfl, rfl⟩) rfl (Keeps.refl _ _)⟩
    · refine appS_nil hnew (by omega) hz (by simpa using hb) (by simpa using hm) (fun s' h' b' O' hl hbn k' => ?_)
      exact hk s' h' (.inr ⟨b', O', fresh b' hbn⟩) (by simpa using hl) (k'.mono (fun _ f => f.elim))
  · refine appS_own O hnew hz hb hm (fun s' h' b' O' hl hbb k' => ?_)
    refine hk s' h' (.inr ⟨b', O', ?_⟩) hl (k'.mono (fun z e => by rw [e]; exact hb0))
    rcases hbb with rfl | hbn
    · exact hb0
    · exact fresh b' hbn

end

section
variable {g : Heap}

theorem Mul_one {n : Nat} (hn : n ≤ 100000) {Q : Int → Int → Heap → Prop} (hq : Q 0 (n : Int) g) : zf27 (IntKind.u64.wrap ((1 : Nat) : Int)) (IntKind.u64.wrap (n : Int)) Q g := by
  rw [wrapu64 (x := (n : Int)) (by omega) (by omega), show IntKind.u64.wrap ((1 : Nat) : Int) = 1 by decide]
  unfold zf27 zf28
  have e1 : ibits .and .u64 (n : Int) 4294967295 = (n : Int) := by
    have := and_mask (a := n) (n := 32) (by omega) (by decide)
    rw [show (((2 ^ 32 - 1 : Nat)) : Int) = 4294967295 by decide, Nat.mod_eq_of_lt (by omega)] at this
    exact this
  have e2 : shrI .u64 (n : Int) 32 = 0 := by
    have := shr64 (w := n) (k := 32) (by decide)
    rw [show ((32 : Nat) : Int) = 32 from rfl, Nat.div_eq_of_lt (by omega)] at this
    exact this
  have e3 : ibits .and .u64 1 4294967295 = 1 := by decide
  have e4 : shrI .u64 1 32 = 0 := by decide
  rw [e1, e2, e3, e4]
  refine nneg_of (by decide) (nneg_of (by decide) (nneg_of (by decide) ?_))
  unfold zf28.j7
  have z0 : IntKind.u64.wrap 0 = 0 := by decide
  have s0 : shrI .u64 0 32 = 0 := by decide
  have i0 : ibits .and .u64 0 4294967295 = 0 := by decide
  have hw : IntKind.u64.wrap (n : Int) = (n : Int) := wrapu64 (by omega) (by omega)
  simp only [Int.zero_mul, z0, s0, i0, Int.one_mul, Int.add_zero, Int.zero_add, Int.mul_zero, hw, e2]
  exact nneg_of (by decide) (nneg_of (by decide) hq)

theorem flatRep_one (x : V) : ∀ n : Nat, flatRep n [x] = List.replicate n x
  | 0 => rfl
  | n + 1 => by
    have ih := flatRep_one x n
    unfold flatRep at ih ⊢
    rw [List.replicate_succ, List.flatten_cons, ih]; rfl

theorem splice_rep {α : Type} {x y : V} {n k j : Nat} (hj : j ≤ n - k) (hk : k ≤ n) : splice (List.replicate k x ++ List.replicate (n - k) y) k (List.replicate j x) = List.replicate (k + j) x ++ List.replicate (n - (k + j)) y := by
  unfold splice
  rw [List.take_left' (by simp), List.length_replicate, List.replicate_append_replicate, List.drop_append, List.drop_eq_nil_of_le (by simp), List.nil_append, List.drop_replicate, List.length_replicate]
  congr 2; omega

theorem Repeat_of {b n : Nat} {v : Int} {mk : Bool} (ho : g.obj b = some (.cells [.int .u32 v] mk)) (hn : n ≤ 100000) {Q : Sl → Heap → Prop}
    (hk : ∀ rb g', g.obj rb = none → g'.obj rb = some (.cells (List.replicate n (.int .u32 v)) false) → Keeps none_ g g' → Q ⟨some ⟨rb, 0⟩, n, n⟩ g') : zf56 ⟨some ⟨b, 0⟩, 1, 1⟩ (n : Int) Q g := by
  unfold zf56
  refine br_f (decide_eq_false (by omega)) (Mul_one hn (br_f (by decide) (br_f (decide_eq_false (by omega)) ?_)))
  rw [wrap64 (x := (n : Int)) (by omega) (by omega)]
  refine ⟨by omega, by omega, by omega, by omega, ?_⟩
  rw [Int.toNat_natCast]
  rw [flatRep_one]
  refine al_of (fun rb g1 hrb hor k1 => ?_)
  have ho1 := k1.obj ho (fun f => f)
  have hne : b ≠ rb := Heap.ne_of ho hrb
  refine rdN_held (vs := [.int .u32 v]) rfl (fun j u hj => by rw [get_cells ho1, Nat.zero_add]; exact hj) ?_
  unfold zf56.j8
  -- the rounds
  have main : ∀ (d k : Nat) (g2 : Heap) (I : Sl → Int → Heap → Prop), (∀ a1 a2 h, zf56.b8 I a1 a2 Q h → I a1 a2 h) → k + d = n → (k = 0 → n = 0) → g2.obj rb = some (.cells (List.replicate k (V.int .u32 v) ++ List.replicate (n - k) (V.int .u32 0)) false) → Keeps none_ g g2 → I ⟨some ⟨rb, 0⟩, n, n⟩ (k : Int) g2 := by
    intro d
    induction d using Nat.strongRecOn with
    | _ d ih =>
      intro k g2 I H hd h0 ho2 k2
      refine H _ _ _ ?_
      unfold zf56.b8
      by_cases hkn : k < n
      · have hk0 : 0 < k := by
          rcases Nat.eq_zero_or_pos k with e | e
          · have := h0 e; omega
          · exact e
        refine br_t (decide_eq_true (by show (k : Int) < (n : Int); omega)) (sb_of (by omega) (by show (k : Int) ≤ (n : Int); omega) (sb_of (by omega) (by show (k : Int) ≤ (n : Int); omega) ?_))
        rw [Int.toNat_natCast, Nat.sub_zero, Nat.sub_zero]
        have hp0 : slp (some (⟨rb, 0⟩ : Ptr)) (0 * 1) 0 n = some ⟨rb, 0⟩ := by unfold slp; split <;> rfl
        have hpk : slp (some (⟨rb, 0⟩ : Ptr)) (k * 1) k n = some ⟨rb, k⟩ := by
          unfold slp; rw [if_neg (by omega)]
          show some (⟨rb, 0 + k * 1⟩ : Ptr) = _
          rw [Nat.zero_add, Nat.mul_one]
        rw [hp0, hpk]
        refine rdN_held (vs := List.replicate k (V.int .u32 v)) (by simp) (fun j u hj => by
          rw [get_cells ho2, Nat.zero_add, List.getElem?_append_left (by
            rcases Nat.lt_or_ge j k with h1 | h1
            · simpa using h1
            · rw [List.getElem?_eq_none (by simpa using h1)] at hj; cases hj)]
          exact hj) ?_
        refine copyS_of (o := k) rfl ho2 (by simp; omega) (fun g3 ho3 k3 => ?_)
        have e : (List.replicate k (V.int .u32 v)).take (min k (n - k) * 1) = List.replicate (min k (n - k)) (V.int .u32 v) := by
          rw [List.take_replicate]; congr 1; omega
        rw [e, splice_rep (α := Nat) (by omega) (by omega)] at ho3
        rw [wrap64 (by omega) (by omega), show (k : Int) + ((min k (n - k) : Nat) : Int) = ((k + min k (n - k) : Nat) : Int) by omega]
        exact ih (n - (k + min k (n - k))) (by omega) (k + min k (n - k)) g3 I H (by omega) (fun e => by omega) ho3 (Keeps.widen' k2 k3 hrb)
      · have : k = n := by omega
        subst this
        rw [Nat.sub_self, List.replicate_zero, List.append_nil] at ho2
        exact br_f (decide_eq_false (by show ¬ (k : Int) < (k : Int); omega)) (hk rb g2 hrb ho2 k2)
  refine copyS_of (o := 0) rfl hor (by simp; omega) (fun g2 ho2 k2 => ?_)
  have kk2 : Keeps none_ g g2 := Keeps.widen' k1 k2 hrb
  intro I H
  have e : min 1 n = 0 ∧ n = 0 ∨ min 1 n = 1 ∧ 1 ≤ n := by omega
  rcases e with ⟨e, hn0⟩ | ⟨e, hn1⟩
  · subst hn0
    exact main 0 0 g2 I H rfl (fun _ => rfl) (by simpa [splice] using ho2) kk2
  · have hm1 : min 1 n * 1 = 1 := by omega
    have ho2 : g2.obj rb = some (.cells (splice (List.replicate 0 (V.int .u32 v) ++ List.replicate (n - 0) (V.int .u32 0)) 0 (List.replicate 1 (V.int .u32 v))) false) := by
      rw [ho2]
      show some (HO.cells (splice (List.replicate n (V.int .u32 0)) 0 (([V.int .u32 v] : List V).take (min 1 n * 1))) false) = _
      rw [hm1]; rfl
    rw [splice_rep (α := Nat) (by omega) (by omega)] at ho2
    have := main (n - 1) 1 g2 I H (by omega) (fun e => by omega) ho2 kk2
    show I ⟨some ⟨rb, 0⟩, n, n⟩ ((min 1 n : Nat) : Int) g2
    rw [e]; exact this

end
end Go.Asm

set_option linter.unusedSimpArgs false
set_option linter.unusedVariables false
set_option maxRecDepth 100000
namespace Go.Asm
open Go.Lift Go.Fn Go.Insn

/-- What an encoding comes to. -/
def encQ (h : Heap) (pb mb : Nat) (P M : HO) (Q : Sl → V → Heap → Prop) : Nat ⊕ List Int → Prop
  | .inl n => ∀ g, Keeps none_ h g → Q ⟨none, 0, 0⟩ (.iface 6 (.agg [.int .i64 (n : Int)])) g
  | .inr out => ∀ g so, Row h g so 1 (out.map (V.int .u32)) → Keeps none_ h g → g.obj pb = some P → g.obj mb = some M → Q so .nilif g

theorem lnsOf_cons (p : Ln × Nat) (l : List (Ln × Nat)) : lnsOf (p :: l) = p.1 :: lnsOf l := rfl

section
variable {h : Heap}

theorem encode_of {pb mb w : Nat} {it : Sl} {rowL : List (Nat × HO)} {es : List (V × V)} {bs : List Nat} {c : Nat} {ds : List (Ln × Nat)} {l : List Ln} {g : Heap} (hl : lnsOf ds = l) (r : ARow 5 it rowL (itemsOf 0 (bodies ds))) (hm : MarksOk es l) (hok : ∀ x ∈ l, BodyOk x.body) (hlen : l.length ≤ 100001) (ht : total l ≤ 16384)
    (S : St h none_ ((pb, .cells [.sl it, .map (some mb), .int .i64 (w : Nat)] false) :: (mb, .map .str es bs c) :: (rowL ++ insOf (bodies ds))) g) {Q : Sl → V → Heap → Prop} (hq : encQ h pb mb (.cells [.sl it, .map (some mb), .int .i64 (w : Nat)] false) (.map .str es bs c) Q (encGo l 0 [] l)) : zf11 (some ⟨pb, 0⟩) Q g := by
  unfold zf11
  refine der_of (S.rSl i0 rfl ?_)
  unfold zf11.j3
  intro I H
  have hvl := r.len
  have hvle := itemsOf_le (bodies ds) 0
  have hbl : (bodies ds).length = l.length := by rw [← hl]; simp [bodies, lnsOf]
  -- back to the call's base
  have SB := S.base
  have back : ∀ {g' : Heap}, Keeps (fun z => ∃ x, (z, x) ∈ (pb, .cells [.sl it, .map (some mb), .int .i64 (w : Nat)] false) :: (mb, HO.map .str es bs c) :: (rowL ++ insOf (bodies ds))) g g' → Keeps none_ h g' := by
    intro g' k
    refine ⟨fun z hz _ => ?_, fun z hz => k.known z (S.keeps.known z hz)⟩
    rw [k.same z (S.keeps.known z hz) ?_]
    · exact S.keeps.same z hz (fun f => f)
    · rintro ⟨x, hx⟩
      rcases S.new z x hx with h1 | h1
      · exact hz h1
      · exact h1
  have rback : ∀ {g' : Heap} {so : Sl} {vs : List V}, Row g g' so 1 vs → Row h g' so 1 vs := by
    intro g' so vs R
    rcases R with R | ⟨b, O, hb⟩
    · exact .inl R
    · refine .inr ⟨b, O, ?_⟩
      cases hh : h.obj b with
      | none => rfl
      | some y => exact absurd hb (S.keeps.known b (by rw [hh]; simp))
  generalize (fun z => ∃ x, (z, x) ∈ (pb, .cells [.sl it, .map (some mb), .int .i64 (w : Nat)] false) :: (mb, HO.map .str es bs c) :: (rowL ++ insOf (bodies ds))) = K at SB back
  have kn0 : ∀ p ∈ rowL ++ ([] ++ insOf (bodies ds)), g.obj p.1 ≠ none := by
    intro p hp
    rw [S.objs p.1 p.2 (List.mem_cons_of_mem _ (List.mem_cons_of_mem _ (by simpa using hp)))]; simp
  have knp : g.obj pb ≠ none := by rw [S.obj i0]; simp
  have knm : g.obj mb ≠ none := by rw [S.obj i1]; simp
  have main : ∀ (rest : List (Ln × Nat)) (n i : Nat) (out : List Int) (so : Sl) (LI : List (Nat × HO)) (g2 : Heap), n + rest.length = l.length → (itemsOf 0 (bodies ds)).drop (i * 5) = itemsOf n (bodies rest) → i * 5 ≤ (itemsOf 0 (bodies ds)).length → (∀ x ∈ lnsOf rest, BodyOk x.body) → out.length + total (lnsOf rest) ≤ 16384 →
      St g K ((pb, .cells [.sl it, .map (some mb), .int .i64 (w : Nat)] false) :: (mb, .map .str es bs c) :: (rowL ++ (LI ++ insOf (bodies rest)))) g2 → (∀ p ∈ rowL ++ (LI ++ insOf (bodies rest)), g.obj p.1 ≠ none) → Row g g2 so 1 (out.map (V.int .u32)) →
      encQ h pb mb (.cells [.sl it, .map (some mb), .int .i64 (w : Nat)] false) (.map .str es bs c) Q (encGo l n out (lnsOf rest)) → I (some ⟨pb, 0⟩) so it ((it.len : Nat) : Int) (i : Int) g2 := by
    intro rest
    induction rest with
    | nil =>
      intro n i out so LI g2 hn hc hi hok ho S2 kn R hq
      have : (itemsOf 0 (bodies ds)).length ≤ i * 5 := by
        have := congrArg List.length hc
        rw [List.length_drop] at this
        have e : (itemsOf n (bodies [])).length = 0 := rfl
        omega
      refine H _ _ _ _ _ _ ?_
      unfold zf11.b3
      exact br_f (decide_eq_false (by omega)) (hq g2 so (rback R) (back S2.keeps) (S2.obj i0) (S2.obj i1))
    | cons p rest ih =>
      intro n i out so LI g2 hn hc hi hok ho S2 kn R hq
      obtain ⟨⟨m, bd⟩, ib⟩ := p
      rw [lnsOf_cons, encGo_cons] at hq
      rw [lnsOf_cons, total_cons] at ho
      have hbd := hok ⟨m, bd⟩ (by rw [lnsOf_cons]; exact List.mem_cons_self)
      have hokr : ∀ x ∈ lnsOf rest, BodyOk x.body := fun x hx => hok x (by rw [lnsOf_cons]; exact List.mem_cons_of_mem _ hx)
      simp only [List.length_cons] at hn
      have hsl := R.len
      simp only [List.length_map, Nat.mul_one] at hsl
      -- an item's five cells
      have item : ∀ (T : List V), T.length = 5 → ITM n ib bd = T → i < it.len ∧ (itemsOf 0 (bodies ds)).drop ((i + 1) * 5) = itemsOf (n + 1) (bodies rest) ∧ (i + 1) * 5 ≤ (itemsOf 0 (bodies ds)).length ∧ ∃ rb l' mk, it.p = some ⟨rb, 0⟩ ∧ (∀ g', St g K ((pb, .cells [.sl it, .map (some mb), .int .i64 (w : Nat)] false) :: (mb, .map .str es bs c) :: (rowL ++ (LI ++ insOf (bodies ((⟨m, bd⟩, ib) :: rest))))) g' → g'.obj rb = some (.cells l' mk)) ∧ (∀ j, j < 5 → l'[i * 5 + j]? = T[j]?) := by
        intro T hT he
        have hc2 : (itemsOf 0 (bodies ds)).drop (i * 5) = T ++ itemsOf (n + 1) (bodies rest) := by rw [hc, ← he]; rfl
        have hlt : (i + 1) * 5 ≤ (itemsOf 0 (bodies ds)).length := by
          have := congrArg List.length hc2
          rw [List.length_drop, List.length_append, hT] at this
          omega
        refine ⟨by omega, ?_, hlt, ?_⟩
        · rw [show (i + 1) * 5 = i * 5 + 5 by omega, ← List.drop_drop, hc2, List.drop_left' hT]
        · rcases r with ⟨_, hv, _⟩ | ⟨rb, rest', mk, hr, hp, _, _, _⟩
          · rw [hv] at hlt; simp at hlt
          · refine ⟨rb, itemsOf 0 (bodies ds) ++ rest', mk, hp, fun g' S' => S'.objs rb _ (by rw [hr]; simp), fun j hj => ?_⟩
            rw [List.getElem?_append_left (by omega), ← List.getElem?_drop, hc2, List.getElem?_append_left (by omega)]
      cases bd with
      | blank =>
        have := ih (n + 1) i out so LI g2 (by omega) hc hi hokr (by have e : Body.words .blank = 0 := rfl; simp only [e] at ho; omega) S2 kn R hq
        exact this
      | fill k v =>
        obtain ⟨hil, hd2, hi2, rb, l', mk, hp, hrb, hcell⟩ := item _ rfl rfl
        have ew : Body.words (.fill k v) = k := rfl
        simp only [ew] at ho
        have ho2 := hrb g2 S2
        have S2 : St g K ((pb, .cells [.sl it, .map (some mb), .int .i64 (w : Nat)] false) :: (mb, .map .str es bs c) :: (rowL ++ (LI ++ insOf (bodies rest)))) g2 := S2
        have kn : ∀ p ∈ rowL ++ (LI ++ insOf (bodies rest)), g.obj p.1 ≠ none := kn
        refine H _ _ _ _ _ _ ?_
        unfold zf11.b3
        refine br_t (decide_eq_true (by omega)) (ix_of (by omega) (by omega) ?_)
        rw [Int.toNat_natCast, hp, der_some]
        have hg : ∀ j, j < 5 → g2.get rb (0 + i * 5 + j) = ([V.int .i64 (n : Int), .int .i64 (k : Int), .int .u32 (v : Int), .ptr none, .str []] : List V)[j]? := fun j hj => by
          rw [get_cells ho2, Nat.zero_add]; exact hcell j hj
        refine rdI_of (hg 0 (by decide)) (rdI_of (hg 1 (by decide)) (rdI_of (hg 2 (by decide)) (rdP_of (hg 3 (by decide)) (rdStr_of (hg 4 (by decide)) (al_wrL rfl (fun b8 g3 hb8 ho8 k3 => ?_))))))
        refine loc_P ho8 rfl (br_t rfl (loc_I ho8 rfl (al_of (fun b11 g4 hb11 ho11 k4 => ?_))))
        refine loc_I (k4.obj ho8 (fun f => f)) rfl (Repeat_of (n := k) ho11 (by have := hbd.1; omega) (fun rr g5 hrr hor k5 => ?_))
        have kk := (k3.trans k4).trans k5
        have S5 := S2.keep kk
        have R5 := R.keep kk
        refine rdN_held (vs := List.replicate k (.int .u32 (v : Int))) (by simp) (fun j u hj => by rw [get_cells hor, Nat.zero_add]; exact hj) ?_
        refine R5.appm (m := k) S5.keeps (by simp) rfl (by omega) (by omega) (fun so' g6 R6 hl6 k6 => ?_)
        unfold zf11.j16
        rw [wrap64 (x := (i : Int) + 1) (by omega) (by omega)]
        have S6 := S5.keepW k6 (fun b x hb hz => by
          rcases List.mem_cons.1 hb with e | hb
          · cases e; exact knp hz
          · rcases List.mem_cons.1 hb with e | hb
            · cases e; exact knm hz
            · exact kn _ hb hz) (fun z hz hne => absurd hz hne)
        refine ih (n + 1) (i + 1) (out ++ List.replicate k (v : Int)) so' LI g6 (by omega) hd2 hi2 hokr (by rw [List.length_append, List.length_replicate]; omega) S6 kn ?_ hq
        rw [List.map_append, List.map_replicate]; exact R6
      | ins y want =>
        obtain ⟨hil, hd2, hi2, rb, l', mk, hp, hrb, hcell⟩ := item _ rfl rfl
        have ew : Body.words (.ins y want) = 1 := rfl
        simp only [ew] at ho
        have ho2 := hrb g2 S2
        have hy : InsOk y := hbd
        have S2 : St g K ((pb, .cells [.sl it, .map (some mb), .int .i64 (w : Nat)] false) :: (mb, .map .str es bs c) :: (rowL ++ (LI ++ ((ib, .cells (insL y.op y.rd y.rs1 y.rs2 y.imm) false) :: insOf (bodies rest))))) g2 := S2
        have kn : ∀ p ∈ rowL ++ (LI ++ ((ib, HO.cells (insL y.op y.rd y.rs1 y.rs2 y.imm) false) :: insOf (bodies rest))), g.obj p.1 ≠ none := kn
        have knib : g.obj ib ≠ none := kn (ib, HO.cells (insL y.op y.rd y.rs1 y.rs2 y.imm) false) (by simp)
        simp only at hq
        refine H _ _ _ _ _ _ ?_
        unfold zf11.b3
        refine br_t (decide_eq_true (by omega)) (ix_of (by omega) (by omega) ?_)
        rw [Int.toNat_natCast, hp, der_some]
        have hg : ∀ j, j < 5 → g2.get rb (0 + i * 5 + j) = ([V.int .i64 (n : Int), .int .i64 1, .int .u32 0, .ptr (some ⟨ib, 0⟩), .str want] : List V)[j]? := fun j hj => by
          rw [get_cells ho2, Nat.zero_add]; exact hcell j hj
        refine rdI_of (hg 0 (by decide)) (rdI_of (hg 1 (by decide)) (rdI_of (hg 2 (by decide)) (rdP_of (hg 3 (by decide)) (rdStr_of (hg 4 (by decide)) (al_wrL rfl (fun b8 g3 hb8 ho8 k3 => ?_))))))
        -- the end of a round
        have fin : ∀ (v : Int) (g3 : Heap), immOf l y want out.length = some v → St g K ((ib, .cells (insL y.op y.rd y.rs1 y.rs2 v) false) :: (pb, .cells [.sl it, .map (some mb), .int .i64 (w : Nat)] false) :: (mb, .map .str es bs c) :: (rowL ++ (LI ++ insOf (bodies rest)))) g3 → Row g g3 so 1 (out.map (V.int .u32)) → g3.obj b8 = some (.cells [.int .i64 (n : Int), .int .i64 1, .int .u32 0, .ptr (some ⟨ib, 0⟩), .str want] false) →
            rdI .i64 ((⟨ib, 0⟩ : Ptr).add 0) (fun x24 => rdI .i64 ((⟨ib, 0⟩ : Ptr).add 1) (fun x25 => rdI .i64 ((⟨ib, 0⟩ : Ptr).add 2) (fun x26 => rdI .i64 ((⟨ib, 0⟩ : Ptr).add 3) (fun x27 => rdI .i64 ((⟨ib, 0⟩ : Ptr).add 4) (fun x28 => zf16 x24 x25 x26 x27 x28 (fun r29 r30 h => br (r30 != 0) (rdI .i64 ((⟨b8, 0⟩ : Ptr).add 0) (fun x31 => Q ⟨none, 0, 0⟩ (.iface 6 (.agg [.int .i64 x31])) h) h) (al [.int .u32 r29] (fun b32 h => rdN (1 * 1) (⟨b32, 0⟩ : Ptr) (fun cs34 => appS 1 4 [.int .u32 0] so cs34 1 (fun s33 h => zf11.j16 I (some ⟨pb, 0⟩) s33 it ((it.len : Nat) : Int) (i : Int) Q h) h) h) h)) g3) g3) g3) g3) g3) g3 := by
          intro v g3 hv S3 R3 ho8
          rw [hv] at hq
          simp only at hq
          refine rd5 rfl rfl rfl rfl rfl rfl (S3.obj i0) (Encode_of (fun g4 k4 => ?_))
          have S4 := S3.keep k4
          have R4 := R3.keep k4
          by_cases he : (encOf y.op y.rd y.rs1 y.rs2 v).2 = 0
          · rw [if_neg (fun hh => hh he)] at hq
            refine br_f (by rw [he]; rfl) (al_of (fun b32 g5 hb32 ho32 k5 => rdN_held (vs := [.int .u32 (encOf y.op y.rd y.rs1 y.rs2 v).1]) rfl (fun j u hj => by rw [get_cells ho32, Nat.zero_add]; exact hj) ?_))
            have S5 := S4.keep k5
            refine (R4.keep k5).appm (m := 1) S5.keeps rfl rfl (by omega) (by omega) (fun so' g6 R6 hl6 k6 => ?_)
            unfold zf11.j16
            rw [wrap64 (x := (i : Int) + 1) (by omega) (by omega)]
            have S6 := S5.keepW k6 (fun b x hb hz => by
              rcases List.mem_cons.1 hb with e | hb
              · cases e; exact knib hz
              · rcases List.mem_cons.1 hb with e | hb
                · cases e; exact knp hz
                · rcases List.mem_cons.1 hb with e | hb
                  · cases e; exact knm hz
                  · refine kn (b, x) ?_ hz
                    rcases List.mem_append.1 hb with hb | hb
                    · exact List.mem_append.2 (.inl hb)
                    · rcases List.mem_append.1 hb with hb | hb
                      · exact List.mem_append.2 (.inr (List.mem_append.2 (.inl hb)))
                      · exact List.mem_append.2 (.inr (List.mem_append.2 (.inr (List.mem_cons_of_mem _ hb))))) (fun z hz hne => absurd hz hne)
            have S7 : St g K ((pb, .cells [.sl it, .map (some mb), .int .i64 (w : Nat)] false) :: (mb, .map .str es bs c) :: (rowL ++ ((LI ++ [(ib, .cells (insL y.op y.rd y.rs1 y.rs2 v) false)]) ++ insOf (bodies rest)))) g6 := by
              refine S6.perm ?_
              have := List.perm_middle (a := (ib, HO.cells (insL y.op y.rd y.rs1 y.rs2 v) false)) (l₁ := (pb, .cells [.sl it, .map (some mb), .int .i64 (w : Nat)] false) :: (mb, .map .str es bs c) :: (rowL ++ LI)) (l₂ := insOf (bodies rest))
              simpa only [List.cons_append, List.append_assoc, List.nil_append] using this
            refine ih (n + 1) (i + 1) (out ++ [(encOf y.op y.rd y.rs1 y.rs2 v).1]) so' _ g6 (by omega) hd2 hi2 hokr (by rw [List.length_append]; simp only [List.length_cons, List.length_nil]; omega) S7 (fun p hp => ?_) ?_ hq
            · rcases List.mem_append.1 hp with hp | hp
              · exact kn p (List.mem_append.2 (.inl hp))
              · rcases List.mem_append.1 hp with hp | hp
                · rcases List.mem_append.1 hp with hp | hp
                  · exact kn p (List.mem_append.2 (.inr (List.mem_append.2 (.inl hp))))
                  · rw [List.mem_singleton.1 hp]; exact knib
                · exact kn p (List.mem_append.2 (.inr (List.mem_append.2 (.inr (List.mem_cons_of_mem _ hp)))))
            · rw [List.map_append]; exact R6
          · rw [if_pos he] at hq
            exact br_t (by rw [bne_iff_ne]; exact he) (loc_I (k4.obj ho8 (fun f => f)) rfl (hq g4 (back S4.keeps)))
        have S3 := S2.keep k3
        have R3 := R.keep k3
        have S3' : St g K ((ib, .cells (insL y.op y.rd y.rs1 y.rs2 y.imm) false) :: (pb, .cells [.sl it, .map (some mb), .int .i64 (w : Nat)] false) :: (mb, .map .str es bs c) :: (rowL ++ (LI ++ insOf (bodies rest)))) g3 := by
          refine S3.perm ?_
          have := (List.perm_middle (a := (ib, HO.cells (insL y.op y.rd y.rs1 y.rs2 y.imm) false)) (l₁ := (pb, .cells [.sl it, .map (some mb), .int .i64 (w : Nat)] false) :: (mb, .map .str es bs c) :: (rowL ++ LI)) (l₂ := insOf (bodies rest))).symm
          simpa only [List.cons_append, List.append_assoc, List.nil_append] using this
        refine loc_P ho8 rfl (br_f rfl (loc_Str ho8 rfl ?_))
        by_cases hwn : want = []
        · refine br_f (by rw [hwn]; rfl) (loc_P ho8 rfl (der_of (fin y.imm g3 (by unfold immOf; rw [if_pos hwn]) S3' R3 ho8)))
        · refine br_t (by rw [beq_false_of_ne hwn]; rfl) (der_of (S3'.rM i1 rfl (loc_Str ho8 rfl (S3'.mapGet i2 ?_))))
          rw [hm want]
          unfold markV
          rw [if_neg hwn]
          cases hpl : place want l with
          | none =>
            have hv : immOf l y want out.length = none := by unfold immOf; rw [if_neg hwn, hpl]
            rw [hv] at hq
            refine asI_of (x := 0) (br_t rfl ?_)
            unfold zf11.j10
            exact loc_I ho8 rfl (hq g3 (back S3'.keeps))
          | some q =>
            have hple := place_le hpl
            refine asI_of (x := (q : Int)) (br_f rfl ?_)
            unfold zf11.j11
            rw [wrap64 (x := (q : Int) - ((so.len : Nat) : Int)) (by omega) (by omega)]
            have hg3 : g3.getW ib 4 = some (.int .i64 y.imm) := by rw [getW_cells (S3'.obj i0)]; rfl
            refine loc_P ho8 rfl (der_of ?_)
            have hne8 : b8 ≠ ib := fun e => by
              have : g2.obj ib ≠ none := by rw [S2.objs ib (HO.cells (insL y.op y.rd y.rs1 y.rs2 y.imm) false) (by simp)]; simp
              exact this (e ▸ hb8)
            refine loc_wr (l := insL y.op y.rd y.rs1 y.rs2 y.imm) (S3'.obj i0) rfl (fun g4 ho4 k4 => ?_)
            have S4 : St g K ((ib, .cells (insL y.op y.rd y.rs1 y.rs2 ((q : Int) - ((so.len : Nat) : Int))) false) :: (pb, .cells [.sl it, .map (some mb), .int .i64 (w : Nat)] false) :: (mb, .map .str es bs c) :: (rowL ++ (LI ++ insOf (bodies rest)))) g4 := S3'.put i0 ho4 k4
            have R4 : Row g g4 so 1 (out.map (V.int .u32)) := R3.keepW k4 (fun z e => by rw [e]; exact knib)
            have ho8' := k4.obj ho8 (fun e => hne8 e)
            refine loc_P ho8' rfl (der_of (fin _ g4 ?_ S4 R4 ho8'))
            unfold immOf
            rw [if_neg hwn, hpl]
            show some ((q : Int) - (out.length : Int)) = some ((q : Int) - ((so.len : Nat) : Int))
            congr 2; omega
  refine main ds 0 0 [] ⟨none, 0, 0⟩ [] g (by rw [← hl]; simp [lnsOf]) rfl (by omega) (by rw [hl]; exact hok) (by rw [hl]; simpa using ht) SB kn0 Row.nil ?_
  rw [hl]; exact hq

end
end Go.Asm

set_option linter.unusedSimpArgs false
set_option linter.unusedVariables false
set_option maxRecDepth 100000
namespace Go.Asm
open Go.Lift Go.Fn Go.Insn

/-- What an assembly comes to, in the program. -/
def asmQ (h : Heap) (Q : Option Ptr → Sl → V → Heap → Prop) : Res → Prop
  | .ok l out => ∀ pb mb it w es bs c g so, Row h g so 1 (out.map (V.int .u32)) → Keeps none_ h g → g.obj pb = some (.cells [.sl it, .map (some mb), .int .i64 (w : Nat)] false) → g.obj mb = some (.map .str es bs c) → MarksOk es l → Q (some ⟨pb, 0⟩) so .nilif g
  | .arg => ∀ g, Keeps none_ h g → Q none ⟨none, 0, 0⟩ (.iface 5 (.int .i64 2)) g
  | .big => ∀ g, Keeps none_ h g → Q none ⟨none, 0, 0⟩ (.iface 5 (.int .i64 3)) g
  | .form n => ∀ g, Keeps none_ h g → ∀ p, Q p ⟨none, 0, 0⟩ (.iface 6 (.agg [.int .i64 (n : Int)])) g

section
variable {U : Ifc} {h g : Heap}

theorem assemble_of (au : AsU U h) {s : Str} {base : Nat} {Q : Option Ptr → Sl → V → Heap → Prop} (hq : asmQ h Q (asm s base)) : zf3 U s (base : Int) Q h := by
  unfold zf3
  refine nz_of (by decide) ?_
  unfold asm at hq
  have em : ((base : Int)).tmod 4 = ((base % 4 : Nat) : Int) := by rw [show (4 : Int) = ((4 : Nat) : Int) from rfl, Int.ofNat_tmod]
  rw [em]
  by_cases h1 : base % 4 ≠ 0 ∨ base > 1099511627776
  · rw [if_pos h1] at hq
    refine br_if (fun _ => ?_) (fun c => br_t (decide_eq_true ?_) ?_)
    · unfold zf3.j2; exact hq h (Keeps.refl _ _)
    · have : ((base % 4 : Nat) : Int) = 0 := by simpa using c
      omega
    · unfold zf3.j2; exact hq h (Keeps.refl _ _)
  rw [if_neg h1] at hq
  refine br_f (by rw [bne_eq_false_iff_eq]; omega) (br_f (decide_eq_false (by omega)) ?_)
  by_cases h2 : s.length > 65536
  · rw [if_pos h2] at hq
    exact br_t (decide_eq_true (by omega)) (hq h (Keeps.refl _ _))
  rw [if_neg h2] at hq
  refine br_f (decide_eq_false (by omega)) (parse_of au (by omega) ?_)
  unfold asmT at hq
  cases hl : linesGo 0 [] (split s) with
  | inl n =>
    rw [hl] at hq
    intro g k
    refine isNil_i ?_
    refine br_t rfl ?_
    exact chk_of rfl (hq g k none)
  | inr l =>
    rw [hl] at hq
    unfold parseQ parseR
    unfold asmL at hq
    by_cases ht : total l > 16384
    · simp only [if_pos ht] at hq ⊢
      intro g k
      refine isNil_i ?_
      refine br_t rfl ?_
      exact chk_of rfl (hq g k)
    · simp only [if_neg ht] at hq ⊢
      intro pb mb it rowL es bs c ds g hds r hm S
      refine isNil_n ?_
      refine br_f rfl (encode_of hds r hm (linesGo_ok hl (fun x hx => by cases hx)) (linesGo_bound (by omega) hl) (by omega) S ?_)
      cases he : encGo l 0 [] l with
      | inl n =>
        rw [he] at hq
        intro g k
        unfold zf3.j9
        exact chk_of rfl (hq g k _)
      | inr out =>
        rw [he] at hq
        intro g2 so R k ho1 ho2
        unfold zf3.j9
        exact chk_of rfl (hq pb mb it (total l) es bs c g2 so R k ho1 ho2 hm)

theorem Mark_of (au : AsU U h) {s m : Str} {base : Nat} {Q : Int → Bool → Heap → Prop} (hq : ∀ g, Keeps none_ h g → match markOf s base m with | some v => Q v true g | none => Q 0 false g) : zf1 U s (base : Int) m Q h := by
  unfold zf1
  refine assemble_of au ?_
  unfold markOf at hq
  cases ha : asm s base with
  | arg => rw [ha] at hq; exact fun g k => isNil_i (show br true _ _ from hq g k)
  | big => rw [ha] at hq; exact fun g k => isNil_i (show br true _ _ from hq g k)
  | form n => rw [ha] at hq; exact fun g k p => isNil_i (show br true _ _ from hq g k)
  | ok l out =>
    rw [ha] at hq
    intro pb mb it w es bs c g so R k hp hmb hm
    refine isNil_n ?_
    refine br_f rfl (der_of (loc_M hp rfl ⟨es, bs, c, hmb, ?_⟩))
    have hq := hq g k
    simp only at hq
    rw [hm m]
    unfold zf1.j5
    unfold findV at hq
    unfold markV
    by_cases hmn : m = []
    · rw [if_pos hmn] at hq ⊢
      exact asI_of (x := 0) (br_t rfl hq)
    · rw [if_neg hmn] at hq ⊢
      cases hpl : place m l with
      | none =>
        rw [hpl] at hq
        exact asI_of (x := 0) (br_t rfl hq)
      | some p =>
        rw [hpl] at hq
        simp only [if_neg (show ¬ (p : Int) < 0 by omega)] at hq
        exact asI_of (x := (p : Int)) (br_f rfl hq)

end
end Go.Asm

set_option linter.unusedSimpArgs false
set_option linter.unusedVariables false
set_option maxRecDepth 100000
namespace Go.Asm
open Go.Lift Go.Fn Go.Insn

def here : Str := [104, 101, 114, 101]
def there : Str := [116, 104, 101, 114, 101]

section
variable {U : Ifc} {h g : Heap}

end
end Go.Asm

set_option linter.unusedSimpArgs false
set_option linter.unusedVariables false
set_option maxRecDepth 100000
namespace Go.Asm
open Go.Lift Go.Fn Go.Insn

/-- What is known of errors' own variable. -/
def errTab (U : Ifc) : Prop := (6, [V.iface 10 (.agg [.ptr (some ⟨24, 40⟩)])]) ∈ U.tabs

theorem enc_len (all : List Ln) : ∀ (l : List Ln) (n : Nat) (out r : List Int), encGo all n out l = .inr r → r.length = out.length + total l
  | [], n, out, r, h => by
    have : Sum.inr out = (Sum.inr r : Nat ⊕ List Int) := h
    cases this; rfl
  | x :: l, n, out, r, h => by
    rw [encGo_cons] at h
    rw [total_cons]
    cases hb : x.body with
    | blank =>
      rw [hb] at h
      have := enc_len all l _ _ _ h
      show r.length = out.length + (0 + total l)
      omega
    | fill k v =>
      rw [hb] at h
      have := enc_len all l _ _ _ h
      rw [List.length_append, List.length_replicate] at this
      show r.length = out.length + (k + total l)
      omega
    | ins y want =>
      rw [hb] at h
      simp only at h
      split at h
      · cases h
      · split at h
        · cases h
        · have := enc_len all l _ _ _ h
          rw [List.length_append, List.length_cons, List.length_nil] at this
          show r.length = out.length + (1 + total l)
          omega

theorem asm_len {s : Str} {base : Nat} {l : List Ln} {out : List Int} (h : asm s base = .ok l out) : out.length ≤ 16384 := by
  unfold asm at h
  split at h
  · cases h
  · split at h
    · cases h
    · unfold asmT asmL at h
      split at h
      · cases h
      · split at h
        · cases h
        · rename_i l' hl ht
          split at h
          · cases h
          · rename_i out' he
            cases h
            have := enc_len _ _ _ _ _ he
            simp only [List.length_nil] at this
            omega

section
variable {U : Ifc} {h g : Heap}

theorem As_miss (et : errTab U) {n : Int} {p : Ptr} {κ : Bool → Heap → Prop} (hk : κ false h) : zf14 U (.iface 5 (.int .i64 n)) (.iface 7 (.ptr (some p))) κ h := by
  refine ⟨et, ?_⟩
  show (if (5 : Nat) = 6 ∧ (7 : Nat) = 7 then _ else if (5 : Nat) = 5 ∧ (7 : Nat) = 9 then _ else if (5 : Nat) = 5 ∧ (7 : Nat) = 7 then _ else _)
  rw [if_neg (by decide), if_neg (by decide), if_pos (by decide)]
  exact ⟨⟨n, rfl⟩, hk⟩

theorem As_errno (et : errTab U) {n : Int} {p : Ptr} {κ : Bool → Heap → Prop} (hk : wr p (.int .i64 n) (κ true) h) : zf14 U (.iface 5 (.int .i64 n)) (.iface 9 (.ptr (some p))) κ h := by
  refine ⟨et, ?_⟩
  show (if (5 : Nat) = 6 ∧ (9 : Nat) = 7 then _ else if (5 : Nat) = 5 ∧ (9 : Nat) = 9 then _ else _)
  rw [if_neg (by decide), if_pos (by decide)]
  exact ⟨n, rfl, hk⟩

theorem As_fault (et : errTab U) {n : Int} {p : Ptr} {κ : Bool → Heap → Prop} (hk : wr p (.int .i64 n) (κ true) h) : zf14 U (.iface 6 (.agg [.int .i64 n])) (.iface 7 (.ptr (some p))) κ h := by
  refine ⟨et, ?_⟩
  show (if (6 : Nat) = 6 ∧ (7 : Nat) = 7 then _ else _)
  rw [if_pos (by decide)]
  exact ⟨n, rfl, hk⟩

theorem fresh_back {b : Nat} (k : Keeps none_ h g) (hb : g.obj b = none) : h.obj b = none := by
  cases hh : h.obj b with
  | none => rfl
  | some y => exact absurd hb (k.known b (by rw [hh]; simp))

theorem Assemble_of (au : AsU U h) (et : errTab U) {s : Str} {base : Nat} {Q : Sl → Int → Int → Heap → Prop} (hq : resQ h Q (asm s base)) : zf0 U s (base : Int) Q h := by
  unfold zf0
  refine al_of (fun b1 g1 hb1 ho1 k1 => assemble_of (au.keep k1) ?_)
  have errno : ∀ n : Int, (∀ g, Keeps none_ h g → Q ⟨none, 0, 0⟩ 0 n g) → ∀ g, Keeps none_ g1 g → al [.int .i64 0] (fun b5 h => isNil (.iface 5 (.int .i64 n)) (fun c6 => br c6 (wr (⟨b1, 0⟩ : Ptr) (.int .i64 0) (fun h => rdI .i64 (⟨b1, 0⟩ : Ptr) (fun x7 => Q ⟨none, 0, 0⟩ 0 x7 h) h) h) (zf14 U (.iface 5 (.int .i64 n)) (.iface 7 (.ptr (some (⟨b5, 0⟩ : Ptr)))) (fun r8 h => br r8 (rdI .i64 ((⟨b5, 0⟩ : Ptr).add 0) (fun x9 => wr (⟨b1, 0⟩ : Ptr) (.int .i64 10) (fun h => rdI .i64 (⟨b1, 0⟩ : Ptr) (fun x10 => Q ⟨none, 0, 0⟩ x9 x10 h) h) h) h) (zf14 U (.iface 5 (.int .i64 n)) (.iface 9 (.ptr (some (⟨b1, 0⟩ : Ptr)))) (fun r11 h => rdI .i64 (⟨b1, 0⟩ : Ptr) (fun x12 => wr (⟨b1, 0⟩ : Ptr) (.int .i64 x12) (fun h => rdI .i64 (⟨b1, 0⟩ : Ptr) (fun x13 => Q ⟨none, 0, 0⟩ 0 x13 h) h) h) h) h)) h))) g := by
    intro n hn g k
    refine al_of (fun b5 g2 hb5 ho5 k2 => isNil_i (br_f rfl (As_miss et (br_f rfl (As_errno et ?_)))))
    have hob : g2.obj b1 = some (.cells [.int .i64 0] false) := k2.obj (k.obj ho1 (fun f => f)) (fun f => f)
    refine loc_wr hob rfl (fun g3 ho3 k3 => loc_I ho3 rfl (loc_wr ho3 rfl (fun g4 ho4 k4 => loc_I ho4 rfl (hn g4 ?_))))
    exact Keeps.widen' ((k1.trans k).trans k2) (k3.trans k4) hb1
  cases ha : asm s base with
  | ok l out =>
    rw [ha] at hq
    intro pb mb it w es bs c g so R k _ _ _
    refine al_of (fun b5 g2 hb5 ho5 k2 => isNil_n ?_)
    have ho2 := (k1.trans k).trans k2
    have hob : g2.obj b1 = some (.cells [.int .i64 0] false) := k2.obj (k.obj ho1 (fun f => f)) (fun f => f)
    refine br_t rfl (loc_wr hob rfl (fun g3 ho3 k3 => loc_I ho3 rfl (hq g3 so ?_ (Keeps.widen' ho2 k3 hb1))))
    rcases R with R | ⟨rb, O, hrb⟩
    · exact .inl R
    · have hne : rb ≠ b1 := fun e => by rw [e, ho1] at hrb; cases hrb
      refine .inr ⟨rb, (O.keeps k2 (fun f => f)).keeps k3 hne, fresh_back k1 hrb⟩
  | arg => rw [ha] at hq; exact errno 2 hq
  | big => rw [ha] at hq; exact errno 3 hq
  | form n =>
    rw [ha] at hq
    intro g k p
    refine al_of (fun b5 g2 hb5 ho5 k2 => isNil_i (br_f rfl (As_fault et ?_)))
    have hob : g2.obj b1 = some (.cells [.int .i64 0] false) := k2.obj (k.obj ho1 (fun f => f)) (fun f => f)
    have hne : b1 ≠ b5 := fun e => by rw [← e, k.obj ho1 (fun f => f)] at hb5; cases hb5
    refine loc_wr ho5 rfl (fun g3 ho3 k3 => br_t rfl (loc_I ho3 rfl (loc_wr (k3.obj hob hne) rfl (fun g4 ho4 k4 => loc_I ho4 rfl (hq g4 ?_)))))
    exact Keeps.widen' (Keeps.widen' ((k1.trans k).trans k2) k3 (fresh_back (k1.trans k) hb5)) k4 hb1

theorem cmp2 {a1 a2 : Sl} {out : List Int} (hl : out.length ≤ 16384) (R1 : Held g a1 1 (out.map (V.int .u32))) (R2 : Held g a2 1 (out.map (V.int .u32))) {Q : Bool → Heap → Prop} (hQ : ∀ h, Q true h) : zf29.j7 U a1 a2 Q g := by
  unfold zf29.j7 zf29.j8
  intro I H
  have h1 := R1.len
  have h2 := R2.len
  simp only [List.length_map, Nat.mul_one] at h1 h2
  have step : ∀ m i : Nat, i + m = out.length → I a1 a2 (i : Int) g := by
    intro m
    induction m with
    | zero =>
      intro i hi
      refine H _ _ _ _ ?_
      unfold zf29.b8
      exact br_f (decide_eq_false (by omega)) (hQ g)
    | succ m ih =>
      intro i hi
      refine H _ _ _ _ ?_
      unfold zf29.b8
      have hlt : i < out.length := by omega
      obtain ⟨x, hx⟩ : ∃ x, out[i]? = some x := ⟨out[i], List.getElem?_eq_getElem hlt⟩
      refine br_t (decide_eq_true (by omega)) (ix_of (by omega) (by omega) ?_)
      rw [Int.toNat_natCast]
      cases hp : a1.p with
      | none => have := R1.nil hp; omega
      | some p =>
        rw [der_some]
        have r1 := R1.row p hp i (.int .u32 x) (by rw [List.getElem?_map, hx]; rfl)
        refine rdI_of (x := x) (by show g.get p.b (p.o + i * 1) = _; rw [Nat.mul_one]; exact r1) (ix_of (by omega) (by omega) ?_)
        rw [Int.toNat_natCast]
        cases hq : a2.p with
        | none => have := R2.nil hq; omega
        | some q =>
          rw [der_some]
          have r2 := R2.row q hq i (.int .u32 x) (by rw [List.getElem?_map, hx]; rfl)
          refine rdI_of (x := x) (by show g.get q.b (q.o + i * 1) = _; rw [Nat.mul_one]; exact r2) (br_f (by simp) ?_)
          rw [wrap64]
          exact ih (i + 1) (by omega)
  exact step out.length 0 (by omega)

theorem assembles_end (au : AsU U g) (du : DecAt 10 U) {s m : Str} {base : Nat} {a1 a2 : Sl} {l e : Int} {out : List Int} (hl : out.length ≤ 16384) (R1 : Held g a1 1 (out.map (V.int .u32))) (R2 : Held g a2 1 (out.map (V.int .u32))) {Q : Bool → Heap → Prop} (hQ : ∀ h, Q true h) :
    zf1 U s (base : Int) m (fun r7 r8 h => zf29.j4 U s (base : Int) m a1 l e a2 l e r7 r8 Q h) g := by
  have h1 := R1.len
  have h2 := R2.len
  simp only [List.length_map, Nat.mul_one] at h1 h2
  have key : ∀ (v : Int) (b : Bool) (g' : Heap), Keeps none_ g g' → (match markOf s base m with | some v' => v = v' ∧ b = true | none => v = 0 ∧ b = false) → zf29.j4 U s (base : Int) m a1 l e a2 l e v b Q g' := by
    intro v b g' k hm
    unfold zf29.j4
    refine Mark_ref du (fun g2 k2 => ?_)
    have fin := cmp2 hl (R1.keeps (k.trans k2) (fun _ _ f => f)) (R2.keeps (k.trans k2) (fun _ _ f => f)) (U := U) hQ
    cases hmm : markOf s base m with
    | some v' =>
      rw [hmm] at hm
      obtain ⟨rfl, rfl⟩ := hm
      exact br_f (by simp) (br_f (by simp) (br_f (by rw [bne_eq_false_iff_eq]; omega) (br_f (by simp) (br_f (by simp) fin))))
    | none =>
      rw [hmm] at hm
      obtain ⟨rfl, rfl⟩ := hm
      exact br_f (by simp) (br_f (by simp) (br_f (by rw [bne_eq_false_iff_eq]; omega) (br_f (by simp) (br_f (by simp) fin))))
  refine Mark_of au (fun g1 k1 => ?_)
  cases hm : markOf s base m with
  | some v => exact key v true g1 k1 (by rw [hm]; exact ⟨rfl, rfl⟩)
  | none => exact key 0 false g1 k1 (by rw [hm]; exact ⟨rfl, rfl⟩)

theorem assembles (au : AsU U g) (et : errTab U) (du : DecAt 10 U) {s m : Str} {base : Nat} {Q : Bool → Heap → Prop} (hQ : ∀ h, Q true h) : zf29 U s (base : Int) m Q g := by
  unfold zf29
  refine Assemble_of au et ?_
  cases ha : asm s base with
  | ok l out =>
    intro g1 r1 R1 k1
    refine Assemble_ref du ?_
    rw [ha]
    intro g2 r4 R2 k2
    exact assembles_end ((au.keep k1).keep k2) du (asm_len ha) (R1.held.keeps k2 (fun _ _ f => f)) R2.held hQ
  | arg =>
    intro g1 k1
    refine Assemble_ref du ?_
    rw [ha]
    intro g2 k2
    exact assembles_end (out := []) ((au.keep k1).keep k2) du (by decide) Held.empty Held.empty hQ
  | big =>
    intro g1 k1
    refine Assemble_ref du ?_
    rw [ha]
    intro g2 k2
    exact assembles_end (out := []) ((au.keep k1).keep k2) du (by decide) Held.empty Held.empty hQ
  | form n =>
    intro g1 k1
    refine Assemble_ref du ?_
    rw [ha]
    intro g2 k2
    exact assembles_end (out := []) ((au.keep k1).keep k2) du (by decide) Held.empty Held.empty hQ
end
end Go.Asm
