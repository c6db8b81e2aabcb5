/- AsmShows: the plain law. -/
import Derived.Test.YtcaeaolgijjjnaaGreatDoorKb
import Derived.Test.YtcaeaolgijjjnaaGreatDoorKc
import Derived.Lib.SplitLaws
import Derived.Test.YtcaeaolgijjjnaaGreatDoorKa

set_option linter.unusedSimpArgs false
set_option linter.unusedVariables false
set_option maxRecDepth 100000
namespace Go.Insn
open Go.Lift Go.Fn

def namesTxt : List UInt8 := ([97, 100, 100, 32, 115, 117, 98, 32, 97, 110, 100, 32, 111, 114, 32, 120, 111, 114, 32, 115, 108, 108, 32, 115, 114, 108, 32, 115, 114, 97, 32, 115, 108, 116, 32, 115, 108, 116, 117, 32, 109, 117, 108, 32, 100, 105, 118, 117, 32, 114, 101, 109, 117, 32, 97, 100, 100, 105, 32, 97, 110, 100, 105, 32, 111, 114, 105, 32, 120, 111, 114, 105, 32, 115, 108, 108, 105, 32, 115, 114, 108, 105, 32, 115, 114, 97, 105, 32, 115, 108, 116, 105, 32, 108, 117, 105, 32, 108, 100, 32, 108, 119, 32, 108, 98, 32, 115, 100, 32, 115, 119, 32, 115, 98, 32, 98, 101, 113, 32, 98, 110, 101, 32, 98, 108, 116, 32, 98, 103, 101, 32, 98, 108, 116, 117, 32, 98, 103, 101, 117, 32, 106, 97, 108, 32, 106, 97, 108, 114, 32, 108, 114, 32, 115, 99, 32, 97, 109, 111, 97, 100, 100, 32, 97, 109, 111, 115, 119, 112, 32, 102, 101, 110, 99, 101, 32, 101, 99, 97, 108, 108, 32, 115, 114, 101, 116, 32, 119, 102, 105, 32, 115, 102, 101, 110, 99, 101, 32, 99, 115, 114, 114, 119, 32, 99, 115, 114, 114, 115, 32, 99, 115, 114, 114, 99] : List UInt8)

theorem fields_names : Lib.fields namesTxt = namesL := by kernel_rfl
theorem names_ascii : ∀ b ∈ namesTxt, b.toNat < 128 := by
  have : (namesTxt.all fun b => decide (b.toNat < 128)) = true := by kernel_rfl
  intro b hb
  simpa using List.all_eq_true.1 this b hb
theorem namesTxt_len : namesTxt.length < 4294967281 := by
  have : namesTxt.length = 215 := by kernel_rfl
  omega

theorem ord_ascii {n : Nat} (hn : n < 64) : ∀ i, i < (ordOf (n : Int)).length → ((ordOf (n : Int)).getD i 0).toNat < 128 := by
  have key : ∀ n : Fin 64, ((ordOf ((n.val : Nat) : Int)).all fun b => decide (b.toNat < 128)) = true := by decide +kernel
  have key := key ⟨n, hn⟩
  intro i hi
  have := List.all_eq_true.1 key _ (List.getElem_mem hi)
  rw [List.getD_eq_getElem?_getD, List.getElem?_eq_getElem hi]
  simpa using this

theorem fold_join (d : Dec) : ∀ (l acc : List UInt8), l.foldl (fun acc c => acc ++ [32] ++ part d c) acc = acc ++ Lib.joinTail [32] (l.map (part d))
  | [], acc => by simp [Lib.joinTail]
  | c :: l, acc => by
    rw [List.foldl_cons, fold_join d l]
    simp [Lib.joinTail]

section
variable {U : Ifc} {h : Heap}

/-- What is known of the library's tables. -/
structure AU (U : Ifc) (h : Heap) : Prop where
  pow : (3, Lib.pow10Tab.map (V.int .u64)) ∈ U.tabs
  asc : ∀ c : Nat, c < 256 → h.get (U.glob 4) c = some (.int .u8 (if Lib.isSp (UInt8.ofNat c) then 1 else 0))

theorem Show_asm (au : AU U h) {w : Nat} (hw : w < 2 ^ 32) {Q : List UInt8 → Heap → Prop} (hq : ∀ h', Keeps none_ h h' → Q (textW (w : Int)) h') : zf2 U (w : Int) Q h := by
  unfold zf2
  refine Decode_of (fun g1 k1 => ?_)
  have S_ := (St.start h none_).keep k1
  have hd := dec_is hw
  unfold textW at hq
  generalize decOf (w : Int) = d at hq hd ⊢
  ((with_reducible apply St.al); assumption; intro b g_ S_)
  refine S_.wrL i0 (Nat.le_refl 5) (fun g2 S2 => ?_)
  have S3 : St h none_ [(b, .cells [.int .i64 d.op, .int .i64 d.rd, .int .i64 d.rs1, .int .i64 d.rs2, .int .i64 d.imm] false)] g2 := S2
  clear S2 S_
  rcases hd with e | D
  · rw [if_pos (by rw [e]; decide)] at hq
    refine br_t (by rw [e]; rfl) ?_
    rw [wrap64 (x := (w : Int)) (by omega) (by omega)]
    have := itoa_len (v := (w : Int)) (by omega)
    exact itoa_of au.pow (by omega) (by omega) ⟨by simp; omega, hq g2 S3.keeps⟩
  · rw [if_neg (fun hh => hh D.e)] at hq
    refine br_f (by rw [D.e]; rfl) (S3.rI i0 rfl ?_)
    unfold zf61
    refine ⟨namesTxt_len, names_ascii, fun c hc => ?_, fun nb hb => ?_⟩
    · have hg := au.asc c hc
      have hn : h.obj (U.glob 4) ≠ none := by intro hn; unfold Heap.get at hg; rw [hn] at hg; cases hg
      rw [Heap.get_obj (S3.keeps.same _ hn (fun f => f))]; exact hg
    · have fe : Lib.fields ([97, 100, 100, 32, 115, 117, 98, 32, 97, 110, 100, 32, 111, 114, 32, 120, 111, 114, 32, 115, 108, 108, 32, 115, 114, 108, 32, 115, 114, 97, 32, 115, 108, 116, 32, 115, 108, 116, 117, 32, 109, 117, 108, 32, 100, 105, 118, 117, 32, 114, 101, 109, 117, 32, 97, 100, 100, 105, 32, 97, 110, 100, 105, 32, 111, 114, 105, 32, 120, 111, 114, 105, 32, 115, 108, 108, 105, 32, 115, 114, 108, 105, 32, 115, 114, 97, 105, 32, 115, 108, 116, 105, 32, 108, 117, 105, 32, 108, 100, 32, 108, 119, 32, 108, 98, 32, 115, 100, 32, 115, 119, 32, 115, 98, 32, 98, 101, 113, 32, 98, 110, 101, 32, 98, 108, 116, 32, 98, 103, 101, 32, 98, 108, 116, 117, 32, 98, 103, 101, 117, 32, 106, 97, 108, 32, 106, 97, 108, 114, 32, 108, 114, 32, 115, 99, 32, 97, 109, 111, 97, 100, 100, 32, 97, 109, 111, 115, 119, 112, 32, 102, 101, 110, 99, 101, 32, 101, 99, 97, 108, 108, 32, 115, 114, 101, 116, 32, 119, 102, 105, 32, 115, 102, 101, 110, 99, 101, 32, 99, 115, 114, 114, 119, 32, 99, 115, 114, 114, 115, 32, 99, 115, 114, 114, 99] : List UInt8) = namesL := fields_names
      rw [fe, names_len]
      have kb : Keeps none_ g2 (g2.new nb (.cells (namesL.map V.str) false)) := Keeps.new hb _
      have ho : (g2.new nb (.cells (namesL.map V.str) false)).obj nb = some (.cells (namesL.map V.str) false) := Heap.new_obj
      have S4 := S3.keep kb
      generalize g2.new nb (.cells (namesL.map V.str) false) = g3 at ho S4 ⊢
      obtain ⟨n, hn⟩ : ∃ n : Nat, d.op = (n : Int) := ⟨d.op.toNat, by have := D.op; omega⟩
      have hop := D.op
      refine ⟨S4.ck1 i0 rfl, ?_⟩
      have ew : IntKind.i64.wrap (d.op - 1) = ((n - 1 : Nat) : Int) := by rw [wrap64] <;> omega
      rw [ew]
      refine ix_of (by omega) (by show ((n - 1 : Nat) : Int) < 48; omega) ?_
      rw [der_some, Int.toNat_natCast]
      have hnm : g3.get nb (0 + (n - 1) * 1) = some (.str (namesL.getD (n - 1) [])) := by
        rw [get_cells ho, Nat.zero_add, Nat.mul_one, List.getElem?_map, List.getD_eq_getElem?_getD, List.getElem?_eq_getElem (by rw [names_len]; omega)]
        rfl
      refine rdStr_of hnm ?_
      have nl := name_len (n := n - 1) (by omega)
      unfold textOf at hq
      rw [hn, show (((n : Int) - 1).toNat) = n - 1 by omega, fold_join, ← Lib.join_cons] at hq
      generalize namesL.getD (n - 1) [] = nm at hq nl ⊢
      refine S4.al (fun sb g4 S5 => ?_)
      refine S5.rI i1 rfl ?_
      have hrs : rshape (n : Int) ≠ -1 := by
        have key : ∀ n : Fin 64, 1 ≤ n.val → n.val ≤ 48 → rshape ((n.val : Nat) : Int) ≠ -1 := by decide +kernel
        exact key ⟨n, by omega⟩ (by show 1 ≤ n; omega) (by show n ≤ 48; omega)
      rw [show (d.op : Int) = (n : Int) from hn]
      refine Order_asm (by omega) hrs (fun g5 k5 => ?_)
      have S6 := S5.keep k5
      intro it hit
      have S7 := S6.more hit (h' := g5.new it (.siter (ordOf (n : Int)) 0)) Heap.new_obj (Keeps.new hit _)
      unfold zf2.j6
      intro I HI
      have ol := ord_len (n := n) (by omega)
      rw [← hn] at S7
      have S8 : St h none_ [(sb, .cells ((nm :: ((ordOf (n : Int)).take 0).map (part d)).map V.str ++ []) false), (it, .siter (ordOf (n : Int)) 0), (b, .cells [.int .i64 d.op, .int .i64 d.rd, .int .i64 d.rs1, .int .i64 d.rs2, .int .i64 d.imm] false)] (g5.new it (.siter (ordOf (n : Int)) 0)) := by
        rw [hn] at S7
        refine St.pick (L' := [(sb, .cells ((nm :: ((ordOf (n : Int)).take 0).map (part d)).map V.str ++ []) false), (it, .siter (ordOf (n : Int)) 0), (b, .cells [.int .i64 d.op, .int .i64 d.rd, .int .i64 d.rs1, .int .i64 d.rs2, .int .i64 d.imm] false)]) S7 [1, 0, 2] (by decide) ?_
        rw [hn]; rfl
      exact loop_asm au.pow D (by omega) nl (ord_ascii (by omega)) HI (ordOf (n : Int)).length 0 (by omega) sb 1 [] false _ S8 (Nat.le_refl 1) rfl hq

end
end Go.Insn

set_option linter.unusedSimpArgs false
set_option linter.unusedVariables false
set_option maxRecDepth 100000
namespace Go.Asm
open Go.Lift Go.Fn Go.Insn

section
variable {h : Heap}

theorem HasPrefix1 {a : Str} {c : UInt8} {Q : Bool → Heap → Prop} (hq : Q (a.head? == some c) h) : zf22 a [c] Q h := by
  unfold zf22
  cases a with
  | nil => exact br_f (decide_eq_false (by simp)) hq
  | cons b d =>
    refine br_t (decide_eq_true (by simp only [List.length_cons, List.length_nil]; omega)) (sb_of (by simp) (by simp only [List.length_cons, List.length_nil]; omega) ?_)
    have e : (((b :: d).drop 0).take ((([c] : List UInt8).length : Int).toNat - 0) == [c]) = ((b :: d).head? == some c) := by
      show ([b] == [c]) = (some b == some c)
      by_cases hb : b = c
      · rw [hb]; simp
      · rw [beq_false_of_ne (fun e => hb (by injection e)), beq_false_of_ne (fun e => hb (Option.some.inj e))]
    rw [e]; exact hq

theorem TrimPrefix45 {a : Str} {Q : Str → Heap → Prop} (hq : Q (unsign a) h) : zf69 a [45] Q h := by
  unfold zf69 zf24
  refine HasPrefix1 ?_
  cases a with
  | nil => exact br_f rfl hq
  | cons b d =>
    by_cases hb : b = 45
    · subst hb
      refine br_t rfl (sb_of (by decide) (by simp only [List.length_cons, List.length_nil]; omega) ?_)
      show Q (d.take ((45 :: d : Str).length - 1)) h
      rw [List.take_of_length_le (by simp)]
      exact hq
    · have e : unsign (b :: d) = b :: d := if_neg (by simpa using hb)
      rw [e] at hq
      exact br_f (beq_false_of_ne (fun e => hb (Option.some.inj e))) hq

theorem CutPrefix120 {a : Str} {Q : Str → Bool → Heap → Prop} (h1 : ∀ d, a = 120 :: d → Q d true h) (h2 : a.head? ≠ some 120 → Q a false h) : zf60 a [120] Q h := by
  unfold zf60 zf21
  refine HasPrefix1 ?_
  cases a with
  | nil => exact br_t rfl (h2 (by simp))
  | cons b d =>
    by_cases hb : b = 120
    · subst hb
      refine br_f rfl (sb_of (by decide) (by simp only [List.length_cons, List.length_nil]; omega) ?_)
      show Q (d.take ((120 :: d : Str).length - 1)) true h
      rw [List.take_of_length_le (by simp)]
      exact h1 d rfl
    · exact br_t (by show (!(some b == some 120)) = true; rw [beq_false_of_ne (fun e => hb (Option.some.inj e))]; rfl) (h2 (fun e => hb (Option.some.inj e)))

theorem trim_of {s cs : Str} {κ : Str → Heap → Prop} (h1 : s.length ≤ 9223372036854775807) (h2 : cs.length < 4294967281) (h3 : ∀ b ∈ cs, b.toNat < 128) (hk : κ (Lib.trimS s cs) h) : zf68 s cs κ h := ⟨h1, h2, h3, hk⟩

theorem dropWhile_bad {p : UInt8 → Bool} : ∀ {l : Str}, l.all p = false → ∃ x ∈ l.dropWhile p, p x = false
  | [], h => by cases h
  | b :: l, h => by
    cases hb : p b with
    | true =>
      rw [List.all_cons, hb, Bool.true_and] at h
      obtain ⟨x, hx, hp⟩ := dropWhile_bad h
      exact ⟨x, by rw [List.dropWhile_cons, hb, if_pos rfl]; exact hx, hp⟩
    | false => exact ⟨b, by rw [List.dropWhile_cons, hb, if_neg (by decide)]; exact List.mem_cons_self, hb⟩

theorem dropWhile_all {p : UInt8 → Bool} : ∀ {l : Str}, l.all p = true → l.dropWhile p = []
  | [], _ => rfl
  | b :: l, h => by
    simp only [List.all_cons, Bool.and_eq_true] at h
    rw [List.dropWhile_cons, h.1, if_pos rfl]; exact dropWhile_all h.2

theorem trimS_nil (l cs : Str) : (Lib.trimS l cs == []) = l.all (cs.contains ·) := by
  unfold Lib.trimS Lib.trimLeftS Lib.trimRightS
  cases h : l.all (cs.contains ·) with
  | true =>
    have : l.reverse.all (cs.contains ·) = true := by rw [List.all_reverse]; exact h
    rw [dropWhile_all this]
    rfl
  | false =>
    have : l.reverse.all (cs.contains ·) = false := by rw [List.all_reverse]; exact h
    obtain ⟨x, hx, hp⟩ := dropWhile_bad this
    have h2 : ((l.reverse.dropWhile (cs.contains ·)).reverse).all (cs.contains ·) = false := by
      rw [List.all_eq_false]
      exact ⟨x, List.mem_reverse.2 hx, by rw [hp]; decide⟩
    obtain ⟨y, hy, _⟩ := dropWhile_bad h2
    exact beq_false_of_ne (List.ne_nil_of_mem hy)

theorem digits_all (l : Str) : l.all (([48, 49, 50, 51, 52, 53, 54, 55, 56, 57] : Str).contains ·) = l.all isDig := by
  congr 1
  funext b
  have key : ∀ b : Fin 256, ([48, 49, 50, 51, 52, 53, 54, 55, 56, 57] : Str).contains (UInt8.ofNat b.val) = isDig (UInt8.ofNat b.val) := by decide +kernel
  have := key ⟨b.toNat, b.toNat_lt⟩
  simpa using this

theorem names_all (l : Str) : l.all (([97, 98, 99, 100, 101, 102, 103, 104, 105, 106, 107, 108, 109, 110, 111, 112, 113, 114, 115, 116, 117, 118, 119, 120, 121, 122, 48, 49, 50, 51, 52, 53, 54, 55, 56, 57, 95] : Str).contains ·) = l.all nameCh := by
  congr 1
  funext b
  have key : ∀ b : Fin 256, ([97, 98, 99, 100, 101, 102, 103, 104, 105, 106, 107, 108, 109, 110, 111, 112, 113, 114, 115, 116, 117, 118, 119, 120, 121, 122, 48, 49, 50, 51, 52, 53, 54, 55, 56, 57, 95] : Str).contains (UInt8.ofNat b.val) = nameCh (UInt8.ofNat b.val) := by decide +kernel
  have := key ⟨b.toNat, b.toNat_lt⟩
  simpa using this

theorem decFrom_val : ∀ {d : Str} {v : Nat}, d.all isDig = true → Lib.decFrom v d = some (valGo v d)
  | [], v, _ => rfl
  | b :: d, v, h => by
    simp only [List.all_cons, Bool.and_eq_true] at h
    have hb := isDig_iff.1 h.1
    have e : Lib.digitVal b = some (b.toNat - 48) := by unfold Lib.digitVal; rw [if_pos hb]
    show (match Lib.digitVal b with | some d' => Lib.decFrom (v * 10 + d') d | none => none) = _
    rw [e]
    exact decFrom_val h.2

theorem atoi_num {s : Str} (h : numOk s = true) : Lib.atoi s = some (numVal s) := by
  unfold numOk at h
  simp only [Bool.and_eq_true, decide_eq_true_eq] at h
  obtain ⟨l1, _, _, ld⟩ := h
  have dn : ∀ {d : Str}, 1 ≤ d.length → d.all isDig = true → Lib.decNat d = some (valGo 0 d) := by
    intro d hl hd
    unfold Lib.decNat
    rw [if_neg (by cases d with | nil => simp at hl | cons _ _ => simp), decFrom_val hd]
  cases s with
  | nil => simp [unsign] at l1
  | cons b r =>
    unfold numVal
    show (if (b == 45) = true then (Lib.decNat r).map (fun (m : Nat) => -(m : Int)) else if (b == 43) = true then (Lib.decNat r).map (fun (m : Nat) => (m : Int)) else (Lib.decNat (b :: r)).map (fun (m : Nat) => (m : Int))) = _
    by_cases hb : (b == 45) = true
    · have eu : unsign (b :: r) = r := if_pos hb
      rw [eu] at l1 ld ⊢
      rw [if_pos hb, dn l1 ld]
      have : ((b :: r).getD 0 0 == 45) = true := hb
      rw [if_pos this]; rfl
    · have eu : unsign (b :: r) = b :: r := if_neg hb
      rw [eu] at l1 ld ⊢
      have h43 : ¬ (b == 43) = true := fun e => by
        simp only [List.all_cons, Bool.and_eq_true] at ld
        have := isDig_iff.1 ld.1
        rw [eq_of_beq e] at this
        exact absurd this.1 (by decide)
      rw [if_neg hb, if_neg h43, dn l1 ld]
      have : ¬ ((b :: r).getD 0 0 == 45) = true := hb
      rw [if_neg this]; rfl

theorem number_of {s : Str} (hl : s.length ≤ 1000000) {Q : Int → Bool → Heap → Prop} (hq : Q ((numOf s).getD 0) (numOf s).isSome h) : zf5 s Q h := by
  unfold zf5
  refine TrimPrefix45 ?_
  unfold numOf at hq
  have hno : numOk s = false → zf5.j3 Q h := by
    intro hf
    rw [if_neg (by rw [hf]; decide)] at hq
    exact hq
  have hul : (unsign s).length ≤ s.length := by
    cases s with
    | nil => simp [unsign]
    | cons b d =>
      show (if (b == 45) = true then d else b :: d).length ≤ _
      split <;> simp
  refine br_if (fun c => hno ?_) (fun c => ?_)
  · have := of_decide_eq_true c
    unfold numOk; rw [decide_eq_false (by omega)]; rfl
  have c := of_decide_eq_false c
  refine br_if (fun c => hno ?_) (fun c2 => ?_)
  · have := of_decide_eq_true c
    unfold numOk; rw [decide_eq_false (p := (unsign s).length ≤ 15) (by omega)]; simp
  have c2 := of_decide_eq_false c2
  refine trim_of (by omega) (by decide) (by decide) ?_
  rw [trimS_nil, digits_all]
  cases hd : (unsign s).all isDig with
  | false => exact br_t rfl (hno (by unfold numOk; rw [hd]; simp))
  | true =>
    refine br_f rfl (ix_of (by omega) (by omega) ?_)
    rw [show ((((unsign s).getD (Int.toNat 0) 0).toNat : Int) == 48) = ((unsign s).getD 0 0 == 48) from u8eq (b := (unsign s).getD 0 0) (n := 48) (by decide)]
    have hj4 : ((unsign s).getD 0 0 == 48 && s != [48]) = false → zf5.j4 s Q h := by
      intro hz
      have ho : numOk s = true := by
        unfold numOk
        rw [hd, hz, decide_eq_true (by omega), decide_eq_true (by omega)]; rfl
      rw [if_pos ho] at hq
      unfold zf5.j4 zf56 atoiI
      refine ⟨?_, numVal s, atoi_num ho, hq⟩
      cases s with
      | nil => simp
      | cons b d =>
        have : (b :: d).length ≤ (unsign (b :: d)).length + 1 := by
          show _ ≤ (if (b == 45) = true then d else b :: d).length + 1
          split <;> simp
        omega
    refine br_if (fun c3 => ?_) (fun c3 => hj4 (by rw [c3]; rfl))
    refine br_if (fun c4 => hno ?_) (fun c4 => hj4 ?_)
    · have hne : (s != [48]) = true := by rw [bne_iff_ne]; intro e; rw [e] at c4; simp at c4
      unfold numOk; rw [c3, hne]; simp
    · have : s = [48] := by
        have : (s == [48]) = true := by simpa using c4
        exact eq_of_beq this
      rw [this]; simp

theorem register_of {s : Str} (hl : s.length ≤ 1000000) {Q : Int → Bool → Heap → Prop} (h1 : 0 ≤ regOf s → Q (regOf s) true h) (h2 : regOf s < 0 → ∀ v, Q v false h) : zf13 s Q h := by
  unfold zf13
  refine CutPrefix120 (fun d hd => ?_) (fun hd => ?_)
  · subst hd
    refine number_of (by simp at hl; omega) ?_
    have e : regOf (120 :: d) = regV (numOf d) := rfl
    rw [e] at h1 h2
    refine br_t rfl ?_
    cases hn : numOf d with
    | none => rw [hn] at h2; exact br_f rfl (h2 (by decide) _)
    | some v =>
      rw [hn] at h1 h2
      unfold regV at h1 h2
      simp only [Option.getD_some, Option.isSome_some] at h1 h2 ⊢
      refine br_t rfl ?_
      by_cases hv : 0 ≤ v ∧ v ≤ 15
      · rw [if_pos hv] at h1
        refine br_t (decide_eq_true hv.1) ?_
        rw [decide_eq_true hv.2]; exact h1 hv.1
      · rw [if_neg hv] at h2
        refine br_if (fun c => ?_) (fun c => h2 (by decide) _)
        have := of_decide_eq_true c
        rw [decide_eq_false (fun hh => hv ⟨by omega, hh⟩)]; exact h2 (by decide) _
  · have e : regOf s = -1 := by
      cases s with
      | nil => rfl
      | cons b d =>
        have hb : b ≠ 120 := fun e => hd (by rw [e]; rfl)
        exact if_neg (by simpa using hb)
    rw [e] at h2
    exact number_of hl (br_f rfl (h2 (by decide) _))

theorem isName_of {s : Str} (hl : s.length ≤ 1000000) {Q : Bool → Heap → Prop} (hq : Q (nameOk s) h) : zf4 s Q h := by
  unfold zf4
  have hno : nameOk s = false → Q false h := fun e => by rw [e] at hq; exact hq
  refine register_of hl (fun h0 => br_f rfl (hno ?_)) (fun h0 v => br_t rfl ?_)
  · unfold nameOk; rw [decide_eq_false (p := regOf s < 0) (by omega)]; simp
  cases s with
  | nil => exact br_f rfl (hno rfl)
  | cons b d =>
    refine br_t rfl (br_if (fun c => ?_) (fun c => hno ?_))
    · refine trim_of (by omega) (by decide) (by decide) ?_
      rw [trimS_nil, names_all]
      cases ha : (b :: d).all nameCh with
      | false => exact br_f rfl (hno (by unfold nameOk; rw [ha]; simp))
      | true =>
        refine br_t rfl (ix_of (by omega) (by simp only [List.length_cons]; omega) ?_)
        have c := of_decide_eq_true c
        have ev : nameOk (b :: d) = !isDig b := by
          unfold nameOk
          rw [ha, decide_eq_true (p := 1 ≤ (b :: d).length) (by simp), decide_eq_true (p := (b :: d).length ≤ 30) (by omega), decide_eq_true (p := regOf (b :: d) < 0) h0]
          simp
        rw [ev] at hq
        have e0 : ((b :: d).getD (Int.toNat 0) 0) = b := rfl
        rw [e0]
        refine br_if (fun c3 => ?_) (fun c3 => ix_of (by omega) (by simp only [List.length_cons]; omega) ?_)
        · have := of_decide_eq_true c3
          have hf : isDig b = false := by unfold isDig; rw [decide_eq_false (by omega)]; rfl
          rw [hf] at hq; exact hq
        · have c3 := of_decide_eq_false c3
          rw [e0]
          have ed : decide (((b.toNat : Nat) : Int) > 57) = !isDig b := by
            unfold isDig
            rw [decide_eq_true (p := 48 ≤ b.toNat) (by omega), Bool.true_and, ← decide_not, decide_eq_decide]
            omega
          rw [ed]; exact hq
    · have := of_decide_eq_false c
      unfold nameOk; rw [decide_eq_false (p := (b :: d).length ≤ 30) (by omega)]; simp

end
end Go.Asm

set_option linter.unusedSimpArgs false
set_option linter.unusedVariables false
set_option maxRecDepth 100000
namespace Go.Asm
open Go.Lift Go.Fn Go.Insn

theorem mfind_mput {m m' : Str} {v : V} : ∀ {es : List (V × V)}, mfind (.str m) (mput (.str m') v es) = if m = m' then some v else mfind (.str m) es
  | [] => by
    simp only [mput, mfind, keq]
    by_cases e : m = m'
    · rw [if_pos e, e, beq_self_eq_true]; rfl
    · rw [if_neg e, beq_false_of_ne e]; rfl
  | (k, u) :: es => by
    simp only [mput]
    cases hk : keq (.str m') k with
    | true =>
      cases k with
      | str s =>
        have hs : m' = s := by simpa [keq] using hk
        subst hs
        simp only [cond_true, mfind, keq]
        by_cases e : m = m'
        · rw [if_pos e, e, beq_self_eq_true]; rfl
        · rw [if_neg e, beq_false_of_ne e]; rfl
      | _ => simp [keq] at hk
    | false =>
      simp only [cond_false, mfind]
      rw [mfind_mput (es := es)]
      by_cases e : m = m'
      · rw [if_pos e, if_pos e, e, hk]; rfl
      · rw [if_neg e, if_neg e]

/-- The operations' map, n of them put in. -/
def OpsMap (n : Nat) (es : List (V × V)) : Prop := ∀ s : Str, mfind (.str s) es = if namesL.idxOf s < n then some (.int .i64 ((namesL.idxOf s + 1 : Nat) : Int)) else none

theorem names_idx {i : Nat} (hi : i < 48) : namesL.idxOf (namesL.getD i []) = i := by
  have key : ∀ i : Fin 48, namesL.idxOf (namesL.getD i.val []) = i.val := by decide +kernel
  exact key ⟨i, hi⟩

theorem ops_put {n : Nat} (hn : n < 48) {es : List (V × V)} (h : OpsMap n es) : OpsMap (n + 1) (mput (.str (namesL.getD n [])) (.int .i64 ((n + 1 : Nat) : Int)) es) := by
  intro s
  rw [mfind_mput]
  by_cases e : s = namesL.getD n []
  · rw [if_pos e, e, names_idx hn, if_pos (by omega)]
  · rw [if_neg e, h s]
    have hne : namesL.idxOf s ≠ n := by
      intro hi
      have hlt : namesL.idxOf s < namesL.length := by rw [names_len]; omega
      have := List.getElem_idxOf hlt
      apply e
      rw [List.getD_eq_getElem?_getD, ← hi, List.getElem?_eq_getElem hlt, this]; rfl
    by_cases h1 : namesL.idxOf s < n
    · rw [if_pos h1, if_pos (by omega)]
    · rw [if_neg h1, if_neg (by omega)]

theorem putO_map {ks : Sh} {es : List (V × V)} {bs : List Nat} {c : Nat} {k v : V} : ∃ bs' c', putO ks es bs c k v = .map ks (mput k v es) bs' c' := by
  unfold putO
  split
  · exact ⟨_, _, rfl⟩
  · exact ⟨_, _, rfl⟩

section
variable {U : Ifc} {h g : Heap}

theorem operations_of (asc : ∀ c : Nat, c < 256 → h.get (U.glob 4) c = some (.int .u8 (if Lib.isSp (UInt8.ofNat c) then 1 else 0))) {Q : Option Nat → Heap → Prop}
    (hq : ∀ mb es bs c g, Keeps none_ h g → g.obj mb = some (.map .str es bs c) → OpsMap 48 es → Q (some mb) g) : zf7 U Q h := by
  unfold zf7
  refine (St.start h none_).alM (fun mb g1 S1 => ?_)
  unfold zf61
  refine ⟨namesTxt_len, names_ascii, fun c hc => ?_, fun nb hb => ?_⟩
  · have hg := asc c hc
    have hn : h.obj (U.glob 4) ≠ none := by intro hn; unfold Heap.get at hg; rw [hn] at hg; cases hg
    rw [Heap.get_obj (S1.keeps.same _ hn (fun f => f))]; exact hg
  have fe : Lib.fields ([97, 100, 100, 32, 115, 117, 98, 32, 97, 110, 100, 32, 111, 114, 32, 120, 111, 114, 32, 115, 108, 108, 32, 115, 114, 108, 32, 115, 114, 97, 32, 115, 108, 116, 32, 115, 108, 116, 117, 32, 109, 117, 108, 32, 100, 105, 118, 117, 32, 114, 101, 109, 117, 32, 97, 100, 100, 105, 32, 97, 110, 100, 105, 32, 111, 114, 105, 32, 120, 111, 114, 105, 32, 115, 108, 108, 105, 32, 115, 114, 108, 105, 32, 115, 114, 97, 105, 32, 115, 108, 116, 105, 32, 108, 117, 105, 32, 108, 100, 32, 108, 119, 32, 108, 98, 32, 115, 100, 32, 115, 119, 32, 115, 98, 32, 98, 101, 113, 32, 98, 110, 101, 32, 98, 108, 116, 32, 98, 103, 101, 32, 98, 108, 116, 117, 32, 98, 103, 101, 117, 32, 106, 97, 108, 32, 106, 97, 108, 114, 32, 108, 114, 32, 115, 99, 32, 97, 109, 111, 97, 100, 100, 32, 97, 109, 111, 115, 119, 112, 32, 102, 101, 110, 99, 101, 32, 101, 99, 97, 108, 108, 32, 115, 114, 101, 116, 32, 119, 102, 105, 32, 115, 102, 101, 110, 99, 101, 32, 99, 115, 114, 114, 119, 32, 99, 115, 114, 114, 115, 32, 99, 115, 114, 114, 99] : List UInt8) = namesL := fields_names
  rw [fe, names_len]
  have S2 := S1.more hb (h' := g1.new nb (.cells (namesL.map V.str) false)) Heap.new_obj (Keeps.new hb _)
  unfold zf7.j3
  intro I H
  have main : ∀ d i es bs c g, i + d = 48 → St h none_ [(nb, .cells (namesL.map V.str) false), (mb, .map .str es bs c)] g → OpsMap i es → I (some mb) ⟨some ⟨nb, 0⟩, 48, 48⟩ ((48 : Nat) : Int) (i : Int) g := by
    intro d
    induction d with
    | zero =>
      intro i es bs c g hi S hm
      have : i = 48 := by omega
      subst this
      refine H _ _ _ _ _ ?_
      unfold zf7.b3
      exact br_f rfl (hq mb es bs c g S.keeps (S.obj i1) hm)
    | succ d ih =>
      intro i es bs c g hi S hm
      refine H _ _ _ _ _ ?_
      unfold zf7.b3
      refine br_t (decide_eq_true (by omega)) (ix_of (by omega) (by show (i : Int) < 48; omega) ?_)
      rw [der_some, Int.toNat_natCast]
      have hl : i < namesL.length := by rw [names_len]; omega
      refine S.rS (i := 0) (x := namesL.getD i []) rfl (by
        show (namesL.map V.str)[0 + i * 1]? = _
        rw [Nat.zero_add, Nat.mul_one, List.getElem?_map, List.getD_eq_getElem?_getD, List.getElem?_eq_getElem hl]; rfl) ?_
      rw [wrap64 (x := (i : Int) + 1) (by omega) (by omega)]
      refine S.mapPut i1 (fun g2 S2 => ?_)
      obtain ⟨bs', c', e⟩ := putO_map (ks := .str) (es := es) (bs := bs) (c := c) (k := .str (namesL.getD i [])) (v := .int .i64 ((i : Int) + 1))
      rw [e] at S2
      exact ih (i + 1) _ bs' c' g2 (by omega) S2 (ops_put (by omega) hm)
  exact main 48 0 [] [] 0 _ rfl S2 (fun s => rfl)

theorem ops_find {es : List (V × V)} (h : OpsMap 48 es) (s : Str) : mfind (.str s) es = if opOf s = 0 then none else some (.int .i64 (opOf s : Int)) := by
  rw [h s]
  unfold opOf
  by_cases h1 : namesL.idxOf s < 48
  · rw [if_pos h1, if_pos h1, if_neg (by omega)]
  · rw [if_neg h1, if_neg h1, if_pos rfl]

theorem Order_zero {Q : Str → Heap → Prop} (hq : ∀ h', Keeps none_ h h' → Q [] h') : zf8 0 Q h := by
  unfold zf8
  refine Shape_of (fun g1 k1 => ?_)
  have hs : shapeOf 0 = none := by decide +kernel
  rw [hs]
  refine br_f rfl (br_f rfl (al_of (fun b3 g3 hb3 ho3 k3 => ?_)))
  refine Contains_of (ks := [23, 24, 25, 36, 46, 47, 48]) (rest := []) (mk := false) (by rw [List.append_nil]; exact ho3) rfl (by decide) 0 ?_
  rw [decide_eq_false (by decide)]
  refine br_f rfl (al_of (fun b5 g5 hb5 ho5 k5 => ?_))
  refine ix_of (by decide) (by decide) ?_
  have hg : g5.get b5 (0 + 0 * 1) = some (.str []) := by rw [get_cells ho5]; rfl
  exact rdStr_of hg (hq g5 ((k1.trans k3).trans k5))

/-- What operands come to, in the program. -/
def opP (Q : Int → Int → Int → Int → Int → Str → Bool → Heap → Prop) (g : Heap) : Option (Ins × Str) → Prop
  | some (x, want) => Q x.op x.rd x.rs1 x.rs2 x.imm want true g
  | none => ∀ x1 x2 x3 x4 x5 w, Q x1 x2 x3 x4 x5 w false g

def insL (op rd rs1 rs2 imm : Int) : List V := [.int .i64 op, .int .i64 rd, .int .i64 rs1, .int .i64 rs2, .int .i64 imm]

theorem rd5 {b : Nat} {l : List V} {op rd rs1 rs2 imm : Int} {mk : Bool} {p0 p1 p2 p3 p4 : Ptr} (hl : l.take 5 = insL op rd rs1 rs2 imm) (e0 : p0 = ⟨b, 0⟩) (e1 : p1 = ⟨b, 1⟩) (e2 : p2 = ⟨b, 2⟩) (e3 : p3 = ⟨b, 3⟩) (e4 : p4 = ⟨b, 4⟩)
    {κ : Int → Int → Int → Int → Int → Prop} (S : g.obj b = some (.cells l mk)) (hk : κ op rd rs1 rs2 imm) :
    rdI .i64 p0 (fun x1 => rdI .i64 p1 (fun x2 => rdI .i64 p2 (fun x3 => rdI .i64 p3 (fun x4 => rdI .i64 p4 (fun x5 => κ x1 x2 x3 x4 x5) g) g) g) g) g := by
  subst e0 e1 e2 e3 e4
  have hg : ∀ j : Nat, j < 5 → l[j]? = (insL op rd rs1 rs2 imm)[j]? := by
    intro j hj
    rw [← hl, List.getElem?_take_of_lt hj]
  exact loc_I S ((hg 0 (by decide)).trans rfl) (loc_I S ((hg 1 (by decide)).trans rfl) (loc_I S ((hg 2 (by decide)).trans rfl) (loc_I S ((hg 3 (by decide)).trans rfl) (loc_I S ((hg 4 (by decide)).trans rfl) hk))))

/-- An instruction is read, written where it stands, and read. -/
theorem same5 {b : Nat} {L : List (Nat × HO)} {i : Nat} {op rd rs1 rs2 imm : Int} (S : St h none_ L g) (hi : L[i]? = some (b, .cells (insL op rd rs1 rs2 imm) false)) {κ : Int → Int → Int → Int → Int → Heap → Prop} (hk : ∀ g', Keeps none_ h g' → κ op rd rs1 rs2 imm g') :
    rdI .i64 ((⟨b, 0⟩ : Ptr).add 0) (fun x1 => rdI .i64 ((⟨b, 0⟩ : Ptr).add 1) (fun x2 => rdI .i64 ((⟨b, 0⟩ : Ptr).add 2) (fun x3 => rdI .i64 ((⟨b, 0⟩ : Ptr).add 3) (fun x4 => rdI .i64 ((⟨b, 0⟩ : Ptr).add 4) (fun x5 =>
      wrL [.int .i64 x1, .int .i64 x2, .int .i64 x3, .int .i64 x4, .int .i64 x5] (⟨b, 0⟩ : Ptr) 0 (fun h => rdI .i64 ((⟨b, 0⟩ : Ptr).add 0) (fun x1 => rdI .i64 ((⟨b, 0⟩ : Ptr).add 1) (fun x2 => rdI .i64 ((⟨b, 0⟩ : Ptr).add 2) (fun x3 => rdI .i64 ((⟨b, 0⟩ : Ptr).add 3) (fun x4 => rdI .i64 ((⟨b, 0⟩ : Ptr).add 4) (fun x5 => κ x1 x2 x3 x4 x5 h) h) h) h) h) h) g) g) g) g) g) g := by
  refine rd5 rfl rfl rfl rfl rfl rfl (S.obj hi) (S.wrL hi (Nat.le_refl 5) (fun g' S' => ?_))
  have hil : i < L.length := by
    rcases Nat.lt_or_ge i L.length with h1 | h1
    · exact h1
    · rw [List.getElem?_eq_none h1] at hi; cases hi
  exact rd5 (l := splice (insL op rd rs1 rs2 imm) 0 (insL op rd rs1 rs2 imm)) rfl rfl rfl rfl rfl rfl (S'.obj (b := b) (x := .cells (splice (insL op rd rs1 rs2 imm) 0 (insL op rd rs1 rs2 imm)) false) (by rw [List.getElem?_set_self hil]; rfl)) (hk g' S'.keeps)


theorem operands_of_loop {n : Nat} (hn : n < 64) {ws : List Str} {sl : Sl} (W : Words h sl ws) (hws : ∀ w ∈ ws, w.length ≤ 1000000) {Q : Int → Int → Int → Int → Int → Str → Bool → Heap → Prop} {b1 fb it : Nat} {bs : List Nat} {c : Nat} {I : Sl → Ptr → Str → Option Nat → Ptr → Heap → Prop}
    (H : ∀ a1 a2 a3 a4 a5 h, zf6.b7 I a1 a2 a3 a4 a5 Q h → I a1 a2 a3 a4 a5 h) (hol : (ordOf (n : Int)).length = ws.length) :
    ∀ (cs : List UInt8) (ws' : List Str) (i : Nat) (x : Ins) (want : Str) (g : Heap), (ordOf (n : Int)).drop i = cs → ws.drop i = ws' → i ≤ ws.length → St h none_ [(it, .siter (ordOf (n : Int)) i), (fb, .map (.int .i32) [(.int .i32 100, .ptr (some ⟨b1, 1⟩)), (.int .i32 97, .ptr (some ⟨b1, 2⟩)), (.int .i32 98, .ptr (some ⟨b1, 3⟩))] bs c), (b1, .cells (insL x.op x.rd x.rs1 x.rs2 x.imm) false)] g → (∀ g', Keeps none_ h g' → opP Q g' (opnds cs ws' x want)) → I sl ⟨b1, 0⟩ want (some fb) ⟨it, 0⟩ g := by
  have hol3 := ord_len (n := n) hn
  have hasc := ord_ascii (n := n) hn
  intro cs
  induction cs with
  | nil =>
    intro ws' i x want g hd hw hi S hq
    refine H _ _ _ _ _ _ ?_
    unfold zf6.b7
    have := drop_nil hd
    have hwn : ws' = [] := by rw [← hw]; exact List.drop_eq_nil_of_le (by omega)
    subst hwn
    refine ⟨rfl, _, i, S.obj i0, ?_⟩
    rw [if_neg (by omega)]
    exact same5 S i2 hq
  | cons c' cs ih =>
    intro ws' i x want g hd hw hi S hq
    obtain ⟨hlt, hc, hr⟩ := drop_cons hd
    have hlt2 : i < ws.length := by omega
    obtain ⟨w, ws2, rfl⟩ : ∃ w ws2, ws' = w :: ws2 := by
      rw [List.drop_eq_getElem_cons hlt2] at hw
      exact ⟨_, _, hw.symm⟩
    have hwi : ws[i]? = some w := by
      rw [List.drop_eq_getElem_cons hlt2] at hw
      injection hw with h1 h2
      rw [List.getElem?_eq_getElem hlt2, h1]
    have hw2 : ws.drop (i + 1) = ws2 := by
      rw [List.drop_eq_getElem_cons hlt2] at hw
      injection hw with h1 h2
    have hwl := hws w (List.mem_of_getElem? hwi)
    refine H _ _ _ _ _ _ ?_
    unfold zf6.b7
    refine ⟨rfl, _, i, S.obj i0, ?_⟩
    rw [if_pos (by omega), rune_ascii (by omega) (hasc i (by omega)), hc]
    have S1 : St h none_ [(it, .siter (ordOf (n : Int)) (i + 1)), (fb, .map (.int .i32) [(.int .i32 100, .ptr (some ⟨b1, 1⟩)), (.int .i32 97, .ptr (some ⟨b1, 2⟩)), (.int .i32 98, .ptr (some ⟨b1, 3⟩))] bs c), (b1, .cells (insL x.op x.rd x.rs1 x.rs2 x.imm) false)] (g.setO it (.siter (ordOf (n : Int)) (i + 1))) := S.put i0 (by simp [Heap.setO]) (Keeps.setO (S.obj i0))
    generalize g.setO it (.siter (ordOf (n : Int)) (i + 1)) = g1 at S1 ⊢
    refine S1.mapGet i1 ?_
    rw [opnds_cons] at hq
    have bad : ∀ (x' : Ins) (g' : Heap), opnd x want c' w = none → St h none_ [(it, .siter (ordOf (n : Int)) (i + 1)), (fb, .map (.int .i32) [(.int .i32 100, .ptr (some ⟨b1, 1⟩)), (.int .i32 97, .ptr (some ⟨b1, 2⟩)), (.int .i32 98, .ptr (some ⟨b1, 3⟩))] bs c), (b1, .cells (insL x'.op x'.rd x'.rs1 x'.rs2 x'.imm) false)] g' → ∀ g2, Keeps none_ h g2 → ∀ x1 x2 x3 x4 x5 w, Q x1 x2 x3 x4 x5 w false g2 := by
      intro x' g' ho S' g2 k2 x1 x2 x3 x4 x5 w
      rw [ho] at hq
      exact hq g2 k2 _ _ _ _ _ _
    have good : ∀ (x' : Ins) (want' : Str) (g' : Heap), opnd x want c' w = some (x', want') → St h none_ [(it, .siter (ordOf (n : Int)) (i + 1)), (fb, .map (.int .i32) [(.int .i32 100, .ptr (some ⟨b1, 1⟩)), (.int .i32 97, .ptr (some ⟨b1, 2⟩)), (.int .i32 98, .ptr (some ⟨b1, 3⟩))] bs c), (b1, .cells (insL x'.op x'.rd x'.rs1 x'.rs2 x'.imm) false)] g' → I sl ⟨b1, 0⟩ want' (some fb) ⟨it, 0⟩ g' := by
      intro x' want' g' ho S'
      rw [ho] at hq
      exact ih ws2 (i + 1) x' want' g' hr hw2 (by omega) S' hq
    clear hq
    have regs : ∀ (x' : Ins) (g' : Heap) (e : Bool), (opnd x want c' w = if regOf w < 0 then none else some (x', want)) → (e = true → 0 ≤ regOf w) → (e = false → regOf w < 0) → St h none_ [(it, .siter (ordOf (n : Int)) (i + 1)), (fb, .map (.int .i32) [(.int .i32 100, .ptr (some ⟨b1, 1⟩)), (.int .i32 97, .ptr (some ⟨b1, 2⟩)), (.int .i32 98, .ptr (some ⟨b1, 3⟩))] bs c), (b1, .cells (insL x'.op x'.rd x'.rs1 x'.rs2 x'.imm) false)] g' → zf6.j12 I sl ⟨b1, 0⟩ want e (some fb) ⟨it, 0⟩ Q g' := by
      intro x' g' e ho h1 h2 S'
      unfold zf6.j12
      cases e with
      | false =>
        rw [if_pos (h2 rfl)] at ho
        exact br_t rfl (same5 (κ := fun x1 x2 x3 x4 x5 h => Q x1 x2 x3 x4 x5 [] false h) S' i2 (fun g2 k2 => bad x' g' ho S' g2 k2 _ _ _ _ _ _))
      | true =>
        rw [if_neg (by have := h1 rfl; omega)] at ho
        exact br_f rfl (good x' want g' ho S')
    -- a number, then perhaps a mark
    have num : c' = 105 ∨ c' = 109 → ix (i : Int) sl.len (fun n21 => der sl.p (fun p22 => rdStr (p22.add (n21 * 1)) (fun x23 => zf5 x23 (fun r24 r25 h => wr ((⟨b1, 0⟩ : Ptr).add 4) (.int .i64 r24) (fun h => zf6.j15 I sl ⟨b1, 0⟩ want r25 (some fb) (i : Int) ((c'.toNat : Nat) : Int) ⟨it, 0⟩ Q h) h) g1) g1)) := by
      intro hcc
      refine (W.keep S1.keeps).ixrd rfl hwi (number_of hwl (S1.wr i2 rfl (fun g2 S2 => ?_)))
      unfold zf6.j15 zf6.j16 zf6.j17
      cases hnum : numOf w with
      | some v =>
        rw [hnum] at S2
        have ho : opnd x want c' w = some (⟨x.op, x.rd, x.rs1, x.rs2, v⟩, want) := by
          rcases hcc with rfl | rfl
          · rw [opnd_i, hnum]
          · rw [opnd_m, hnum]
        exact br_f rfl (br_f rfl (good ⟨x.op, x.rd, x.rs1, x.rs2, v⟩ want g2 ho S2))
      | none =>
        rw [hnum] at S2
        have S2 : St h none_ [(it, .siter (ordOf (n : Int)) (i + 1)), (fb, .map (.int .i32) [(.int .i32 100, .ptr (some ⟨b1, 1⟩)), (.int .i32 97, .ptr (some ⟨b1, 2⟩)), (.int .i32 98, .ptr (some ⟨b1, 3⟩))] bs c), (b1, .cells (insL (⟨x.op, x.rd, x.rs1, x.rs2, 0⟩ : Ins).op (⟨x.op, x.rd, x.rs1, x.rs2, 0⟩ : Ins).rd (⟨x.op, x.rd, x.rs1, x.rs2, 0⟩ : Ins).rs1 (⟨x.op, x.rd, x.rs1, x.rs2, 0⟩ : Ins).rs2 (⟨x.op, x.rd, x.rs1, x.rs2, 0⟩ : Ins).imm) false)] g2 := S2
        refine br_t rfl ?_
        rcases hcc with rfl | rfl
        · have ho : opnd x want 105 w = none := by rw [opnd_i, hnum]
          exact br_t rfl (same5 (κ := fun x1 x2 x3 x4 x5 h => Q x1 x2 x3 x4 x5 [] false h) S2 i2 (fun g3 k3 => bad ⟨x.op, x.rd, x.rs1, x.rs2, 0⟩ g2 ho S2 g3 k3 _ _ _ _ _ _))
        · refine br_f rfl ((W.keep S2.keeps).ixrd rfl hwi (isName_of hwl ?_))
          cases hnm : nameOk w with
          | false =>
            have ho : opnd x want 109 w = none := by rw [opnd_m, hnum, hnm]; rfl
            exact br_t rfl (same5 (κ := fun x1 x2 x3 x4 x5 h => Q x1 x2 x3 x4 x5 [] false h) S2 i2 (fun g3 k3 => bad ⟨x.op, x.rd, x.rs1, x.rs2, 0⟩ g2 ho S2 g3 k3 _ _ _ _ _ _))
          | true =>
            have ho : opnd x want 109 w = some (⟨x.op, x.rd, x.rs1, x.rs2, 0⟩, w) := by rw [opnd_m, hnum, hnm]; rfl
            exact br_f rfl (br_t rfl ((W.keep S2.keeps).ixrd rfl hwi (good ⟨x.op, x.rd, x.rs1, x.rs2, 0⟩ w g2 ho S2)))
    rcases ord_chars hn c' (by rw [← hc, List.getD_eq_getElem?_getD, List.getElem?_eq_getElem hlt]; exact List.getElem_mem hlt) with rfl | rfl | rfl | rfl | rfl
    · refine asP_of (x := some ⟨b1, 1⟩) (br_t rfl ((W.keep S1.keeps).ixrd rfl hwi (register_of hwl (fun h0 => ?_) (fun h0 v => ?_))))
      · exact S1.wr i2 rfl (fun g2 S2 => regs ⟨x.op, regOf w, x.rs1, x.rs2, x.imm⟩ g2 true (opnd_d x want w) (fun _ => h0) (fun e => by cases e) S2)
      · exact S1.wr i2 rfl (fun g2 S2 => regs ⟨x.op, v, x.rs1, x.rs2, x.imm⟩ g2 false ((opnd_d x want w).trans (by rw [if_pos h0, if_pos h0])) (fun e => by cases e) (fun _ => h0) S2)
    · refine asP_of (x := some ⟨b1, 2⟩) (br_t rfl ((W.keep S1.keeps).ixrd rfl hwi (register_of hwl (fun h0 => ?_) (fun h0 v => ?_))))
      · exact S1.wr i2 rfl (fun g2 S2 => regs ⟨x.op, x.rd, regOf w, x.rs2, x.imm⟩ g2 true (opnd_a x want w) (fun _ => h0) (fun e => by cases e) S2)
      · exact S1.wr i2 rfl (fun g2 S2 => regs ⟨x.op, x.rd, v, x.rs2, x.imm⟩ g2 false ((opnd_a x want w).trans (by rw [if_pos h0, if_pos h0])) (fun e => by cases e) (fun _ => h0) S2)
    · refine asP_of (x := some ⟨b1, 3⟩) (br_t rfl ((W.keep S1.keeps).ixrd rfl hwi (register_of hwl (fun h0 => ?_) (fun h0 v => ?_))))
      · exact S1.wr i2 rfl (fun g2 S2 => regs ⟨x.op, x.rd, x.rs1, regOf w, x.imm⟩ g2 true (opnd_b x want w) (fun _ => h0) (fun e => by cases e) S2)
      · exact S1.wr i2 rfl (fun g2 S2 => regs ⟨x.op, x.rd, x.rs1, v, x.imm⟩ g2 false ((opnd_b x want w).trans (by rw [if_pos h0, if_pos h0])) (fun e => by cases e) (fun _ => h0) S2)
    · exact asP_of (x := none) (br_f rfl (num (.inl rfl)))
    · exact asP_of (x := none) (br_f rfl (num (.inr rfl)))

theorem operands_of {n : Nat} (hn : n ≤ 48) {ws : List Str} {sl : Sl} (W : Words h sl ws) (hws : ∀ w ∈ ws, w.length ≤ 1000000) {Q : Int → Int → Int → Int → Int → Str → Bool → Heap → Prop}
    (hq : n ≠ 0 → ∀ g', Keeps none_ h g' → opP Q g' (opnds (ordOf (n : Int)) ws ⟨n, 0, 0, 0, 0⟩ [])) (hq0 : n = 0 → ∀ g', Keeps none_ h g' → ∀ x1 x2 x3 x4 x5 w e, Q x1 x2 x3 x4 x5 w e g') : zf6 (n : Int) sl Q h := by
  unfold zf6
  refine (St.start h none_).al (fun b1 g1 S1 => S1.wr i0 rfl (fun g2 S2 => ?_))
  have S2 : St h none_ [(b1, .cells (insL (n : Int) 0 0 0 0) false)] g2 := S2
  have go : ∀ {o : Str} {R : Option (Ins × Str)}, (∀ i, i < o.length → (o.getD i 0).toNat < 128) → True := fun _ => trivial
  by_cases h0 : n = 0
  · subst h0
    refine Order_zero (fun g3 k3 => ?_)
    have S3 := S2.keep k3
    by_cases hl : ws.length = 0
    · have e : (((sl.len : Nat) : Int) != (([] : Str).length : Int)) = false := by rw [bne_eq_false_iff_eq, W.len, hl]; rfl
      refine br_f e (S3.alM (fun fb g4 S4 => S4.mapPut i0 (fun g5 S5 => S5.mapPut i0 (fun g6 S6 => S6.mapPut i0 (fun g7 S7 it hit => ?_)))))
      have S8 := S7.more hit (h' := g7.new it (.siter [] 0)) Heap.new_obj (Keeps.new hit _)
      unfold zf6.j7
      intro I H
      refine H _ _ _ _ _ _ ?_
      unfold zf6.b7
      refine ⟨rfl, [], 0, Heap.new_obj, ?_⟩
      rw [if_neg (by decide)]
      exact same5 (κ := fun x1 x2 x3 x4 x5 h => Q x1 x2 x3 x4 x5 [] true h) S8 (i := 2) rfl (fun g' k' => hq0 rfl g' k' _ _ _ _ _ _ _)
    · have e : (((sl.len : Nat) : Int) != (([] : Str).length : Int)) = true := by rw [bne_iff_ne, W.len]; simp only [List.length_nil]; omega
      exact br_t e (same5 (κ := fun x1 x2 x3 x4 x5 h => Q x1 x2 x3 x4 x5 [] false h) S3 i0 (fun g' k' => hq0 rfl g' k' _ _ _ _ _ _ _))
  · have hrs : rshape (n : Int) ≠ -1 := by
      have key : ∀ n : Fin 64, 1 ≤ n.val → n.val ≤ 48 → rshape ((n.val : Nat) : Int) ≠ -1 := by decide +kernel
      exact key ⟨n, by omega⟩ (by show 1 ≤ n; omega) (by show n ≤ 48; omega)
    refine Order_asm (by omega) hrs (fun g3 k3 => ?_)
    have S3 := S2.keep k3
    have hq := hq h0
    by_cases hl : (ordOf (n : Int)).length = ws.length
    · refine br_f (by rw [bne_eq_false_iff_eq, W.len]; omega) (S3.alM (fun fb g4 S4 => S4.mapPut i0 (fun g5 S5 => S5.mapPut i0 (fun g6 S6 => S6.mapPut i0 (fun g7 S7 it hit => ?_)))))
      have S8 := S7.more hit (h' := g7.new it (.siter (ordOf (n : Int)) 0)) Heap.new_obj (Keeps.new hit _)
      unfold zf6.j7
      intro I H
      exact operands_of_loop (bs := [0, 1, 2]) (c := 3) (by omega) W hws H hl (ordOf (n : Int)) ws 0 ⟨n, 0, 0, 0, 0⟩ [] _ rfl rfl (by omega) S8 hq
    · refine br_t (by rw [bne_iff_ne, W.len]; omega) ?_
      rw [opnds_len hl] at hq
      exact same5 (κ := fun x1 x2 x3 x4 x5 h => Q x1 x2 x3 x4 x5 [] false h) S3 i0 (fun g' k' => hq g' k' _ _ _ _ _ _)

end
end Go.Asm

set_option linter.unusedSimpArgs false
set_option linter.unusedVariables false
set_option maxRecDepth 100000
namespace Go.Asm
open Go.Lift Go.Fn Go.Insn

section
variable {h0 g h : Heap} {W : Nat → Prop} {L L' A B R I : List (Nat × HO)}

theorem _root_.Go.Lift.St.perm (S : St h0 W L g) (p : L'.Perm L) : St h0 W L' g :=
  ⟨(p.map (·.1)).nodup_iff.2 S.nodup, fun b x hb => S.objs b x (p.mem_iff.1 hb), fun b x hb => S.new b x (p.mem_iff.1 hb), S.keeps⟩

theorem perm_mid : (A ++ (R ++ I)).Perm (R ++ (A ++ I)) := by
  rw [← List.append_assoc, ← List.append_assoc]
  exact List.perm_append_comm.append_right I

/-- The program's items: a slice, the block that it has. -/
def ARow (sz : Nat) (it : Sl) (rowL : List (Nat × HO)) (vs : List V) : Prop :=
  (it = ⟨none, 0, 0⟩ ∧ vs = [] ∧ rowL = []) ∨ ∃ rb rest mk, rowL = [(rb, .cells (vs ++ rest) mk)] ∧ it.p = some ⟨rb, 0⟩ ∧ vs.length = it.len * sz ∧ it.len ≤ it.cap ∧ rest.length = (it.cap - it.len) * sz

theorem ARow.len {sz : Nat} {it : Sl} {rowL : List (Nat × HO)} {vs : List V} (r : ARow sz it rowL vs) : vs.length = it.len * sz := by
  rcases r with ⟨rfl, rfl, _⟩ | ⟨_, _, _, _, _, h, _⟩
  · simp
  · exact h

theorem ARow.app {sz bytes : Nat} {it : Sl} {rowL : List (Nat × HO)} {vs new z : List V} {κ : Sl → Heap → Prop} (r : ARow sz it rowL vs) (S : St h0 none_ (rowL ++ B) g) (hnew : new.length = 1 * sz) (hz : z.length = sz) (hb : (it.len + 1) * bytes ≤ 140737488355328) (hm : it.len + 1 ≤ 9223372036854775807)
    (hk : ∀ it' rowL' g', ARow sz it' rowL' (vs ++ new) → St h0 none_ (rowL' ++ B) g' → it'.len = it.len + 1 → κ it' g') : appS sz bytes z it new 1 κ g := by
  rcases r with ⟨rfl, rfl, rfl⟩ | ⟨rb, rest, mk, rfl, hp, hl, hc, hr⟩
  · refine appS_nil hnew (by decide) hz (by simpa using hb) (by decide) (fun s' h' b' O' hl hbn k' => ?_)
    obtain ⟨rest, mk, ho, hr⟩ := O'.obj
    have S1 := (St.sub (L' := B) S (by simp)).more hbn ho k'
    refine hk s' [(b', .cells (new ++ rest) mk)] h' (.inr ⟨b', rest, mk, rfl, O'.p, O'.len, O'.cap, hr⟩) S1 (by simpa using hl)
  · obtain ⟨p, sl, sc⟩ := it
    simp only at hp hl hc hr hb hm hk
    subst hp
    have O : Own g ⟨some ⟨rb, 0⟩, sl, sc⟩ sz vs rb := ⟨rfl, hc, hl, rest, mk, S.obj i0, hr⟩
    refine appS_own O hnew hz hb hm (fun s' h' b' O' hl' hbb k' => ?_)
    obtain ⟨rest', mk', ho, hr'⟩ := O'.obj
    refine hk s' [(b', .cells (vs ++ new ++ rest') mk')] h' (.inr ⟨b', rest', mk', rfl, O'.p, O'.len, O'.cap, hr'⟩) ?_ hl'
    rcases hbb with rfl | hf
    · exact S.put i0 ho k'
    · have hnt : ∀ b x, (b, x) ∈ B → ¬ b = rb := fun b x hb e => by
        have := S.nodup
        simp only [List.cons_append, List.nil_append, List.map_cons, List.nodup_cons] at this
        exact this.1 (List.mem_map.2 ⟨(b, x), hb, e⟩)
      have S1 : St h0 none_ B h' := (St.tail S).keepW k' (fun b x hb => hnt b x hb) (fun zz e hz => by
        rcases S.new rb _ (List.mem_cons_self) with h2 | h2
        · exact absurd h2 (by rw [← e]; exact hz)
        · exact h2.elim)
      have hn0 : h0.obj b' = none := by
        cases hh : h0.obj b' with
        | none => rfl
        | some z => exact absurd hf (S.keeps.known b' (by rw [hh]; simp))
      exact S1.add ho (.inl hn0) ((St.tail S).fresh (x := .cells [] false) hf)

end

/-- An item's cells. -/
def ITM (n b : Nat) : Body → List V
  | .blank => []
  | .fill k v => [.int .i64 n, .int .i64 k, .int .u32 v, .ptr none, .str []]
  | .ins _ want => [.int .i64 n, .int .i64 1, .int .u32 0, .ptr (some ⟨b, 0⟩), .str want]

/-- An instruction's block. -/
def INS (b : Nat) : Body → List (Nat × HO)
  | .ins y _ => [(b, .cells (insL y.op y.rd y.rs1 y.rs2 y.imm) false)]
  | _ => []

def itemsOf : Nat → List (Body × Nat) → List V
  | _, [] => []
  | n, (x, b) :: l => ITM n b x ++ itemsOf (n + 1) l

def insOf (l : List (Body × Nat)) : List (Nat × HO) := l.flatMap fun p => INS p.2 p.1

theorem itemsOf_snoc : ∀ (l : List (Body × Nat)) (n : Nat) (x : Body) (b : Nat), itemsOf n (l ++ [(x, b)]) = itemsOf n l ++ ITM (n + l.length) b x
  | [], n, x, b => by simp [itemsOf]
  | (y, c) :: l, n, x, b => by
    show ITM n c y ++ itemsOf (n + 1) (l ++ [(x, b)]) = ITM n c y ++ itemsOf (n + 1) l ++ _
    rw [itemsOf_snoc l (n + 1) x b, List.append_assoc, List.length_cons, show n + 1 + l.length = n + (l.length + 1) by omega]

theorem insOf_snoc (l : List (Body × Nat)) (x : Body) (b : Nat) : insOf (l ++ [(x, b)]) = insOf l ++ INS b x := by
  simp [insOf]


section
variable {U : Ifc} {h g : Heap} {pb mb fb : Nat} {M FO : HO} {X : List (Nat × HO)}

/-- The item is appended. -/
theorem read_j21 {b1 : Nat} {it : Sl} {rowL I : List (Nat × HO)} {vs : List V} {w k : Nat} {n v : Int} {ip : Option Ptr} {want : Str} {Q : V → Heap → Prop} (r : ARow 5 it rowL vs) (hlen : it.len ≤ 1000000) (hw : w ≤ 1000000000) (hk : k ≤ 1000000)
    (S : St h none_ ((b1, .cells [.int .i64 n, .int .i64 (k : Nat), .int .u32 v, .ptr ip, .str want] false) :: (fb, FO) :: (pb, .cells [.sl it, .map (some mb), .int .i64 (w : Nat)] false) :: (mb, M) :: (rowL ++ I)) g)
    (hq : ∀ it' rowL' g', ARow 5 it' rowL' (vs ++ [.int .i64 n, .int .i64 (k : Nat), .int .u32 v, .ptr ip, .str want]) → St h none_ ((fb, FO) :: (pb, .cells [.sl it', .map (some mb), .int .i64 ((w + k) : Nat)] false) :: (mb, M) :: (rowL' ++ I)) g' → Q .nilif g') :
    zf12.j21 U (some ⟨pb, 0⟩) ⟨b1, 0⟩ Q g := by
  unfold zf12.j21
  refine S.rSl (i := 2) rfl rfl (S.rI i0 rfl (S.rI i0 rfl (S.rI i0 rfl (S.rP i0 rfl (S.rS i0 rfl (S.al (fun b8 g1 S1 => ?_)))))))
  refine ⟨S1.ck1 (i := 3) rfl rfl, S1.rN i0 (Nat.le_refl 5) ?_⟩
  have S2 : St h none_ (rowL ++ ([(b8, .cells [.int .i64 n, .int .i64 (k : Nat), .int .u32 v, .ptr ip, .str want] false), (b1, .cells [.int .i64 n, .int .i64 (k : Nat), .int .u32 v, .ptr ip, .str want] false), (fb, FO), (pb, .cells [.sl it, .map (some mb), .int .i64 (w : Nat)] false), (mb, M)] ++ I)) g1 := S1.perm (perm_mid (A := [_, _, _, _, _])).symm
  refine r.app S2 rfl rfl (by omega) (by omega) (fun it' rowL' g2 r' S3 hl' => ?_)
  have S4 : St h none_ ((b8, .cells [.int .i64 n, .int .i64 (k : Nat), .int .u32 v, .ptr ip, .str want] false) :: (b1, .cells [.int .i64 n, .int .i64 (k : Nat), .int .u32 v, .ptr ip, .str want] false) :: (fb, FO) :: (pb, .cells [.sl it, .map (some mb), .int .i64 (w : Nat)] false) :: (mb, M) :: (rowL' ++ I)) g2 := S3.perm (perm_mid (A := [_, _, _, _, _]))
  refine der_of (S4.wr (i := 3) rfl rfl (fun g3 S5 => ?_))
  refine der_of (S5.rI (i := 3) rfl rfl (S5.rI (i := 1) rfl rfl (der_of (S5.wr (i := 3) rfl rfl (fun g4 S6 => ?_)))))
  have e : IntKind.i64.wrap ((w : Int) + (k : Int)) = ((w + k : Nat) : Int) := by rw [wrap64] <;> omega
  rw [e] at S6
  exact hq it' rowL' g4 r' S6.tail.tail

/-- What reading a line comes to. -/
def readP (h : Heap) (pb mb fb : Nat) (M FO : HO) (X : List (Nat × HO)) (n w : Nat) (ds : List (Body × Nat)) (Q : V → Heap → Prop) : Option Body → Prop
  | none => ∀ g, Keeps none_ h g → Q (.iface 6 (.agg [.int .i64 (n : Int)])) g
  | some b => ∀ it' rowL' g' k, ARow 5 it' rowL' (itemsOf 0 (ds ++ [(b, k)])) → St h none_ ((fb, FO) :: (pb, .cells [.sl it', .map (some mb), .int .i64 ((w + b.words) : Nat)] false) :: (mb, M) :: (rowL' ++ (X ++ insOf (ds ++ [(b, k)])))) g' → Q .nilif g'


theorem read_j10 {b1 n w : Nat} {ds : List (Body × Nat)} {it : Sl} {rowL : List (Nat × HO)} (hn : ds.length = n) (r : ARow 5 it rowL (itemsOf 0 ds)) (hlen : it.len ≤ 1000000) (hw : w ≤ 1000000000) {w0 : Str} {ws : List Str} {sl : Sl} (hw0 : w0 = dotWord ∨ w0 = dotFill) (S : St h none_ ((b1, .cells [.int .i64 (n : Nat), .int .i64 1, .int .u32 0, .ptr none, .str []] false) :: (fb, FO) :: (pb, .cells [.sl it, .map (some mb), .int .i64 (w : Nat)] false) :: (mb, M) :: (rowL ++ (X ++ insOf ds))) g) (W : Words g sl (w0 :: ws)) (hws : ∀ w' ∈ ws, w'.length ≤ 1000000) {Q : V → Heap → Prop}
    (hq : readP h pb mb fb M FO X n w ds Q (readB (w0 :: ws))) : zf12.j10 U (some ⟨pb, 0⟩) (n : Int) sl ⟨b1, 0⟩ Q g := by
  unfold zf12.j10
  rw [readB_cons, if_pos hw0] at hq
  have hlen2 := W.len
  simp only [List.length_cons] at hlen2
  match ws, W, hq, hlen2, hws with
  | [], W, hq, hlen2, _ =>
    simp only [List.length_nil] at hlen2
    exact br_t (by rw [bne_iff_ne]; omega) (hq g S.keeps)
  | _ :: _ :: _, W, hq, hlen2, _ =>
    simp only [List.length_cons] at hlen2
    exact br_t (by rw [bne_iff_ne]; omega) (hq g S.keeps)
  | [a], W, hq, hlen2, hws =>
    simp only [List.length_cons, List.length_nil] at hlen2
    refine br_f (by rw [bne_eq_false_iff_eq]; omega) (W.ixrd (i := 1) rfl rfl (number_of (hws a (List.mem_singleton.2 rfl)) (W.ixrd (i := 0) rfl rfl ?_)))
    simp only at hq
    by_cases hf : w0 = dotFill
    · rw [if_pos hf] at hq
      refine br_t (by rw [beq_iff_eq]; exact hf) ?_
      unfold zf12.j16 zf12.j17
      cases hnum : numOf a with
      | none => rw [hnum] at hq; exact br_t rfl (hq g S.keeps)
      | some v =>
        rw [hnum] at hq
        simp only [fillB] at hq
        simp only [Option.getD_some, Option.isSome_some]
        refine br_f rfl ?_
        by_cases hv : 0 ≤ v ∧ v ≤ 4096
        · rw [if_pos hv] at hq
          refine br_f (decide_eq_false (by omega)) (br_f (decide_eq_false (by omega)) (W.ixrd (i := 0) rfl rfl (br_t (by rw [beq_iff_eq]; exact hf) (S.wr i0 rfl (fun g2 S2 => ?_)))))
          obtain ⟨k, rfl⟩ : ∃ k : Nat, v = (k : Int) := ⟨v.toNat, by omega⟩
          refine read_j21 (k := k) (v := 0) r hlen hw (by omega) S2 (fun it' rowL' g' r' S' => ?_)
          refine hq it' rowL' g' 0 ?_ ?_
          · rw [itemsOf_snoc, Nat.zero_add, hn, Int.toNat_natCast]; exact r'
          · rw [insOf_snoc, Int.toNat_natCast]
            show St h none_ ((fb, FO) :: (pb, .cells [.sl it', .map (some mb), .int .i64 ((w + k) : Nat)] false) :: (mb, M) :: (rowL' ++ (X ++ (insOf ds ++ [])))) g'
            rw [List.append_nil]; exact S'
        · rw [if_neg hv] at hq
          refine br_if (fun _ => hq g S.keeps) (fun c => br_t (decide_eq_true ?_) (hq g S.keeps))
          have := of_decide_eq_false c; omega
    · rw [if_neg hf] at hq
      refine br_f (beq_false_of_ne hf) ?_
      unfold zf12.j16 zf12.j17
      cases hnum : numOf a with
      | none => rw [hnum] at hq; exact br_t rfl (hq g S.keeps)
      | some v =>
        rw [hnum] at hq
        simp only [wordB] at hq
        simp only [Option.getD_some, Option.isSome_some]
        refine br_f rfl ?_
        by_cases hv : -2147483648 ≤ v ∧ v ≤ 4294967295
        · rw [if_pos hv] at hq
          refine br_f (decide_eq_false (by omega)) (br_f (decide_eq_false (by omega)) (W.ixrd (i := 0) rfl rfl (br_f (beq_false_of_ne hf) (S.wr i0 rfl (fun g2 S2 => ?_)))))
          rw [u32_wrap] at S2
          refine read_j21 (k := 1) (v := (((v % 4294967296).toNat : Nat) : Int)) r hlen hw (by omega) S2 (fun it' rowL' g' r' S' => ?_)
          refine hq it' rowL' g' 0 ?_ ?_
          · rw [itemsOf_snoc, Nat.zero_add, hn]; exact r'
          · rw [insOf_snoc]
            show St h none_ ((fb, FO) :: (pb, .cells [.sl it', .map (some mb), .int .i64 ((w + 1) : Nat)] false) :: (mb, M) :: (rowL' ++ (X ++ (insOf ds ++ [])))) g'
            rw [List.append_nil]; exact S'
        · rw [if_neg hv] at hq
          refine br_if (fun _ => hq g S.keeps) (fun c => br_t (decide_eq_true ?_) (hq g S.keeps))
          have := of_decide_eq_false c; omega

theorem read_of (asc : ∀ c : Nat, c < 256 → h.get (U.glob 4) c = some (.int .u8 (if Lib.isSp (UInt8.ofNat c) then 1 else 0))) {n w : Nat} {ds : List (Body × Nat)} {it : Sl} {rowL : List (Nat × HO)} (hn : ds.length = n) (r : ARow 5 it rowL (itemsOf 0 ds)) (hlen : it.len ≤ 1000000) (hw : w ≤ 1000000000) {ws : List Str} {sl : Sl}
    (S : St h none_ ((fb, FO) :: (pb, .cells [.sl it, .map (some mb), .int .i64 (w : Nat)] false) :: (mb, M) :: (rowL ++ (X ++ insOf ds))) g) (hW : ∀ g', g'.obj fb = some FO → Words g' sl ws) (hws : ∀ w' ∈ ws, w'.length ≤ 1000000) {Q : V → Heap → Prop}
    (hq : readP h pb mb fb M FO X n w ds Q (readB ws)) : zf12 U (some ⟨pb, 0⟩) (n : Int) sl Q g := by
  unfold zf12
  refine S.al (fun b1 g1 S1 => S1.wrL i0 (Nat.le_refl 5) (fun g2 S2 => ?_))
  have S3 : St h none_ ((b1, .cells [.int .i64 (n : Nat), .int .i64 1, .int .u32 0, .ptr none, .str []] false) :: (fb, FO) :: (pb, .cells [.sl it, .map (some mb), .int .i64 (w : Nat)] false) :: (mb, M) :: (rowL ++ (X ++ insOf ds))) g2 := S2
  have W := hW g2 (S3.obj i1)
  cases ws with
  | nil =>
    refine br_t (by rw [W.len]; rfl) (hq it rowL g2 0 ?_ ?_)
    · rw [itemsOf_snoc]; show ARow 5 it rowL (itemsOf 0 ds ++ []); rw [List.append_nil]; exact r
    · rw [insOf_snoc]
      show St h none_ ((fb, FO) :: (pb, .cells [.sl it, .map (some mb), .int .i64 ((w + 0) : Nat)] false) :: (mb, M) :: (rowL ++ (X ++ (insOf ds ++ [])))) g2
      rw [List.append_nil]; exact S3.tail
  | cons w0 ws =>
    have hlen2 := W.len
    simp only [List.length_cons] at hlen2
    have hws2 : ∀ w' ∈ ws, w'.length ≤ 1000000 := fun w' h' => hws w' (List.mem_cons_of_mem _ h')
    refine br_f (beq_false_of_ne (by omega)) (W.ixrd (i := 0) rfl rfl ?_)
    by_cases h1 : w0 = dotWord
    · exact br_t (by rw [beq_iff_eq]; exact h1) (read_j10 hn r hlen hw (.inl h1) S3 W hws2 hq)
    refine br_f (beq_false_of_ne h1) (W.ixrd (i := 0) rfl rfl ?_)
    by_cases h2 : w0 = dotFill
    · exact br_t (by rw [beq_iff_eq]; exact h2) (read_j10 hn r hlen hw (.inr h2) S3 W hws2 hq)
    refine br_f (beq_false_of_ne h2) ?_
    -- the operation
    have hix : ∀ {κ : Str → Ptr → Prop}, (∀ p : Ptr, (∀ g', Keeps none_ g2 g' → g'.get p.b p.o = some (.str w0)) → κ w0 p) → ix 0 sl.len (fun n8 => der sl.p (fun p9 => rdStr (p9.add (n8 * 1)) (fun x10 => κ x10 (p9.add (n8 * 1))) g2)) := by
      intro κ hk
      refine ix_of (by decide) (by omega) ?_
      cases hp : sl.p with
      | none => have := W.held.nil hp; omega
      | some p =>
        rw [der_some]
        have hr : ∀ g', Keeps none_ g2 g' → g'.get p.b (p.o + 0 * 1) = some (.str w0) := fun g' k' => (W.keep k').held.row p hp (0 * 1) _ rfl
        exact rdStr_of (hr g2 (Keeps.refl _ _)) (hk _ hr)
    refine hix (κ := fun x10 q => zf7 U (fun r11 h => ck q [.str x10] 0 h ∧ (mapGet .str r11 (.str x10) (fun o12 => asI .i64 (o12.getD (.int .i64 0)) (fun x13 => zf12.j3 U (some ⟨pb, 0⟩) (n : Int) sl (⟨b1, 0⟩ : Ptr) x13 o12.isSome Q h)) h)) g2) (fun q hrq => ?_)
    have asc2 : ∀ c : Nat, c < 256 → g2.get (U.glob 4) c = some (.int .u8 (if Lib.isSp (UInt8.ofNat c) then 1 else 0)) := fun c hc => by
      have hg := asc c hc
      have hn : h.obj (U.glob 4) ≠ none := by intro hn; unfold Heap.get at hg; rw [hn] at hg; cases hg
      rw [Heap.get_obj (S3.keeps.same _ hn (fun f => f))]; exact hg
    refine operations_of asc2 (fun ob es bs c g3 k3 hob hom => ⟨⟨hrq g3 k3, trivial⟩, es, bs, c, hob, ?_⟩)
    have S4 := S3.keep k3
    have W4 := W.keep k3
    rw [ops_find hom]
    rw [readB_cons, if_neg (fun hh => hh.elim h1 h2)] at hq
    -- what follows
    have j3 : ∀ (m : Nat) (known : Bool), m ≤ 48 → (known = true → m ≠ 0 ∧ m = opOf w0) → (known = false → m = 0 ∧ opOf w0 = 0) → zf12.j3 U (some ⟨pb, 0⟩) (n : Int) sl (⟨b1, 0⟩ : Ptr) (m : Int) known Q g3 := by
      intro m known hm hk1 hk2
      unfold zf12.j3
      have fin : ∀ (x : Ins) (want : Str) (e : Bool) (g4 : Heap), Keeps none_ g3 g4 → ((known = false ∨ e = false) → ∀ g, Keeps none_ h g → Q (.iface 6 (.agg [.int .i64 (n : Int)])) g) → (known = true → e = true → readP h pb mb fb M FO X n w ds Q (some (.ins x want))) →
          al [.int .i64 0, .int .i64 0, .int .i64 0, .int .i64 0, .int .i64 0] (fun b9 h => wrL [.int .i64 x.op, .int .i64 x.rd, .int .i64 x.rs1, .int .i64 x.rs2, .int .i64 x.imm] (⟨b9, 0⟩ : Ptr) 0 (fun h => br (!known) (zf12.j5 U (n : Int) Q h) (br (!e) (zf12.j5 U (n : Int) Q h) (wr ((⟨b1, 0⟩ : Ptr).add 3) (.ptr (some (⟨b9, 0⟩ : Ptr))) (fun h => wr ((⟨b1, 0⟩ : Ptr).add 4) (.str want) (fun h => zf12.j21 U (some ⟨pb, 0⟩) ⟨b1, 0⟩ Q h) h) h))) h) g4 := by
        intro x want e g4 k4 hbad hgood
        refine (S4.keep k4).al (fun b9 g5 S5 => S5.wrL i0 (Nat.le_refl 5) (fun g6 S6 => ?_))
        unfold zf12.j5
        cases known with
        | false => exact br_t rfl (hbad (.inl rfl) g6 S6.keeps)
        | true =>
          cases e with
          | false => exact br_f rfl (br_t rfl (hbad (.inr rfl) g6 S6.keeps))
          | true =>
            refine br_f rfl (br_f rfl (S6.wr i1 rfl (fun g7 S7 => S7.wr i1 rfl (fun g8 S8 => ?_))))
            have hgood := hgood rfl rfl
            have S9 : St h none_ ((b9, .cells (insL x.op x.rd x.rs1 x.rs2 x.imm) false) :: (b1, .cells [.int .i64 (n : Nat), .int .i64 1, .int .u32 0, .ptr (some ⟨b9, 0⟩), .str want] false) :: (fb, FO) :: (pb, .cells [.sl it, .map (some mb), .int .i64 (w : Nat)] false) :: (mb, M) :: (rowL ++ (X ++ insOf ds))) g8 := S8
            have S10 : St h none_ ((b1, .cells [.int .i64 (n : Nat), .int .i64 (1 : Nat), .int .u32 0, .ptr (some ⟨b9, 0⟩), .str want] false) :: (fb, FO) :: (pb, .cells [.sl it, .map (some mb), .int .i64 (w : Nat)] false) :: (mb, M) :: (rowL ++ (X ++ insOf (ds ++ [(.ins x want, b9)])))) g8 := by
              refine S9.perm ?_
              rw [insOf_snoc]
              show ((b1, _) :: (fb, _) :: _ :: (mb, _) :: (rowL ++ (X ++ (insOf ds ++ [(b9, _)])))).Perm _
              have : ∀ {a b c d e : Nat × HO} {X Z Y : List (Nat × HO)}, (a :: b :: c :: d :: (X ++ (Z ++ (Y ++ [e])))).Perm (e :: a :: b :: c :: d :: (X ++ (Z ++ Y))) := by
                intro a b c d e X Z Y
                have := List.perm_append_comm (l₁ := [e]) (l₂ := a :: b :: c :: d :: (X ++ (Z ++ Y)))
                simp only [List.cons_append, List.nil_append, List.append_assoc] at this
                exact this.symm
              exact this
            refine read_j21 (k := 1) r hlen hw (by omega) S10 (fun it' rowL' g' r' S' => ?_)
            refine hgood it' rowL' g' b9 ?_ S'
            rw [itemsOf_snoc, Nat.zero_add, hn]; exact r'
      refine sb_of (by omega) (by omega) (operands_of (n := m) hm W4.tail hws2 (fun hm0 g4 k4 => ?_) (fun hm0 g4 k4 x1 x2 x3 x4 x5 wd e => ?_))
      · cases known with
        | false => exact absurd (hk2 rfl).1 hm0
        | true =>
          have hmo := (hk1 rfl).2
          rw [if_neg (by omega)] at hq
          subst hmo
          cases ho : opnds (ordOf (opOf w0 : Int)) ws ⟨opOf w0, 0, 0, 0, 0⟩ [] with
          | none =>
            rw [ho] at hq
            intro x1 x2 x3 x4 x5 wd
            exact fin ⟨x1, x2, x3, x4, x5⟩ wd false g4 k4 (fun _ => hq) (fun _ e => by cases e)
          | some p =>
            obtain ⟨x, want⟩ := p
            rw [ho] at hq
            exact fin x want true g4 k4 (fun e => by rcases e with e | e <;> cases e) (fun _ _ => hq)
      · cases known with
        | true => exact absurd hm0 (hk1 rfl).1
        | false =>
          rw [if_pos (hk2 rfl).2] at hq
          exact fin ⟨x1, x2, x3, x4, x5⟩ wd e g4 k4 (fun _ => hq) (fun e _ => by cases e)
    by_cases h0 : opOf w0 = 0
    · rw [if_pos h0]
      exact asI_of (x := 0) (j3 0 false (by decide) (fun e => by cases e) (fun _ => ⟨rfl, h0⟩))
    · rw [if_neg h0]
      exact asI_of (j3 (opOf w0) true (opOf_le w0) (fun _ => ⟨h0, rfl⟩) (fun e => by cases e))

end
end Go.Asm

set_option linter.unusedSimpArgs false
set_option linter.unusedVariables false
set_option maxRecDepth 100000
namespace Go.Asm
open Go.Lift Go.Fn Go.Insn

/-- The words of a line without remarks. -/
def words0 : Str → Str → List Str
  | w, [] => if w.isEmpty then [] else [w]
  | w, b :: s => if isSep b then (if w.isEmpty then words0 [] s else w :: words0 [] s) else words0 (w ++ [b]) s

theorem words0_cons (w : Str) (b : UInt8) (s : Str) : words0 w (b :: s) = if isSep b then (if w.isEmpty then words0 [] s else w :: words0 [] s) else words0 (w ++ [b]) s := rfl

theorem wordsGo_cut : ∀ (s w : Str), wordsGo w s = words0 w (s.takeWhile (· != 35))
  | [], w => rfl
  | b :: s, w => by
    rw [List.takeWhile_cons]
    by_cases hb : b = 35
    · subst hb
      rw [show ((35 : UInt8) != 35) = false by decide, if_neg (by decide)]
      show (if ((35 : UInt8) == 35) = true then (if w.isEmpty then [] else [w]) else _) = _
      rw [if_pos (by decide)]
      rfl
    · have h1 : (b != 35) = true := by rw [bne_iff_ne]; exact hb
      rw [h1, if_pos rfl, words0_cons]
      show (if (b == 35) = true then _ else if isSep b then (if w.isEmpty then wordsGo [] s else w :: wordsGo [] s) else wordsGo (w ++ [b]) s) = _
      rw [if_neg (by simpa using hb), wordsGo_cut s [], wordsGo_cut s (w ++ [b])]

theorem index_one (c b : UInt8) (l : Str) : Lib.index (b :: l) [c] = if c = b then 0 else if Lib.index l [c] == -1 then -1 else Lib.index l [c] + 1 := by
  show (if ([c] : Str).isPrefixOf (b :: l) then (0 : Int) else _) = _
  by_cases h : c = b
  · subst h
    rw [if_pos rfl, if_pos (by simp [List.isPrefixOf])]
  · rw [if_neg h, if_neg (by simp [List.isPrefixOf]; exact h)]

theorem take_index (c : UInt8) : ∀ s : Str, (if 0 ≤ Lib.index s [c] then s.take (Lib.index s [c]).toNat else s) = s.takeWhile (· != c)
  | [] => by simp [Lib.index]
  | b :: l => by
    have ih := take_index c l
    have hge := Lib.index_ge l [c]
    rw [index_one, List.takeWhile_cons]
    by_cases h : c = b
    · subst h
      rw [if_pos rfl, show (c != c) = false by simp]
      simp
    · rw [if_neg h, show (b != c) = true by rw [bne_iff_ne]; exact fun e => h e.symm, if_pos (rfl : true = true)]
      by_cases hm : Lib.index l [c] = -1
      · rw [hm] at ih ⊢
        rw [if_neg (by decide)] at ih
        rw [← ih]; simp
      · have e : (if (Lib.index l [c] == -1) = true then (-1 : Int) else Lib.index l [c] + 1) = Lib.index l [c] + 1 := if_neg (by simpa using hm)
        rw [e, if_pos (by omega)]
        rw [if_pos (by omega)] at ih
        rw [show (Lib.index l [c] + 1).toNat = (Lib.index l [c]).toNat + 1 by omega, List.take_succ_cons, ih]

theorem cut_hash (s : Str) : (Lib.cut s [35]).1 = s.takeWhile (· != 35) := by
  rw [← take_index]
  unfold Lib.cut
  split <;> rfl

theorem split_hit : ∀ (s : Str) (i : Nat), Lib.index s [10] = (i : Int) → split s = s.take i :: split (s.drop (i + 1))
  | [], i, h => by simp [Lib.index] at h
  | b :: l, i, h => by
    have hge := Lib.index_ge l [10]
    rw [index_one] at h
    rw [split_cons]
    by_cases hb : (10 : UInt8) = b
    · subst hb
      rw [if_pos rfl] at h
      have : i = 0 := by omega
      subst this
      rw [if_pos (by decide)]; rfl
    · rw [if_neg hb] at h
      rw [if_neg (by simpa using fun e => hb e.symm)]
      by_cases hm : Lib.index l [10] = -1
      · rw [hm] at h; simp at h
      · rw [if_neg (by simpa using hm)] at h
        obtain ⟨j, rfl⟩ : ∃ j, i = j + 1 := ⟨i - 1, by omega⟩
        rw [split_hit l j (by omega)]; rfl

theorem split_miss : ∀ (s : Str), Lib.index s [10] = -1 → split s = [s]
  | [], _ => rfl
  | b :: l, h => by
    have hge := Lib.index_ge l [10]
    rw [index_one] at h
    rw [split_cons]
    by_cases hb : (10 : UInt8) = b
    · rw [if_pos hb] at h; cases h
    · rw [if_neg hb] at h
      rw [if_neg (by simpa using fun e => hb e.symm)]
      by_cases hm : Lib.index l [10] = -1
      · rw [split_miss l hm]
      · rw [if_neg (by simpa using hm)] at h; omega

theorem splitK_split : ∀ (k : Nat) (s : Str), s.length ≤ k → Lib.splitK [10] 0 (Lib.count s [10]) s = split s := by
  intro k
  induction k with
  | zero =>
    intro s hs
    have : s = [] := List.length_eq_zero_iff.1 (by omega)
    subst this; rfl
  | succ k ih =>
    intro s hs
    have hge := Lib.index_ge s [10]
    by_cases hm : Lib.index s [10] = -1
    · rw [Lib.count_miss hm, split_miss s hm]; rfl
    · obtain ⟨i, hi⟩ : ∃ i : Nat, Lib.index s [10] = i := ⟨(Lib.index s [10]).toNat, by omega⟩
      rw [Lib.count_hit (by simp) hi, split_hit s i hi, Nat.add_comm]
      show (if (Lib.index s [10] == -1) = true then [s] else s.take ((Lib.index s [10]).toNat + 0) :: Lib.splitK [10] 0 (Lib.count (s.drop (i + 1)) [10]) (s.drop ((Lib.index s [10]).toNat + 1))) = _
      rw [if_neg (by simpa using hm), hi, Int.toNat_natCast, Nat.add_zero, ih _ (by
        rw [List.length_drop]
        rcases Nat.eq_zero_or_pos s.length with h0 | h0
        · omega
        · omega)]

theorem splitL_split (s : Str) : splitL s [10] = split s := by
  unfold splitL
  rw [Lib.splitB_data]
  exact splitK_split s.length s (Nat.le_refl _)

theorem get_ba (l : Str) (j : Nat) : ((⟨l.toArray⟩ : ByteArray).get! j) = l.getD j 0 := by
  show (l.toArray)[j]! = _
  rw [List.getD_eq_getElem?_getD]
  by_cases hj : j < l.length
  · rw [List.getElem?_eq_getElem hj]; simp [hj]
  · rw [List.getElem?_eq_none (by omega)]
    simp [hj]; rfl

theorem ba_sz (l : Str) : (⟨l.toArray⟩ : ByteArray).size = l.length := by simp [ByteArray.size]

/-- A rune that begins beyond ASCII lies beyond ASCII, all of its bytes. -/
theorem decode_hi (l : Str) (i : Nat) (hi : i < l.length) (hb : 128 ≤ (l.getD i 0).toNat) :
    128 ≤ (Utf8.decode ⟨l.toArray⟩ i).1 ∧ 1 ≤ (Utf8.decode ⟨l.toArray⟩ i).2 ∧ i + (Utf8.decode ⟨l.toArray⟩ i).2 ≤ l.length ∧ ∀ k, k < (Utf8.decode ⟨l.toArray⟩ i).2 → 128 ≤ (l.getD (i + k) 0).toNat := by
  have one : 128 ≤ (Utf8.runeError, 1).1 ∧ 1 ≤ ((Utf8.runeError, 1) : Nat × Nat).2 ∧ i + ((Utf8.runeError, 1) : Nat × Nat).2 ≤ l.length ∧ ∀ k, k < ((Utf8.runeError, 1) : Nat × Nat).2 → 128 ≤ (l.getD (i + k) 0).toNat := by
    refine ⟨by decide, by decide, by show i + 1 ≤ _; omega, fun k hk => ?_⟩
    have hk : k < 1 := hk
    have : k = 0 := by omega
    rw [this]; exact hb
  unfold Utf8.decode
  simp only [get_ba, ba_sz, Nat.add_zero]
  have cont : ∀ k, (decide (i + k < l.length) && (l.getD (i + k) 0).toNat / 64 == 2) = true → i + k < l.length ∧ 128 ≤ (l.getD (i + k) 0).toNat := by
    intro k hk
    simp only [Bool.and_eq_true, decide_eq_true_eq, beq_iff_eq] at hk
    exact ⟨hk.1, by omega⟩
  rw [if_neg (by omega)]
  split
  · rename_i h1
    simp only [Bool.and_eq_true] at h1
    have c1 := cont 1 (by simpa using h1.2)
    split
    · rename_i h2
      refine ⟨by simpa using h2, by show 1 ≤ 2; decide, by show i + 2 ≤ _; omega, fun k hk => ?_⟩
      have hk : k < 2 := hk
      rcases (by omega : k = 0 ∨ k = 1) with rfl | rfl
      · exact hb
      · exact c1.2
    · exact one
  · split
    · rename_i h1
      simp only [Bool.and_eq_true] at h1
      have c1 := cont 1 (by simpa using h1.1.2)
      have c2 := cont 2 (by simpa using h1.2)
      split
      · rename_i h2
        simp only [Bool.and_eq_true, decide_eq_true_eq] at h2
        refine ⟨by simp only; omega, by show 1 ≤ 3; decide, by show i + 3 ≤ _; omega, fun k hk => ?_⟩
        have hk : k < 3 := hk
        rcases (by omega : k = 0 ∨ k = 1 ∨ k = 2) with rfl | rfl | rfl
        · exact hb
        · exact c1.2
        · exact c2.2
      · exact one
    · split
      · rename_i h1
        simp only [Bool.and_eq_true] at h1
        have c1 := cont 1 (by simpa using h1.1.1.2)
        have c2 := cont 2 (by simpa using h1.1.2)
        have c3 := cont 3 (by simpa using h1.2)
        split
        · rename_i h2
          simp only [Bool.and_eq_true, decide_eq_true_eq] at h2
          refine ⟨by simp only; omega, by show 1 ≤ 4; decide, by show i + 4 ≤ _; omega, fun k hk => ?_⟩
          have hk : k < 4 := hk
          rcases (by omega : k = 0 ∨ k = 1 ∨ k = 2 ∨ k = 3) with rfl | rfl | rfl | rfl
          · exact hb
          · exact c1.2
          · exact c2.2
          · exact c3.2
        · exact one
      · exact one

theorem sep_low {b : UInt8} (hb : b.toNat < 128) : sepR b.toNat = isSep b := by
  unfold sepR isSep
  have e : ∀ n : Nat, n < 128 → ((b.toNat == n) = (b == UInt8.ofNat n)) := by
    intro n hn
    by_cases h : b = UInt8.ofNat n
    · rw [h]; simp; omega
    · rw [beq_false_of_ne h]
      exact beq_false_of_ne (fun hh => h (byte_eq hh (by omega)))
  rw [e 32 (by decide), e 44 (by decide), e 9 (by decide), e 40 (by decide), e 41 (by decide)]
  rfl

theorem sep_high {x : Nat} (hx : 128 ≤ x) : sepR x = false := by
  unfold sepR
  simp only [Bool.or_eq_false_iff, beq_eq_false_iff_ne]
  omega

theorem words0_high : ∀ (d w s : Str), (∀ b ∈ d, 128 ≤ b.toNat) → words0 w (d ++ s) = words0 (w ++ d) s
  | [], w, s, _ => by rw [List.nil_append, List.append_nil]
  | b :: d, w, s, h => by
    have hb := h b List.mem_cons_self
    have hs : isSep b = false := by
      unfold isSep
      simp only [Bool.or_eq_false_iff, beq_eq_false_iff_ne]
      have ne : ∀ n : Nat, n < 128 → b ≠ UInt8.ofNat n := fun n hn e => by rw [e] at hb; simp at hb; omega
      exact ⟨ne 32 (by decide), ne 44 (by decide), ne 9 (by decide), ne 40 (by decide), ne 41 (by decide)⟩
    rw [List.cons_append, words0_cons, hs, if_neg (by decide), words0_high d (w ++ [b]) s (fun c hc => h c (List.mem_cons_of_mem _ hc)), List.append_assoc]
    rfl

/-- The piece from a to b. -/
def piece (l : Str) (x : Nat × Nat) : Str := (l.drop x.1).take (x.2 - x.1)

def curOf (l : Str) (pos : Nat) : Option Nat → Str
  | some a => piece l (a, pos)
  | none => []

theorem extract_piece (l : Str) (x : Nat × Nat) (h : x.1 ≤ x.2) (h2 : x.2 ≤ l.length) : ((⟨l.toArray⟩ : ByteArray).extract x.1 x.2).data.toList = piece l x := by
  rw [Lib.extract_data]
  unfold piece
  simp [List.drop_take]

theorem spans_words (l : Str) : ∀ (f pos : Nat) (st : Option Nat) (acc : List (Nat × Nat)), l.length ≤ pos + f → pos ≤ l.length → (∀ a, st = some a → a < pos) → (∀ x ∈ acc, x.1 ≤ x.2 ∧ x.2 ≤ l.length) →
    (∀ x ∈ Lib.closeSpans ⟨l.toArray⟩ (Lib.spansFromP sepR ⟨l.toArray⟩ f pos st acc), x.1 ≤ x.2 ∧ x.2 ≤ l.length) ∧
    (Lib.closeSpans ⟨l.toArray⟩ (Lib.spansFromP sepR ⟨l.toArray⟩ f pos st acc)).map (piece l) = acc.map (piece l) ++ words0 (curOf l pos st) (l.drop pos) := by
  have fin : ∀ (pos : Nat) (st : Option Nat) (acc : List (Nat × Nat)), pos = l.length → (∀ a, st = some a → a < pos) → (∀ x ∈ acc, x.1 ≤ x.2 ∧ x.2 ≤ l.length) →
      (∀ x ∈ Lib.closeSpans ⟨l.toArray⟩ (acc, st), x.1 ≤ x.2 ∧ x.2 ≤ l.length) ∧ (Lib.closeSpans ⟨l.toArray⟩ (acc, st)).map (piece l) = acc.map (piece l) ++ words0 (curOf l pos st) (l.drop pos) := by
    intro pos st acc hp hst hacc
    subst hp
    rw [List.drop_eq_nil_of_le (Nat.le_refl _)]
    cases st with
    | none =>
      refine ⟨hacc, ?_⟩
      show acc.map (piece l) = acc.map (piece l) ++ []
      rw [List.append_nil]
    | some a =>
      have ha := hst a rfl
      unfold Lib.closeSpans
      simp only [ba_sz]
      refine ⟨fun x hx => ?_, ?_⟩
      · rcases List.mem_append.1 hx with hx | hx
        · exact hacc x hx
        · rw [List.mem_singleton.1 hx]; exact ⟨by simp only; omega, Nat.le_refl _⟩
      · rw [List.map_append]
        congr 1
        show [piece l (a, l.length)] = if (piece l (a, l.length)).isEmpty then [] else [piece l (a, l.length)]
        have : (piece l (a, l.length)).isEmpty = false := by
          cases hc : piece l (a, l.length) with
          | nil =>
            have := congrArg List.length hc
            unfold piece at this
            simp at this; omega
          | cons _ _ => rfl
        rw [this]; rfl
  intro f
  induction f with
  | zero =>
    intro pos st acc hf hp hst hacc
    exact fin pos st acc (by omega) hst hacc
  | succ f ih =>
    intro pos st acc hf hp hst hacc
    unfold Lib.spansFromP
    rw [ba_sz]
    by_cases hlt : pos < l.length
    case neg => rw [if_neg hlt]; exact fin pos st acc (by omega) hst hacc
    rw [if_pos hlt]
    have hd : l.drop pos = l.getD pos 0 :: l.drop (pos + 1) := by
      rw [List.drop_eq_getElem_cons hlt, List.getD_eq_getElem?_getD, List.getElem?_eq_getElem hlt]; rfl
    by_cases hb : (l.getD pos 0).toNat < 128
    · have hdec : Utf8.decode ⟨l.toArray⟩ pos = ((l.getD pos 0).toNat, 1) := rune_ascii hlt hb
      rw [hdec, sep_low hb, hd, words0_cons]
      cases hs : isSep (l.getD pos 0) with
      | true =>
        rw [if_pos rfl, if_pos rfl]
        cases st with
        | none =>
          have := ih (pos + 1) none acc (by omega) (by omega) (fun a h => by cases h) hacc
          exact this
        | some a =>
          have ha := hst a rfl
          have := ih (pos + 1) none (acc ++ [(a, pos)]) (by omega) (by omega) (fun a h => by cases h) (fun x hx => by
            rcases List.mem_append.1 hx with hx | hx
            · exact hacc x hx
            · rw [List.mem_singleton.1 hx]; exact ⟨by simp only; omega, by simp only; omega⟩)
          refine ⟨this.1, this.2.trans ?_⟩
          rw [List.map_append, List.append_assoc]
          congr 1
          have hne : (curOf l pos (some a)).isEmpty = false := by
            show (piece l (a, pos)).isEmpty = false
            cases hc : piece l (a, pos) with
            | nil =>
              have := congrArg List.length hc
              unfold piece at this
              simp at this; omega
            | cons _ _ => rfl
          rw [hne]; rfl
      | false =>
        rw [if_neg (by decide), if_neg (by decide)]
        have grow : ∀ a, a ≤ pos → piece l (a, pos + 1) = piece l (a, pos) ++ [l.getD pos 0] := fun a ha => take_one ha hlt rfl
        cases st with
        | none =>
          have := ih (pos + 1) (some pos) acc (by omega) (by omega) (fun a h => by cases h; omega) hacc
          refine ⟨this.1, this.2.trans ?_⟩
          show _ ++ words0 (piece l (pos, pos + 1)) _ = _
          rw [grow pos (Nat.le_refl _)]
          have : piece l (pos, pos) = [] := by unfold piece; simp
          rw [this]; rfl
        | some a =>
          have ha := hst a rfl
          have := ih (pos + 1) (some a) acc (by omega) (by omega) (fun a' h => by cases h; omega) hacc
          refine ⟨this.1, this.2.trans ?_⟩
          show _ ++ words0 (piece l (a, pos + 1)) _ = _
          rw [grow a (by omega)]; rfl
    · obtain ⟨d1, d2, d3, d4⟩ := decode_hi l pos hlt (by omega)
      generalize Utf8.decode ⟨l.toArray⟩ pos = rw_ at d1 d2 d3 d4 ⊢
      obtain ⟨r, wd⟩ := rw_
      simp only at d1 d2 d3 d4 ⊢
      rw [sep_high d1, if_neg (by decide)]
      have hsplit : l.drop pos = piece l (pos, pos + wd) ++ l.drop (pos + wd) := by
        unfold piece
        simp only [Nat.add_sub_cancel_left]
        rw [← List.drop_drop, List.take_append_drop]
      have hhigh : ∀ b ∈ piece l (pos, pos + wd), 128 ≤ b.toNat := by
        intro b hb
        obtain ⟨k, hk⟩ := List.mem_iff_getElem?.1 hb
        unfold piece at hk
        simp only [Nat.add_sub_cancel_left] at hk
        have hkw : k < wd := by
          rcases Nat.lt_or_ge k wd with h1 | h1
          · exact h1
          · rw [List.getElem?_eq_none (by simp; omega)] at hk; cases hk
        rw [List.getElem?_take_of_lt hkw, List.getElem?_drop] at hk
        have := d4 k hkw
        rw [List.getD_eq_getElem?_getD, hk] at this
        exact this
      have join : ∀ a, a ≤ pos → piece l (a, pos + wd) = piece l (a, pos) ++ piece l (pos, pos + wd) := by
        intro a ha
        unfold piece
        simp only
        rw [show pos + wd - a = (pos - a) + wd by omega, List.take_add, List.drop_drop, show a + (pos - a) = pos by omega, Nat.add_sub_cancel_left]
      rw [hsplit, words0_high _ _ _ hhigh]
      cases st with
      | none =>
        have := ih (pos + wd) (some pos) acc (by omega) (by omega) (fun a h => by cases h; omega) hacc
        exact this
      | some a =>
        have ha := hst a rfl
        have := ih (pos + wd) (some a) acc (by omega) (by omega) (fun a' h => by cases h; omega) hacc
        refine ⟨this.1, this.2.trans ?_⟩
        show _ ++ words0 (piece l (a, pos + wd)) _ = _
        rw [join a (by omega)]; rfl

theorem fields_words (l : Str) : (Lib.goFieldsP sepR ⟨l.toArray⟩).map (·.data.toList) = words0 [] l := by
  have := spans_words l l.length 0 none [] (by omega) (by omega) (fun a h => by cases h) (fun x hx => by cases hx)
  unfold Lib.goFieldsP Lib.spansOfP
  rw [ba_sz, List.map_map]
  have e2 := this.2
  rw [List.map_nil, List.nil_append, List.drop_zero] at e2
  rw [show words0 [] l = words0 (curOf l 0 none) l from rfl, ← e2]
  exact List.map_congr_left (fun x hx => extract_piece l x (this.1 x hx).1 (this.1 x hx).2)

theorem line_words (s : Str) : (Lib.goFieldsP sepR ⟨((Lib.cut s [35]).1).toArray⟩).map (·.data.toList) = wordsGo [] s := by
  rw [fields_words, cut_hash, ← wordsGo_cut]

end Go.Asm

set_option linter.unusedSimpArgs false
set_option linter.unusedVariables false
set_option maxRecDepth 100000
namespace Go.Asm
open Go.Lift Go.Fn Go.Insn

theorem place_snoc (m : Str) : ∀ (l : List Ln) (x : Ln), place m (l ++ [x]) = match place m l with | some p => some p | none => if x.mark = m then some (total l) else none
  | [], x => by
    show (if x.mark = m then some 0 else (none : Option Nat).map _) = (if x.mark = m then some (total []) else none)
    split <;> rfl
  | y :: l, x => by
    rw [List.cons_append, place_cons, place_cons, place_snoc m l x, total_cons]
    by_cases h : y.mark = m
    · rw [if_pos h, if_pos h]
    · rw [if_neg h, if_neg h]
      cases place m l with
      | some p => rfl
      | none =>
        simp only [Option.map_none]
        by_cases hx : x.mark = m
        · rw [if_pos hx, if_pos hx, Option.map_some, Nat.add_comm]
        · rw [if_neg hx, if_neg hx]; rfl

theorem place_some {m : Str} : ∀ {l : List Ln}, (place m l).isSome = decide (m ∈ l.map (·.mark))
  | [] => rfl
  | x :: l => by
    rw [place_cons, List.map_cons]
    by_cases h : x.mark = m
    · rw [if_pos h, decide_eq_true (List.mem_cons.2 (.inl h.symm))]; rfl
    · rw [if_neg h, Option.isSome_map, place_some (l := l), decide_eq_decide]
      constructor
      · exact fun hm => List.mem_cons_of_mem _ hm
      · intro hm
        rcases List.mem_cons.1 hm with hm | hm
        · exact absurd hm.symm h
        · exact hm

theorem total_snoc (l : List Ln) (x : Ln) : total (l ++ [x]) = total l + x.body.words := by simp [total]

/-- The marks' map. -/
def markV (l : List Ln) (m : Str) : Option V := if m = [] then none else match place m l with | some p => some (.int .i64 (p : Int)) | none => none
def MarksOk (es : List (V × V)) (l : List Ln) : Prop := ∀ m : Str, mfind (.str m) es = markV l m

theorem marks_none {es : List (V × V)} {l : List Ln} (h : MarksOk es l) {x : Ln} (hx : x.mark = []) : MarksOk es (l ++ [x]) := by
  intro m
  rw [h m]
  unfold markV
  by_cases hm : m = []
  · rw [if_pos hm, if_pos hm]
  · rw [if_neg hm, if_neg hm, place_snoc]
    have hne : ¬ x.mark = m := fun e => hm (by rw [← e, hx])
    cases place m l with
    | some p => rfl
    | none => simp only [if_neg hne]

theorem marks_put {es : List (V × V)} {l : List Ln} (h : MarksOk es l) {x : Ln} (hx : x.mark ≠ []) (hn : x.mark ∉ l.map (·.mark)) : MarksOk (mput (.str x.mark) (.int .i64 (total l : Nat)) es) (l ++ [x]) := by
  intro m
  rw [mfind_mput, h m]
  unfold markV
  by_cases hm : m = []
  · rw [if_pos hm, if_pos hm, if_neg (fun e => hx (by rw [← e, hm]))]
  · rw [if_neg hm, if_neg hm, place_snoc]
    by_cases e : m = x.mark
    · rw [if_pos e]
      have hp : place m l = none := by
        have := place_some (m := m) (l := l)
        rw [decide_eq_false (by rw [e]; exact hn)] at this
        cases hq : place m l with
        | none => rfl
        | some p => rw [hq] at this; cases this
      rw [hp]
      simp only [if_pos e.symm]
    · rw [if_neg e]
      have hne : ¬ x.mark = m := fun hh => e hh.symm
      cases place m l with
      | some p => rfl
      | none => simp only [if_neg hne]

def bodies (ds : List (Ln × Nat)) : List (Body × Nat) := ds.map fun p => (p.1.body, p.2)
def lnsOf (ds : List (Ln × Nat)) : List Ln := ds.map (·.1)

theorem itemsOf_le : ∀ (l : List (Body × Nat)) (n : Nat), (itemsOf n l).length ≤ 5 * l.length
  | [], _ => by simp [itemsOf]
  | (x, b) :: l, n => by
    have := itemsOf_le l (n + 1)
    unfold itemsOf
    rw [List.length_append, List.length_cons]
    have : (ITM n b x).length ≤ 5 := by cases x <;> simp [ITM]
    omega

section
variable {h : Heap}

theorem last_take {w : Str} {c : UInt8} (hw : w ≠ []) : ((w.drop (w.length - 1)).take (w.length - (w.length - 1)) == [c]) = (w.getLast? == some c) := by
  have hp := List.length_pos_iff.2 hw
  rw [last_is hw, List.drop_eq_getElem_cons (by omega), List.drop_eq_nil_of_le (by omega), List.take_of_length_le (by simp; omega), List.getD_eq_getElem?_getD, List.getElem?_eq_getElem (by omega)]
  show ([_] == [c]) = (some _ == some c)
  simp only [Option.getD_some]
  generalize w[w.length - 1]'(by omega) = b
  by_cases hb : b = c
  · rw [hb]; simp
  · rw [beq_false_of_ne (fun e => hb (by injection e)), beq_false_of_ne (fun e => hb (Option.some.inj e))]

theorem HasSuffix1 {w : Str} {c : UInt8} (hl : w.length ≤ 1000000) {Q : Bool → Heap → Prop} (hq : Q (w.getLast? == some c) h) : zf23 w [c] Q h := by
  unfold zf23
  by_cases hw : w = []
  · subst hw
    exact br_f (decide_eq_false (by simp)) hq
  · have hp := List.length_pos_iff.2 hw
    have ew : IntKind.i64.wrap ((w.length : Int) - (([c] : Str).length : Int)) = ((w.length - 1 : Nat) : Int) := by
      simp only [List.length_cons, List.length_nil]
      rw [wrap64] <;> omega
    rw [ew]
    refine br_t (decide_eq_true (by simp only [List.length_cons, List.length_nil]; omega)) (sb_of (by omega) (by omega) ?_)
    rw [Int.toNat_natCast, last_take hw]
    exact hq

theorem TrimSuffix1 {w : Str} {c : UInt8} (hl : w.length ≤ 1000000) (hw : w.getLast? = some c) {Q : Str → Heap → Prop} (hq : Q w.dropLast h) : zf70 w [c] Q h := by
  unfold zf70 zf25
  refine HasSuffix1 hl ?_
  rw [hw]
  have hne : w ≠ [] := by intro e; rw [e] at hw; cases hw
  have hp := List.length_pos_iff.2 hne
  have ew : IntKind.i64.wrap ((w.length : Int) - (([c] : Str).length : Int)) = ((w.length - 1 : Nat) : Int) := by
    simp only [List.length_cons, List.length_nil]
    rw [wrap64] <;> omega
  rw [ew]
  refine br_t (beq_self_eq_true _) (sb_of (by omega) (by omega) ?_)
  rw [Int.toNat_natCast, List.drop_zero, Nat.sub_zero, ← List.dropLast_eq_take]
  exact hq

end


/-- What is known of the library's variables, for the assembler. -/
structure AsU (U : Ifc) (h : Heap) : Prop where
  asc : ∀ c : Nat, c < 256 → h.get (U.glob 4) c = some (.int .u8 (if Lib.isSp (UInt8.ofNat c) then 1 else 0))
  one : oneTab U 5

theorem AsU.keep {U : Ifc} {h g : Heap} (a : AsU U h) (k : Keeps none_ h g) : AsU U g := by
  refine ⟨fun c hc => ?_, a.one⟩
  have hg := a.asc c hc
  have hn : h.obj (U.glob 4) ≠ none := by intro hn; unfold Heap.get at hg; rw [hn] at hg; cases hg
  rw [Heap.get_obj (k.same _ hn (fun f => f))]; exact hg

/-- What a parse comes to. -/
def parseR (h : Heap) (Q : Option Ptr → V → Heap → Prop) (l : List Ln) : Prop :=
  if total l > 16384 then ∀ g, Keeps none_ h g → Q none (.iface 5 (.int .i64 3)) g else
      ∀ pb mb it rowL es bs c ds g, lnsOf ds = l → ARow 5 it rowL (itemsOf 0 (bodies ds)) → MarksOk es l → St h none_ ((pb, .cells [.sl it, .map (some mb), .int .i64 ((total l) : Nat)] false) :: (mb, .map .str es bs c) :: (rowL ++ insOf (bodies ds))) g → Q (some ⟨pb, 0⟩) .nilif g

def parseQ (h : Heap) (Q : Option Ptr → V → Heap → Prop) : Nat ⊕ List Ln → Prop
  | .inl n => ∀ g, Keeps none_ h g → Q none (.iface 6 (.agg [.int .i64 (n : Int)])) g
  | .inr l => parseR h Q l

section
variable {U : Ifc} {h g : Heap}

theorem parse_j15 (au : AsU U h) {pb mb fb : Nat} {M FO : HO} {X : List (Nat × HO)} {ds : List (Ln × Nat)} {it : Sl} {rowL : List (Nat × HO)} (hds : ds.length ≤ 100000) (r : ARow 5 it rowL (itemsOf 0 (bodies ds))) (hw : total (lnsOf ds) ≤ 1000000000) {ws : List Str} {sl lsl : Sl} {ll : Int}
    (S : St h none_ ((fb, FO) :: (pb, .cells [.sl it, .map (some mb), .int .i64 ((total (lnsOf ds)) : Nat)] false) :: (mb, M) :: (rowL ++ (X ++ insOf (bodies ds)))) g) (hW : ∀ g', g'.obj fb = some FO → Words g' sl ws) (hws : ∀ w' ∈ ws, w'.length ≤ 1000000) {Q : Option Ptr → V → Heap → Prop} {I : Ptr → Sl → Int → Int → Heap → Prop}
    (hbad : readB ws = none → ∀ g', Keeps none_ h g' → Q none (.iface 6 (.agg [.int .i64 (ds.length : Int)])) g')
    (hgood : ∀ b, readB ws = some b → ∀ it' rowL' g' k, ARow 5 it' rowL' (itemsOf 0 (bodies ds ++ [(b, k)])) → St h none_ ((pb, .cells [.sl it', .map (some mb), .int .i64 ((total (lnsOf ds) + b.words) : Nat)] false) :: (mb, M) :: (rowL' ++ (X ++ insOf (bodies ds ++ [(b, k)])))) g' → I ⟨pb, 0⟩ lsl ll ((ds.length + 1 : Nat) : Int) g') :
    zf9.j15 U I ⟨pb, 0⟩ (ds.length : Int) sl lsl ll (ds.length : Int) Q g := by
  unfold zf9.j15
  have hil : it.len ≤ 1000000 := by
    have h1 := r.len
    have h2 := itemsOf_le (bodies ds) 0
    have h3 : (bodies ds).length = ds.length := by simp [bodies]
    omega
  refine read_of au.asc (n := ds.length) (by simp [bodies]) r hil hw S hW hws ?_
  cases hb : readB ws with
  | none =>
    intro g' k'
    refine isNil_i ?_
    refine br_t rfl ?_
    exact chk_of rfl (hbad hb g' k')
  | some b =>
    intro it' rowL' g' k r' S'
    refine isNil_n ?_
    refine br_f rfl ?_
    rw [wrap64 (x := (ds.length : Int) + 1) (by omega) (by omega)]
    exact hgood b hb it' rowL' g' k r' S'.tail

theorem mark_dec (m : Str) (l : List Ln) (hm : m ≠ []) : (markV l m).isSome = decide (m ∈ l.map (·.mark)) := by
  unfold markV
  rw [if_neg hm, ← place_some]
  cases place m l <;> rfl

theorem parse_of (au : AsU U h) {s : Str} (hs : s.length ≤ 65536) {Q : Option Ptr → V → Heap → Prop} (hq : parseQ h Q (linesGo 0 [] (split s))) : zf9 U s Q h := by
  unfold zf9
  refine (St.start h none_).alM (fun mb g1 S1 => S1.al (fun pb g2 S2 => ?_))
  unfold zf67
  refine ⟨by omega, by decide, au.one, fun lb hlb => ?_⟩
  rw [splitL_split]
  have S3 := S2.more hlb (h' := g2.new lb (.cells ((split s).map V.str) false)) Heap.new_obj (Keeps.new hlb _)
  have hcount := split_count s
  have hlens := split_len s
  generalize split s = ls at S3 hq hcount hlens ⊢
  unfold zf9.j4
  intro I H
  have main : ∀ (ss : List Str) (ds : List (Ln × Nat)) (it : Sl) (rowL : List (Nat × HO)) (es : List (V × V)) (bs : List Nat) (c : Nat) (g : Heap), ls.drop ds.length = ss → ds.length ≤ ls.length → ARow 5 it rowL (itemsOf 0 (bodies ds)) → MarksOk es (lnsOf ds) → (∀ x ∈ lnsOf ds, BodyOk x.body) →
      St h none_ ((pb, .cells [.sl it, .map (some mb), .int .i64 ((total (lnsOf ds)) : Nat)] false) :: (mb, .map .str es bs c) :: (rowL ++ ([(lb, .cells (ls.map V.str) false)] ++ insOf (bodies ds)))) g → parseQ h Q (linesGo ds.length (lnsOf ds) ss) → I ⟨pb, 0⟩ ⟨some ⟨lb, 0⟩, ls.length, ls.length⟩ ((ls.length : Nat) : Int) (ds.length : Int) g := by
    intro ss
    induction ss with
    | nil =>
      intro ds it rowL es bs c g hd hdl r hm hok S hq
      have hge : ls.length ≤ ds.length := by
        have := congrArg List.length hd
        rw [List.length_drop] at this; simp at this; omega
      refine H _ _ _ _ _ ?_
      unfold zf9.b4
      refine br_f (decide_eq_false (by omega)) (S.rI i0 rfl ?_)
      have hq : parseR h Q (lnsOf ds) := hq
      unfold parseR at hq
      by_cases ht : total (lnsOf ds) > 16384
      · rw [if_pos ht] at hq
        exact br_t (decide_eq_true (by omega)) (hq g S.keeps)
      · rw [if_neg ht] at hq
        refine br_f (decide_eq_false (by omega)) (hq pb mb it rowL es bs c ds g rfl r hm (S.sub ?_))
        exact ((List.Sublist.refl rowL).append (List.sublist_append_right _ _)).cons_cons _ |>.cons_cons _
    | cons t ss ih =>
      intro ds it rowL es bs c g hd hdl r hm hok S hq
      have hlt : ds.length < ls.length := by
        rcases Nat.lt_or_ge ds.length ls.length with h1 | h1
        · exact h1
        · rw [List.drop_eq_nil_of_le h1] at hd; cases hd
      have hd2 := hd
      rw [List.drop_eq_getElem_cons hlt] at hd2
      injection hd2 with ht hss
      have hti : ls[ds.length]? = some t := by rw [List.getElem?_eq_getElem hlt, ht]
      have htl := hlens t (List.mem_of_getElem? hti)
      have htot : total (lnsOf ds) ≤ 1000000000 := by
        have := total_le hok
        have : (lnsOf ds).length = ds.length := by simp [lnsOf]
        omega
      refine H _ _ _ _ _ ?_
      unfold zf9.b4
      refine br_t (decide_eq_true (by omega)) (ix_of (by omega) (by show (ds.length : Int) < (ls.length : Int); omega) ?_)
      rw [der_some, Int.toNat_natCast]
      have hlo : g.obj lb = some (.cells (ls.map V.str) false) := S.objs lb _ (by simp)
      have hgl : g.get lb (0 + ds.length * 1) = some (.str t) := by
        rw [get_cells hlo, Nat.zero_add, Nat.mul_one, List.getElem?_map, hti]; rfl
      refine rdStr_of hgl ?_
      unfold zf59
      refine ⟨by omega, au.one, ?_⟩
      unfold zf62
      have hcl : (Lib.cut t [35]).1.length ≤ t.length := by rw [cut_hash]; exact (List.takeWhile_sublist _).length_le
      refine ⟨by omega, rfl, fun fb hfb => ?_⟩
      have hws := line_words t
      have hflen : (Lib.goFieldsP sepR ⟨((Lib.cut t [35]).1).toArray⟩).length = (wordsGo [] t).length := by rw [← hws, List.length_map]
      rw [hws, hflen]
      have S4 := S.more hfb (h' := g.new fb (.cells ((wordsGo [] t).map V.str) false)) Heap.new_obj (Keeps.new hfb _)
      generalize g.new fb (.cells ((wordsGo [] t).map V.str) false) = g4 at S4 ⊢
      have hwl : ∀ w ∈ wordsGo [] t, w.length ≤ 1000000 := fun w hw => by have := words_len t [] w hw; simp at this; omega
      have hwn := words_ne t []
      rw [linesGo_cons] at hq
      have hro : ∀ x, readL t = some x → BodyOk x.body := fun x hx => readL_ok hx
      unfold readL at hq hro
      generalize wordsGo [] t = ws at S4 hwl hwn hq hro ⊢
      have hW : ∀ g', g'.obj fb = some (.cells (ws.map V.str) false) → Words g' ⟨some ⟨fb, 0⟩, ws.length, ws.length⟩ ws := fun g' ho => ⟨⟨by simp, fun p hp i v hv => by cases hp; rw [get_cells ho, Nat.zero_add]; exact hv, fun hp => by cases hp⟩, Nat.le_refl _⟩
      have W := hW g4 (S4.obj i0)
      -- the next line
      have step : ∀ (x : Ln) (k : Nat) (it' : Sl) (rowL' : List (Nat × HO)) (es' : List (V × V)) (bs' : List Nat) (c' : Nat) (g' : Heap), readW ws = some x → ¬ (x.mark ≠ [] ∧ x.mark ∈ (lnsOf ds).map (·.mark)) → MarksOk es' (lnsOf ds ++ [x]) → ARow 5 it' rowL' (itemsOf 0 (bodies ds ++ [(x.body, k)])) →
          St h none_ ((pb, .cells [.sl it', .map (some mb), .int .i64 ((total (lnsOf ds) + x.body.words) : Nat)] false) :: (mb, .map .str es' bs' c') :: (rowL' ++ ([(lb, .cells (ls.map V.str) false)] ++ insOf (bodies ds ++ [(x.body, k)])))) g' → I ⟨pb, 0⟩ ⟨some ⟨lb, 0⟩, ls.length, ls.length⟩ ((ls.length : Nat) : Int) ((ds.length + 1 : Nat) : Int) g' := by
        intro x k it' rowL' es' bs' c' g' hx hn hm' r' S'
        rw [hx] at hq
        simp only [if_neg hn] at hq
        have eb : bodies (ds ++ [(x, k)]) = bodies ds ++ [(x.body, k)] := by simp [bodies]
        have el : lnsOf (ds ++ [(x, k)]) = lnsOf ds ++ [x] := by simp [lnsOf]
        have en : (ds ++ [(x, k)]).length = ds.length + 1 := by simp
        have := ih (ds ++ [(x, k)]) it' rowL' es' bs' c' g' (by rw [en]; exact hss) (by rw [en]; omega) (by rw [eb]; exact r') (by rw [el]; exact hm') (fun y hy => by
          rw [el] at hy
          rcases List.mem_append.1 hy with hy | hy
          · exact hok y hy
          · rw [List.mem_singleton.1 hy]; exact hro _ hx) (by rw [eb, el, total_snoc]; exact S') (by rw [en, el]; exact hq)
        rw [en] at this
        exact this
      have bad : readW ws = none → ∀ g', Keeps none_ h g' → Q none (.iface 6 (.agg [.int .i64 (ds.length : Int)])) g' := by
        intro hx
        rw [hx] at hq
        exact hq
      have dup : ∀ x, readW ws = some x → x.mark ≠ [] → x.mark ∈ (lnsOf ds).map (·.mark) → ∀ g', Keeps none_ h g' → Q none (.iface 6 (.agg [.int .i64 (ds.length : Int)])) g' := by
        intro x hx h1 h2
        rw [hx] at hq
        simp only [if_pos (And.intro h1 h2)] at hq
        exact hq
      clear hq
      have plain : (ws = [] ∨ ∃ w ws', ws = w :: ws' ∧ w.getLast? ≠ some 58) → readW ws = withMark [] (readB ws) := by
        rintro (e | ⟨w, ws', e, hl⟩)
        · subst e; rfl
        · subst e
          show (if w.getLast? = some 58 then _ else withMark [] (readB (w :: ws'))) = _
          rw [if_neg hl]
      have go15 : (ws = [] ∨ ∃ w ws', ws = w :: ws' ∧ w.getLast? ≠ some 58) → zf9.j15 U I ⟨pb, 0⟩ (ds.length : Int) ⟨some ⟨fb, 0⟩, ws.length, ws.length⟩ ⟨some ⟨lb, 0⟩, ls.length, ls.length⟩ ((ls.length : Nat) : Int) (ds.length : Int) Q g4 := by
        intro hp
        have hp := plain hp
        refine parse_j15 au (by omega) r htot S4 hW hwl (fun hb => bad (by rw [hp, hb]; rfl)) (fun b hb it' rowL' g' k r' S' => ?_)
        exact step ⟨[], b⟩ k it' rowL' es bs c g' (by rw [hp, hb]; rfl) (fun hh => hh.1 rfl) (marks_none hm rfl) r' S'
      cases ws with
      | nil => exact br_f rfl (go15 (.inl rfl))
      | cons w ws' =>
        have hwl0 := hwl w List.mem_cons_self
        refine br_t (decide_eq_true (by simp only [List.length_cons]; omega)) (W.ixrd (i := 0) rfl rfl ?_)
        unfold zf63
        refine HasSuffix1 hwl0 ?_
        by_cases hc : w.getLast? = some 58
        case neg => exact br_f (beq_false_of_ne hc) (go15 (.inr ⟨w, ws', rfl, hc⟩))
        refine br_t (by rw [hc]; rfl) ?_
        unfold zf9.j9 zf9.j12
        have hrw : readW (w :: ws') = if nameOk w.dropLast then withMark w.dropLast (readB ws') else none := by
          show (if w.getLast? = some 58 then _ else _) = _
          rw [if_pos hc]
        refine W.ixrd (i := 0) rfl rfl (TrimSuffix1 hwl0 hc (S4.rM (i := 1) rfl rfl (S4.mapGet (i := 2) rfl ?_)))
        rw [hm w.dropLast]
        have hmk : ∀ {κ : Int → Prop}, (∀ z, κ z) → asI .i64 ((markV (lnsOf ds) w.dropLast).getD (.int .i64 0)) κ := by
          intro κ hk
          unfold markV
          split
          · exact asI_of (hk 0)
          · split
            · exact asI_of (hk _)
            · exact asI_of (hk 0)
        refine hmk (fun z => ?_)
        have hdl : w.dropLast.length ≤ 1000000 := by simp; omega
        by_cases hne : w.dropLast = []
        · -- a mark without a name
          have e1 : markV (lnsOf ds) w.dropLast = none := by unfold markV; rw [if_pos hne]
          rw [e1]
          refine br_f rfl (isName_of hdl ?_)
          have e2 : nameOk w.dropLast = false := by rw [hne]; rfl
          rw [e2]
          exact br_t rfl (bad (by rw [hrw, e2]; rfl) g4 S4.keeps)
        rw [mark_dec _ _ hne]
        by_cases hin : w.dropLast ∈ (lnsOf ds).map (·.mark)
        · refine br_t (decide_eq_true hin) ?_
          -- twice, or none
          cases hrd : readW (w :: ws') with
          | none => exact bad hrd g4 S4.keeps
          | some x =>
            have hxm : x.mark = w.dropLast := by
              rw [hrw] at hrd
              split at hrd
              · cases hb : readB ws' with
                | none => rw [hb] at hrd; cases hrd
                | some b => rw [hb] at hrd; cases hrd; rfl
              · cases hrd
            exact dup x hrd (by rw [hxm]; exact hne) (by rw [hxm]; exact hin) g4 S4.keeps
        · refine br_f (decide_eq_false hin) (isName_of hdl ?_)
          cases hn : nameOk w.dropLast with
          | false => exact br_t rfl (bad (by rw [hrw, hn]; rfl) g4 S4.keeps)
          | true =>
            rw [hn, if_pos rfl] at hrw
            refine br_f rfl (S4.rM (i := 1) rfl rfl (S4.rI (i := 1) rfl rfl (S4.mapPut (i := 2) rfl (fun g5 S5 => ?_))))
            obtain ⟨bs', c', e⟩ := putO_map (ks := .str) (es := es) (bs := bs) (c := c) (k := .str w.dropLast) (v := .int .i64 ((total (lnsOf ds) : Nat) : Int))
            rw [e] at S5
            have S5 : St h none_ ((fb, .cells ((w :: ws').map V.str) false) :: (pb, .cells [.sl it, .map (some mb), .int .i64 ((total (lnsOf ds)) : Nat)] false) :: (mb, .map .str (mput (.str w.dropLast) (.int .i64 ((total (lnsOf ds) : Nat) : Int)) es) bs' c') :: (rowL ++ ([(lb, .cells (ls.map V.str) false)] ++ insOf (bodies ds)))) g5 := S5
            unfold zf9.j14
            refine sb_of (by omega) (by simp only [List.length_cons]; omega) ?_
            refine parse_j15 au (by omega) r htot S5 (ws := ws') (fun g' ho => (hW g' ho).tail) (fun w' h' => hwl w' (List.mem_cons_of_mem _ h')) (fun hb => bad (by rw [hrw, hb]; rfl)) (fun b hb it' rowL' g' k r' S' => ?_)
            exact step ⟨w.dropLast, b⟩ k it' rowL' _ bs' c' g' (by rw [hrw, hb]; rfl) (fun hh => hin hh.2) (marks_put hm hne hin) r' S'
  refine main ls [] ⟨none, 0, 0⟩ [] [] [] 0 _ rfl (by simp) (.inl ⟨rfl, rfl, rfl⟩) (fun m => ?_) (fun x hx => by cases hx) ?_ hq
  · unfold markV; split <;> rfl
  · exact S3.perm (by
      show [_, _, _].Perm [_, _, _]
      exact (List.Perm.trans (List.Perm.swap _ _ _) (List.Perm.cons _ (List.Perm.swap _ _ _))).symm)

end
end Go.Asm

set_option linter.unusedSimpArgs false
set_option linter.unusedVariables false
set_option maxRecDepth 100000
namespace Go.Asm
open Go.Lift Go.Fn Go.Insn

section
variable {h0 g : Heap} {sl : Sl} {sz bytes m : Nat} {vs new z : List V} {T : Nat → Prop}

theorem _root_.Go.Lift.Row.appm {κ : Sl → Heap → Prop} (R : Row h0 g sl sz vs) (k : Keeps T h0 g) (hnew : new.length = m * sz) (hz : z.length = sz) (hb : (sl.len + m) * bytes ≤ 140737488355328) (hm : sl.len + m ≤ 9223372036854775807)
    (hk : ∀ sl' g', Row h0 g' sl' sz (vs ++ new) → sl'.len = sl.len + m → Keeps (fun z => h0.obj z = none) g g' → κ sl' g') : appS sz bytes z sl new m κ g := by
  have fresh : ∀ b', g.obj b' = none → h0.obj b' = none := fun b' hb => by
    cases hh : h0.obj b' with
    | none => rfl
    | some y => exact absurd hb (k.known b' (by rw [hh]; simp))
  rcases R with ⟨rfl, rfl⟩ | ⟨b, O, hb0⟩
  · by_cases h0m : m = 0
    · subst h0m
      have hn : new = [] := List.length_eq_zero_iff.1 (by rw [hnew, Nat.zero_mul])
      subst hn
      unfold appS
      rw [if_pos (by decide)]
      exact ⟨rfl, hk ⟨none, 0, 0⟩ g (.inl ⟨rfl, rfl⟩) rfl (Keeps.refl _ _)⟩
    · refine appS_nil hnew (by omega) hz (by simpa using hb) (by simpa using hm) (fun s' h' b' O' hl hbn k' => ?_)
      exact hk s' h' (.inr ⟨b', O', fresh b' hbn⟩) (by simpa using hl) (k'.mono (fun _ f => f.elim))
  · refine appS_own O hnew hz hb hm (fun s' h' b' O' hl hbb k' => ?_)
    refine hk s' h' (.inr ⟨b', O', ?_⟩) hl (k'.mono (fun z e => by rw [e]; exact hb0))
    rcases hbb with rfl | hbn
    · exact hb0
    · exact fresh b' hbn

end

section
variable {g : Heap}

theorem Mul_one {n : Nat} (hn : n ≤ 100000) {Q : Int → Int → Heap → Prop} (hq : Q 0 (n : Int) g) : zf26 (IntKind.u64.wrap ((1 : Nat) : Int)) (IntKind.u64.wrap (n : Int)) Q g := by
  rw [wrapu64 (x := (n : Int)) (by omega) (by omega), show IntKind.u64.wrap ((1 : Nat) : Int) = 1 by decide]
  unfold zf26 zf27
  have e1 : ibits .and .u64 (n : Int) 4294967295 = (n : Int) := by
    have := and_mask (a := n) (n := 32) (by omega) (by decide)
    rw [show (((2 ^ 32 - 1 : Nat)) : Int) = 4294967295 by decide, Nat.mod_eq_of_lt (by omega)] at this
    exact this
  have e2 : shrI .u64 (n : Int) 32 = 0 := by
    have := shr64 (w := n) (k := 32) (by decide)
    rw [show ((32 : Nat) : Int) = 32 from rfl, Nat.div_eq_of_lt (by omega)] at this
    exact this
  have e3 : ibits .and .u64 1 4294967295 = 1 := by decide
  have e4 : shrI .u64 1 32 = 0 := by decide
  rw [e1, e2, e3, e4]
  refine nneg_of (by decide) (nneg_of (by decide) (nneg_of (by decide) ?_))
  unfold zf27.j7
  have z0 : IntKind.u64.wrap 0 = 0 := by decide
  have s0 : shrI .u64 0 32 = 0 := by decide
  have i0 : ibits .and .u64 0 4294967295 = 0 := by decide
  have hw : IntKind.u64.wrap (n : Int) = (n : Int) := wrapu64 (by omega) (by omega)
  simp only [Int.zero_mul, z0, s0, i0, Int.one_mul, Int.add_zero, Int.zero_add, Int.mul_zero, hw, e2]
  exact nneg_of (by decide) (nneg_of (by decide) hq)

theorem flatRep_one (x : V) : ∀ n : Nat, flatRep n [x] = List.replicate n x
  | 0 => rfl
  | n + 1 => by
    have ih := flatRep_one x n
    unfold flatRep at ih ⊢
    rw [List.replicate_succ, List.flatten_cons, ih]; rfl

theorem splice_rep {α : Type} {x y : V} {n k j : Nat} (hj : j ≤ n - k) (hk : k ≤ n) : splice (List.replicate k x ++ List.replicate (n - k) y) k (List.replicate j x) = List.replicate (k + j) x ++ List.replicate (n - (k + j)) y := by
  unfold splice
  rw [List.take_left' (by simp), List.length_replicate, List.replicate_append_replicate, List.drop_append, List.drop_eq_nil_of_le (by simp), List.nil_append, List.drop_replicate, List.length_replicate]
  congr 2; omega

theorem Repeat_of {b n : Nat} {v : Int} {mk : Bool} (ho : g.obj b = some (.cells [.int .u32 v] mk)) (hn : n ≤ 100000) {Q : Sl → Heap → Prop}
    (hk : ∀ rb g', g.obj rb = none → g'.obj rb = some (.cells (List.replicate n (.int .u32 v)) false) → Keeps none_ g g' → Q ⟨some ⟨rb, 0⟩, n, n⟩ g') : zf55 ⟨some ⟨b, 0⟩, 1, 1⟩ (n : Int) Q g := by
  unfold zf55
  refine br_f (decide_eq_false (by omega)) (Mul_one hn (br_f (by decide) (br_f (decide_eq_false (by omega)) ?_)))
  rw [wrap64 (x := (n : Int)) (by omega) (by omega)]
  refine ⟨by omega, by omega, by omega, by omega, ?_⟩
  rw [Int.toNat_natCast]
  rw [flatRep_one]
  refine al_of (fun rb g1 hrb hor k1 => ?_)
  have ho1 := k1.obj ho (fun f => f)
  have hne : b ≠ rb := Heap.ne_of ho hrb
  refine rdN_held (vs := [.int .u32 v]) rfl (fun j u hj => by rw [get_cells ho1, Nat.zero_add]; exact hj) ?_
  unfold zf55.j8
  -- the rounds
  have main : ∀ (d k : Nat) (g2 : Heap) (I : Sl → Int → Heap → Prop), (∀ a1 a2 h, zf55.b8 I a1 a2 Q h → I a1 a2 h) → k + d = n → (k = 0 → n = 0) → g2.obj rb = some (.cells (List.replicate k (V.int .u32 v) ++ List.replicate (n - k) (V.int .u32 0)) false) → Keeps none_ g g2 → I ⟨some ⟨rb, 0⟩, n, n⟩ (k : Int) g2 := by
    intro d
    induction d using Nat.strongRecOn with
    | _ d ih =>
      intro k g2 I H hd h0 ho2 k2
      refine H _ _ _ ?_
      unfold zf55.b8
      by_cases hkn : k < n
      · have hk0 : 0 < k := by
          rcases Nat.eq_zero_or_pos k with e | e
          · have := h0 e; omega
          · exact e
        refine br_t (decide_eq_true (by show (k : Int) < (n : Int); omega)) (sb_of (by omega) (by show (k : Int) ≤ (n : Int); omega) (sb_of (by omega) (by show (k : Int) ≤ (n : Int); omega) ?_))
        rw [Int.toNat_natCast, Nat.sub_zero, Nat.sub_zero]
        have hp0 : slp (some (⟨rb, 0⟩ : Ptr)) (0 * 1) 0 n = some ⟨rb, 0⟩ := by unfold slp; split <;> rfl
        have hpk : slp (some (⟨rb, 0⟩ : Ptr)) (k * 1) k n = some ⟨rb, k⟩ := by
          unfold slp; rw [if_neg (by omega)]
          show some (⟨rb, 0 + k * 1⟩ : Ptr) = _
          rw [Nat.zero_add, Nat.mul_one]
        rw [hp0, hpk]
        refine rdN_held (vs := List.replicate k (V.int .u32 v)) (by simp) (fun j u hj => by
          rw [get_cells ho2, Nat.zero_add, List.getElem?_append_left (by
            rcases Nat.lt_or_ge j k with h1 | h1
            · simpa using h1
            · rw [List.getElem?_eq_none (by simpa using h1)] at hj; cases hj)]
          exact hj) ?_
        refine copyS_of (o := k) rfl ho2 (by simp; omega) (fun g3 ho3 k3 => ?_)
        have e : (List.replicate k (V.int .u32 v)).take (min k (n - k) * 1) = List.replicate (min k (n - k)) (V.int .u32 v) := by
          rw [List.take_replicate]; congr 1; omega
        rw [e, splice_rep (α := Nat) (by omega) (by omega)] at ho3
        rw [wrap64 (by omega) (by omega), show (k : Int) + ((min k (n - k) : Nat) : Int) = ((k + min k (n - k) : Nat) : Int) by omega]
        exact ih (n - (k + min k (n - k))) (by omega) (k + min k (n - k)) g3 I H (by omega) (fun e => by omega) ho3 (Keeps.widen' k2 k3 hrb)
      · have : k = n := by omega
        subst this
        rw [Nat.sub_self, List.replicate_zero, List.append_nil] at ho2
        exact br_f (decide_eq_false (by show ¬ (k : Int) < (k : Int); omega)) (hk rb g2 hrb ho2 k2)
  refine copyS_of (o := 0) rfl hor (by simp; omega) (fun g2 ho2 k2 => ?_)
  have kk2 : Keeps none_ g g2 := Keeps.widen' k1 k2 hrb
  intro I H
  have e : min 1 n = 0 ∧ n = 0 ∨ min 1 n = 1 ∧ 1 ≤ n := by omega
  rcases e with ⟨e, hn0⟩ | ⟨e, hn1⟩
  · subst hn0
    exact main 0 0 g2 I H rfl (fun _ => rfl) (by simpa [splice] using ho2) kk2
  · have hm1 : min 1 n * 1 = 1 := by omega
    have ho2 : g2.obj rb = some (.cells (splice (List.replicate 0 (V.int .u32 v) ++ List.replicate (n - 0) (V.int .u32 0)) 0 (List.replicate 1 (V.int .u32 v))) false) := by
      rw [ho2]
      show some (HO.cells (splice (List.replicate n (V.int .u32 0)) 0 (([V.int .u32 v] : List V).take (min 1 n * 1))) false) = _
      rw [hm1]; rfl
    rw [splice_rep (α := Nat) (by omega) (by omega)] at ho2
    have := main (n - 1) 1 g2 I H (by omega) (fun e => by omega) ho2 kk2
    show I ⟨some ⟨rb, 0⟩, n, n⟩ ((min 1 n : Nat) : Int) g2
    rw [e]; exact this

end
end Go.Asm

set_option linter.unusedSimpArgs false
set_option linter.unusedVariables false
set_option maxRecDepth 100000
namespace Go.Asm
open Go.Lift Go.Fn Go.Insn

/-- What an encoding comes to. -/
def encQ (h : Heap) (pb mb : Nat) (P M : HO) (Q : Sl → V → Heap → Prop) : Nat ⊕ List Int → Prop
  | .inl n => ∀ g, Keeps none_ h g → Q ⟨none, 0, 0⟩ (.iface 6 (.agg [.int .i64 (n : Int)])) g
  | .inr out => ∀ g so, Row h g so 1 (out.map (V.int .u32)) → Keeps none_ h g → g.obj pb = some P → g.obj mb = some M → Q so .nilif g

theorem lnsOf_cons (p : Ln × Nat) (l : List (Ln × Nat)) : lnsOf (p :: l) = p.1 :: lnsOf l := rfl

section
variable {h : Heap}

theorem encode_of {pb mb w : Nat} {it : Sl} {rowL : List (Nat × HO)} {es : List (V × V)} {bs : List Nat} {c : Nat} {ds : List (Ln × Nat)} {l : List Ln} {g : Heap} (hl : lnsOf ds = l) (r : ARow 5 it rowL (itemsOf 0 (bodies ds))) (hm : MarksOk es l) (hok : ∀ x ∈ l, BodyOk x.body) (hlen : l.length ≤ 100001) (ht : total l ≤ 16384)
    (S : St h none_ ((pb, .cells [.sl it, .map (some mb), .int .i64 (w : Nat)] false) :: (mb, .map .str es bs c) :: (rowL ++ insOf (bodies ds))) g) {Q : Sl → V → Heap → Prop} (hq : encQ h pb mb (.cells [.sl it, .map (some mb), .int .i64 (w : Nat)] false) (.map .str es bs c) Q (encGo l 0 [] l)) : zf11 (some ⟨pb, 0⟩) Q g := by
  unfold zf11
  refine der_of (S.rSl i0 rfl ?_)
  unfold zf11.j3
  intro I H
  have hvl := r.len
  have hvle := itemsOf_le (bodies ds) 0
  have hbl : (bodies ds).length = l.length := by rw [← hl]; simp [bodies, lnsOf]
  -- back to the call's base
  have SB := S.base
  have back : ∀ {g' : Heap}, Keeps (fun z => ∃ x, (z, x) ∈ (pb, .cells [.sl it, .map (some mb), .int .i64 (w : Nat)] false) :: (mb, HO.map .str es bs c) :: (rowL ++ insOf (bodies ds))) g g' → Keeps none_ h g' := by
    intro g' k
    refine ⟨fun z hz _ => ?_, fun z hz => k.known z (S.keeps.known z hz)⟩
    rw [k.same z (S.keeps.known z hz) ?_]
    · exact S.keeps.same z hz (fun f => f)
    · rintro ⟨x, hx⟩
      rcases S.new z x hx with h1 | h1
      · exact hz h1
      · exact h1
  have rback : ∀ {g' : Heap} {so : Sl} {vs : List V}, Row g g' so 1 vs → Row h g' so 1 vs := by
    intro g' so vs R
    rcases R with R | ⟨b, O, hb⟩
    · exact .inl R
    · refine .inr ⟨b, O, ?_⟩
      cases hh : h.obj b with
      | none => rfl
      | some y => exact absurd hb (S.keeps.known b (by rw [hh]; simp))
  generalize (fun z => ∃ x, (z, x) ∈ (pb, .cells [.sl it, .map (some mb), .int .i64 (w : Nat)] false) :: (mb, HO.map .str es bs c) :: (rowL ++ insOf (bodies ds))) = K at SB back
  have kn0 : ∀ p ∈ rowL ++ ([] ++ insOf (bodies ds)), g.obj p.1 ≠ none := by
    intro p hp
    rw [S.objs p.1 p.2 (List.mem_cons_of_mem _ (List.mem_cons_of_mem _ (by simpa using hp)))]; simp
  have knp : g.obj pb ≠ none := by rw [S.obj i0]; simp
  have knm : g.obj mb ≠ none := by rw [S.obj i1]; simp
  have main : ∀ (rest : List (Ln × Nat)) (n i : Nat) (out : List Int) (so : Sl) (LI : List (Nat × HO)) (g2 : Heap), n + rest.length = l.length → (itemsOf 0 (bodies ds)).drop (i * 5) = itemsOf n (bodies rest) → i * 5 ≤ (itemsOf 0 (bodies ds)).length → (∀ x ∈ lnsOf rest, BodyOk x.body) → out.length + total (lnsOf rest) ≤ 16384 →
      St g K ((pb, .cells [.sl it, .map (some mb), .int .i64 (w : Nat)] false) :: (mb, .map .str es bs c) :: (rowL ++ (LI ++ insOf (bodies rest)))) g2 → (∀ p ∈ rowL ++ (LI ++ insOf (bodies rest)), g.obj p.1 ≠ none) → Row g g2 so 1 (out.map (V.int .u32)) →
      encQ h pb mb (.cells [.sl it, .map (some mb), .int .i64 (w : Nat)] false) (.map .str es bs c) Q (encGo l n out (lnsOf rest)) → I (some ⟨pb, 0⟩) so it ((it.len : Nat) : Int) (i : Int) g2 := by
    intro rest
    induction rest with
    | nil =>
      intro n i out so LI g2 hn hc hi hok ho S2 kn R hq
      have : (itemsOf 0 (bodies ds)).length ≤ i * 5 := by
        have := congrArg List.length hc
        rw [List.length_drop] at this
        have e : (itemsOf n (bodies [])).length = 0 := rfl
        omega
      refine H _ _ _ _ _ _ ?_
      unfold zf11.b3
      exact br_f (decide_eq_false (by omega)) (hq g2 so (rback R) (back S2.keeps) (S2.obj i0) (S2.obj i1))
    | cons p rest ih =>
      intro n i out so LI g2 hn hc hi hok ho S2 kn R hq
      obtain ⟨⟨m, bd⟩, ib⟩ := p
      rw [lnsOf_cons, encGo_cons] at hq
      rw [lnsOf_cons, total_cons] at ho
      have hbd := hok ⟨m, bd⟩ (by rw [lnsOf_cons]; exact List.mem_cons_self)
      have hokr : ∀ x ∈ lnsOf rest, BodyOk x.body := fun x hx => hok x (by rw [lnsOf_cons]; exact List.mem_cons_of_mem _ hx)
      simp only [List.length_cons] at hn
      have hsl := R.len
      simp only [List.length_map, Nat.mul_one] at hsl
      -- an item's five cells
      have item : ∀ (T : List V), T.length = 5 → ITM n ib bd = T → i < it.len ∧ (itemsOf 0 (bodies ds)).drop ((i + 1) * 5) = itemsOf (n + 1) (bodies rest) ∧ (i + 1) * 5 ≤ (itemsOf 0 (bodies ds)).length ∧ ∃ rb l' mk, it.p = some ⟨rb, 0⟩ ∧ (∀ g', St g K ((pb, .cells [.sl it, .map (some mb), .int .i64 (w : Nat)] false) :: (mb, .map .str es bs c) :: (rowL ++ (LI ++ insOf (bodies ((⟨m, bd⟩, ib) :: rest))))) g' → g'.obj rb = some (.cells l' mk)) ∧ (∀ j, j < 5 → l'[i * 5 + j]? = T[j]?) := by
        intro T hT he
        have hc2 : (itemsOf 0 (bodies ds)).drop (i * 5) = T ++ itemsOf (n + 1) (bodies rest) := by rw [hc, ← he]; rfl
        have hlt : (i + 1) * 5 ≤ (itemsOf 0 (bodies ds)).length := by
          have := congrArg List.length hc2
          rw [List.length_drop, List.length_append, hT] at this
          omega
        refine ⟨by omega, ?_, hlt, ?_⟩
        · rw [show (i + 1) * 5 = i * 5 + 5 by omega, ← List.drop_drop, hc2, List.drop_left' hT]
        · rcases r with ⟨_, hv, _⟩ | ⟨rb, rest', mk, hr, hp, _, _, _⟩
          · rw [hv] at hlt; simp at hlt
          · refine ⟨rb, itemsOf 0 (bodies ds) ++ rest', mk, hp, fun g' S' => S'.objs rb _ (by rw [hr]; simp), fun j hj => ?_⟩
            rw [List.getElem?_append_left (by omega), ← List.getElem?_drop, hc2, List.getElem?_append_left (by omega)]
      cases bd with
      | blank =>
        have := ih (n + 1) i out so LI g2 (by omega) hc hi hokr (by have e : Body.words .blank = 0 := rfl; simp only [e] at ho; omega) S2 kn R hq
        exact this
      | fill k v =>
        obtain ⟨hil, hd2, hi2, rb, l', mk, hp, hrb, hcell⟩ := item _ rfl rfl
        have ew : Body.words (.fill k v) = k := rfl
        simp only [ew] at ho
        have ho2 := hrb g2 S2
        have S2 : St g K ((pb, .cells [.sl it, .map (some mb), .int .i64 (w : Nat)] false) :: (mb, .map .str es bs c) :: (rowL ++ (LI ++ insOf (bodies rest)))) g2 := S2
        have kn : ∀ p ∈ rowL ++ (LI ++ insOf (bodies rest)), g.obj p.1 ≠ none := kn
        refine H _ _ _ _ _ _ ?_
        unfold zf11.b3
        refine br_t (decide_eq_true (by omega)) (ix_of (by omega) (by omega) ?_)
        rw [Int.toNat_natCast, hp, der_some]
        have hg : ∀ j, j < 5 → g2.get rb (0 + i * 5 + j) = ([V.int .i64 (n : Int), .int .i64 (k : Int), .int .u32 (v : Int), .ptr none, .str []] : List V)[j]? := fun j hj => by
          rw [get_cells ho2, Nat.zero_add]; exact hcell j hj
        refine rdI_of (hg 0 (by decide)) (rdI_of (hg 1 (by decide)) (rdI_of (hg 2 (by decide)) (rdP_of (hg 3 (by decide)) (rdStr_of (hg 4 (by decide)) (al_wrL rfl (fun b8 g3 hb8 ho8 k3 => ?_))))))
        refine loc_P ho8 rfl (br_t rfl (loc_I ho8 rfl (al_of (fun b11 g4 hb11 ho11 k4 => ?_))))
        refine loc_I (k4.obj ho8 (fun f => f)) rfl (Repeat_of (n := k) ho11 (by have := hbd.1; omega) (fun rr g5 hrr hor k5 => ?_))
        have kk := (k3.trans k4).trans k5
        have S5 := S2.keep kk
        have R5 := R.keep kk
        refine rdN_held (vs := List.replicate k (.int .u32 (v : Int))) (by simp) (fun j u hj => by rw [get_cells hor, Nat.zero_add]; exact hj) ?_
        refine R5.appm (m := k) S5.keeps (by simp) rfl (by omega) (by omega) (fun so' g6 R6 hl6 k6 => ?_)
        unfold zf11.j16
        rw [wrap64 (x := (i : Int) + 1) (by omega) (by omega)]
        have S6 := S5.keepW k6 (fun b x hb hz => by
          rcases List.mem_cons.1 hb with e | hb
          · cases e; exact knp hz
          · rcases List.mem_cons.1 hb with e | hb
            · cases e; exact knm hz
            · exact kn _ hb hz) (fun z hz hne => absurd hz hne)
        refine ih (n + 1) (i + 1) (out ++ List.replicate k (v : Int)) so' LI g6 (by omega) hd2 hi2 hokr (by rw [List.length_append, List.length_replicate]; omega) S6 kn ?_ hq
        rw [List.map_append, List.map_replicate]; exact R6
      | ins y want =>
        obtain ⟨hil, hd2, hi2, rb, l', mk, hp, hrb, hcell⟩ := item _ rfl rfl
        have ew : Body.words (.ins y want) = 1 := rfl
        simp only [ew] at ho
        have ho2 := hrb g2 S2
        have hy : InsOk y := hbd
        have S2 : St g K ((pb, .cells [.sl it, .map (some mb), .int .i64 (w : Nat)] false) :: (mb, .map .str es bs c) :: (rowL ++ (LI ++ ((ib, .cells (insL y.op y.rd y.rs1 y.rs2 y.imm) false) :: insOf (bodies rest))))) g2 := S2
        have kn : ∀ p ∈ rowL ++ (LI ++ ((ib, HO.cells (insL y.op y.rd y.rs1 y.rs2 y.imm) false) :: insOf (bodies rest))), g.obj p.1 ≠ none := kn
        have knib : g.obj ib ≠ none := kn (ib, HO.cells (insL y.op y.rd y.rs1 y.rs2 y.imm) false) (by simp)
        simp only at hq
        refine H _ _ _ _ _ _ ?_
        unfold zf11.b3
        refine br_t (decide_eq_true (by omega)) (ix_of (by omega) (by omega) ?_)
        rw [Int.toNat_natCast, hp, der_some]
        have hg : ∀ j, j < 5 → g2.get rb (0 + i * 5 + j) = ([V.int .i64 (n : Int), .int .i64 1, .int .u32 0, .ptr (some ⟨ib, 0⟩), .str want] : List V)[j]? := fun j hj => by
          rw [get_cells ho2, Nat.zero_add]; exact hcell j hj
        refine rdI_of (hg 0 (by decide)) (rdI_of (hg 1 (by decide)) (rdI_of (hg 2 (by decide)) (rdP_of (hg 3 (by decide)) (rdStr_of (hg 4 (by decide)) (al_wrL rfl (fun b8 g3 hb8 ho8 k3 => ?_))))))
        -- the end of a round
        have fin : ∀ (v : Int) (g3 : Heap), immOf l y want out.length = some v → St g K ((ib, .cells (insL y.op y.rd y.rs1 y.rs2 v) false) :: (pb, .cells [.sl it, .map (some mb), .int .i64 (w : Nat)] false) :: (mb, .map .str es bs c) :: (rowL ++ (LI ++ insOf (bodies rest)))) g3 → Row g g3 so 1 (out.map (V.int .u32)) → g3.obj b8 = some (.cells [.int .i64 (n : Int), .int .i64 1, .int .u32 0, .ptr (some ⟨ib, 0⟩), .str want] false) →
            rdI .i64 ((⟨ib, 0⟩ : Ptr).add 0) (fun x24 => rdI .i64 ((⟨ib, 0⟩ : Ptr).add 1) (fun x25 => rdI .i64 ((⟨ib, 0⟩ : Ptr).add 2) (fun x26 => rdI .i64 ((⟨ib, 0⟩ : Ptr).add 3) (fun x27 => rdI .i64 ((⟨ib, 0⟩ : Ptr).add 4) (fun x28 => zf15 x24 x25 x26 x27 x28 (fun r29 r30 h => br (r30 != 0) (rdI .i64 ((⟨b8, 0⟩ : Ptr).add 0) (fun x31 => Q ⟨none, 0, 0⟩ (.iface 6 (.agg [.int .i64 x31])) h) h) (al [.int .u32 r29] (fun b32 h => rdN (1 * 1) (⟨b32, 0⟩ : Ptr) (fun cs34 => appS 1 4 [.int .u32 0] so cs34 1 (fun s33 h => zf11.j16 I (some ⟨pb, 0⟩) s33 it ((it.len : Nat) : Int) (i : Int) Q h) h) h) h)) g3) g3) g3) g3) g3) g3 := by
          intro v g3 hv S3 R3 ho8
          rw [hv] at hq
          simp only at hq
          refine rd5 rfl rfl rfl rfl rfl rfl (S3.obj i0) (Encode_of (fun g4 k4 => ?_))
          have S4 := S3.keep k4
          have R4 := R3.keep k4
          by_cases he : (encOf y.op y.rd y.rs1 y.rs2 v).2 = 0
          · rw [if_neg (fun hh => hh he)] at hq
            refine br_f (by rw [he]; rfl) (al_of (fun b32 g5 hb32 ho32 k5 => rdN_held (vs := [.int .u32 (encOf y.op y.rd y.rs1 y.rs2 v).1]) rfl (fun j u hj => by rw [get_cells ho32, Nat.zero_add]; exact hj) ?_))
            have S5 := S4.keep k5
            refine (R4.keep k5).appm (m := 1) S5.keeps rfl rfl (by omega) (by omega) (fun so' g6 R6 hl6 k6 => ?_)
            unfold zf11.j16
            rw [wrap64 (x := (i : Int) + 1) (by omega) (by omega)]
            have S6 := S5.keepW k6 (fun b x hb hz => by
              rcases List.mem_cons.1 hb with e | hb
              · cases e; exact knib hz
              · rcases List.mem_cons.1 hb with e | hb
                · cases e; exact knp hz
                · rcases List.mem_cons.1 hb with e | hb
                  · cases e; exact knm hz
                  · refine kn (b, x) ?_ hz
                    rcases List.mem_append.1 hb with hb | hb
                    · exact List.mem_append.2 (.inl hb)
                    · rcases List.mem_append.1 hb with hb | hb
                      · exact List.mem_append.2 (.inr (List.mem_append.2 (.inl hb)))
                      · exact List.mem_append.2 (.inr (List.mem_append.2 (.inr (List.mem_cons_of_mem _ hb))))) (fun z hz hne => absurd hz hne)
            have S7 : St g K ((pb, .cells [.sl it, .map (some mb), .int .i64 (w : Nat)] false) :: (mb, .map .str es bs c) :: (rowL ++ ((LI ++ [(ib, .cells (insL y.op y.rd y.rs1 y.rs2 v) false)]) ++ insOf (bodies rest)))) g6 := by
              refine S6.perm ?_
              have := List.perm_middle (a := (ib, HO.cells (insL y.op y.rd y.rs1 y.rs2 v) false)) (l₁ := (pb, .cells [.sl it, .map (some mb), .int .i64 (w : Nat)] false) :: (mb, .map .str es bs c) :: (rowL ++ LI)) (l₂ := insOf (bodies rest))
              simpa only [List.cons_append, List.append_assoc, List.nil_append] using this
            refine ih (n + 1) (i + 1) (out ++ [(encOf y.op y.rd y.rs1 y.rs2 v).1]) so' _ g6 (by omega) hd2 hi2 hokr (by rw [List.length_append]; simp only [List.length_cons, List.length_nil]; omega) S7 (fun p hp => ?_) ?_ hq
            · rcases List.mem_append.1 hp with hp | hp
              · exact kn p (List.mem_append.2 (.inl hp))
              · rcases List.mem_append.1 hp with hp | hp
                · rcases List.mem_append.1 hp with hp | hp
                  · exact kn p (List.mem_append.2 (.inr (List.mem_append.2 (.inl hp))))
                  · rw [List.mem_singleton.1 hp]; exact knib
                · exact kn p (List.mem_append.2 (.inr (List.mem_append.2 (.inr (List.mem_cons_of_mem _ hp)))))
            · rw [List.map_append]; exact R6
          · rw [if_pos he] at hq
            exact br_t (by rw [bne_iff_ne]; exact he) (loc_I (k4.obj ho8 (fun f => f)) rfl (hq g4 (back S4.keeps)))
        have S3 := S2.keep k3
        have R3 := R.keep k3
        have S3' : St g K ((ib, .cells (insL y.op y.rd y.rs1 y.rs2 y.imm) false) :: (pb, .cells [.sl it, .map (some mb), .int .i64 (w : Nat)] false) :: (mb, .map .str es bs c) :: (rowL ++ (LI ++ insOf (bodies rest)))) g3 := by
          refine S3.perm ?_
          have := (List.perm_middle (a := (ib, HO.cells (insL y.op y.rd y.rs1 y.rs2 y.imm) false)) (l₁ := (pb, .cells [.sl it, .map (some mb), .int .i64 (w : Nat)] false) :: (mb, .map .str es bs c) :: (rowL ++ LI)) (l₂ := insOf (bodies rest))).symm
          simpa only [List.cons_append, List.append_assoc, List.nil_append] using this
        refine loc_P ho8 rfl (br_f rfl (loc_Str ho8 rfl ?_))
        by_cases hwn : want = []
        · refine br_f (by rw [hwn]; rfl) (loc_P ho8 rfl (der_of (fin y.imm g3 (by unfold immOf; rw [if_pos hwn]) S3' R3 ho8)))
        · refine br_t (by rw [beq_false_of_ne hwn]; rfl) (der_of (S3'.rM i1 rfl (loc_Str ho8 rfl (S3'.mapGet i2 ?_))))
          rw [hm want]
          unfold markV
          rw [if_neg hwn]
          cases hpl : place want l with
          | none =>
            have hv : immOf l y want out.length = none := by unfold immOf; rw [if_neg hwn, hpl]
            rw [hv] at hq
            refine asI_of (x := 0) (br_t rfl ?_)
            unfold zf11.j10
            exact loc_I ho8 rfl (hq g3 (back S3'.keeps))
          | some q =>
            have hple := place_le hpl
            refine asI_of (x := (q : Int)) (br_f rfl ?_)
            unfold zf11.j11
            rw [wrap64 (x := (q : Int) - ((so.len : Nat) : Int)) (by omega) (by omega)]
            have hg3 : g3.getW ib 4 = some (.int .i64 y.imm) := by rw [getW_cells (S3'.obj i0)]; rfl
            refine loc_P ho8 rfl (der_of ?_)
            have hne8 : b8 ≠ ib := fun e => by
              have : g2.obj ib ≠ none := by rw [S2.objs ib (HO.cells (insL y.op y.rd y.rs1 y.rs2 y.imm) false) (by simp)]; simp
              exact this (e ▸ hb8)
            refine loc_wr (l := insL y.op y.rd y.rs1 y.rs2 y.imm) (S3'.obj i0) rfl (fun g4 ho4 k4 => ?_)
            have S4 : St g K ((ib, .cells (insL y.op y.rd y.rs1 y.rs2 ((q : Int) - ((so.len : Nat) : Int))) false) :: (pb, .cells [.sl it, .map (some mb), .int .i64 (w : Nat)] false) :: (mb, .map .str es bs c) :: (rowL ++ (LI ++ insOf (bodies rest)))) g4 := S3'.put i0 ho4 k4
            have R4 : Row g g4 so 1 (out.map (V.int .u32)) := R3.keepW k4 (fun z e => by rw [e]; exact knib)
            have ho8' := k4.obj ho8 (fun e => hne8 e)
            refine loc_P ho8' rfl (der_of (fin _ g4 ?_ S4 R4 ho8'))
            unfold immOf
            rw [if_neg hwn, hpl]
            show some ((q : Int) - (out.length : Int)) = some ((q : Int) - ((so.len : Nat) : Int))
            congr 2; omega
  refine main ds 0 0 [] ⟨none, 0, 0⟩ [] g (by rw [← hl]; simp [lnsOf]) rfl (by omega) (by rw [hl]; exact hok) (by rw [hl]; simpa using ht) SB kn0 Row.nil ?_
  rw [hl]; exact hq

end
end Go.Asm

set_option linter.unusedSimpArgs false
set_option linter.unusedVariables false
set_option maxRecDepth 100000
namespace Go.Asm
open Go.Lift Go.Fn Go.Insn

/-- What an assembly comes to, in the program. -/
def asmQ (h : Heap) (Q : Option Ptr → Sl → V → Heap → Prop) : Res → Prop
  | .ok l out => ∀ pb mb it w es bs c g so, Row h g so 1 (out.map (V.int .u32)) → Keeps none_ h g → g.obj pb = some (.cells [.sl it, .map (some mb), .int .i64 (w : Nat)] false) → g.obj mb = some (.map .str es bs c) → MarksOk es l → Q (some ⟨pb, 0⟩) so .nilif g
  | .arg => ∀ g, Keeps none_ h g → Q none ⟨none, 0, 0⟩ (.iface 5 (.int .i64 2)) g
  | .big => ∀ g, Keeps none_ h g → Q none ⟨none, 0, 0⟩ (.iface 5 (.int .i64 3)) g
  | .form n => ∀ g, Keeps none_ h g → ∀ p, Q p ⟨none, 0, 0⟩ (.iface 6 (.agg [.int .i64 (n : Int)])) g

section
variable {U : Ifc} {h g : Heap}

theorem assemble_of (au : AsU U h) {s : Str} {base : Nat} {Q : Option Ptr → Sl → V → Heap → Prop} (hq : asmQ h Q (asm s base)) : zf3 U s (base : Int) Q h := by
  unfold zf3
  refine nz_of (by decide) ?_
  unfold asm at hq
  have em : ((base : Int)).tmod 4 = ((base % 4 : Nat) : Int) := by rw [show (4 : Int) = ((4 : Nat) : Int) from rfl, Int.ofNat_tmod]
  rw [em]
  by_cases h1 : base % 4 ≠ 0 ∨ base > 1099511627776
  · rw [if_pos h1] at hq
    refine br_if (fun _ => ?_) (fun c => br_t (decide_eq_true ?_) ?_)
    · unfold zf3.j2; exact hq h (Keeps.refl _ _)
    · have : ((base % 4 : Nat) : Int) = 0 := by simpa using c
      omega
    · unfold zf3.j2; exact hq h (Keeps.refl _ _)
  rw [if_neg h1] at hq
  refine br_f (by rw [bne_eq_false_iff_eq]; omega) (br_f (decide_eq_false (by omega)) ?_)
  by_cases h2 : s.length > 65536
  · rw [if_pos h2] at hq
    exact br_t (decide_eq_true (by omega)) (hq h (Keeps.refl _ _))
  rw [if_neg h2] at hq
  refine br_f (decide_eq_false (by omega)) (parse_of au (by omega) ?_)
  unfold asmT at hq
  cases hl : linesGo 0 [] (split s) with
  | inl n =>
    rw [hl] at hq
    intro g k
    refine isNil_i ?_
    refine br_t rfl ?_
    exact chk_of rfl (hq g k none)
  | inr l =>
    rw [hl] at hq
    unfold parseQ parseR
    unfold asmL at hq
    by_cases ht : total l > 16384
    · simp only [if_pos ht] at hq ⊢
      intro g k
      refine isNil_i ?_
      refine br_t rfl ?_
      exact chk_of rfl (hq g k)
    · simp only [if_neg ht] at hq ⊢
      intro pb mb it rowL es bs c ds g hds r hm S
      refine isNil_n ?_
      refine br_f rfl (encode_of hds r hm (linesGo_ok hl (fun x hx => by cases hx)) (linesGo_bound (by omega) hl) (by omega) S ?_)
      cases he : encGo l 0 [] l with
      | inl n =>
        rw [he] at hq
        intro g k
        unfold zf3.j9
        exact chk_of rfl (hq g k _)
      | inr out =>
        rw [he] at hq
        intro g2 so R k ho1 ho2
        unfold zf3.j9
        exact chk_of rfl (hq pb mb it (total l) es bs c g2 so R k ho1 ho2 hm)

/-- Assemble, where there are words. -/
theorem Assemble_ok (au : AsU U h) {s : Str} {base : Nat} {l : List Ln} {out : List Int} (ha : asm s base = .ok l out) {Q : Sl → Int → Int → Heap → Prop} (hq : ∀ g so, Row h g so 1 (out.map (V.int .u32)) → Keeps none_ h g → Q so 0 0 g) : zf0 U s (base : Int) Q h := by
  unfold zf0
  refine al_of (fun b1 g1 hb1 ho1 k1 => assemble_of (au.keep k1) ?_)
  rw [ha]
  intro pb mb it w es bs c g so R k _ _ _
  refine al_of (fun b5 g2 hb5 ho5 k2 => isNil_n ?_)
  have ho2 := (k1.trans k).trans k2
  have hob : g2.obj b1 = some (.cells [.int .i64 0] false) := k2.obj (k.obj ho1 (fun f => f)) (fun f => f)
  refine br_t rfl (loc_wr hob rfl (fun g3 ho3 k3 => loc_I ho3 rfl (hq g3 so ?_ (Keeps.widen' ho2 k3 hb1))))
  rcases R with R | ⟨rb, O, hrb⟩
  · exact .inl R
  · have hne : rb ≠ b1 := fun e => by rw [e, ho1] at hrb; cases hrb
    refine .inr ⟨rb, (O.keeps k2 (fun f => f)).keeps k3 hne, ?_⟩
    cases hh : h.obj rb with
    | none => rfl
    | some y => exact absurd hrb (k1.known rb (by rw [hh]; simp))

theorem Mark_of (au : AsU U h) {s m : Str} {base : Nat} {Q : Int → Bool → Heap → Prop} (hq : ∀ g, Keeps none_ h g → match markOf s base m with | some v => Q v true g | none => Q 0 false g) : zf1 U s (base : Int) m Q h := by
  unfold zf1
  refine assemble_of au ?_
  unfold markOf at hq
  cases ha : asm s base with
  | arg => rw [ha] at hq; exact fun g k => isNil_i (show br true _ _ from hq g k)
  | big => rw [ha] at hq; exact fun g k => isNil_i (show br true _ _ from hq g k)
  | form n => rw [ha] at hq; exact fun g k p => isNil_i (show br true _ _ from hq g k)
  | ok l out =>
    rw [ha] at hq
    intro pb mb it w es bs c g so R k hp hmb hm
    refine isNil_n ?_
    refine br_f rfl (der_of (loc_M hp rfl ⟨es, bs, c, hmb, ?_⟩))
    have hq := hq g k
    simp only at hq
    rw [hm m]
    unfold zf1.j5
    unfold findV at hq
    unfold markV
    by_cases hmn : m = []
    · rw [if_pos hmn] at hq ⊢
      exact asI_of (x := 0) (br_t rfl hq)
    · rw [if_neg hmn] at hq ⊢
      cases hpl : place m l with
      | none =>
        rw [hpl] at hq
        exact asI_of (x := 0) (br_t rfl hq)
      | some p =>
        rw [hpl] at hq
        simp only [if_neg (show ¬ (p : Int) < 0 by omega)] at hq
        exact asI_of (x := (p : Int)) (br_f rfl hq)

end
end Go.Asm

set_option linter.unusedSimpArgs false
set_option linter.unusedVariables false
set_option maxRecDepth 100000
namespace Go.Asm
open Go.Lift Go.Fn Go.Insn

theorem split_line : ∀ {a : Str} (b : Str), (∀ x ∈ a, x ≠ 10) → split (a ++ 10 :: b) = a :: split b
  | [], b, _ => by
    rw [List.nil_append, split_cons, if_pos (by decide)]
  | c :: a, b, h => by
    rw [List.cons_append, split_cons, if_neg (by simpa using h c List.mem_cons_self), split_line b (fun x hx => h x (List.mem_cons_of_mem _ hx))]

def strip0 : Str → Str
  | [] => []
  | d :: ds => if ds.isEmpty then d :: ds else if d == 48 then strip0 ds else d :: ds

def dig (n : Nat) : UInt8 := UInt8.ofNat (48 + n)
def dg4 (n : Nat) : Str := [dig (n / 1000), dig (n / 100 % 10), dig (n / 10 % 10), dig (n % 10)]
def fillPre : Str := [46, 102, 105, 108, 108, 32]
def herePre : Str := [104, 101, 114, 101, 58, 32, 106, 97, 108, 32, 120, 48, 44, 32, 104, 101, 114, 101, 32, 35]
def here : Str := [104, 101, 114, 101]
def there : Str := [116, 104, 101, 114, 101]

theorem fill_key {n : Nat} (hn : n < 1024) : wordsGo [] (fillPre ++ strip0 (dg4 n)) = [dotFill, strip0 (dg4 n)] ∧ numOf (strip0 (dg4 n)) = some (n : Int) ∧ ((fillPre ++ strip0 (dg4 n)).all (· != 10)) = true ∧ (strip0 (dg4 n)).length ≤ 4 := by
  have key : ∀ n : Fin 1024, wordsGo [] (fillPre ++ strip0 (dg4 n.val)) = [dotFill, strip0 (dg4 n.val)] ∧ numOf (strip0 (dg4 n.val)) = some ((n.val : Nat) : Int) ∧ ((fillPre ++ strip0 (dg4 n.val)).all (· != 10)) = true ∧ (strip0 (dg4 n.val)).length ≤ 4 := by decide +kernel
  exact key ⟨n, hn⟩

theorem readW_cons (w : Str) (ws : List Str) : readW (w :: ws) = if w.getLast? = some 58 then (if nameOk w.dropLast then withMark w.dropLast (readB ws) else none) else withMark [] (readB (w :: ws)) := rfl

theorem fill_line {n : Nat} (hn : n < 1024) : readL (fillPre ++ strip0 (dg4 n)) = some ⟨[], .fill n 0⟩ := by
  obtain ⟨h1, h2, _, _⟩ := fill_key hn
  unfold readL
  rw [h1]
  rw [readW_cons, if_neg (by decide), readB_cons, if_pos (.inr rfl)]
  simp only
  rw [if_pos trivial, h2]
  simp only [fillB]
  rw [if_pos (by omega), Int.toNat_natCast]
  rfl

theorem here_words (said : Str) : wordsGo [] (herePre ++ said) = [here ++ [58], [106, 97, 108], [120, 48], here] := rfl

theorem here_line (said : Str) : readL (herePre ++ said) = some ⟨here, .ins ⟨35, 0, 0, 0, 0⟩ here⟩ := by
  unfold readL
  rw [here_words]
  rw [readW_cons, if_pos (by decide), if_pos (by decide +kernel), readB_cons, if_neg (by decide)]
  have ho : opOf [106, 97, 108] = 35 := by decide +kernel
  rw [ho, if_neg (by decide)]
  have hord : ordOf ((35 : Nat) : Int) = [100, 109] := by decide +kernel
  rw [hord]
  have hr : regOf [120, 48] = 0 := by decide +kernel
  have hn : numOf here = none := by decide +kernel
  have hk : nameOk here = true := by decide +kernel
  rw [opnds_cons, opnd_d, hr, if_neg (by decide)]
  simp only
  rw [opnds_cons, opnd_m, hn, hk]
  rfl

theorem blank_line : readL [] = some ⟨[], .blank⟩ := rfl

def markText (n : Nat) (said : Str) : Str := (((fillPre ++ strip0 (dg4 n)) ++ [10]) ++ herePre) ++ said ++ [10]

theorem mark_split {n : Nat} (hn : n < 1024) {said : Str} (hs : ∀ x ∈ said, x ≠ 10) : split (markText n said) = [fillPre ++ strip0 (dg4 n), herePre ++ said, []] := by
  obtain ⟨_, _, h3, _⟩ := fill_key hn
  have e : markText n said = (fillPre ++ strip0 (dg4 n)) ++ 10 :: ((herePre ++ said) ++ 10 :: []) := by
    unfold markText
    simp only [List.append_assoc, List.cons_append, List.nil_append]
  rw [e, split_line _ (fun x hx => by have := List.all_eq_true.1 h3 x hx; simpa using this), split_line _ (fun x hx => ?_)]
  · rfl
  · rcases List.mem_append.1 hx with hx | hx
    · have key : ∀ x ∈ herePre, x ≠ 10 := by decide
      exact key x hx
    · exact hs x hx

def markL (n : Nat) : List Ln := [⟨[], .fill n 0⟩, ⟨here, .ins ⟨35, 0, 0, 0, 0⟩ here⟩, ⟨[], .blank⟩]

theorem mark_asm {n base : Nat} (hn : n < 1024) {said : Str} (hs : ∀ x ∈ said, x ≠ 10) (hl : said.length ≤ 1000) (hb : base % 4 = 0) (hb2 : base ≤ 65535) : asm (markText n said) base = .ok (markL n) (List.replicate n 0 ++ [2348810240]) := by
  obtain ⟨_, _, _, h4⟩ := fill_key hn
  unfold asm
  rw [if_neg (by omega)]
  have hlen : (markText n said).length ≤ 65536 := by
    unfold markText
    have e1 : fillPre.length = 6 := rfl
    have e2 : herePre.length = 20 := rfl
    simp only [List.length_append, List.length_cons, List.length_nil, e1, e2]
    omega
  rw [if_neg (by omega)]
  unfold asmT
  rw [mark_split hn hs, linesGo_cons, fill_line hn]
  simp only
  rw [if_neg (fun hh => hh.1 rfl), linesGo_cons, here_line]
  simp only
  rw [if_neg (fun hh => by have h2 := hh.2; simp [here] at h2), linesGo_cons, blank_line]
  simp only
  rw [if_neg (fun hh => hh.1 rfl)]
  show asmL (markL n) = _
  unfold asmL
  have ht : total (markL n) = n + 1 := by
    show n + (1 + (0 + 0)) = _
    omega
  rw [ht, if_neg (by omega)]
  have e0 : encGo (markL n) 0 [] (markL n) = .inr (List.replicate n 0 ++ [2348810240]) := by
    show encGo (markL n) 1 ([] ++ List.replicate n ((0 : Nat) : Int)) [⟨here, .ins ⟨35, 0, 0, 0, 0⟩ here⟩, ⟨[], .blank⟩] = _
    rw [List.nil_append, encGo_cons]
    have hp : place here (markL n) = some n := by
      show (if ([] : Str) = here then some 0 else ((if here = here then some 0 else _) : Option Nat).map (· + n)) = _
      rw [if_neg (by decide), if_pos rfl, Option.map_some, Nat.zero_add]
    have hi : immOf (markL n) ⟨35, 0, 0, 0, 0⟩ here (List.replicate n ((0 : Nat) : Int)).length = some 0 := by
      unfold immOf
      rw [if_neg (by decide), hp, List.length_replicate]
      show some ((n : Int) - (n : Int)) = some 0
      rw [Int.sub_self]
    simp only [hi]
    have he : encOf 35 0 0 0 0 = (2348810240, 0) := by decide +kernel
    simp only [he]
    rw [if_neg (by decide)]
    rfl
  rw [e0]

theorem mark_here {n base : Nat} (hn : n < 1024) {said : Str} (hs : ∀ x ∈ said, x ≠ 10) (hl : said.length ≤ 1000) (hb : base % 4 = 0) (hb2 : base ≤ 65535) : markOf (markText n said) base here = some (IntKind.u64.wrap ((base : Int) + IntKind.u64.wrap (4 * IntKind.u64.wrap (n : Int)))) := by
  unfold markOf
  rw [mark_asm hn hs hl hb hb2]
  have hf : findV (markL n) here = (n : Int) := by
    unfold findV
    rw [if_neg (by decide)]
    have hp : place here (markL n) = some n := by
      show (if ([] : Str) = here then some 0 else ((if here = here then some 0 else _) : Option Nat).map (· + n)) = _
      rw [if_neg (by decide), if_pos rfl, Option.map_some, Nat.zero_add]
    rw [hp]
  simp only [hf]
  rw [if_neg (by omega)]

theorem mark_there {n base : Nat} (hn : n < 1024) {said : Str} (hs : ∀ x ∈ said, x ≠ 10) (hl : said.length ≤ 1000) (hb : base % 4 = 0) (hb2 : base ≤ 65535) : markOf (markText n said) base there = none := by
  unfold markOf
  rw [mark_asm hn hs hl hb hb2]
  have hf : findV (markL n) there = -1 := rfl
  simp only [hf]
  rfl

section
variable {U : Ifc} {h g : Heap}

theorem marks_j14 (au : AsU U g) {n base : Nat} (hn : n < 1024) {said : Str} (hs : ∀ x ∈ said, x ≠ 10) (hl : said.length ≤ 1000) (hb : base % 4 = 0) (hb2 : base ≤ 65535) {Q : Bool → Heap → Prop} (hQ : ∀ h, Q true h) : zf30.j14 U (n : Int) (base : Int) said ((fillPre ++ strip0 (dg4 n)) ++ [10]) Q g := by
  obtain ⟨_, _, _, h4⟩ := fill_key hn
  unfold zf30.j14
  have e1 : fillPre.length = 6 := rfl
  refine ⟨by simp only [List.length_append, List.length_cons, List.length_nil, e1]; omega, by simp only [List.length_append, List.length_cons, List.length_nil, e1]; omega, by simp only [List.length_append, List.length_cons, List.length_nil, e1]; omega, ?_⟩
  have et : ((fillPre ++ strip0 (dg4 n) ++ [10]) ++ ([104, 101, 114, 101, 58, 32, 106, 97, 108, 32, 120, 48, 44, 32, 104, 101, 114, 101, 32, 35] : List UInt8)) ++ said ++ [10] = markText n said := rfl
  rw [et]
  refine Assemble_ok au (mark_asm hn hs hl hb hb2) (fun g1 so R k1 => ?_)
  refine Mark_of (au.keep k1) (fun g2 k2 => ?_)
  have e2 : markOf (markText n said) base ([104, 101, 114, 101] : List UInt8) = some (IntKind.u64.wrap ((base : Int) + IntKind.u64.wrap (4 * IntKind.u64.wrap (n : Int)))) := mark_here hn hs hl hb hb2
  rw [e2]
  refine Mark_of ((au.keep k1).keep k2) (fun g3 k3 => ?_)
  have e3 : markOf (markText n said) base ([116, 104, 101, 114, 101] : List UInt8) = none := mark_there hn hs hl hb hb2
  rw [e3]
  have R3 := (R.keep k2).keep k3
  have hlen := R3.len
  simp only [List.length_map, Nat.mul_one, List.length_append, List.length_replicate, List.length_cons, List.length_nil] at hlen
  unfold zf30.j18
  refine br_t rfl (br_t rfl (br_t (by rw [wrap64 (x := (n : Int) + 1) (by omega) (by omega), beq_iff_eq]; omega) (ix_of (by omega) (by omega) ?_)))
  rw [Int.toNat_natCast]
  rcases R3 with ⟨hn', _⟩ | ⟨rb, O, _⟩
  · rw [hn'] at hlen; simp at hlen
  · rw [O.p, der_some]
    have hg := O.held.row ⟨rb, 0⟩ O.p n (.int .u32 2348810240) (by rw [List.map_append, List.getElem?_append_right (by simp)]; simp)
    refine rdI_of (x := 2348810240) (by show g3.get rb (0 + n * 1) = _; rw [Nat.mul_one]; exact hg) (br_t rfl (br_t rfl (br_t (beq_self_eq_true _) (hQ g3))))

theorem marks_strip {n base : Nat} {said : Str} {Q : Bool → Heap → Prop} {I : Int → Int → Str → Str → Heap → Prop} (H : ∀ a1 a2 a3 a4 h, zf30.b12 U I a1 a2 a3 a4 Q h → I a1 a2 a3 a4 h) :
    ∀ ds : Str, ds.length ≤ 4 → 1 ≤ ds.length → zf30.j14 U (n : Int) (base : Int) said ((fillPre ++ strip0 ds) ++ [10]) Q g → I (n : Int) (base : Int) said ((fillPre ++ ds) ++ [10]) g := by
  intro ds
  induction ds with
  | nil => intro _ h1 _; simp at h1
  | cons d ds ih =>
    intro h4 _ hj
    refine H _ _ _ _ _ ?_
    unfold zf30.b12
    have e1 : fillPre.length = 6 := rfl
    have hl : ((fillPre ++ (d :: ds)) ++ [10]).length = 8 + ds.length := by
      simp only [List.length_append, List.length_cons, List.length_nil, e1]; omega
    rw [hl]
    cases ds with
    | nil => exact br_f (by decide) hj
    | cons c t =>
      refine br_t (decide_eq_true (by simp only [List.length_cons]; omega)) (ix_of (by decide) (by simp only [List.length_cons]; omega) ?_)
      have e6 : ((fillPre ++ (d :: c :: t)) ++ [10]).getD (Int.toNat 6) 0 = d := rfl
      rw [e6]
      by_cases hd : d = 48
      · subst hd
        refine br_t rfl (sb_of (by decide) (by simp only [List.length_cons]; omega) (sb_of (by decide) (by simp only [List.length_cons]; omega) ?_))
        have ea : (((fillPre ++ (48 :: c :: t)) ++ [10]).drop 0).take (Int.toNat 6 - 0) = fillPre := rfl
        have eb : (((fillPre ++ (48 :: c :: t)) ++ [10]).drop (Int.toNat 7)).take (8 + (c :: t).length - Int.toNat 7) = (c :: t) ++ [10] := by
          show ((c :: t) ++ [10]).take (8 + (c :: t).length - 7) = _
          rw [List.take_of_length_le (by simp only [List.length_append, List.length_cons, List.length_nil]; omega)]
        rw [ea, eb]
        refine ⟨by simp only [List.length_append, List.length_cons, List.length_nil, e1] at h4 ⊢; omega, ?_⟩
        rw [← List.append_assoc]
        refine ih (by simp only [List.length_cons] at h4 ⊢; omega) (by simp) ?_
        have es : strip0 (48 :: c :: t) = strip0 (c :: t) := rfl
        rw [es] at hj
        exact hj
      · refine br_f (beq_false_of_ne (fun e => hd (byte_eq (n := 48) (by omega) (by decide)))) ?_
        have es : strip0 (d :: c :: t) = d :: c :: t := by
          show (if (c :: t).isEmpty then _ else if (d == 48) = true then _ else _) = _
          rw [if_neg (by simp), if_neg (by simpa using hd)]
        rw [es] at hj
        exact hj

theorem and1023 (a : Int) : ∃ n : Nat, n < 1024 ∧ ibits .and .i64 a 1023 = (n : Int) := by
  have := and64_le a 1023 (by decide) (by decide)
  exact ⟨(ibits .and .i64 a 1023).toNat, by omega, by omega⟩

theorem base4 {a : Int} (h1 : 0 ≤ a) (h2 : a ≤ 18446744073709551615) : ∃ b : Nat, b % 4 = 0 ∧ b ≤ 65535 ∧ ibits .andNot .u64 (ibits .and .u64 a 65535) 3 = (b : Int) := by
  have e1 : ibits .and .u64 a 65535 = IntKind.u64.wrap ((BitVec.ofInt 64 a &&& BitVec.ofInt 64 65535).toNat : Int) := rfl
  generalize hx : (BitVec.ofInt 64 a &&& BitVec.ofInt 64 65535) = x at e1
  have hxl : x.toNat ≤ 65535 := by
    rw [← hx, BitVec.toNat_and]; exact Nat.and_le_right
  rw [e1, wrapu64 (by omega) (by omega)]
  have e2 : ibits .andNot .u64 ((x.toNat : Nat) : Int) 3 = IntKind.u64.wrap ((BitVec.ofInt 64 ((x.toNat : Nat) : Int) &&& ~~~ BitVec.ofInt 64 3).toNat : Int) := rfl
  rw [e2]
  have e3 : BitVec.ofInt 64 ((x.toNat : Nat) : Int) = x := by
    apply BitVec.eq_of_toNat_eq
    rw [BitVec.toNat_ofInt]
    have := x.isLt
    omega
  rw [e3]
  generalize hy : (x &&& ~~~ BitVec.ofInt 64 3) = y
  have hyl : y.toNat ≤ 65535 := by
    rw [← hy, BitVec.toNat_and]
    exact Nat.le_trans Nat.and_le_left hxl
  refine ⟨y.toNat, ?_, hyl, by rw [wrapu64 (by omega) (by omega)]⟩
  have : y.toNat % 2 ^ 2 = 0 := by
    apply Nat.eq_of_testBit_eq
    intro j
    rw [Nat.testBit_mod_two_pow, Nat.zero_testBit]
    by_cases hj : j < 2
    · rw [decide_eq_true hj, Bool.true_and, ← hy]
      show (x &&& ~~~ BitVec.ofInt 64 3).getLsbD j = false
      rw [BitVec.getLsbD_and]
      have : (~~~ BitVec.ofInt 64 3).getLsbD j = false := by
        rcases (by omega : j = 0 ∨ j = 1) with rfl | rfl <;> decide
      rw [this, Bool.and_false]
    · rw [decide_eq_false hj, Bool.false_and]
  exact this

theorem marks (au : AsU U g) {a1 a2 : Int} {said : Str} (h1 : 0 ≤ a2) (h2 : a2 ≤ 18446744073709551615) (hs : said.length ≤ 9223372036854775807) {Q : Bool → Heap → Prop} (hQ : ∀ h, Q true h) : zf30 U a1 a2 said Q g := by
  unfold zf30 zf30.j4
  obtain ⟨n, hn, en⟩ := and1023 a1
  obtain ⟨base, hb, hb2, eb⟩ := base4 h1 h2
  rw [en, eb]
  intro I H
  have main : ∀ (r : Str) (i : Nat), said.drop i = r → i ≤ said.length → (∀ x ∈ said.take i, x ≠ 10) → I (n : Int) (base : Int) said (i : Int) g := by
    intro r
    induction r with
    | nil =>
      intro i hd hi hno
      have hi2 := drop_nil hd
      rw [List.take_of_length_le hi2] at hno
      refine H _ _ _ _ _ ?_
      unfold zf30.b4
      refine br_f (decide_eq_false (by omega)) (br_if (fun _ => hQ g) (fun c => ?_))
      have c := of_decide_eq_false c
      have dgt : ∀ k : Nat, k < 10 → ([48, 49, 50, 51, 52, 53, 54, 55, 56, 57] : List UInt8).getD k 0 = dig k := by
        intro k hk
        have key : ∀ k : Fin 10, ([48, 49, 50, 51, 52, 53, 54, 55, 56, 57] : List UInt8).getD k.val 0 = dig k.val := by decide
        exact key ⟨k, hk⟩
      have q1 : IntKind.i64.wrap ((n : Int).tdiv 1000) = ((n / 1000 : Nat) : Int) := by
        rw [Int.tdiv_eq_ediv_of_nonneg (by omega), wrap64 (by omega) (by omega)]; omega
      have q2 : (IntKind.i64.wrap ((n : Int).tdiv 100)).tmod 10 = ((n / 100 % 10 : Nat) : Int) := by
        rw [Int.tdiv_eq_ediv_of_nonneg (by omega), wrap64 (by omega) (by omega), Int.tmod_eq_emod_of_nonneg (by omega)]; omega
      have q3 : (IntKind.i64.wrap ((n : Int).tdiv 10)).tmod 10 = ((n / 10 % 10 : Nat) : Int) := by
        rw [Int.tdiv_eq_ediv_of_nonneg (by omega), wrap64 (by omega) (by omega), Int.tmod_eq_emod_of_nonneg (by omega)]; omega
      have q4 : (n : Int).tmod 10 = ((n % 10 : Nat) : Int) := by
        rw [Int.tmod_eq_emod_of_nonneg (by omega)]; omega
      rw [q1, q2, q3, q4]
      refine nz_of (by decide) (ix_of (by omega) (by show ((n / 1000 : Nat) : Int) < 10; omega) (nz_of (by decide) (nz_of (by decide) (ix_of (by omega) (by show ((n / 100 % 10 : Nat) : Int) < 10; omega) (nz_of (by decide) (nz_of (by decide) (ix_of (by omega) (by show ((n / 10 % 10 : Nat) : Int) < 10; omega) (nz_of (by decide) (ix_of (by omega) (by show ((n % 10 : Nat) : Int) < 10; omega) ?_)))))))))
      simp only [Int.toNat_natCast]
      rw [dgt _ (by omega), dgt _ (by omega), dgt _ (by omega), dgt _ (by omega)]
      refine al_of (fun b6 g1 hb6 ho6 k6 => rdN_held (vs := strCells (dg4 n)) rfl (fun j u hj => by rw [get_cells ho6, Nat.zero_add]; exact hj) ?_)
      rw [bytesOf_str]
      have e4 : (dg4 n).length = 4 := rfl
      refine ⟨by rw [e4]; decide, by rw [List.length_append, e4]; decide, ?_⟩
      obtain ⟨_, _, _, h4⟩ := fill_key hn
      unfold zf30.j12
      intro I2 H2
      exact marks_strip H2 (dg4 n) (by rw [e4]; decide) (by rw [e4]; decide) (marks_j14 (au.keep k6) hn hno (by omega) hb hb2 hQ)
    | cons b r ih =>
      intro i hd hi hno
      obtain ⟨hlt, hbi, hr⟩ := drop_cons hd
      refine H _ _ _ _ _ ?_
      unfold zf30.b4
      refine br_t (decide_eq_true (by omega)) (ix_of (by omega) (by omega) ?_)
      rw [Int.toNat_natCast, hbi]
      refine br_if (fun _ => hQ g) (fun c => ?_)
      rw [wrap64 (x := (i : Int) + 1) (by omega) (by omega)]
      refine ih (i + 1) hr (by omega) (fun x hx => ?_)
      have e := take_one (a := 0) (Nat.zero_le i) hlt hbi
      rw [List.drop_zero, Nat.sub_zero, Nat.sub_zero] at e
      rw [e] at hx
      rcases List.mem_append.1 hx with hx | hx
      · exact hno x hx
      · rw [List.mem_singleton.1 hx]
        intro e
        rw [e] at c
        cases c
  exact main said 0 rfl (by omega) (fun x hx => by simp at hx)

end
end Go.Asm

set_option linter.unusedSimpArgs false
set_option linter.unusedVariables false
set_option maxRecDepth 100000
namespace Go.Asm
open Go.Lift Go.Fn Go.Insn

theorem valGo_append (v : Nat) (a b : Str) : valGo v (a ++ b) = valGo (valGo v a) b := by
  unfold valGo; rw [List.foldl_append]

theorem dig_toNat {k : Nat} (h : k < 10) : (UInt8.ofNat (48 + k)).toNat = 48 + k := by simp; omega

theorem dec_facts : ∀ (k n : Nat), n < 10 ^ (k + 1) → valGo 0 (Lib.decDigits n) = n ∧ (Lib.decDigits n).all isDig = true ∧ (Lib.decDigits n).length ≤ k + 1 ∧ 1 ≤ (Lib.decDigits n).length ∧ (n ≠ 0 → (Lib.decDigits n).getD 0 0 ≠ 48) := by
  intro k
  induction k with
  | zero =>
    intro n hn
    have h10 : n < 10 := by simpa using hn
    rw [Lib.decDigits_one h10]
    have hd := dig_toNat h10
    refine ⟨?_, ?_, by simp, by simp, fun h0 => ?_⟩
    · show 0 * 10 + ((UInt8.ofNat (48 + n)).toNat - 48) = n
      rw [hd]; omega
    · simp only [List.all_cons, List.all_nil, Bool.and_true]
      exact isDig_iff.2 ⟨by rw [hd]; omega, by rw [hd]; omega⟩
    · show UInt8.ofNat (48 + n) ≠ 48
      intro e
      have := congrArg UInt8.toNat e
      rw [hd] at this
      have e48 : (48 : UInt8).toNat = 48 := rfl
      omega
  | succ k ih =>
    intro n hn
    by_cases h10 : n < 10
    · have := ih n (Nat.lt_of_lt_of_le h10 (by rw [Nat.pow_succ]; have := Nat.pow_pos (n := k) (show 0 < 10 by decide); omega))
      exact ⟨this.1, this.2.1, by omega, this.2.2.2⟩
    · have hq : n / 10 < 10 ^ (k + 1) := by
        rw [Nat.pow_succ] at hn
        exact Nat.div_lt_of_lt_mul (by rw [Nat.mul_comm]; exact hn)
      obtain ⟨a1, a2, a3, a4, a5⟩ := ih (n / 10) hq
      have hm : n % 10 < 10 := Nat.mod_lt _ (by decide)
      have hd := dig_toNat hm
      rw [Lib.decDigits, dif_neg h10]
      refine ⟨?_, ?_, by simp; omega, by simp, fun _ => ?_⟩
      · rw [valGo_append, a1]
        show n / 10 * 10 + ((UInt8.ofNat (48 + n % 10)).toNat - 48) = n
        rw [hd]; omega
      · rw [List.all_append, a2]
        simp only [List.all_cons, List.all_nil, Bool.and_true, Bool.true_and]
        exact isDig_iff.2 ⟨by rw [hd]; omega, by rw [hd]; omega⟩
      · have := a5 (by omega)
        rw [List.getD_eq_getElem?_getD, List.getElem?_append_left (by omega), ← List.getD_eq_getElem?_getD]
        exact this

theorem num_itoa {v : Int} (hv : v.natAbs < 1000000000000000) : numOf (Lib.itoa v) = some v := by
  obtain ⟨a1, a2, a3, a4, a5⟩ := dec_facts 14 v.natAbs hv
  by_cases h0 : v < 0
  · have e : Lib.itoa v = 45 :: Lib.decDigits v.natAbs := by unfold Lib.itoa; rw [if_pos h0]
    have eu : unsign (Lib.itoa v) = Lib.decDigits v.natAbs := by rw [e]; rfl
    have ok : numOk (Lib.itoa v) = true := by
      unfold numOk
      rw [eu, a2, decide_eq_true a4, decide_eq_true a3, show ((Lib.decDigits v.natAbs).getD 0 0 == 48) = false from beq_false_of_ne (a5 (by omega))]
      rfl
    unfold numOf
    rw [if_pos ok]
    unfold numVal
    rw [eu, a1, e, show ((45 :: Lib.decDigits v.natAbs).getD 0 0 == (45 : UInt8)) = true from rfl, if_pos rfl]
    congr 1; omega
  · have e : Lib.itoa v = Lib.decDigits v.natAbs := by
      unfold Lib.itoa; rw [if_neg h0]; congr 1; omega
    rw [e]
    have hne : ((Lib.decDigits v.natAbs).getD 0 0 == 45) = false := by
      refine beq_false_of_ne (fun hh => ?_)
      have hm : (Lib.decDigits v.natAbs).getD 0 0 ∈ Lib.decDigits v.natAbs := by
        rw [List.getD_eq_getElem?_getD, List.getElem?_eq_getElem (by omega)]
        exact List.getElem_mem _
      have := isDig_iff.1 (List.all_eq_true.1 a2 _ hm)
      rw [hh] at this
      exact absurd this.1 (by decide)
    have eu : unsign (Lib.decDigits v.natAbs) = Lib.decDigits v.natAbs := by
      generalize Lib.decDigits v.natAbs = d at hne ⊢
      cases d with
      | nil => rfl
      | cons b t => exact if_neg (by rw [show ((b :: t).getD 0 0) = b from rfl] at hne; rw [hne]; decide)
    have ok : numOk (Lib.decDigits v.natAbs) = true := by
      unfold numOk
      rw [eu, a2, decide_eq_true a4, decide_eq_true a3]
      by_cases hz : v.natAbs = 0
      · rw [hz, Lib.decDigits_one (by decide)]; decide
      · rw [show ((Lib.decDigits v.natAbs).getD 0 0 == 48) = false from beq_false_of_ne (a5 hz)]; rfl
    unfold numOf
    rw [if_pos ok]
    unfold numVal
    rw [eu, a1, hne, if_neg (by decide)]
    congr 1; omega

/-- A sign that stands in a word. -/
def okCh (b : UInt8) : Bool := !isSep b && (b != 35 && b != 10)

theorem okCh_dig {b : UInt8} (h : isDig b = true) : okCh b = true := by
  have key : ∀ b : Fin 256, isDig (UInt8.ofNat b.val) = true → okCh (UInt8.ofNat b.val) = true := by decide +kernel
  have := key ⟨b.toNat, b.toNat_lt⟩
  simp only [UInt8.ofNat_toNat] at this
  exact this h

theorem itoa_ok {v : Int} (hv : v.natAbs < 1000000000000000) : (Lib.itoa v).all okCh = true ∧ Lib.itoa v ≠ [] := by
  obtain ⟨a1, a2, a3, a4, a5⟩ := dec_facts 14 v.natAbs hv
  have hall : (Lib.decDigits v.natAbs).all okCh = true := List.all_eq_true.2 (fun b hb => okCh_dig (List.all_eq_true.1 a2 b hb))
  unfold Lib.itoa
  split
  · exact ⟨by rw [List.all_cons, hall]; decide, by simp⟩
  · rw [show v.toNat = v.natAbs by omega]
    exact ⟨hall, fun e => by rw [e] at a4; simp at a4⟩

theorem words_word : ∀ (u w s : Str), u.all okCh = true → wordsGo w (u ++ s) = wordsGo (w ++ u) s
  | [], w, s, _ => by rw [List.nil_append, List.append_nil]
  | b :: u, w, s, h => by
    simp only [List.all_cons, Bool.and_eq_true] at h
    have hb := h.1
    unfold okCh at hb
    simp only [Bool.and_eq_true, Bool.not_eq_true', bne_iff_ne, ne_eq] at hb
    rw [List.cons_append, wordsGo_cons, if_neg (by simpa using hb.2.1), hb.1, if_neg (by decide), words_word u (w ++ [b]) s h.2, List.append_assoc]
    rfl

theorem words_tail : ∀ (ps : List Str) (w : Str), w ≠ [] → (∀ p ∈ ps, p.all okCh = true ∧ p ≠ []) → wordsGo w (Lib.joinTail [32] ps) = w :: ps
  | [], w, hw, _ => by
    show (if w.isEmpty then [] else [w]) = [w]
    rw [if_neg (by simpa using hw)]
  | p :: ps, w, hw, h => by
    obtain ⟨h1, h2⟩ := h p List.mem_cons_self
    have e : Lib.joinTail [32] (p :: ps) = 32 :: (p ++ Lib.joinTail [32] ps) := by simp [Lib.joinTail]
    rw [e, wordsGo_cons, if_neg (by decide), if_pos (by decide), if_neg (by simpa using hw), words_word _ _ _ h1, List.nil_append, words_tail ps p h2 (fun q hq => h q (List.mem_cons_of_mem _ hq))]

theorem part_ok {d : Dec} (D : DecIs d) (c : UInt8) : (Go.Insn.part d c).all okCh = true ∧ Go.Insn.part d c ≠ [] := by
  obtain ⟨_, a, r1, r2, im, _⟩ := D
  have x : ∀ v : Int, 0 ≤ v ∧ v < 16 → (120 :: Lib.itoa v).all okCh = true ∧ (120 :: Lib.itoa v) ≠ [] := fun v hv => ⟨by rw [List.all_cons, (itoa_ok (by omega)).1]; decide, by simp⟩
  unfold Go.Insn.part
  split
  · exact x _ a
  · split
    · exact x _ r1
    · split
      · exact x _ r2
      · exact itoa_ok (by omega)

def setP (d : Dec) (x : Ins) (c : UInt8) : Ins :=
  if c = 100 then ⟨x.op, d.rd, x.rs1, x.rs2, x.imm⟩ else if c = 97 then ⟨x.op, x.rd, d.rs1, x.rs2, x.imm⟩ else if c = 98 then ⟨x.op, x.rd, x.rs1, d.rs2, x.imm⟩ else ⟨x.op, x.rd, x.rs1, x.rs2, d.imm⟩

theorem opnd_part {d : Dec} (D : DecIs d) {x : Ins} {c : UInt8} (hc : c = 100 ∨ c = 97 ∨ c = 98 ∨ c = 105 ∨ c = 109) : opnd x [] c (Go.Insn.part d c) = some (setP d x c, []) := by
  obtain ⟨_, a, r1, r2, im, _⟩ := D
  have reg : ∀ v : Int, 0 ≤ v ∧ v < 16 → regOf (120 :: Lib.itoa v) = v := fun v hv => by
    have := regOf_itoa (i := v.toNat) (by omega)
    rw [show ((v.toNat : Nat) : Int) = v by omega] at this
    exact this
  rcases hc with rfl | rfl | rfl | rfl | rfl
  · rw [opnd_d, show Go.Insn.part d 100 = 120 :: Lib.itoa d.rd from rfl, reg _ a, if_neg (by omega)]; rfl
  · rw [opnd_a, show Go.Insn.part d 97 = 120 :: Lib.itoa d.rs1 from rfl, reg _ r1, if_neg (by omega)]; rfl
  · rw [opnd_b, show Go.Insn.part d 98 = 120 :: Lib.itoa d.rs2 from rfl, reg _ r2, if_neg (by omega)]; rfl
  · rw [opnd_i, show Go.Insn.part d 105 = Lib.itoa d.imm from rfl, num_itoa (by omega)]; rfl
  · rw [opnd_m, show Go.Insn.part d 109 = Lib.itoa d.imm from rfl, num_itoa (by omega)]; rfl

theorem opnds_part {d : Dec} (D : DecIs d) : ∀ (cs : List UInt8) (x : Ins), (∀ c ∈ cs, c = 100 ∨ c = 97 ∨ c = 98 ∨ c = 105 ∨ c = 109) → opnds cs (cs.map (Go.Insn.part d)) x [] = some (cs.foldl (setP d) x, [])
  | [], x, _ => rfl
  | c :: cs, x, h => by
    rw [List.map_cons, opnds_cons, opnd_part D (h c List.mem_cons_self)]
    simp only
    rw [opnds_part D cs _ (fun c hc => h c (List.mem_cons_of_mem _ hc))]
    rfl

theorem dec_enc {w : Int} {d : Dec} (hd : decOf w = d) (he : d.e = 0) : encOf d.op d.rd d.rs1 d.rs2 d.imm = (w, 0) := by
  have rest : ∀ op rd rs1 rs2 imm : Int, (decRest w op rd rs1 rs2 imm) = d → encOf d.op d.rd d.rs1 d.rs2 d.imm = (w, 0) := by
    intro op rd rs1 rs2 imm hr
    unfold decRest at hr
    split at hr
    · rw [← hr] at he; cases he
    · rename_i h1
      split at hr
      · rw [← hr] at he; cases he
      · rename_i h2
        rw [← hr]
        have h1 : (encOf op rd rs1 rs2 imm).2 = 0 := Classical.byContradiction h1
        have h2 : (encOf op rd rs1 rs2 imm).1 = w := Classical.byContradiction h2
        exact Prod.ext h2 h1
  unfold decOf at hd
  split at hd
  · rw [← hd] at he; cases he
  · split at hd
    · exact rest _ _ _ _ _ hd
    · exact rest _ _ _ _ _ hd

theorem regOk_z {r : Int} (h0 : 0 ≤ r) (h : regOk r false = true) : r = 0 := by
  unfold regOk at h
  by_cases h1 : r > 0
  · rw [decide_eq_true h1] at h; simp at h
  · omega

theorem fold_all {d : Dec} (D : DecIs d) (hv : validOf d.op d.rd d.rs1 d.rs2 d.imm = true) : (ordOf d.op).foldl (setP d) ⟨d.op, 0, 0, 0, 0⟩ = ⟨d.op, d.rd, d.rs1, d.rs2, d.imm⟩ := by
  obtain ⟨ho, ha, hr1, hr2, him, _⟩ := D
  obtain ⟨n, hn⟩ : ∃ n : Nat, d.op = (n : Int) := ⟨d.op.toNat, by omega⟩
  have hs : rshape (n : Int) ≠ -1 := by
    have key : ∀ n : Fin 64, 1 ≤ n.val → n.val ≤ 48 → rshape ((n.val : Nat) : Int) ≠ -1 := by decide +kernel
    exact key ⟨n, by omega⟩ (by show 1 ≤ n; omega) (by show n ≤ 48; omega)
  have hi0 : rshape (n : Int) = 0 ∨ rshape (n : Int) = 1 ∨ rshape (n : Int) = 6 → ¬ ((n : Int) = 18 ∨ (n : Int) = 19 ∨ (n : Int) = 20) ∧ ¬ ((n : Int) = 46 ∨ (n : Int) = 47 ∨ (n : Int) = 48) := by
    have key : ∀ n : Fin 64, rshape ((n.val : Nat) : Int) = 0 ∨ rshape ((n.val : Nat) : Int) = 1 ∨ rshape ((n.val : Nat) : Int) = 6 → ¬ (((n.val : Nat) : Int) = 18 ∨ ((n.val : Nat) : Int) = 19 ∨ ((n.val : Nat) : Int) = 20) ∧ ¬ (((n.val : Nat) : Int) = 46 ∨ ((n.val : Nat) : Int) = 47 ∨ ((n.val : Nat) : Int) = 48) := by decide +kernel
    exact key ⟨n, by omega⟩
  rw [hn] at hv ⊢
  unfold validOf at hv
  rw [shapeOf_of hs] at hv
  simp only [Bool.and_eq_true] at hv
  obtain ⟨hi, h37, hrd, hrs1, hrs2, _⟩ := hv
  have imm0 : rshape (n : Int) = 0 ∨ rshape (n : Int) = 1 ∨ rshape (n : Int) = 6 → d.imm = 0 := by
    intro h
    obtain ⟨q1, q2⟩ := hi0 h
    unfold Go.Insn.immOk at hi
    rw [if_neg q1, if_neg q2, if_neg (by omega), if_neg (by omega)] at hi
    simpa using hi
  have hmk : ∀ {a b c e a' b' c' e' : Int}, a = a' → b = b' → c = c' → e = e' → (⟨(n : Int), a, b, c, e⟩ : Ins) = ⟨(n : Int), a', b', c', e'⟩ := by
    rintro _ _ _ _ _ _ _ _ rfl rfl rfl rfl; rfl
  unfold ordOf
  rcases rshape_range (n := n) (by omega) with e | e | e | e | e | e | e | e
  · exact absurd e hs
  · have := imm0 (.inl e)
    rw [e] at hrd hrs1 hrs2 ⊢
    exact hmk (regOk_z ha.1 hrd).symm (regOk_z hr1.1 hrs1).symm (regOk_z hr2.1 hrs2).symm this.symm
  · have hz := imm0 (.inr (.inl e))
    rw [e] at hrd hrs1 hrs2 ⊢
    simp only
    by_cases h : (n : Int) = 37
    · rw [if_pos h]
      have : d.rs2 = 0 := by
        rw [h] at h37
        simpa using h37
      exact hmk rfl rfl this.symm hz.symm
    · rw [if_neg h]
      exact hmk rfl rfl rfl hz.symm
  · rw [e] at hrd hrs1 hrs2 ⊢
    simp only
    have := regOk_z hr2.1 hrs2
    split
    · exact hmk rfl rfl this.symm rfl
    · exact hmk rfl rfl this.symm rfl
  · rw [e] at hrd hrs1 hrs2 ⊢
    exact hmk (regOk_z ha.1 hrd).symm rfl rfl rfl
  · rw [e] at hrd hrs1 hrs2 ⊢
    exact hmk (regOk_z ha.1 hrd).symm rfl rfl rfl
  · rw [e] at hrd hrs1 hrs2 ⊢
    simp only
    have h1 := regOk_z hr1.1 hrs1
    have h2 := regOk_z hr2.1 hrs2
    split
    · exact hmk rfl h1.symm h2.symm rfl
    · exact hmk rfl h1.symm h2.symm rfl
  · have hz := imm0 (.inr (.inr e))
    rw [e] at hrd hrs1 hrs2 ⊢
    exact hmk (regOk_z ha.1 hrd).symm rfl (regOk_z hr2.1 hrs2).symm hz.symm

/-- What the line of a word says. -/
def bodyW (w : Nat) : Body := if (decOf (w : Int)).e ≠ 0 then .fill 1 w else .ins ⟨(decOf (w : Int)).op, (decOf (w : Int)).rd, (decOf (w : Int)).rs1, (decOf (w : Int)).rs2, (decOf (w : Int)).imm⟩ []

theorem name_facts {n : Nat} (hn : n < 48) : (namesL.getD n []).all okCh = true ∧ namesL.getD n [] ≠ [] ∧ (namesL.getD n []).getLast? ≠ some 58 ∧ namesL.getD n [] ≠ dotWord ∧ namesL.getD n [] ≠ dotFill := by
  have key : ∀ n : Fin 48, (namesL.getD n.val []).all okCh = true ∧ namesL.getD n.val [] ≠ [] ∧ (namesL.getD n.val []).getLast? ≠ some 58 ∧ namesL.getD n.val [] ≠ dotWord ∧ namesL.getD n.val [] ≠ dotFill := by decide +kernel
  exact key ⟨n, hn⟩

theorem show_line {w : Nat} (hw : w < 2 ^ 32) : readL (textW (w : Int)) = some ⟨[], bodyW w⟩ ∧ (textW (w : Int)).all (· != 10) = true ∧ (textW (w : Int)).length ≤ 60 := by
  have ok10 : ∀ {s : Str}, s.all okCh = true → s.all (· != 10) = true := fun {s} h => List.all_eq_true.2 (fun b hb => by
    have := List.all_eq_true.1 h b hb
    unfold okCh at this
    simp only [Bool.and_eq_true] at this
    exact this.2.2)
  have hdi := dec_is hw
  have hde := fun d (h : decOf (w : Int) = d) => dec_enc (w := (w : Int)) (d := d) h
  unfold textW bodyW
  generalize hd : decOf (w : Int) = d at hdi ⊢
  have hde := hde d hd
  rcases hdi with e | D
  · rw [if_pos (by rw [e]; decide), if_pos (by rw [e]; decide)]
    obtain ⟨i1, i2⟩ := itoa_ok (v := (w : Int)) (by omega)
    refine ⟨?_, ?_, ?_⟩
    · unfold readL
      have ew : wordsGo [] ([46, 119, 111, 114, 100, 32] ++ Lib.itoa (w : Int)) = [dotWord, Lib.itoa (w : Int)] := by
        show wordsGo [] (dotWord ++ (32 :: Lib.itoa (w : Int))) = _
        rw [words_word _ _ _ (by decide), List.nil_append, wordsGo_cons, if_neg (by decide), if_pos (by decide), if_neg (by decide)]
        have := words_word (Lib.itoa (w : Int)) [] [] i1
        rw [List.append_nil, List.nil_append] at this
        rw [this]
        show dotWord :: (if (Lib.itoa (w : Int)).isEmpty then [] else [Lib.itoa (w : Int)]) = _
        rw [if_neg (by simpa using i2)]
      rw [ew, readW_cons, if_neg (by decide), readB_cons, if_pos (.inl rfl)]
      simp only
      rw [if_neg (by decide), num_itoa (by omega)]
      simp only [wordB]
      rw [if_pos (by omega)]
      have : (((w : Int) % 4294967296).toNat) = w := by omega
      rw [this]; rfl
    · rw [List.all_append, ok10 i1]; decide
    · have := itoa_len (v := (w : Int)) (by omega)
      simp; omega
  · rw [if_neg (fun hh => hh D.e), if_neg (fun hh => hh D.e)]
    have he := hde D.e
    have hval : validOf d.op d.rd d.rs1 d.rs2 d.imm = true := by
      unfold encOf at he
      split at he
      · assumption
      · cases he
    have hfold := fold_all D hval
    obtain ⟨n, hn⟩ : ∃ n : Nat, d.op = (n : Int) := ⟨d.op.toNat, by have := D.op; omega⟩
    have hop := D.op
    obtain ⟨f1, f2, f3, f4, f5⟩ := name_facts (n := n - 1) (by omega)
    have nl := name_len (n := n - 1) (by omega)
    unfold textOf
    rw [fold_join]
    have en : (d.op - 1).toNat = n - 1 := by omega
    rw [en]
    have hchars := ord_chars (n := n) (by omega)
    have ol := ord_len (n := n) (by omega)
    rw [← hn] at hchars ol
    have hidx := names_idx (i := n - 1) (by omega)
    generalize namesL.getD (n - 1) [] = nm at f1 f2 f3 f4 f5 nl hidx ⊢
    refine ⟨?_, ?_, ?_⟩
    · unfold readL
      rw [words_word _ _ _ f1, List.nil_append, words_tail _ _ f2 (fun p hp => by
        obtain ⟨c, _, rfl⟩ := List.mem_map.1 hp
        exact part_ok D c)]
      rw [readW_cons, if_neg f3, readB_cons, if_neg (fun hh => hh.elim f4 f5)]
      have hoo : opOf nm = n := by
        unfold opOf
        rw [hidx, if_pos (by omega)]; omega
      rw [hoo, if_neg (by omega), ← hn, opnds_part D _ _ hchars, hfold]
      rfl
    · rw [List.all_append, ok10 f1, Bool.true_and]
      have : ∀ ps : List Str, (∀ p ∈ ps, p.all okCh = true) → (Lib.joinTail [32] ps).all (· != 10) = true := by
        intro ps
        induction ps with
        | nil => intro _; rfl
        | cons p ps ih =>
          intro h
          have e : Lib.joinTail [32] (p :: ps) = 32 :: (p ++ Lib.joinTail [32] ps) := by simp [Lib.joinTail]
          rw [e, List.all_cons, List.all_append, ok10 (h p List.mem_cons_self), ih (fun q hq => h q (List.mem_cons_of_mem _ hq))]
          decide
      exact this _ (fun p hp => by
        obtain ⟨c, _, rfl⟩ := List.mem_map.1 hp
        exact (part_ok D c).1)
    · have : ∀ cs : List UInt8, (Lib.joinTail [32] (cs.map (Go.Insn.part d))).length ≤ 13 * cs.length := by
        intro cs
        induction cs with
        | nil => exact Nat.le_refl _
        | cons c cs ih =>
          have e : Lib.joinTail [32] ((c :: cs).map (Go.Insn.part d)) = 32 :: (Go.Insn.part d c ++ Lib.joinTail [32] (cs.map (Go.Insn.part d))) := by simp [Lib.joinTail]
          rw [e]
          have := part_len D c
          simp only [List.length_cons, List.length_append]
          omega
      have := this (ordOf d.op)
      rw [List.length_append]
      omega

end Go.Asm

set_option linter.unusedSimpArgs false
set_option linter.unusedVariables false
set_option maxRecDepth 100000
namespace Go.Asm
open Go.Lift Go.Fn Go.Insn

/-- The words of 32 bits of an argument. -/
structure U32s (g : Heap) (p : Option Ptr) (ws : List Nat) : Prop where
  rd : ∀ (i w : Nat), ws[i]? = some w → ∃ q, p = some q ∧ g.get q.b (q.o + i) = some (.int .u32 (w : Int))
  lt : ∀ w ∈ ws, w < 2 ^ 32

theorem U32s.keep {g g' : Heap} {p : Option Ptr} {ws : List Nat} (H : U32s g p ws) (k : Keeps none_ g g') : U32s g' p ws := by
  refine ⟨fun i w hi => ?_, H.lt⟩
  obtain ⟨q, hq, hg⟩ := H.rd i w hi
  refine ⟨q, hq, ?_⟩
  have hn : g.obj q.b ≠ none := by intro hn; unfold Heap.get at hg; rw [hn] at hg; cases hg
  rw [Heap.get_obj (k.same _ hn (fun f => f))]; exact hg

theorem U32s.take {g : Heap} {p : Option Ptr} {ws : List Nat} (H : U32s g p ws) (n : Nat) : U32s g p (ws.take n) := by
  refine ⟨fun i w hi => H.rd i w ?_, fun w hw => H.lt w (List.mem_of_mem_take hw)⟩
  rcases Nat.lt_or_ge i n with h | h
  · rwa [List.getElem?_take_of_lt h] at hi
  · rw [List.getElem?_eq_none (by rw [List.length_take]; omega)] at hi; cases hi

theorem u32s_of {h : Heap} {s : Sl} (f : s.len ≤ s.cap ∧ s.cap ≤ maxLen ∧ (s.p = none → s.cap = 0) ∧ ∀ p, s.p = some p → ∀ i, i < s.cap → ∃ cs, cs.length = 1 ∧ (∀ j, j < 1 → h.get p.b (p.o + i * 1 + j) = cs[j]?) ∧ Fits h (.int .u32) cs) :
    ∃ ws : List Nat, ws.length = s.len ∧ U32s h s.p ws := by
  obtain ⟨hl, hi⟩ := ints_of f
  have key : ∀ n, n ≤ s.len → ∃ ws : List Nat, ws.length = n ∧ U32s h s.p ws := by
    intro n
    induction n with
    | zero => intro _; exact ⟨[], rfl, ⟨fun i w hw => (by cases hw), fun w hw => (by cases hw)⟩⟩
    | succ n ih =>
      intro hn
      obtain ⟨ws, hx, hr⟩ := ih (by omega)
      obtain ⟨p, v, hp, hv, hw⟩ := hi n (by omega)
      have hb : 0 ≤ v ∧ v ≤ 4294967295 := by simpa [Lit.wf, IntKind.min, IntKind.max, IntKind.signed, IntKind.bits] using hw
      refine ⟨ws ++ [v.toNat], by simp [hx], fun i w hi => ?_, fun w hw => ?_⟩
      · rcases Nat.lt_or_ge i n with h | h
        · exact hr.rd i w (by rwa [List.getElem?_append_left (by omega)] at hi)
        · rw [List.getElem?_append_right (by omega)] at hi
          have hin : i = n := by
            rcases Nat.lt_or_ge (i - ws.length) 1 with h1 | h1
            · omega
            · rw [List.getElem?_eq_none (by simpa using h1)] at hi; cases hi
          subst hin
          rw [hx, Nat.sub_self] at hi
          simp at hi
          exact ⟨p, hp, by rw [hv]; congr 1; congr 1; omega⟩
      · rcases List.mem_append.1 hw with h | h
        · exact hr.lt w h
        · have := List.mem_singleton.1 h; omega
  exact key s.len (Nat.le_refl _)

def begT : Str := [35, 32, 98, 101, 103, 105, 110, 115]
def linesW : List Nat → Str
  | [] => []
  | w :: ws => textW (w : Int) ++ 10 :: linesW ws
def textB (ws : List Nat) : Str := begT ++ 10 :: linesW ws
def bLn (w : Nat) : Ln := ⟨[], bodyW w⟩
def linesB (ws : List Nat) : List Ln := ⟨[], .blank⟩ :: (ws.map bLn ++ [⟨[], .blank⟩])

theorem linesW_snoc : ∀ (ws : List Nat) (w : Nat), linesW (ws ++ [w]) = linesW ws ++ textW (w : Int) ++ [10]
  | [], w => by simp [linesW]
  | x :: ws, w => by simp [linesW, linesW_snoc ws w]

theorem textB_snoc (ws : List Nat) (w : Nat) : textB (ws ++ [w]) = textB ws ++ textW (w : Int) ++ [10] := by
  unfold textB; rw [linesW_snoc]; simp

theorem textB_len : ∀ {ws : List Nat}, (∀ w ∈ ws, w < 2 ^ 32) → (textB ws).length ≤ 9 + 61 * ws.length := by
  intro ws h
  have : (linesW ws).length ≤ 61 * ws.length := by
    induction ws with
    | nil => exact Nat.le_refl _
    | cons w ws ih =>
      have h1 := (show_line (h w List.mem_cons_self)).2.2
      have h2 := ih (fun x hx => h x (List.mem_cons_of_mem _ hx))
      show (textW (w : Int) ++ 10 :: linesW ws).length ≤ _
      rw [List.length_append, List.length_cons, List.length_cons]; omega
  unfold textB
  rw [List.length_append, List.length_cons, show begT.length = 8 from rfl]; omega

theorem not10 {s : Str} (h : s.all (· != 10) = true) : ∀ x ∈ s, x ≠ 10 := fun x hx => by
  have := List.all_eq_true.1 h x hx
  simpa using this

theorem split_words : ∀ {ws : List Nat}, (∀ w ∈ ws, w < 2 ^ 32) → split (linesW ws) = ws.map (fun w : Nat => textW (w : Int)) ++ [[]]
  | [], _ => rfl
  | w :: ws, h => by
    show split (textW (w : Int) ++ 10 :: linesW ws) = _
    rw [split_line _ (not10 (show_line (h w List.mem_cons_self)).2.1), split_words (fun x hx => h x (List.mem_cons_of_mem _ hx))]
    rfl

theorem lines_words : ∀ {ws : List Nat} (n : Nat) (done : List Ln), (∀ w ∈ ws, w < 2 ^ 32) → linesGo n done (ws.map (fun w : Nat => textW (w : Int)) ++ [[]]) = .inr (done ++ (ws.map bLn ++ [⟨[], .blank⟩]))
  | [], n, done, _ => by
    show linesGo n done [[]] = _
    rw [linesGo_cons, blank_line]
    simp only
    rw [if_neg (fun hh => hh.1 rfl)]
    rfl
  | w :: ws, n, done, h => by
    rw [List.map_cons, List.cons_append, linesGo_cons, (show_line (h w List.mem_cons_self)).1]
    simp only
    rw [if_neg (fun hh => hh.1 rfl), lines_words _ _ (fun x hx => h x (List.mem_cons_of_mem _ hx)), List.append_assoc]
    rfl

theorem bodyW_words (w : Nat) : (bodyW w).words = 1 := by
  unfold bodyW; split <;> rfl

theorem total_words : ∀ ws : List Nat, total (ws.map bLn ++ [⟨[], .blank⟩]) = ws.length
  | [] => rfl
  | w :: ws => by
    rw [List.map_cons, List.cons_append, total_cons, total_words ws, List.length_cons]
    show (bodyW w).words + _ = _
    rw [bodyW_words]; omega

theorem enc_words (all : List Ln) : ∀ (ws : List Nat) (n : Nat) (out : List Int), encGo all n out (ws.map bLn ++ [⟨[], .blank⟩]) = .inr (out ++ ws.map (fun w : Nat => (w : Int)))
  | [], n, out => by
    show Sum.inr out = Sum.inr (out ++ [])
    rw [List.append_nil]
  | w :: ws, n, out => by
    rw [List.map_cons, List.cons_append, encGo_cons]
    by_cases he : (decOf (w : Int)).e ≠ 0
    · have eb : (bLn w).body = .fill 1 w := by show bodyW w = _; unfold bodyW; rw [if_pos he]
      rw [eb]
      simp only
      rw [enc_words all ws, List.append_assoc]
      rfl
    · have eb : (bLn w).body = .ins ⟨(decOf (w : Int)).op, (decOf (w : Int)).rd, (decOf (w : Int)).rs1, (decOf (w : Int)).rs2, (decOf (w : Int)).imm⟩ [] := by show bodyW w = _; unfold bodyW; rw [if_neg he]
      rw [eb]
      have he0 : (decOf (w : Int)).e = 0 := Classical.byContradiction he
      have hi : immOf all ⟨(decOf (w : Int)).op, (decOf (w : Int)).rd, (decOf (w : Int)).rs1, (decOf (w : Int)).rs2, (decOf (w : Int)).imm⟩ [] out.length = some (decOf (w : Int)).imm := by
        unfold immOf; rw [if_pos rfl]
      simp only [hi]
      rw [dec_enc rfl he0]
      rw [if_neg (by simp), enc_words all ws, List.append_assoc]
      rfl

theorem back_asm {ws : List Nat} (h : ∀ w ∈ ws, w < 2 ^ 32) (hl : ws.length ≤ 1000) : asm (textB ws) 0 = .ok (linesB ws) (ws.map (fun w : Nat => (w : Int))) := by
  have hlen := textB_len h
  unfold asm
  rw [if_neg (by omega), if_neg (by omega)]
  unfold asmT
  have e : split (textB ws) = begT :: (ws.map (fun w : Nat => textW (w : Int)) ++ [[]]) := by
    unfold textB
    rw [split_line _ (by decide), split_words h]
  rw [e, linesGo_cons, show readL begT = some ⟨[], .blank⟩ from rfl]
  simp only
  rw [if_neg (fun hh => hh.1 rfl), lines_words _ _ h]
  show asmL (linesB ws) = _
  unfold asmL
  have ht : total (linesB ws) = ws.length := by
    unfold linesB
    rw [total_cons, total_words]
    show 0 + _ = _
    omega
  rw [ht, if_neg (by omega)]
  have e0 : encGo (linesB ws) 0 [] (linesB ws) = .inr (ws.map (fun w : Nat => (w : Int))) := by
    show encGo (linesB ws) 1 [] (ws.map bLn ++ [⟨[], .blank⟩]) = _
    rw [enc_words, List.nil_append]
  rw [e0]

def ecallT : Str := [101, 99, 97, 108, 108]

theorem ecall_asm : asm ecallT 0 = .ok [⟨[], .ins ⟨42, 0, 0, 0, 0⟩ []⟩] [2818572288] := by
  unfold asm
  rw [if_neg (by decide), if_neg (by decide)]
  unfold asmT
  have e : split ecallT = [ecallT] := rfl
  have hr : readL ecallT = some ⟨[], .ins ⟨42, 0, 0, 0, 0⟩ []⟩ := by
    unfold readL
    rw [show wordsGo [] ecallT = [ecallT] from rfl, readW_cons, if_neg (by decide), readB_cons, if_neg (by decide)]
    have ho : opOf ecallT = 42 := by decide +kernel
    rw [ho, if_neg (by decide)]
    have hord : ordOf ((42 : Nat) : Int) = [] := by decide +kernel
    rw [hord]
    rfl
  rw [e, linesGo_cons, hr]
  simp only
  rw [if_neg (fun hh => hh.1 rfl)]
  show asmL [⟨[], .ins ⟨42, 0, 0, 0, 0⟩ []⟩] = _
  unfold asmL
  rw [if_neg (by decide)]
  have he : encOf 42 0 0 0 0 = (2818572288, 0) := by decide +kernel
  have e0 : encGo [⟨[], .ins ⟨42, 0, 0, 0, 0⟩ []⟩] 0 [] [⟨[], .ins ⟨42, 0, 0, 0, 0⟩ []⟩] = .inr [2818572288] := by
    rw [encGo_cons]
    have hi : immOf [⟨[], .ins ⟨42, 0, 0, 0, 0⟩ []⟩] ⟨42, 0, 0, 0, 0⟩ [] ([] : List Int).length = some 0 := rfl
    simp only [hi, he]
    rw [if_neg (by decide)]
    rfl
  rw [e0]

section
variable {U : Ifc} {g : Heap}

theorem AsU.au (a : AsU U g) (hp : (3, Lib.pow10Tab.map (V.int .u64)) ∈ U.tabs) : AU U g := ⟨hp, a.asc⟩

theorem cmp_loop (au : AsU U g) {a1 so : Sl} {ws : List Nat} (hws : ws.length = a1.len) (hl : ws.length ≤ 1000) (W : U32s g a1.p ws) {h0 : Heap} (R : Row h0 g so 1 ((ws.map (fun w : Nat => (w : Int))).map (V.int .u32))) {Q : Bool → Heap → Prop} (hQ : ∀ h, Q true h) : zf29.j12 U a1 so 0 Q g := by
  unfold zf29.j12
  intro I H
  have hso := R.len
  simp only [List.length_map, Nat.mul_one] at hso
  have step : ∀ m i : Nat, i + m = ws.length → I a1 so (i : Int) g := by
    intro m
    induction m with
    | zero =>
      intro i hi
      refine H _ _ _ _ ?_
      unfold zf29.b12
      refine br_f (decide_eq_false (by omega)) ?_
      refine Assemble_ok au ecall_asm (fun g1 r R1 k1 => ?_)
      have h1 := R1.len
      simp only [List.length_map, List.length_cons, List.length_nil, Nat.mul_one] at h1
      refine br_t ?_ (hQ g1)
      rw [beq_iff_eq]; omega
    | succ m ih =>
      intro i hi
      refine H _ _ _ _ ?_
      unfold zf29.b12
      have hlt : i < ws.length := by omega
      obtain ⟨w, hw⟩ : ∃ w, ws[i]? = some w := ⟨ws[i], List.getElem?_eq_getElem hlt⟩
      obtain ⟨q, hq, hg⟩ := W.rd i w hw
      refine br_t (decide_eq_true (by omega)) (ix_of (by omega) (by omega) ?_)
      rw [Int.toNat_natCast]
      cases hp : so.p with
      | none => have := R.held.nil hp; omega
      | some p =>
        rw [der_some]
        have hr := R.held.row p hp i (.int .u32 (w : Int)) (by rw [List.getElem?_map, List.getElem?_map, hw]; rfl)
        refine rdI_of (x := (w : Int)) (by show g.get p.b (p.o + i * 1) = _; rw [Nat.mul_one]; exact hr) (ix_of (by omega) (by omega) ?_)
        rw [Int.toNat_natCast, hq, der_some]
        refine rdI_of (x := (w : Int)) (by show g.get q.b (q.o + i * 1) = _; rw [Nat.mul_one]; exact hg) (br_f (by simp) ?_)
        rw [wrap64]
        exact ih (i + 1) (by omega)
  exact step ws.length 0 (by omega)

theorem back_j5 (au : AsU U g) (hp : (3, Lib.pow10Tab.map (V.int .u64)) ∈ U.tabs) {a1 : Sl} {ws : List Nat} (hws : ws.length = a1.len) (hl : ws.length ≤ 1000) (W : U32s g a1.p ws) {Q : Bool → Heap → Prop} (hQ : ∀ h, Q true h) : zf29.j3 U a1 Q g := by
  unfold zf29.j3 zf29.j5
  intro I H
  have step : ∀ m i : Nat, i + m = ws.length → ∀ g', Keeps none_ g g' → I a1 (textB (ws.take i)) (i : Int) g' := by
    intro m
    induction m with
    | zero =>
      intro i hi g' k
      refine H _ _ _ _ ?_
      unfold zf29.b5
      refine br_f (decide_eq_false (by omega)) ?_
      rw [List.take_of_length_le (by omega)]
      refine Assemble_ok (au.keep k) (back_asm W.lt hl) (fun g1 so R k1 => ?_)
      have hso := R.len
      simp only [List.length_map, Nat.mul_one] at hso
      refine br_f (by decide) (br_f (by decide) (br_f (by rw [← hso, hws]; simp) ?_))
      unfold zf29.j11
      exact cmp_loop ((au.keep k).keep k1) hws hl ((W.keep k).keep k1) R hQ
    | succ m ih =>
      intro i hi g' k
      refine H _ _ _ _ ?_
      unfold zf29.b5
      have hlt : i < ws.length := by omega
      obtain ⟨w, hw⟩ : ∃ w, ws[i]? = some w := ⟨ws[i], List.getElem?_eq_getElem hlt⟩
      obtain ⟨q, hq, hg⟩ := (W.keep k).rd i w hw
      have hwlt : w < 2 ^ 32 := W.lt w (List.mem_of_getElem? hw)
      have hti : ws.take (i + 1) = ws.take i ++ [w] := by rw [List.take_add_one, hw]; rfl
      have l1 := textB_len (ws := ws.take i) (fun x hx => W.lt x (List.mem_of_mem_take hx))
      have l2 := (show_line hwlt).2.2
      rw [List.length_take] at l1
      refine br_t (decide_eq_true (by omega)) (ix_of (by omega) (by omega) ?_)
      rw [Int.toNat_natCast, hq, der_some]
      refine rdI_of (x := (w : Int)) (by show g'.get q.b (q.o + i * 1) = _; rw [Nat.mul_one]; exact hg) ?_
      refine Show_asm ((au.keep k).au hp) hwlt (fun g1 k1 => ⟨by omega, by rw [List.length_append, List.length_cons, List.length_nil]; omega, ?_⟩)
      rw [wrap64]
      have := ih (i + 1) (by omega) g1 (k.trans k1)
      rw [hti, textB_snoc] at this
      exact this
  have := step ws.length 0 (by omega) g (Keeps.refl _ _)
  rw [List.take_zero] at this
  exact this

theorem back (au : AsU U g) (hp : (3, Lib.pow10Tab.map (V.int .u64)) ∈ U.tabs) {a1 : Sl} (f : a1.len ≤ a1.cap ∧ a1.cap ≤ maxLen ∧ (a1.p = none → a1.cap = 0) ∧ ∀ p, a1.p = some p → ∀ i, i < a1.cap → ∃ cs, cs.length = 1 ∧ (∀ j, j < 1 → g.get p.b (p.o + i * 1 + j) = cs[j]?) ∧ Fits g (.int .u32) cs) {Q : Bool → Heap → Prop} (hQ : ∀ h, Q true h) : zf29 U a1 Q g := by
  obtain ⟨ws, hws, W⟩ := u32s_of f
  unfold zf29
  by_cases h : a1.len > 1000
  · refine br_t (decide_eq_true (by omega)) (sb_of (by decide) (by have := f.1; omega) ?_)
    refine back_j5 (ws := ws.take 1000) au hp ?_ (by rw [List.length_take]; omega) ?_ hQ
    · rw [List.length_take]
      show min 1000 ws.length = 1000 - 0
      omega
    · have W' := W.take 1000
      refine ⟨fun i w hi => ?_, W'.lt⟩
      obtain ⟨q, hq, hg⟩ := W'.rd i w hi
      refine ⟨q, ?_, hg⟩
      show slp a1.p (0 * 1) 0 a1.cap = some q
      unfold slp
      rw [if_neg (by have := f.1; omega), hq]
      rfl
  · refine br_f (decide_eq_false (by omega)) (back_j5 au hp hws (by omega) W hQ)
end
end Go.Asm
