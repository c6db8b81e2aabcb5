/- The assembler: what a text says. No program in sight. -/
import Derived.Test.YtcaeaolgijjjnaaGreatDoorKb
import Derived.Test.YtcaeaolgijjjnaaGreatDoorKa
set_option linter.unusedSimpArgs false
set_option linter.unusedVariables false

set_option linter.unusedSimpArgs false
set_option linter.unusedVariables false
set_option maxRecDepth 100000
namespace Go.Asm
open Go.Lift Go.Fn Go.Insn

abbrev Str := List UInt8

def isSep (b : UInt8) : Bool := b == 32 || (b == 44 || (b == 9 || (b == 40 || b == 41)))

/-- The words of a line; w: the word that is being read. -/
def wordsGo : Str → Str → List Str
  | w, [] => if w.isEmpty then [] else [w]
  | w, b :: s => if b == 35 then (if w.isEmpty then [] else [w]) else if isSep b then (if w.isEmpty then wordsGo [] s else w :: wordsGo [] s) else wordsGo (w ++ [b]) s

def isDig (b : UInt8) : Bool := decide (48 ≤ b.toNat) && decide (b.toNat ≤ 57)
def valGo (v : Nat) (d : Str) : Nat := d.foldl (fun v b => v * 10 + (b.toNat - 48)) v

/-- What stands behind a minus. -/
def unsign : Str → Str
  | [] => []
  | b :: d => if b == 45 then d else b :: d

def numOk (s : Str) : Bool := decide (1 ≤ (unsign s).length) && (decide ((unsign s).length ≤ 15) && (!((unsign s).getD 0 0 == 48 && s != [48]) && (unsign s).all isDig))
def numVal (s : Str) : Int := if s.getD 0 0 == 45 then -(valGo 0 (unsign s) : Int) else (valGo 0 (unsign s) : Int)
def numOf (s : Str) : Option Int := if numOk s then some (numVal s) else none

def regV : Option Int → Int
  | some v => if 0 ≤ v ∧ v ≤ 15 then v else -1
  | none => -1

/-- The register of a word; -1: none. -/
def regOf : Str → Int
  | [] => -1
  | b :: d => if b == 120 then regV (numOf d) else -1

def nameCh (b : UInt8) : Bool := (decide (97 ≤ b.toNat) && decide (b.toNat ≤ 122)) || (isDig b || b == 95)
def nameOk (s : Str) : Bool := decide (1 ≤ s.length) && (decide (s.length ≤ 30) && (s.all nameCh && (!isDig (s.getD 0 0) && decide (regOf s < 0))))

def opOf (s : Str) : Nat := if namesL.idxOf s < 48 then namesL.idxOf s + 1 else 0

structure Ins where
  op : Int
  rd : Int
  rs1 : Int
  rs2 : Int
  imm : Int

def opnd (x : Ins) (want : Str) (c : UInt8) (w : Str) : Option (Ins × Str) :=
  if c = 100 then (if regOf w < 0 then none else some (⟨x.op, regOf w, x.rs1, x.rs2, x.imm⟩, want))
  else if c = 97 then (if regOf w < 0 then none else some (⟨x.op, x.rd, regOf w, x.rs2, x.imm⟩, want))
  else if c = 98 then (if regOf w < 0 then none else some (⟨x.op, x.rd, x.rs1, regOf w, x.imm⟩, want))
  else match numOf w with
    | some v => some (⟨x.op, x.rd, x.rs1, x.rs2, v⟩, want)
    | none => if c = 109 ∧ nameOk w = true then some (⟨x.op, x.rd, x.rs1, x.rs2, 0⟩, w) else none

def opnds : List UInt8 → List Str → Ins → Str → Option (Ins × Str)
  | [], [], x, want => some (x, want)
  | c :: cs, w :: ws, x, want => match opnd x want c w with
    | some (x', want') => opnds cs ws x' want'
    | none => none
  | _, _, _, _ => none

inductive Body where
  | blank
  | fill (n v : Nat)
  | ins (x : Ins) (want : Str)

def Body.words : Body → Nat
  | .blank => 0
  | .fill n _ => n
  | .ins _ _ => 1

def dotWord : Str := [46, 119, 111, 114, 100]
def dotFill : Str := [46, 102, 105, 108, 108]

def wordB : Option Int → Option Body
  | some n => if -2147483648 ≤ n ∧ n ≤ 4294967295 then some (.fill 1 (n % 4294967296).toNat) else none
  | none => none
def fillB : Option Int → Option Body
  | some n => if 0 ≤ n ∧ n ≤ 4096 then some (.fill n.toNat 0) else none
  | none => none

def readB : List Str → Option Body
  | [] => some .blank
  | w :: ws =>
    if w = dotWord ∨ w = dotFill then (match ws with
      | [a] => if w = dotFill then fillB (numOf a) else wordB (numOf a)
      | _ => none)
    else if opOf w = 0 then none
    else match opnds (ordOf (opOf w : Int)) ws ⟨opOf w, 0, 0, 0, 0⟩ [] with
      | some (x, want) => some (.ins x want)
      | none => none

structure Ln where
  mark : Str
  body : Body

def withMark (m : Str) : Option Body → Option Ln
  | some b => some ⟨m, b⟩
  | none => none

def readW : List Str → Option Ln
  | [] => some ⟨[], .blank⟩
  | w :: ws => if w.getLast? = some 58 then (if nameOk w.dropLast then withMark w.dropLast (readB ws) else none) else withMark [] (readB (w :: ws))

def readL (s : Str) : Option Ln := readW (wordsGo [] s)

/-- The lines that were read, or the first that is none. -/
def linesGo : Nat → List Ln → List Str → Nat ⊕ List Ln
  | _, done, [] => .inr done
  | n, done, s :: ss => match readL s with
    | none => .inl n
    | some x => if x.mark ≠ [] ∧ x.mark ∈ done.map (·.mark) then .inl n else linesGo (n + 1) (done ++ [x]) ss

def split : Str → List Str
  | [] => [[]]
  | b :: s => if b == 10 then [] :: split s else match split s with
    | l :: ls => (b :: l) :: ls
    | [] => [[b]]

def total (l : List Ln) : Nat := (l.map (·.body.words)).sum

/-- The place of a mark, in words. -/
def place (m : Str) : List Ln → Option Nat
  | [] => none
  | x :: l => if x.mark = m then some 0 else (place m l).map (· + x.body.words)

def immOf (all : List Ln) (x : Ins) (want : Str) (n : Nat) : Option Int :=
  if want = [] then some x.imm else match place want all with
    | some p => some ((p : Int) - (n : Int))
    | none => none

def encGo (all : List Ln) : Nat → List Int → List Ln → Nat ⊕ List Int
  | _, out, [] => .inr out
  | n, out, x :: l => match x.body with
    | .blank => encGo all (n + 1) out l
    | .fill k v => encGo all (n + 1) (out ++ List.replicate k (v : Int)) l
    | .ins x want => match immOf all x want out.length with
      | none => .inl n
      | some v => if (encOf x.op x.rd x.rs1 x.rs2 v).2 ≠ 0 then .inl n else encGo all (n + 1) (out ++ [(encOf x.op x.rd x.rs1 x.rs2 v).1]) l

inductive Res where
  | ok (l : List Ln) (out : List Int)
  | arg
  | big
  | form (line : Nat)

def asmL (l : List Ln) : Res :=
  if total l > 16384 then .big else match encGo l 0 [] l with
    | .inl n => .form n
    | .inr out => .ok l out

def asmT (text : Str) : Res := match linesGo 0 [] (split text) with
  | .inl n => .form n
  | .inr l => asmL l

def asm (text : Str) (base : Nat) : Res :=
  if base % 4 ≠ 0 ∨ base > 1099511627776 then .arg else if text.length > 65536 then .big else asmT text

end Go.Asm

set_option linter.unusedSimpArgs false
set_option linter.unusedVariables false
set_option maxRecDepth 100000
namespace Go.Asm
open Go.Lift Go.Fn Go.Insn

theorem isDig_iff {b : UInt8} : isDig b = true ↔ 48 ≤ b.toNat ∧ b.toNat ≤ 57 := by
  unfold isDig; simp

theorem valGo_ge : ∀ (d : Str) (v : Nat), v * 10 ^ d.length ≤ valGo v d
  | [], v => by simp [valGo]
  | b :: d, v => by
    have := valGo_ge d (v * 10 + (b.toNat - 48))
    have e : valGo v (b :: d) = valGo (v * 10 + (b.toNat - 48)) d := rfl
    rw [e, List.length_cons, Nat.pow_succ]
    refine Nat.le_trans ?_ this
    rw [Nat.mul_comm (10 ^ d.length) 10, ← Nat.mul_assoc]
    exact Nat.mul_le_mul_right _ (by omega)

theorem valGo_lt : ∀ (d : Str) (v : Nat), d.all isDig = true → valGo v d < (v + 1) * 10 ^ d.length
  | [], v, _ => by simp [valGo]
  | b :: d, v, h => by
    simp only [List.all_cons, Bool.and_eq_true, isDig_iff] at h
    have := valGo_lt d (v * 10 + (b.toNat - 48)) h.2
    have e : valGo v (b :: d) = valGo (v * 10 + (b.toNat - 48)) d := rfl
    rw [e, List.length_cons, Nat.pow_succ]
    refine Nat.lt_of_lt_of_le this ?_
    rw [Nat.mul_comm (10 ^ d.length) 10, ← Nat.mul_assoc]
    exact Nat.mul_le_mul_right _ (by omega)

theorem numVal_bound {s : Str} (h : numOk s = true) : (numVal s).natAbs < 1000000000000000 := by
  unfold numOk at h
  simp only [Bool.and_eq_true, decide_eq_true_eq] at h
  obtain ⟨h1, h2, _, h4⟩ := h
  have := valGo_lt (unsign s) 0 h4
  have hp : (10 : Nat) ^ (unsign s).length ≤ 10 ^ 15 := Nat.pow_le_pow_right (by decide) h2
  unfold numVal
  split <;> omega

theorem byte_eq {b : UInt8} {n : Nat} (h : b.toNat = n) (hn : n < 256) : b = UInt8.ofNat n := by
  apply UInt8.toNat_inj.1
  rw [h]; simp; omega

theorem itoa_nat {i : Nat} : Lib.itoa (i : Int) = Lib.decDigits i := by
  unfold Lib.itoa
  rw [if_neg (by omega)]; simp

theorem regOf_itoa {i : Nat} (hi : i < 16) : regOf (120 :: Lib.itoa (i : Int)) = i := by
  rw [itoa_nat]
  by_cases h : i < 10
  · rw [Lib.decDigits_one h]
    rcases (by omega : i = 0 ∨ i = 1 ∨ i = 2 ∨ i = 3 ∨ i = 4 ∨ i = 5 ∨ i = 6 ∨ i = 7 ∨ i = 8 ∨ i = 9) with rfl | rfl | rfl | rfl | rfl | rfl | rfl | rfl | rfl | rfl <;> decide
  · rw [Lib.decDigits_two h (by omega)]
    rcases (by omega : i = 10 ∨ i = 11 ∨ i = 12 ∨ i = 13 ∨ i = 14 ∨ i = 15) with rfl | rfl | rfl | rfl | rfl | rfl <;> decide

/-- A small number's word is its digits. -/
theorem small_num {d : Str} (h : numOk d = true) (h0 : 0 ≤ numVal d) (h1 : numVal d ≤ 15) : d = Lib.itoa (numVal d) := by
  unfold numOk at h
  simp only [Bool.and_eq_true, decide_eq_true_eq, Bool.not_eq_true'] at h
  obtain ⟨l1, l2, lz, ld⟩ := h
  have nz : (unsign d).getD 0 0 = 48 → d = [48] := by
    intro e
    rw [e] at lz
    simpa using lz
  cases d with
  | nil => simp [unsign] at l1
  | cons b r =>
    by_cases hb : b = 45
    · subst hb
      have eu : unsign (45 :: r) = r := rfl
      rw [eu] at l1 l2 ld nz
      cases r with
      | nil => simp at l1
      | cons c t =>
        exfalso
        simp only [List.all_cons, Bool.and_eq_true, isDig_iff] at ld
        have hc : c ≠ 48 := fun e => by
          have := nz (by rw [e]; rfl)
          cases this
        have hc' : c.toNat ≠ 48 := fun e => hc (byte_eq e (by decide))
        have hv := valGo_ge t (0 * 10 + (c.toNat - 48))
        have hp : 0 < 10 ^ t.length := Nat.pow_pos (by decide)
        have e : numVal (45 :: c :: t) = -(valGo (0 * 10 + (c.toNat - 48)) t : Int) := rfl
        rw [e] at h0
        have : 1 * 10 ^ t.length ≤ (0 * 10 + (c.toNat - 48)) * 10 ^ t.length := Nat.mul_le_mul_right _ (by omega)
        omega
    · have eu : unsign (b :: r) = b :: r := by show (if (b == 45) = true then r else b :: r) = _; rw [if_neg (by simpa using hb)]
      rw [eu] at l1 l2 ld nz
      have ev : numVal (b :: r) = (valGo 0 (b :: r) : Int) := by
        unfold numVal
        rw [if_neg (by simpa using hb), eu]
      rw [ev] at h1 ⊢
      rw [itoa_nat]
      have e1 : valGo 0 (b :: r) = valGo (b.toNat - 48) r := by
        show valGo (0 * 10 + (b.toNat - 48)) r = _
        rw [Nat.zero_mul, Nat.zero_add]
      rw [e1] at h1 ⊢
      simp only [List.all_cons, Bool.and_eq_true, isDig_iff] at ld
      obtain ⟨lb, lr⟩ := ld
      cases r with
      | nil =>
        have e2 : valGo (b.toNat - 48) [] = b.toNat - 48 := rfl
        rw [e2, Lib.decDigits_one (by omega)]
        congr 1
        exact byte_eq (by omega) (by omega)
      | cons c t =>
        have hb0 : b.toNat ≠ 48 := fun e => by
          have := nz (by rw [byte_eq e (by decide)]; rfl)
          simp at this
        have e2 : valGo (b.toNat - 48) (c :: t) = valGo ((b.toNat - 48) * 10 + (c.toNat - 48)) t := rfl
        rw [e2] at h1 ⊢
        have hv := valGo_ge t ((b.toNat - 48) * 10 + (c.toNat - 48))
        simp only [List.all_cons, Bool.and_eq_true, isDig_iff] at lr
        cases t with
        | nil =>
          have e3 : valGo ((b.toNat - 48) * 10 + (c.toNat - 48)) [] = (b.toNat - 48) * 10 + (c.toNat - 48) := rfl
          rw [e3] at h1 ⊢
          rw [Lib.decDigits_two (by omega) (by omega)]
          have g1 : b = UInt8.ofNat (48 + ((b.toNat - 48) * 10 + (c.toNat - 48)) / 10) := byte_eq (by omega) (by omega)
          have g2 : c = UInt8.ofNat (48 + ((b.toNat - 48) * 10 + (c.toNat - 48)) % 10) := byte_eq (by omega) (by omega)
          rw [← g1, ← g2]
        | cons e u =>
          exfalso
          have : 10 * 10 ^ (e :: u).length ≤ ((b.toNat - 48) * 10 + (c.toNat - 48)) * 10 ^ (e :: u).length := Nat.mul_le_mul_right _ (by omega)
          have hp : 10 ^ 1 ≤ 10 ^ (e :: u).length := Nat.pow_le_pow_right (by decide) (by simp)
          omega

theorem regOf_none {s : Str} (h : ∀ i : Nat, i < 16 → s ≠ 120 :: Lib.itoa (i : Int)) : regOf s = -1 := by
  cases s with
  | nil => rfl
  | cons b d =>
    show (if (b == 120) = true then regV (numOf d) else -1) = -1
    by_cases hb : b = 120
    · subst hb
      rw [if_pos (by decide)]
      unfold numOf
      by_cases ho : numOk d = true
      · rw [if_pos ho]
        unfold regV
        by_cases hv : 0 ≤ numVal d ∧ numVal d ≤ 15
        · exfalso
          have e := small_num ho hv.1 hv.2
          obtain ⟨i, hi⟩ : ∃ i : Nat, numVal d = (i : Int) := ⟨(numVal d).toNat, by omega⟩
          rw [hi] at e
          exact h i (by omega) (by rw [← e])
        · simp only; rw [if_neg hv]
      · rw [if_neg ho]; rfl
    · rw [if_neg (by simpa using hb)]

theorem regOf_range (s : Str) : -1 ≤ regOf s ∧ regOf s ≤ 15 := by
  cases s with
  | nil => decide
  | cons b d =>
    show -1 ≤ (if (b == 120) = true then regV (numOf d) else -1) ∧ (if (b == 120) = true then regV (numOf d) else -1) ≤ 15
    by_cases hb : (b == 120) = true
    · rw [if_pos hb]
      cases numOf d with
      | none => decide
      | some v => unfold regV; simp only; split <;> omega
    · rw [if_neg hb]; decide

theorem opOf_le (s : Str) : opOf s ≤ 48 := by
  unfold opOf
  split <;> omega

end Go.Asm

set_option linter.unusedSimpArgs false
set_option linter.unusedVariables false
set_option maxRecDepth 100000
namespace Go.Asm
open Go.Lift Go.Fn Go.Insn

theorem drop_cons {d : Str} {i : Nat} {b : UInt8} {r : Str} (h : d.drop i = b :: r) : i < d.length ∧ d.getD i 0 = b ∧ d.drop (i + 1) = r := by
  have hi : i < d.length := by
    rcases Nat.lt_or_ge i d.length with h1 | h1
    · exact h1
    · rw [List.drop_eq_nil_of_le h1] at h; cases h
  rw [List.drop_eq_getElem_cons hi] at h
  injection h with h1 h2
  refine ⟨hi, ?_, h2⟩
  rw [List.getD_eq_getElem?_getD, List.getElem?_eq_getElem hi]
  exact h1

theorem drop_nil {d : Str} {i : Nat} (h : d.drop i = []) : d.length ≤ i := by
  have := congrArg List.length h
  rw [List.length_drop] at this
  simp at this; omega

theorem u8eq {b : UInt8} {n : Nat} (hn : n < 256) : (((b.toNat : Nat) : Int) == (n : Int)) = (b == UInt8.ofNat n) := by
  by_cases e : b = UInt8.ofNat n
  · subst e
    rw [beq_self_eq_true, u8n' hn]
    exact beq_self_eq_true _
  · rw [beq_false_of_ne e]
    exact beq_false_of_ne (fun hh => e (byte_eq (by omega) hn))
where u8n' {n : Nat} (h : n < 256) : (UInt8.ofNat n).toNat = n := by simp; omega

section
variable {h : Heap}

theorem Number_loop {s d : Str} {Q : Int → Bool → Heap → Prop} {I : Str → Str → Int → Int → Heap → Prop} (H : ∀ a1 a2 a3 a4 h, zf44.b8 I a1 a2 a3 a4 Q h → I a1 a2 a3 a4 h) (hl : d.length ≤ 15) :
    ∀ (r : Str) (i v : Nat), d.drop i = r → i ≤ d.length → v < 10 ^ i → (r.all isDig = false → Q 0 false h) → (r.all isDig = true → Q (if d == s then (valGo v r : Int) else -(valGo v r : Int)) true h) → I s d (v : Int) (i : Int) h := by
  intro r
  induction r with
  | nil =>
    intro i v hd hi hv _ h2
    refine H _ _ _ _ _ ?_
    unfold zf44.b8
    have := drop_nil hd
    refine br_f (decide_eq_false (by omega)) ?_
    have h2 := h2 rfl
    have hp : (10 : Nat) ^ i ≤ 10 ^ 15 := Nat.pow_le_pow_right (by decide) (by omega)
    have ev : valGo v [] = v := rfl
    rw [ev] at h2
    cases hds : d == s with
    | true => rw [hds, if_pos rfl] at h2; exact br_f rfl h2
    | false =>
      rw [hds, if_neg (by decide)] at h2
      refine br_t rfl ?_
      rw [wrap64 (by omega) (by omega)]
      rw [show (0 : Int) - (v : Int) = -(v : Int) by omega]
      exact h2
  | cons b r ih =>
    intro i v hd hi hv h1 h2
    obtain ⟨hlt, hb, hr⟩ := drop_cons hd
    refine H _ _ _ _ _ ?_
    unfold zf44.b8
    refine br_t (decide_eq_true (by omega)) (ix_of (by omega) (by omega) ?_)
    rw [Int.toNat_natCast, hb]
    have hfalse : isDig b = false → zf44.j11 I Q h := by
      intro hf
      unfold zf44.j11
      exact h1 (by rw [List.all_cons, hf]; rfl)
    refine br_if (fun c => hfalse ?_) (fun c => ?_)
    · unfold isDig; have := of_decide_eq_true c
      rw [decide_eq_false (by omega)]; rfl
    refine ix_of (by omega) (by omega) ?_
    rw [Int.toNat_natCast, hb]
    refine br_if (fun c => hfalse ?_) (fun c2 => ?_)
    · unfold isDig; have := of_decide_eq_true c
      rw [decide_eq_false (p := b.toNat ≤ 57) (by omega), Bool.and_false]
    refine ix_of (by omega) (by omega) ?_
    rw [Int.toNat_natCast, hb]
    have c := of_decide_eq_false c
    have c2 := of_decide_eq_false c2
    have hdig : isDig b = true := isDig_iff.2 ⟨by omega, by omega⟩
    have hp : (10 : Nat) ^ i ≤ 10 ^ 15 := Nat.pow_le_pow_right (by decide) (by omega)
    have hp2 : (10 : Nat) ^ (i + 1) = 10 ^ i * 10 := Nat.pow_succ 10 i
    have eu : IntKind.u8.wrap (((b.toNat : Nat) : Int) - 48) = ((b.toNat - 48 : Nat) : Int) := by
      simp only [IntKind.wrap, IntKind.bits, IntKind.signed]; simp; omega
    rw [eu, wrap64 (x := (v : Int) * 10) (by omega) (by omega), wrap64 (x := ((b.toNat - 48 : Nat) : Int)) (by omega) (by omega), wrap64 (by omega) (by omega), wrap64 (x := (i : Int) + 1) (by omega) (by omega)]
    have := ih (i + 1) (v * 10 + (b.toNat - 48)) hr (by omega) (by omega) (fun hf => h1 (by rw [List.all_cons, hf, Bool.and_false])) (fun ht => by
      have := h2 (by rw [List.all_cons, hdig, ht]; rfl)
      exact this)
    rw [show ((v : Int) * 10 + ((b.toNat - 48 : Nat) : Int)) = ((v * 10 + (b.toNat - 48) : Nat) : Int) by omega]
    exact this

theorem Number_j4 {s : Str} {Q : Int → Bool → Heap → Prop} (hd : ((unsign s) == s) = !(s.getD 0 0 == 45)) (hq : Q ((numOf s).getD 0) (numOf s).isSome h) : zf44.j4 s (unsign s) Q h := by
  unfold zf44.j4
  unfold numOf at hq
  have hno : numOk s = false → zf44.j5 Q h := by
    intro hf
    rw [if_neg (by rw [hf]; decide)] at hq
    exact hq
  refine br_if (fun c => hno ?_) (fun c => ?_)
  · have := of_decide_eq_true c
    unfold numOk
    rw [decide_eq_false (by omega)]; rfl
  have c := of_decide_eq_false c
  refine br_if (fun c => hno ?_) (fun c2 => ?_)
  · have := of_decide_eq_true c
    unfold numOk
    rw [decide_eq_false (p := (unsign s).length ≤ 15) (by omega)]; simp
  have c2 := of_decide_eq_false c2
  refine ix_of (by omega) (by omega) ?_
  rw [show ((((unsign s).getD (Int.toNat 0) 0).toNat : Int) == 48) = ((unsign s).getD 0 0 == UInt8.ofNat 48) from u8eq (by decide)]
  have hj6 : ((unsign s).getD 0 0 == 48 && s != [48]) = false → zf44.j6 s (unsign s) Q h := by
    intro hz
    unfold zf44.j6 zf44.j8
    intro I H
    refine Number_loop (s := s) (d := unsign s) H (by omega) (unsign s) 0 0 rfl (by omega) (by decide) (fun hf => ?_) (fun ht => ?_)
    · have : numOk s = false := by unfold numOk; rw [hf]; simp
      rw [if_neg (by rw [this]; decide)] at hq
      exact hq
    · have : numOk s = true := by
        unfold numOk
        rw [ht, hz, decide_eq_true (by omega), decide_eq_true (by omega)]; rfl
      rw [if_pos this] at hq
      unfold numVal at hq
      rw [hd]
      cases hm : s.getD 0 0 == 45 with
      | true => rw [hm, if_pos rfl] at hq; exact hq
      | false => rw [hm, if_neg (by decide)] at hq; exact hq
  refine br_if (fun c3 => ?_) (fun c3 => hj6 (by rw [show (48 : UInt8) = UInt8.ofNat 48 from rfl, c3]; rfl))
  have c3' : ((unsign s).getD 0 0 == 48) = true := c3
  refine br_if (fun c => hno ?_) (fun c4 => ?_)
  · have := of_decide_eq_true c
    have hne : (s != [48]) = true := by
      rw [bne_iff_ne]
      intro e
      rw [e] at this
      simp [unsign] at this
    unfold numOk
    rw [c3', hne]; simp
  have c4 := of_decide_eq_false c4
  refine br_if (fun c => hno ?_) (fun c5 => hj6 ?_)
  · have hne : (s != [48]) = true := by
      rw [bne_iff_ne]
      intro e
      rw [e] at c
      simp [unsign] at c
    unfold numOk
    rw [c3', hne]; simp
  · have e : unsign s = s := by
      have : (unsign s == s) = true := by simpa using c5
      exact eq_of_beq this
    rw [e] at c3' c c4
    have : s = [48] := by
      cases s with
      | nil => simp at c
      | cons b r =>
        cases r with
        | nil =>
          have : b = 48 := by simpa using c3'
          rw [this]
        | cons _ _ => simp only [List.length_cons] at c4; omega
    rw [this]; simp

theorem Number_ref {s : Str} (hl : s.length ≤ 1000000) {Q : Int → Bool → Heap → Prop} (hq : Q ((numOf s).getD 0) (numOf s).isSome h) : zf44 s Q h := by
  unfold zf44
  cases s with
  | nil => exact br_f (by decide) (Number_j4 (s := []) (by decide) hq)
  | cons b d =>
    refine br_t (decide_eq_true (by simp)) (ix_of (by omega) (by simp) ?_)
    rw [show ((((b :: d).getD (Int.toNat 0) 0).toNat : Int) == 45) = (b == UInt8.ofNat 45) from u8eq (by decide)]
    refine br_if (fun c => ?_) (fun c => ?_)
    · have hu : unsign (b :: d) = d := by show (if (b == 45) = true then d else b :: d) = d; exact if_pos c
      have := Number_j4 (s := b :: d) (by
        rw [hu]
        have : ((b :: d).getD 0 0 == 45) = true := c
        rw [this]
        refine beq_false_of_ne (fun e => ?_)
        have := congrArg List.length e
        simp at this) hq
      rw [hu] at this
      refine sb_of (by omega) (by simp only [List.length_cons]; omega) ?_
      show zf44.j4 (b :: d) (d.take ((b :: d).length - 1)) Q h
      rw [List.take_of_length_le (by simp)]
      exact this
    · have hu : unsign (b :: d) = b :: d := by show (if (b == 45) = true then d else b :: d) = b :: d; rw [if_neg (fun hh => by rw [show (45 : UInt8) = UInt8.ofNat 45 from rfl, c] at hh; cases hh)]
      have := Number_j4 (s := b :: d) (by
        rw [hu, beq_self_eq_true]
        have : ((b :: d).getD 0 0 == 45) = false := c
        rw [this]; rfl) hq
      rw [hu] at this
      exact this

end

section
variable {U : Ifc} {h : Heap}

theorem Reg_ref (du : DecAt 10 U) {s : Str} {Q : Int → Heap → Prop} (hq : ∀ h', Keeps none_ h h' → Q (regOf s) h') : zf46 U s Q h := by
  unfold zf46 zf46.j2
  intro I H
  have main : ∀ k i : Nat, i + k = 16 → (∀ j : Nat, j < i → s ≠ 120 :: Lib.itoa (j : Int)) → ∀ h', Keeps none_ h h' → I s (i : Int) h' := by
    intro k
    induction k with
    | zero =>
      intro i hi hn h' k'
      refine H _ _ _ ?_
      unfold zf46.b2
      refine br_f (decide_eq_false (by omega)) ?_
      have := hq h' k'
      rw [regOf_none (fun j hj => hn j (by omega))] at this
      exact this
    | succ k ih =>
      intro i hi hn h' k'
      refine H _ _ _ ?_
      unfold zf46.b2
      refine br_t (decide_eq_true (by omega)) (Decimal_int du (by decide) (by omega) (by omega) (fun g1 k1 l1 => ⟨by simp; omega, ?_⟩))
      have kk := k'.trans k1
      by_cases e : s = 120 :: Lib.itoa (i : Int)
      · refine br_t (by rw [beq_iff_eq]; exact e) ?_
        have := hq g1 kk
        rw [e, regOf_itoa (by omega)] at this
        exact this
      · refine br_f (beq_false_of_ne e) ?_
        rw [wrap64 (x := (i : Int) + 1) (by omega) (by omega)]
        exact ih (i + 1) (by omega) (fun j hj => by
          rcases Nat.lt_or_ge j i with h1 | h1
          · exact hn j h1
          · have : j = i := by omega
            rw [this]; exact e) g1 kk
  exact main 16 0 rfl (fun j hj => by omega) h (Keeps.refl _ _)

theorem nameCh_iff {b : UInt8} : nameCh b = true ↔ (97 ≤ b.toNat ∧ b.toNat ≤ 122) ∨ (48 ≤ b.toNat ∧ b.toNat ≤ 57) ∨ b.toNat = 95 := by
  unfold nameCh isDig
  simp only [Bool.or_eq_true, Bool.and_eq_true, decide_eq_true_eq, beq_iff_eq]
  constructor
  · rintro (h | h | h)
    · exact .inl h
    · exact .inr (.inl h)
    · exact .inr (.inr (by rw [h]; rfl))
  · rintro (h | h | h)
    · exact .inl h
    · exact .inr (.inl h)
    · exact .inr (.inr (byte_eq h (by decide)))

theorem name_ref (du : DecAt 10 U) {s : Str} (hl : s.length ≤ 1000000) {Q : Bool → Heap → Prop} (hq : ∀ h', Keeps none_ h h' → Q (nameOk s) h') : zf50 U s Q h := by
  unfold zf50 zf50.j2
  intro I H
  have hno : nameOk s = false → Q false h := fun e => by have := hq h (Keeps.refl _ _); rw [e] at this; exact this
  have main : ∀ (r : Str) (i : Nat), s.drop i = r → i ≤ s.length → (r.all nameCh = s.all nameCh) → I s (i : Int) h := by
    intro r
    induction r with
    | nil =>
      intro i hd hi ha
      refine H _ _ _ ?_
      unfold zf50.b2
      have := drop_nil hd
      refine br_f (decide_eq_false (by omega)) ?_
      have ha : s.all nameCh = true := ha.symm
      refine br_if (fun c => ?_) (fun c => hno (by
        have := of_decide_eq_false c
        unfold nameOk; rw [decide_eq_false (by omega)]; rfl))
      have c := of_decide_eq_true c
      refine br_if (fun c2 => ?_) (fun c2 => hno (by
        have := of_decide_eq_false c2
        unfold nameOk; rw [decide_eq_false (p := s.length ≤ 30) (by omega)]; simp))
      have c2 := of_decide_eq_true c2
      have hreg : isDig (s.getD 0 0) = false → zf46 U s (fun r3 h => Q (decide (r3 < 0)) h) h := by
        intro hf
        refine Reg_ref du (fun h' k' => ?_)
        have := hq h' k'
        unfold nameOk at this
        rw [hf, ha, decide_eq_true (by omega), decide_eq_true (by omega)] at this
        simpa using this
      refine ix_of (by omega) (by omega) (br_if (fun c3 => hreg ?_) (fun c3 => ix_of (by omega) (by omega) (br_if (fun c4 => hreg ?_) (fun c4 => hno ?_))))
      · have := of_decide_eq_true c3
        unfold isDig; rw [decide_eq_false (by simp only [Int.toNat_zero] at this; omega)]; rfl
      · have := of_decide_eq_true c4
        unfold isDig; rw [decide_eq_false (p := _ ≤ 57) (by simp only [Int.toNat_zero] at this; omega)]; simp
      · have c3 := of_decide_eq_false c3
        have c4 := of_decide_eq_false c4
        have : isDig (s.getD 0 0) = true := isDig_iff.2 ⟨by simp only [Int.toNat_zero] at c3; omega, by simp only [Int.toNat_zero] at c4; omega⟩
        unfold nameOk; rw [this]; simp
    | cons b r ih =>
      intro i hd hi ha
      obtain ⟨hlt, hb, hr⟩ := drop_cons hd
      refine H _ _ _ ?_
      unfold zf50.b2
      refine br_t (decide_eq_true (by omega)) (ix_of (by omega) (by omega) ?_)
      rw [Int.toNat_natCast, hb]
      have hj6 : nameCh b = false → zf50.j6 U I Q h := by
        intro hf
        unfold zf50.j6
        refine hno ?_
        unfold nameOk
        rw [← ha, List.all_cons, hf]; simp
      have hj3 : nameCh b = true → zf50.j3 U I s (i : Int) Q h := by
        intro ht
        unfold zf50.j3
        rw [wrap64 (x := (i : Int) + 1) (by omega) (by omega)]
        exact ih (i + 1) hr (by omega) (by rw [← ha, List.all_cons, ht]; rfl)
      have low : (b.toNat < 97 ∨ 122 < b.toNat) → br (decide (((b.toNat : Nat) : Int) < 48)) (br (((b.toNat : Nat) : Int) != 95) (zf50.j6 U I Q h) (zf50.j3 U I s (i : Int) Q h)) (br (decide (((b.toNat : Nat) : Int) > 57)) (br (((b.toNat : Nat) : Int) != 95) (zf50.j6 U I Q h) (zf50.j3 U I s (i : Int) Q h)) (zf50.j3 U I s (i : Int) Q h)) := by
        intro hn
        have und : (b.toNat < 48 ∨ 57 < b.toNat) → br (((b.toNat : Nat) : Int) != 95) (zf50.j6 U I Q h) (zf50.j3 U I s (i : Int) Q h) := by
          intro hu
          by_cases e : b.toNat = 95
          · refine br_f (by rw [e]; rfl) (hj3 (nameCh_iff.2 (.inr (.inr e))))
          · refine br_t (by rw [bne_iff_ne]; omega) (hj6 ?_)
            cases hc : nameCh b with
            | false => rfl
            | true => have := nameCh_iff.1 hc; omega
        refine br_if (fun c => und (.inl (by have := of_decide_eq_true c; omega))) (fun c => br_if (fun c2 => und (.inr (by have := of_decide_eq_true c2; omega))) (fun c2 => hj3 (nameCh_iff.2 (.inr (.inl ⟨by have := of_decide_eq_false c; omega, by have := of_decide_eq_false c2; omega⟩)))))
      refine br_if (fun c => low (.inl (by have := of_decide_eq_true c; omega))) (fun c => br_if (fun c2 => low (.inr (by have := of_decide_eq_true c2; omega))) (fun c2 => hj3 (nameCh_iff.2 (.inl ⟨by have := of_decide_eq_false c; omega, by have := of_decide_eq_false c2; omega⟩))))
  exact main s 0 rfl (by omega) rfl

theorem op_ref {s : Str} {Q : Int → Heap → Prop} (hq : ∀ h', Keeps none_ h h' → Q (opOf s : Int) h') : zf51 s Q h := by
  unfold zf51
  refine Names_ref (fun nb g hb ho k => ?_)
  unfold zf51.j3
  intro I H
  have hq := hq g k
  have main : ∀ (r : List Str) (i : Nat), namesL.drop i = r → i ≤ 48 → (s ∉ namesL.take i) → I s ⟨some ⟨nb, 0⟩, 48, 48⟩ (i : Int) g := by
    intro r
    induction r with
    | nil =>
      intro i hd hi hn
      refine H _ _ _ _ ?_
      unfold zf51.b3
      have h48 : i = 48 := by
        have := congrArg List.length hd
        rw [List.length_drop, names_len] at this
        simp at this; omega
      subst h48
      refine br_f (decide_eq_false (by show ¬ (48 : Int) < 48; omega)) ?_
      rw [List.take_of_length_le (by rw [names_len]; omega)] at hn
      have : opOf s = 0 := by
        unfold opOf
        rw [List.idxOf_eq_length hn, names_len, if_neg (by omega)]
      rw [this] at hq
      exact hq
    | cons w r ih =>
      intro i hd hi hn
      have hlt : i < namesL.length := by
        rcases Nat.lt_or_ge i namesL.length with h1 | h1
        · exact h1
        · rw [List.drop_eq_nil_of_le h1] at hd; cases hd
      have hd2 := hd
      rw [List.drop_eq_getElem_cons hlt] at hd2
      injection hd2 with hw hr
      have h48 : i < 48 := by rw [names_len] at hlt; exact hlt
      refine H _ _ _ _ ?_
      unfold zf51.b3
      refine br_t (decide_eq_true (by show (i : Int) < 48; omega)) (ix_of (by omega) (by show (i : Int) < 48; omega) ?_)
      rw [der_some, Int.toNat_natCast]
      have hg : g.get nb (0 + i * 1) = some (.str w) := by
        rw [get_cells ho, Nat.zero_add, Nat.mul_one, List.getElem?_map, List.getElem?_eq_getElem hlt, hw]; rfl
      refine rdStr_of hg ?_
      by_cases e : w = s
      · refine br_t (by rw [beq_iff_eq]; exact e) ?_
        rw [wrap64 (x := (i : Int) + 1) (by omega) (by omega)]
        have hidx : namesL.idxOf s = i := by
          have h1 : namesL = namesL.take i ++ (w :: r) := by rw [← hd, List.take_append_drop]
          rw [h1, List.idxOf_append, if_neg hn, e, List.idxOf_cons_self, List.length_take, names_len]
          omega
        have : opOf s = i + 1 := by unfold opOf; rw [hidx, if_pos h48]
        rw [this] at hq
        exact hq
      · refine br_f (beq_false_of_ne e) ?_
        rw [wrap64 (x := (i : Int) + 1) (by omega) (by omega)]
        refine ih (i + 1) hr (by omega) ?_
        rw [List.take_add_one, List.getElem?_eq_getElem hlt, hw]
        intro hm
        rcases List.mem_append.1 hm with hm | hm
        · exact hn hm
        · simp at hm; exact e hm.symm
  exact main namesL 0 rfl (by omega) (by simp)

end
end Go.Asm

set_option linter.unusedSimpArgs false
set_option linter.unusedVariables false
set_option maxRecDepth 100000
namespace Go.Asm
open Go.Lift Go.Fn Go.Insn

theorem wordsGo_end (w : Str) : wordsGo w [] = if w.isEmpty then [] else [w] := rfl
theorem wordsGo_cons (w : Str) (b : UInt8) (s : Str) : wordsGo w (b :: s) = if b == 35 then (if w.isEmpty then [] else [w]) else if isSep b then (if w.isEmpty then wordsGo [] s else w :: wordsGo [] s) else wordsGo (w ++ [b]) s := rfl

section
variable {h : Heap}

theorem cut_ref {s : Str} (hl : s.length ≤ 1000000) {Q : Sl → Heap → Prop} (hq : ∀ g sl, Words g sl (wordsGo [] s) → Keeps none_ h g → Q sl g) : zf47 s Q h := by
  unfold zf47 zf47.j4
  intro I H
  have main : ∀ (r : Str) (i : Nat) (acc : List Str) (w : Str) (sl : Sl) (g : Heap), s.drop i = r → i ≤ s.length → acc ++ wordsGo w r = wordsGo [] s → acc.length + w.length ≤ i → Row h g sl 1 (acc.map V.str) → Keeps none_ h g → I s sl w (i : Int) g := by
    intro r
    induction r with
    | nil =>
      intro i acc w sl g hd hi he hal R k
      have hi2 := drop_nil hd
      refine H _ _ _ _ _ ?_
      unfold zf47.b4
      refine br_t (decide_eq_true (by omega)) (br_t (by rw [beq_iff_eq]; omega) ?_)
      unfold zf47.j7
      refine br_t rfl ?_
      unfold zf47.j8 zf47.j10
      rw [wordsGo_end] at he
      cases w with
      | nil =>
        refine br_f rfl (br_t rfl ?_)
        have he : acc ++ [] = wordsGo [] s := he
        rw [List.append_nil] at he
        rw [he] at R
        exact hq g sl R.words k
      | cons b t =>
        refine br_t rfl ?_
        rw [if_neg (by simp)] at he
        have hlen := R.len
        simp only [List.length_map, Nat.mul_one] at hlen
        refine R.app1 k rfl rfl (by omega) (by omega) (fun sl' g' R' hl' k' => br_t rfl ?_)
        rw [show acc.map V.str ++ [V.str (b :: t)] = (acc ++ [b :: t]).map V.str by simp, he] at R'
        exact hq g' sl' R'.words k'
    | cons b r ih =>
      intro i acc w sl g hd hi he hal R k
      obtain ⟨hlt, hb, hr⟩ := drop_cons hd
      refine H _ _ _ _ _ ?_
      unfold zf47.b4
      refine br_t (decide_eq_true (by omega)) (br_f (beq_false_of_ne (by omega)) (ix_of (by omega) (by omega) ?_))
      rw [Int.toNat_natCast, hb, show (((b.toNat : Nat) : Int) == 35) = (b == 35) from u8eq (b := b) (n := 35) (by decide)]
      rw [wordsGo_cons] at he
      have ew : IntKind.i64.wrap ((i : Int) + 1) = ((i + 1 : Nat) : Int) := by rw [wrap64] <;> omega
      have hlen := R.len
      simp only [List.length_map, Nat.mul_one] at hlen
      unfold zf47.j7
      -- behind a word
      have j8 : ∀ (e : Bool), (e = true → acc ++ (if w.isEmpty then [] else [w]) = wordsGo [] s) → (e = false → acc ++ (if w.isEmpty then wordsGo [] r else w :: wordsGo [] r) = wordsGo [] s) → zf47.j8 I s sl w (i : Int) e Q g := by
        intro e h1 h2
        have j10 : ∀ (acc' : List Str) (sl' : Sl) (g' : Heap), (e = true → acc' = wordsGo [] s) → (e = false → acc' ++ wordsGo [] r = wordsGo [] s) → acc'.length ≤ i + 1 → Row h g' sl' 1 (acc'.map V.str) → Keeps none_ h g' → zf47.j10 I s sl' (i : Int) e Q g' := by
          intro acc' sl' g' h1 h2 hal' R' k'
          unfold zf47.j10 zf47.j5
          refine br_if (fun c => ?_) (fun c => ?_)
          · rw [h1 c] at R'
            exact hq g' sl' R'.words k'
          · rw [ew]
            exact ih (i + 1) acc' [] sl' g' hr (by omega) (h2 c) (by simpa using hal') R' k'
        unfold zf47.j8
        cases w with
        | nil =>
          refine br_f rfl (j10 acc sl g (fun c => by have := h1 c; simpa using this) (fun c => by have := h2 c; simpa using this) (by simp at hal; omega) R k)
        | cons c t =>
          refine br_t rfl (R.app1 k rfl rfl (by omega) (by omega) (fun sl' g' R' hl' k' => ?_))
          rw [show acc.map V.str ++ [V.str (c :: t)] = (acc ++ [c :: t]).map V.str by simp] at R'
          refine j10 (acc ++ [c :: t]) sl' g' (fun c => by have := h1 c; simpa using this) (fun c => by have := h2 c; simpa using this) (by simp at hal ⊢; omega) R' k'
      cases hh : b == 35 with
      | true =>
        rw [hh, if_pos rfl] at he
        exact br_t rfl (j8 true (fun _ => he) (fun c => by cases c))
      | false =>
        rw [hh, if_neg (by decide)] at he
        refine br_f rfl ?_
        have sep : isSep b = true → zf47.j8 I s sl w (i : Int) false Q g := fun hs => by
          rw [hs, if_pos rfl] at he
          exact j8 false (fun c => by cases c) (fun _ => he)
        have hix : ∀ {κ : Nat → Prop}, κ i → ix (i : Int) s.length κ := fun hk => ix_of (by omega) (by omega) (by rw [Int.toNat_natCast]; exact hk)
        refine hix ?_
        rw [hb, show (((b.toNat : Nat) : Int) == 32) = (b == 32) from u8eq (b := b) (n := 32) (by decide)]
        refine br_if (fun c => sep (by unfold isSep; rw [c]; rfl)) (fun c1 => hix ?_)
        rw [hb, show (((b.toNat : Nat) : Int) == 44) = (b == 44) from u8eq (b := b) (n := 44) (by decide)]
        refine br_if (fun c => sep (by unfold isSep; rw [c, c1]; rfl)) (fun c2 => hix ?_)
        rw [hb, show (((b.toNat : Nat) : Int) == 9) = (b == 9) from u8eq (b := b) (n := 9) (by decide)]
        refine br_if (fun c => sep (by unfold isSep; rw [c, c1, c2]; rfl)) (fun c3 => hix ?_)
        rw [hb, show (((b.toNat : Nat) : Int) == 40) = (b == 40) from u8eq (b := b) (n := 40) (by decide)]
        refine br_if (fun c => sep (by unfold isSep; rw [c, c1, c2, c3]; rfl)) (fun c4 => hix ?_)
        rw [hb, show (((b.toNat : Nat) : Int) == 41) = (b == 41) from u8eq (b := b) (n := 41) (by decide)]
        refine br_if (fun c => sep (by unfold isSep; rw [c, c1, c2, c3, c4]; rfl)) (fun c5 => ?_)
        have hsep : isSep b = false := by unfold isSep; rw [c1, c2, c3, c4, c5]; rfl
        rw [hsep, if_neg (by decide)] at he
        unfold zf47.j13 zf47.j5
        rw [ew]
        refine sb_of (by omega) (by omega) (sb_of (by omega) (by omega) ?_)
        rw [Int.toNat_natCast, Int.toNat_natCast, hd, show i + 1 - i = 1 by omega]
        refine ⟨by simp; omega, ?_⟩
        exact ih (i + 1) acc (w ++ [b]) sl g hr (by omega) he (by simp; omega) R k
  exact main s 0 [] [] ⟨none, 0, 0⟩ h rfl (by omega) rfl (by simp) Row.nil (Keeps.refl _ _)

end
end Go.Asm

set_option linter.unusedSimpArgs false
set_option linter.unusedVariables false
set_option maxRecDepth 100000
namespace Go.Asm
open Go.Lift Go.Fn Go.Insn

abbrev LQ := Int → Str → Int → Bool → Int → Int → Int → Int → Int → Str → Int → Bool → Heap → Prop

def FailQ (Q : LQ) (g : Heap) : Prop := ∀ x1 x2 x3 x4 x5 x6 x7 x8 x9 x10 x11, Q x1 x2 x3 x4 x5 x6 x7 x8 x9 x10 x11 false g

/-- A line's cells. -/
def lineL (n : Int) (m : Str) (k : Int) (is : Bool) (op rd rs1 rs2 imm : Int) (want : Str) (v : Int) : List V := [.int .i64 n, .str m, .int .i64 k, .bool is, .int .i64 op, .int .i64 rd, .int .i64 rs1, .int .i64 rs2, .int .i64 imm, .str want, .int .u32 v]

section
variable {U : Ifc} {h0 h g : Heap} {W : Nat → Prop} {L : List (Nat × HO)} {i : Nat}

/-- A line's cells are read, one by one. -/
theorem rd11 {b o : Nat} {n k op rd rs1 rs2 imm v : Int} {m want : Str} {is mk : Bool} {l : List V} {p0 p1 p2 p3 p4 p5 p6 p7 p8 p9 p10 : Ptr} (hl : (l.drop o).take 11 = lineL n m k is op rd rs1 rs2 imm want v)
    (e0 : p0 = ⟨b, o⟩) (e1 : p1 = ⟨b, o + 1⟩) (e2 : p2 = ⟨b, o + 2⟩) (e3 : p3 = ⟨b, o + 3⟩) (e4 : p4 = ⟨b, o + 4⟩) (e5 : p5 = ⟨b, o + 5⟩) (e6 : p6 = ⟨b, o + 6⟩) (e7 : p7 = ⟨b, o + 7⟩) (e8 : p8 = ⟨b, o + 8⟩) (e9 : p9 = ⟨b, o + 9⟩) (e10 : p10 = ⟨b, o + 10⟩)
    {κ : Int → Str → Int → Bool → Int → Int → Int → Int → Int → Str → Int → Prop} (S : g.obj b = some (.cells l mk)) (hk : κ n m k is op rd rs1 rs2 imm want v) :
    rdI .i64 p0 (fun x1 => rdStr p1 (fun x2 => rdI .i64 p2 (fun x3 => rdB p3 (fun x4 => rdI .i64 p4 (fun x5 => rdI .i64 p5 (fun x6 => rdI .i64 p6 (fun x7 => rdI .i64 p7 (fun x8 => rdI .i64 p8 (fun x9 => rdStr p9 (fun x10 => rdI .u32 p10 (fun x11 => κ x1 x2 x3 x4 x5 x6 x7 x8 x9 x10 x11) g) g) g) g) g) g) g) g) g) g) g := by
  subst e0 e1 e2 e3 e4 e5 e6 e7 e8 e9 e10
  have hg : ∀ j : Nat, j < 11 → l[o + j]? = (lineL n m k is op rd rs1 rs2 imm want v)[j]? := by
    intro j hj
    rw [← hl, List.getElem?_take_of_lt hj, List.getElem?_drop]
  refine loc_I S ((hg 0 (by decide)).trans rfl) (loc_Str S ((hg 1 (by decide)).trans rfl) (loc_I S ((hg 2 (by decide)).trans rfl) (loc_B S ((hg 3 (by decide)).trans rfl) (loc_I S ((hg 4 (by decide)).trans rfl) (loc_I S ((hg 5 (by decide)).trans rfl) (loc_I S ((hg 6 (by decide)).trans rfl) (loc_I S ((hg 7 (by decide)).trans rfl) (loc_I S ((hg 8 (by decide)).trans rfl) (loc_Str S ((hg 9 (by decide)).trans rfl) (loc_I S ((hg 10 (by decide)).trans rfl) hk))))))))))

theorem opnds_len : ∀ {cs : List UInt8} {ws : List Str} {x : Ins} {want : Str}, cs.length ≠ ws.length → opnds cs ws x want = none
  | [], [], _, _, h => absurd rfl h
  | [], _ :: _, _, _, _ => rfl
  | _ :: _, [], _, _, _ => rfl
  | c :: cs, w :: ws, x, want, h => by
    unfold opnds
    cases opnd x want c w with
    | none => rfl
    | some p => exact opnds_len (by simpa using h)

/-- What operands come to. -/
def opQ (Q : LQ) (g : Heap) : Option (Ins × Str) → Prop
  | some (x, want) => Q 0 [] 1 true x.op x.rd x.rs1 x.rs2 x.imm want 0 true g
  | none => FailQ Q g

theorem copy_fail {b1 b2 : Nat} {l1 : List V} (hl1 : l1.length = 11) {n k op rd rs1 rs2 imm v : Int} {m want : Str} {is : Bool} (S : St h none_ [(b2, .cells (lineL n m k is op rd rs1 rs2 imm want v) false), (b1, .cells l1 false)] g) {κ : LQ} {e : Bool}
    (hk : ∀ g', Keeps none_ h g' → κ n m k is op rd rs1 rs2 imm want v e g') :
    rdI .i64 ((⟨b2, 0⟩ : Ptr).add 0) (fun x1 => rdStr ((⟨b2, 0⟩ : Ptr).add 1) (fun x2 => rdI .i64 ((⟨b2, 0⟩ : Ptr).add 2) (fun x3 => rdB ((⟨b2, 0⟩ : Ptr).add 3) (fun x4 => rdI .i64 ((⟨b2, 0⟩ : Ptr).add 4) (fun x5 => rdI .i64 ((⟨b2, 0⟩ : Ptr).add 5) (fun x6 => rdI .i64 ((⟨b2, 0⟩ : Ptr).add 6) (fun x7 => rdI .i64 ((⟨b2, 0⟩ : Ptr).add 7) (fun x8 => rdI .i64 ((⟨b2, 0⟩ : Ptr).add 8) (fun x9 => rdStr ((⟨b2, 0⟩ : Ptr).add 9) (fun x10 => rdI .u32 ((⟨b2, 0⟩ : Ptr).add 10) (fun x11 =>
      wrL [.int .i64 x1, .str x2, .int .i64 x3, .bool x4, .int .i64 x5, .int .i64 x6, .int .i64 x7, .int .i64 x8, .int .i64 x9, .str x10, .int .u32 x11] (⟨b1, 0⟩ : Ptr) 0 (fun h => rdI .i64 ((⟨b1, 0⟩ : Ptr).add 0) (fun x12 => rdStr ((⟨b1, 0⟩ : Ptr).add 1) (fun x13 => rdI .i64 ((⟨b1, 0⟩ : Ptr).add 2) (fun x14 => rdB ((⟨b1, 0⟩ : Ptr).add 3) (fun x15 => rdI .i64 ((⟨b1, 0⟩ : Ptr).add 4) (fun x16 => rdI .i64 ((⟨b1, 0⟩ : Ptr).add 5) (fun x17 => rdI .i64 ((⟨b1, 0⟩ : Ptr).add 6) (fun x18 => rdI .i64 ((⟨b1, 0⟩ : Ptr).add 7) (fun x19 => rdI .i64 ((⟨b1, 0⟩ : Ptr).add 8) (fun x20 => rdStr ((⟨b1, 0⟩ : Ptr).add 9) (fun x21 => rdI .u32 ((⟨b1, 0⟩ : Ptr).add 10) (fun x22 => κ x12 x13 x14 x15 x16 x17 x18 x19 x20 x21 x22 e h) h) h) h) h) h) h) h) h) h) h) h) g) g) g) g) g) g) g) g) g) g) g) g := by
  refine rd11 (o := 0) rfl rfl rfl rfl rfl rfl rfl rfl rfl rfl rfl rfl (S.obj i0) (S.wrL i1 (by rw [hl1]; exact Nat.le_refl _) (fun g' S' => ?_))
  refine rd11 (o := 0) (l := splice l1 0 (lineL n m k is op rd rs1 rs2 imm want v)) (n := n) (m := m) (k := k) (is := is) (op := op) (rd := rd) (rs1 := rs1) (rs2 := rs2) (imm := imm) (want := want) (v := v) ?_ rfl rfl rfl rfl rfl rfl rfl rfl rfl rfl rfl (S'.obj i1) (hk g' S'.keeps)
  unfold splice
  rw [List.drop_zero, List.take_zero, List.nil_append]
  exact List.take_left' rfl

/-- A line is written, and read. -/
theorem put_line {b1 : Nat} {l1 : List V} (hl1 : l1.length = 11) {n k op rd rs1 rs2 imm v : Int} {m want : Str} {is : Bool} (S : St h none_ [(b1, .cells l1 false)] g) {κ : Int → Str → Int → Bool → Int → Int → Int → Int → Int → Str → Int → Heap → Prop}
    (hk : ∀ g', Keeps none_ h g' → κ n m k is op rd rs1 rs2 imm want v g') :
    wrL [.int .i64 n, .str m, .int .i64 k, .bool is, .int .i64 op, .int .i64 rd, .int .i64 rs1, .int .i64 rs2, .int .i64 imm, .str want, .int .u32 v] (⟨b1, 0⟩ : Ptr) 0 (fun h => rdI .i64 ((⟨b1, 0⟩ : Ptr).add 0) (fun x12 => rdStr ((⟨b1, 0⟩ : Ptr).add 1) (fun x13 => rdI .i64 ((⟨b1, 0⟩ : Ptr).add 2) (fun x14 => rdB ((⟨b1, 0⟩ : Ptr).add 3) (fun x15 => rdI .i64 ((⟨b1, 0⟩ : Ptr).add 4) (fun x16 => rdI .i64 ((⟨b1, 0⟩ : Ptr).add 5) (fun x17 => rdI .i64 ((⟨b1, 0⟩ : Ptr).add 6) (fun x18 => rdI .i64 ((⟨b1, 0⟩ : Ptr).add 7) (fun x19 => rdI .i64 ((⟨b1, 0⟩ : Ptr).add 8) (fun x20 => rdStr ((⟨b1, 0⟩ : Ptr).add 9) (fun x21 => rdI .u32 ((⟨b1, 0⟩ : Ptr).add 10) (fun x22 => κ x12 x13 x14 x15 x16 x17 x18 x19 x20 x21 x22 h) h) h) h) h) h) h) h) h) h) h) h) g := by
  refine S.wrL i0 (by rw [hl1]; exact Nat.le_refl _) (fun g' S' => ?_)
  refine rd11 (o := 0) (l := splice l1 0 (lineL n m k is op rd rs1 rs2 imm want v)) (n := n) (m := m) (k := k) (is := is) (op := op) (rd := rd) (rs1 := rs1) (rs2 := rs2) (imm := imm) (want := want) (v := v) ?_ rfl rfl rfl rfl rfl rfl rfl rfl rfl rfl rfl (S'.obj i0) (hk g' S'.keeps)
  unfold splice
  rw [List.drop_zero, List.take_zero, List.nil_append]
  exact List.take_left' rfl

theorem ord_chars {n : Nat} (hn : n < 64) : ∀ c ∈ ordOf (n : Int), c = 100 ∨ c = 97 ∨ c = 98 ∨ c = 105 ∨ c = 109 := by
  have key : ∀ n : Fin 64, ((ordOf ((n.val : Nat) : Int)).all fun c => decide (c = 100 ∨ c = 97 ∨ c = 98 ∨ c = 105 ∨ c = 109)) = true := by decide +kernel
  intro c hc
  have := List.all_eq_true.1 (key ⟨n, hn⟩) c hc
  simpa using this

end
end Go.Asm

set_option linter.unusedSimpArgs false
set_option linter.unusedVariables false
set_option maxRecDepth 100000
namespace Go.Asm
open Go.Lift Go.Fn Go.Insn

theorem opnds_cons (c : UInt8) (cs : List UInt8) (w : Str) (ws : List Str) (x : Ins) (want : Str) : opnds (c :: cs) (w :: ws) x want = match opnd x want c w with | some (x', want') => opnds cs ws x' want' | none => none := rfl

theorem opnd_d (x : Ins) (want w : Str) : opnd x want 100 w = if regOf w < 0 then none else some (⟨x.op, regOf w, x.rs1, x.rs2, x.imm⟩, want) := rfl
theorem opnd_a (x : Ins) (want w : Str) : opnd x want 97 w = if regOf w < 0 then none else some (⟨x.op, x.rd, regOf w, x.rs2, x.imm⟩, want) := rfl
theorem opnd_b (x : Ins) (want w : Str) : opnd x want 98 w = if regOf w < 0 then none else some (⟨x.op, x.rd, x.rs1, regOf w, x.imm⟩, want) := rfl
theorem opnd_i (x : Ins) (want w : Str) : opnd x want 105 w = match numOf w with | some v => some (⟨x.op, x.rd, x.rs1, x.rs2, v⟩, want) | none => none := rfl
theorem opnd_m (x : Ins) (want w : Str) : opnd x want 109 w = match numOf w with | some v => some (⟨x.op, x.rd, x.rs1, x.rs2, v⟩, want) | none => if nameOk w = true then some (⟨x.op, x.rd, x.rs1, x.rs2, 0⟩, w) else none := by
  show (match numOf w with | some v => some _ | none => if (109 : UInt8) = 109 ∧ nameOk w = true then _ else _) = _
  cases numOf w with
  | some v => rfl
  | none => simp

section
variable {U : Ifc} {h g : Heap}

theorem operands_loop (du : DecAt 10 U) {n : Nat} (hn : n < 64) {ws : List Str} {sl : Sl} (W : Words h sl ws) (hws : ∀ w ∈ ws, w.length ≤ 1000000) {Q : LQ} {b1 b2 : Nat} {l1 : List V} (hl1 : l1.length = 11) {I : Sl → Ptr → Ptr → Str → Int → Heap → Prop}
    (H : ∀ a1 a2 a3 a4 a5 h, zf52.b6 U I a1 a2 a3 a4 a5 Q h → I a1 a2 a3 a4 a5 h) (hol : (ordOf (n : Int)).length = ws.length) :
    ∀ (cs : List UInt8) (ws' : List Str) (i : Nat) (x : Ins) (want : Str) (g : Heap), (ordOf (n : Int)).drop i = cs → ws.drop i = ws' → i ≤ ws.length → St h none_ [(b2, .cells (lineL 0 [] 1 true x.op x.rd x.rs1 x.rs2 x.imm want 0) false), (b1, .cells l1 false)] g → (∀ g', Keeps none_ h g' → opQ Q g' (opnds cs ws' x want)) → I sl ⟨b1, 0⟩ ⟨b2, 0⟩ (ordOf (n : Int)) (i : Int) g := by
  have hol3 := ord_len (n := n) hn
  intro cs
  induction cs with
  | nil =>
    intro ws' i x want g hd hw hi S hq
    refine H _ _ _ _ _ _ ?_
    unfold zf52.b6
    have := drop_nil hd
    have hwn : ws' = [] := by rw [← hw]; exact List.drop_eq_nil_of_le (by omega)
    subst hwn
    refine br_f (decide_eq_false (by rw [W.len]; omega)) ?_
    exact copy_fail (κ := Q) hl1 S (fun g' k' => hq g' k')
  | cons c cs ih =>
    intro ws' i x want g hd hw hi S hq
    obtain ⟨hlt, hc, hr⟩ := drop_cons hd
    have hlt2 : i < ws.length := by omega
    obtain ⟨w, ws2, rfl⟩ : ∃ w ws2, ws' = w :: ws2 := by
      rw [List.drop_eq_getElem_cons hlt2] at hw
      exact ⟨_, _, hw.symm⟩
    have hwi : ws[i]? = some w := by
      rw [List.drop_eq_getElem_cons hlt2] at hw
      injection hw with h1 h2
      rw [List.getElem?_eq_getElem hlt2, h1]
    have hw2 : ws.drop (i + 1) = ws2 := by
      rw [List.drop_eq_getElem_cons hlt2] at hw
      injection hw with h1 h2
    have hwl := hws w (List.mem_of_getElem? hwi)
    refine H _ _ _ _ _ _ ?_
    unfold zf52.b6
    refine br_t (decide_eq_true (by rw [W.len]; omega)) ((W.keep S.keeps).ixrd rfl hwi (Number_ref hwl ((W.keep S.keeps).ixrd rfl hwi (Reg_ref du (fun g1 k1 => ix_of (by omega) (by omega) ?_)))))
    rw [Int.toNat_natCast, hc]
    have S1 := S.keep k1
    rw [opnds_cons] at hq
    -- what follows a failure, and a field that was read
    have bad : ∀ (x' : Ins) (want' : Str) (g' : Heap), opnd x want c w = none → St h none_ [(b2, .cells (lineL 0 [] 1 true x'.op x'.rd x'.rs1 x'.rs2 x'.imm want' 0) false), (b1, .cells l1 false)] g' → zf52.j27 U I sl ⟨b1, 0⟩ ⟨b2, 0⟩ (ordOf (n : Int)) (i : Int) false Q g' := by
      intro x' want' g' ho S'
      rw [ho] at hq
      unfold zf52.j27
      refine br_t rfl (copy_fail (κ := Q) hl1 S' (fun g2 k2 => hq g2 k2 _ _ _ _ _ _ _ _ _ _ _))
    have good : ∀ (x' : Ins) (want' : Str) (g' : Heap), opnd x want c w = some (x', want') → St h none_ [(b2, .cells (lineL 0 [] 1 true x'.op x'.rd x'.rs1 x'.rs2 x'.imm want' 0) false), (b1, .cells l1 false)] g' → zf52.j27 U I sl ⟨b1, 0⟩ ⟨b2, 0⟩ (ordOf (n : Int)) (i : Int) true Q g' := by
      intro x' want' g' ho S'
      rw [ho] at hq
      unfold zf52.j27 zf52.j7
      rw [wrap64 (x := (i : Int) + 1) (by omega) (by omega)]
      exact br_f rfl (ih ws2 (i + 1) x' want' g' hr hw2 (by omega) S' hq)
    clear hq
    have regs : ∀ (x' : Ins) (g' : Heap), (opnd x want c w = if regOf w < 0 then none else some (x', want)) → St h none_ [(b2, .cells (lineL 0 [] 1 true x'.op x'.rd x'.rs1 x'.rs2 x'.imm want 0) false), (b1, .cells l1 false)] g' → zf52.j27 U I sl ⟨b1, 0⟩ ⟨b2, 0⟩ (ordOf (n : Int)) (i : Int) (decide (regOf w ≥ 0)) Q g' := by
      intro x' g' ho S'
      by_cases hr : regOf w < 0
      · rw [if_pos hr] at ho
        rw [decide_eq_false (by omega)]
        exact bad x' want g' ho S'
      · rw [if_neg hr] at ho
        rw [decide_eq_true (by omega)]
        exact good x' want g' ho S'
    rcases ord_chars hn c (by rw [← hc, List.getD_eq_getElem?_getD, List.getElem?_eq_getElem hlt]; exact List.getElem_mem hlt) with rfl | rfl | rfl | rfl | rfl
    · refine br_t rfl ?_
      unfold zf52.j12
      exact S1.wr i0 rfl (fun g2 S2 => regs ⟨x.op, regOf w, x.rs1, x.rs2, x.imm⟩ g2 (opnd_d x want w) S2)
    · refine br_f rfl ?_
      unfold zf52.j14
      exact br_t rfl (S1.wr i0 rfl (fun g2 S2 => regs ⟨x.op, x.rd, regOf w, x.rs2, x.imm⟩ g2 (opnd_a x want w) S2))
    · refine br_f rfl ?_
      unfold zf52.j14
      exact br_f rfl (br_t rfl (S1.wr i0 rfl (fun g2 S2 => regs ⟨x.op, x.rd, x.rs1, regOf w, x.imm⟩ g2 (opnd_b x want w) S2)))
    · refine br_f rfl ?_
      unfold zf52.j14
      refine br_f rfl (br_f rfl (br_t rfl (S1.wr i0 rfl (fun g2 S2 => ?_))))
      have ho := opnd_i x want w
      cases hnum : numOf w with
      | some v =>
        rw [hnum] at ho S2
        exact good ⟨x.op, x.rd, x.rs1, x.rs2, v⟩ want g2 ho S2
      | none =>
        rw [hnum] at ho S2
        exact bad ⟨x.op, x.rd, x.rs1, x.rs2, 0⟩ want g2 ho S2
    · refine br_f rfl ?_
      unfold zf52.j14
      refine br_f rfl (br_f rfl (br_f rfl (br_t rfl (S1.wr i0 rfl (fun g2 S2 => ?_)))))
      have ho := opnd_m x want w
      cases hnum : numOf w with
      | some v =>
        rw [hnum] at ho S2
        exact br_f rfl (good ⟨x.op, x.rd, x.rs1, x.rs2, v⟩ want g2 ho S2)
      | none =>
        rw [hnum] at ho S2
        refine br_t rfl ((W.keep S2.keeps).ixrd rfl hwi (S2.wr i0 rfl (fun g3 S3 => (W.keep S3.keeps).ixrd rfl hwi (name_ref du hwl (fun g4 k4 => ?_)))))
        have S4 := S3.keep k4
        cases hnm : nameOk w with
        | true =>
          rw [hnm] at ho
          exact good ⟨x.op, x.rd, x.rs1, x.rs2, 0⟩ w g4 ho S4
        | false =>
          rw [hnm] at ho
          exact bad ⟨x.op, x.rd, x.rs1, x.rs2, 0⟩ w g4 ho S4

theorem operands_ref (du : DecAt 10 U) {n : Nat} (hn : n < 64) {ws : List Str} {sl : Sl} (W : Words h sl ws) (hws : ∀ w ∈ ws, w.length ≤ 1000000) {Q : LQ} (hq : ∀ g', Keeps none_ h g' → opQ Q g' (opnds (ordOf (n : Int)) ws ⟨n, 0, 0, 0, 0⟩ [])) : zf52 U (n : Int) sl Q h := by
  unfold zf52
  refine (St.start h none_).al (fun b1 g1 S1 => S1.al (fun b2 g2 S2 => S2.wrL i0 (Nat.le_refl 11) (fun g3 S3 => Order_ref hn ?_)))
  have S4 : St h none_ [(b2, .cells (lineL 0 [] 1 true (n : Int) 0 0 0 0 [] 0) false), (b1, .cells zf80 false)] g3 := S3
  by_cases hl : (ordOf (n : Int)).length = ws.length
  · refine br_f (by rw [bne_eq_false_iff_eq, W.len]; omega) ?_
    unfold zf52.j6
    intro I H
    exact operands_loop du hn W hws (l1 := zf80) rfl H hl (ordOf (n : Int)) ws 0 ⟨n, 0, 0, 0, 0⟩ [] g3 rfl rfl (by omega) S4 hq
  · refine br_t (by rw [bne_iff_ne, W.len]; omega) ?_
    rw [opnds_len hl] at hq
    exact copy_fail (κ := Q) (l1 := zf80) rfl S4 (fun g' k' => hq g' k' _ _ _ _ _ _ _ _ _ _ _)

end
end Go.Asm

set_option linter.unusedSimpArgs false
set_option linter.unusedVariables false
set_option maxRecDepth 100000
namespace Go.Asm
open Go.Lift Go.Fn Go.Insn

/-- What a line that was read comes to. -/
def lnQ (Q : LQ) (g : Heap) : Option Ln → Prop
  | some ⟨m, .blank⟩ => Q 0 m 0 false 0 0 0 0 0 [] 0 true g
  | some ⟨m, .fill n v⟩ => Q 0 m n false 0 0 0 0 0 [] v true g
  | some ⟨m, .ins y want⟩ => Q 0 m 1 true y.op y.rd y.rs1 y.rs2 y.imm want 0 true g
  | none => FailQ Q g

theorem readB_cons (w : Str) (ws : List Str) : readB (w :: ws) =
    if w = dotWord ∨ w = dotFill then (match ws with | [a] => if w = dotFill then fillB (numOf a) else wordB (numOf a) | _ => none)
    else if opOf w = 0 then none
    else match opnds (ordOf (opOf w : Int)) ws ⟨opOf w, 0, 0, 0, 0⟩ [] with
      | some (x, want) => some (.ins x want)
      | none => none := rfl

section
variable {U : Ifc} {h g : Heap}

theorem read_j11 {w : Str} {ws : List Str} {sl : Sl} (hw : w = dotWord ∨ w = dotFill) (W : Words g sl (w :: ws)) (hws : ∀ w' ∈ ws, w'.length ≤ 1000000) {Q : LQ} {b1 : Nat} {l1 : List V} (hl1 : l1.length = 11) (S : St h none_ [(b1, .cells l1 false)] g) {m : Str}
    (hq : ∀ g', Keeps none_ h g' → lnQ Q g' (withMark m (readB (w :: ws)))) : zf53.j11 U ⟨b1, 0⟩ sl m Q g := by
  unfold zf53.j11
  rw [readB_cons, if_pos hw] at hq
  have hlen := W.len
  simp only [List.length_cons] at hlen
  match ws, W, hq, hlen, hws with
  | [], W, hq, hlen, _ =>
    simp only [List.length_nil] at hlen
    exact br_t (by rw [bne_iff_ne]; omega) (put_line (κ := fun x1 x2 x3 x4 x5 x6 x7 x8 x9 x10 x11 => Q x1 x2 x3 x4 x5 x6 x7 x8 x9 x10 x11 false) hl1 S (fun g' k' => hq g' k' _ _ _ _ _ _ _ _ _ _ _))
  | _ :: _ :: _, W, hq, hlen, _ =>
    simp only [List.length_cons] at hlen
    exact br_t (by rw [bne_iff_ne]; omega) (put_line (κ := fun x1 x2 x3 x4 x5 x6 x7 x8 x9 x10 x11 => Q x1 x2 x3 x4 x5 x6 x7 x8 x9 x10 x11 false) hl1 S (fun g' k' => hq g' k' _ _ _ _ _ _ _ _ _ _ _))
  | [a], W, hq, hlen, hws =>
    simp only [List.length_cons, List.length_nil] at hlen
    refine br_f (by rw [bne_eq_false_iff_eq]; omega) (W.ixrd (i := 1) rfl rfl (Number_ref (hws a (List.mem_singleton.2 rfl)) (W.ixrd (i := 0) rfl rfl ?_)))
    simp only at hq
    have put : ∀ (n v : Int) (e : Bool), (∀ g', Keeps none_ h g' → Q 0 m n false 0 0 0 0 0 [] v e g') → wrL [.int .i64 0, .str m, .int .i64 n, .bool false, .int .i64 0, .int .i64 0, .int .i64 0, .int .i64 0, .int .i64 0, .str [], .int .u32 v] (⟨b1, 0⟩ : Ptr) 0 (fun h => rdI .i64 ((⟨b1, 0⟩ : Ptr).add 0) (fun x12 => rdStr ((⟨b1, 0⟩ : Ptr).add 1) (fun x13 => rdI .i64 ((⟨b1, 0⟩ : Ptr).add 2) (fun x14 => rdB ((⟨b1, 0⟩ : Ptr).add 3) (fun x15 => rdI .i64 ((⟨b1, 0⟩ : Ptr).add 4) (fun x16 => rdI .i64 ((⟨b1, 0⟩ : Ptr).add 5) (fun x17 => rdI .i64 ((⟨b1, 0⟩ : Ptr).add 6) (fun x18 => rdI .i64 ((⟨b1, 0⟩ : Ptr).add 7) (fun x19 => rdI .i64 ((⟨b1, 0⟩ : Ptr).add 8) (fun x20 => rdStr ((⟨b1, 0⟩ : Ptr).add 9) (fun x21 => rdI .u32 ((⟨b1, 0⟩ : Ptr).add 10) (fun x22 => Q x12 x13 x14 x15 x16 x17 x18 x19 x20 x21 x22 e h) h) h) h) h) h) h) h) h) h) h) h) g :=
      fun n v e hk => put_line (κ := fun x1 x2 x3 x4 x5 x6 x7 x8 x9 x10 x11 => Q x1 x2 x3 x4 x5 x6 x7 x8 x9 x10 x11 e) hl1 S hk
    by_cases hf : w = dotFill
    · rw [if_pos hf] at hq
      refine br_t (by rw [beq_iff_eq]; exact hf) ?_
      cases hn : numOf a with
      | none =>
        rw [hn] at hq
        exact br_f rfl (put _ _ _ (fun g' k' => hq g' k' _ _ _ _ _ _ _ _ _ _ _))
      | some v =>
        rw [hn] at hq
        simp only [Option.getD_some, Option.isSome_some]
        refine br_t rfl ?_
        simp only [fillB] at hq
        by_cases h1 : v ≥ 0
        · refine br_t (decide_eq_true h1) (put _ _ _ (fun g' k' => ?_))
          have := hq g' k'
          by_cases h2 : v ≤ 4096
          · rw [if_pos ⟨h1, h2⟩] at this
            have e : ((v.toNat : Nat) : Int) = v := by omega
            simp only [withMark, lnQ, e] at this
            rw [decide_eq_true h2]; exact this
          · rw [if_neg (fun hh => h2 hh.2)] at this
            rw [decide_eq_false h2]; exact this _ _ _ _ _ _ _ _ _ _ _
        · refine br_f (decide_eq_false h1) (put _ _ _ (fun g' k' => ?_))
          have := hq g' k'
          rw [if_neg (fun hh => h1 hh.1)] at this
          exact this _ _ _ _ _ _ _ _ _ _ _
    · rw [if_neg hf] at hq
      refine br_f (beq_false_of_ne hf) ?_
      cases hn : numOf a with
      | none =>
        rw [hn] at hq
        exact br_f rfl (put _ _ _ (fun g' k' => hq g' k' _ _ _ _ _ _ _ _ _ _ _))
      | some v =>
        rw [hn] at hq
        simp only [Option.getD_some, Option.isSome_some]
        refine br_t rfl ?_
        simp only [wordB] at hq
        by_cases h1 : v ≥ -2147483648
        · refine br_t (decide_eq_true h1) (put _ _ _ (fun g' k' => ?_))
          have := hq g' k'
          by_cases h2 : v ≤ 4294967295
          · rw [if_pos ⟨h1, h2⟩] at this
            rw [decide_eq_true (by omega), u32_wrap]; exact this
          · rw [if_neg (fun hh => h2 hh.2)] at this
            rw [decide_eq_false (by omega)]; exact this _ _ _ _ _ _ _ _ _ _ _
        · refine br_f (decide_eq_false h1) (put _ _ _ (fun g' k' => ?_))
          have := hq g' k'
          rw [if_neg (fun hh => h1 hh.1)] at this
          exact this _ _ _ _ _ _ _ _ _ _ _

theorem read_j8 (du : DecAt 10 U) {ws : List Str} {sl : Sl} (W : Words g sl ws) (hws : ∀ w' ∈ ws, w'.length ≤ 1000000) {Q : LQ} {b1 : Nat} {l1 : List V} (hl1 : l1.length = 11) (S : St h none_ [(b1, .cells l1 false)] g) {m : Str}
    (hq : ∀ g', Keeps none_ h g' → lnQ Q g' (withMark m (readB ws))) : zf53.j8 U ⟨b1, 0⟩ sl m Q g := by
  unfold zf53.j8
  cases ws with
  | nil =>
    have hlen := W.len
    exact br_t (by rw [beq_iff_eq, hlen]; rfl) (put_line (κ := fun x1 x2 x3 x4 x5 x6 x7 x8 x9 x10 x11 => Q x1 x2 x3 x4 x5 x6 x7 x8 x9 x10 x11 true) hl1 S (fun g' k' => hq g' k'))
  | cons w ws =>
    have hlen := W.len
    simp only [List.length_cons] at hlen
    refine br_f (beq_false_of_ne (by omega)) (W.ixrd (i := 0) rfl rfl ?_)
    have hws2 : ∀ w' ∈ ws, w'.length ≤ 1000000 := fun w' h' => hws w' (List.mem_cons_of_mem _ h')
    by_cases h1 : w = dotWord
    · exact br_t (by rw [beq_iff_eq]; exact h1) (read_j11 (.inl h1) W hws2 hl1 S hq)
    refine br_f (beq_false_of_ne h1) (W.ixrd (i := 0) rfl rfl ?_)
    by_cases h2 : w = dotFill
    · exact br_t (by rw [beq_iff_eq]; exact h2) (read_j11 (.inr h2) W hws2 hl1 S hq)
    refine br_f (beq_false_of_ne h2) (W.ixrd (i := 0) rfl rfl (op_ref (fun g1 k1 => ?_)))
    have S1 := S.keep k1
    have W1 := W.keep k1
    rw [readB_cons, if_neg (fun hh => hh.elim h1 h2)] at hq
    by_cases h3 : opOf w = 0
    · rw [if_pos h3] at hq
      exact br_t (by rw [h3]; rfl) (put_line (κ := fun x1 x2 x3 x4 x5 x6 x7 x8 x9 x10 x11 => Q x1 x2 x3 x4 x5 x6 x7 x8 x9 x10 x11 false) hl1 S1 (fun g' k' => hq g' k' _ _ _ _ _ _ _ _ _ _ _))
    rw [if_neg h3] at hq
    refine br_f (beq_false_of_ne (by omega)) (sb_of (by omega) (by omega) (operands_ref du (n := opOf w) (by have := opOf_le w; omega) W1.tail hws2 (fun g2 k2 => ?_)))
    have S2 := S1.keep k2
    -- the line that was made is copied, its mark set
    have fin : ∀ (n k op rd rs1 rs2 imm v : Int) (m0 want : Str) (is e : Bool), (∀ g', Keeps none_ h g' → Q n m k is op rd rs1 rs2 imm want v e g') →
        al zf80 (fun b46 h => wrL (lineL n m0 k is op rd rs1 rs2 imm want v) (⟨b46, 0⟩ : Ptr) 0 (fun h => zf53.j21 U ⟨b1, 0⟩ m (⟨b46, 0⟩ : Ptr) e Q h) h) g2 := by
      intro n k op rd rs1 rs2 imm v m0 want is e hk
      refine S2.al (fun b2 g3 S3 => S3.wrL i0 (Nat.le_refl 11) (fun g4 S4 => ?_))
      have S5 : St h none_ [(b2, .cells (lineL n m0 k is op rd rs1 rs2 imm want v) false), (b1, .cells l1 false)] g4 := S4
      unfold zf53.j21
      refine S5.wr i0 rfl (fun g5 S6 => ?_)
      exact copy_fail (κ := Q) hl1 S6 hk
    cases ho : opnds (ordOf (opOf w : Int)) ws ⟨opOf w, 0, 0, 0, 0⟩ [] with
    | none =>
      rw [ho] at hq
      intro x1 x2 x3 x4 x5 x6 x7 x8 x9 x10 x11
      exact fin _ _ _ _ _ _ _ _ _ _ _ _ (fun g' k' => hq g' k' _ _ _ _ _ _ _ _ _ _ _)
    | some p =>
      obtain ⟨x, want⟩ := p
      rw [ho] at hq
      exact fin _ _ _ _ _ _ _ _ _ _ _ _ (fun g' k' => hq g' k')

theorem words_len : ∀ (s w : Str), ∀ u ∈ wordsGo w s, u.length ≤ w.length + s.length
  | [], w, u, hu => by
    rw [wordsGo_end] at hu
    split at hu
    · cases hu
    · rw [List.mem_singleton.1 hu]; simp
  | b :: s, w, u, hu => by
    rw [wordsGo_cons] at hu
    split at hu
    · split at hu
      · cases hu
      · rw [List.mem_singleton.1 hu]; omega
    · split at hu
      · split at hu
        · have := words_len s [] u hu; simp at this ⊢; omega
        · rcases List.mem_cons.1 hu with rfl | hu
          · omega
          · have := words_len s [] u hu; simp at this ⊢; omega
      · have := words_len s (w ++ [b]) u hu; simp at this ⊢; omega

theorem words_ne : ∀ (s w : Str), ∀ u ∈ wordsGo w s, u ≠ []
  | [], w, u, hu => by
    rw [wordsGo_end] at hu
    split at hu
    · cases hu
    · rename_i h1
      rw [List.mem_singleton.1 hu]; simpa using h1
  | b :: s, w, u, hu => by
    rw [wordsGo_cons] at hu
    split at hu
    · split at hu
      · cases hu
      · rename_i h1
        rw [List.mem_singleton.1 hu]; simpa using h1
    · split at hu
      · split at hu
        · exact words_ne s [] u hu
        · rename_i h1
          rcases List.mem_cons.1 hu with rfl | hu
          · simpa using h1
          · exact words_ne s [] u hu
      · exact words_ne s (w ++ [b]) u hu

theorem last_is {w : Str} (hw : w ≠ []) : w.getLast? = some (w.getD (w.length - 1) 0) := by
  rw [List.getLast?_eq_getElem?, List.getD_eq_getElem?_getD, List.getElem?_eq_getElem (by have := List.length_pos_iff.2 hw; omega)]
  rfl

theorem read_ref (du : DecAt 10 U) {s : Str} (hl : s.length ≤ 1000000) {Q : LQ} (hq : ∀ g', Keeps none_ h g' → lnQ Q g' (readL s)) : zf53 U s Q h := by
  unfold zf53
  refine (St.start h none_).al (fun b1 g1 S1 => cut_ref hl (fun g2 sl W k2 => ?_))
  have S2 := S1.keep k2
  have hwl : ∀ w ∈ wordsGo [] s, w.length ≤ 1000000 := fun w hw => by have := words_len s [] w hw; simp at this; omega
  have hwn := words_ne s []
  unfold readL at hq
  generalize wordsGo [] s = ws at W hwl hwn hq
  cases ws with
  | nil =>
    exact br_f (by rw [W.len]; rfl) (read_j8 du W hwl (l1 := zf80) rfl S2 hq)
  | cons w ws =>
    have hlen := W.len
    simp only [List.length_cons] at hlen
    have hw0 := hwn w List.mem_cons_self
    have hwl0 := hwl w List.mem_cons_self
    have hpos := List.length_pos_iff.2 hw0
    have ew : IntKind.i64.wrap ((w.length : Int) - 1) = ((w.length - 1 : Nat) : Int) := by rw [wrap64] <;> omega
    refine br_t (decide_eq_true (by omega)) (W.ixrd (i := 0) rfl rfl (W.ixrd (i := 0) rfl rfl ?_))
    rw [ew]
    refine ix_of (by omega) (by omega) ?_
    rw [Int.toNat_natCast, show (((w.getD (w.length - 1) 0).toNat : Int) == 58) = (w.getD (w.length - 1) 0 == 58) from u8eq (b := w.getD (w.length - 1) 0) (n := 58) (by decide)]
    have hlast := last_is hw0
    by_cases hc : w.getD (w.length - 1) 0 = 58
    · rw [hc] at hlast
      simp only [readW, hlast, if_pos] at hq
      refine br_t (by rw [beq_iff_eq]; exact hc) (W.ixrd (i := 0) rfl rfl (W.ixrd (i := 0) rfl rfl ?_))
      rw [ew]
      refine sb_of (by omega) (by omega) ?_
      rw [Int.toNat_natCast, List.drop_zero, Nat.sub_zero, ← List.dropLast_eq_take]
      unfold zf53.j5
      refine name_ref du (by simp; omega) (fun g3 k3 => ?_)
      have S3 := S2.keep k3
      cases hn : nameOk w.dropLast with
      | false =>
        rw [hn] at hq
        exact br_t rfl (put_line (κ := fun x1 x2 x3 x4 x5 x6 x7 x8 x9 x10 x11 => Q x1 x2 x3 x4 x5 x6 x7 x8 x9 x10 x11 false) (l1 := zf80) rfl S3 (fun g' k' => hq g' k' _ _ _ _ _ _ _ _ _ _ _))
      | true =>
        rw [hn] at hq
        exact br_f rfl (sb_of (by omega) (by omega) (read_j8 du (W.keep k3).tail (fun w' h' => hwl w' (List.mem_cons_of_mem _ h')) (l1 := zf80) rfl S3 hq))
    · have hne : ¬ w.getLast? = some 58 := by rw [hlast]; exact fun e => hc (Option.some.inj e)
      simp only [readW, if_neg hne] at hq
      exact br_f (beq_false_of_ne hc) (read_j8 du W hwl (l1 := zf80) rfl S2 hq)

end
end Go.Asm

set_option linter.unusedSimpArgs false
set_option linter.unusedVariables false
set_option maxRecDepth 100000
namespace Go.Asm
open Go.Lift Go.Fn Go.Insn

theorem wsign14_range {v : Int} : -8192 ≤ wsign v 14 ∧ wsign v 14 < 8192 := by
  unfold wsign shlI shrI
  rw [show IntKind.i64.wrap (64 - 14) = 50 by decide, show (2 : Int) ^ min ((50 : Int)).toNat IntKind.i64.bits = 1125899906842624 by decide]
  have := wrap64_range (v * 1125899906842624)
  rw [Int.fdiv_eq_ediv_of_nonneg _ (by decide)]
  omega

theorem wsign18_range {v : Int} : -131072 ≤ wsign v 18 ∧ wsign v 18 < 131072 := by
  unfold wsign shlI shrI
  rw [show IntKind.i64.wrap (64 - 18) = 46 by decide, show (2 : Int) ^ min ((46 : Int)).toNat IntKind.i64.bits = 70368744177664 by decide]
  have := wrap64_range (v * 70368744177664)
  rw [Int.fdiv_eq_ediv_of_nonneg _ (by decide)]
  omega

theorem big_of {sh v : Int} (h : ¬ FitsB sh v) : v < -8192 ∨ 8192 ≤ v := by
  rcases Int.lt_or_le v (-8192) with h1 | h1
  · exact .inl h1
  · rcases Int.lt_or_le v 8192 with h2 | h2
    · exact absurd ⟨fun _ => ⟨by omega, by omega⟩, fun _ => ⟨h1, h2⟩⟩ h
    · exact .inr h2

theorem big5 {v : Int} (h : ¬ FitsB 5 v) : v < -131072 ∨ 131072 ≤ v := by
  rcases Int.lt_or_le v (-131072) with h1 | h1
  · exact .inl h1
  · rcases Int.lt_or_le v 131072 with h2 | h2
    · exact absurd ⟨fun _ => ⟨h1, h2⟩, fun e => absurd rfl e⟩ h
    · exact .inr h2

theorem immOk_big {op sh v : Int} (h : ¬ FitsB sh v) : Go.Insn.immOk op sh v = false := by
  have hb := big_of h
  unfold Go.Insn.immOk
  split
  · rcases hb with h1 | h1
    · rw [decide_eq_false (by omega)]; rfl
    · rw [decide_eq_false (p := v < 64) (by omega), Bool.and_false]
  · split
    · rcases hb with h1 | h1
      · rw [decide_eq_false (by omega)]; rfl
      · rw [decide_eq_false (p := v < 4096) (by omega), Bool.and_false]
    · split
      · have := wsign14_range (v := v)
        exact beq_false_of_ne (by omega)
      · split
        · rename_i h5
          subst h5
          have hb := big5 h
          have := wsign18_range (v := v)
          exact beq_false_of_ne (by omega)
        · exact beq_false_of_ne (by omega)

section
variable {h : Heap}

theorem Fits14_big {v : Int} (h1 : v < -8192 ∨ 8192 ≤ v) {Q : Bool → Heap → Prop} (hq : Q false h) : zf33 v 14 Q h := by
  unfold zf33
  refine br_t rfl (br_t rfl (nneg_of (by decide) ?_))
  rw [show shlI .i64 1 (IntKind.u64.wrap (IntKind.i64.wrap (14 - 1))) = 8192 by decide, show IntKind.i64.wrap (0 - 8192) = -8192 by decide]
  rcases h1 with h1 | h1
  · exact br_f (decide_eq_false (by omega)) hq
  · refine br_t (decide_eq_true (by omega)) (nneg_of (by decide) ?_)
    rw [show IntKind.i64.wrap (8192 - 1) = 8191 by decide, decide_eq_false (by omega)]
    exact hq

theorem Fits18_big {v : Int} (h1 : v < -131072 ∨ 131072 ≤ v) {Q : Bool → Heap → Prop} (hq : Q false h) : zf33 v 18 Q h := by
  unfold zf33
  refine br_t rfl (br_t rfl (nneg_of (by decide) ?_))
  rw [show shlI .i64 1 (IntKind.u64.wrap (IntKind.i64.wrap (18 - 1))) = 131072 by decide, show IntKind.i64.wrap (0 - 131072) = -131072 by decide]
  rcases h1 with h1 | h1
  · exact br_f (decide_eq_false (by omega)) hq
  · refine br_t (decide_eq_true (by omega)) (nneg_of (by decide) ?_)
    rw [show IntKind.i64.wrap (131072 - 1) = 131071 by decide, decide_eq_false (by omega)]
    exact hq

theorem imm_big {n : Nat} {v : Int} (hn : n < 64) (hf : ¬ FitsB (rshape (n : Int)) v) {Q : Bool → Heap → Prop} (hq : Q false h) : zf38 (n : Int) v Q h := by
  have hb := big_of hf
  have j5 : zf38.j5 (n : Int) v Q h := by
    unfold zf38.j5
    refine Shape_ref hn ?_
    by_cases e5 : rshape (n : Int) = 5
    · rw [e5] at hf ⊢
      exact br_f rfl (br_f rfl (br_f rfl (br_t rfl (Fits18_big (big5 hf) hq))))
    · have F : zf33 v 14 Q h := Fits14_big hb hq
      refine br_if (fun _ => F) (fun _ => br_if (fun _ => F) (fun _ => br_if (fun _ => F) (fun _ => br_f (beq_false_of_ne e5) ?_)))
      rw [show (v == 0) = false from beq_false_of_ne (by omega)]; exact hq
  have lim : ∀ {m : Int}, m ≤ 4095 → br (decide (v ≥ 0)) (Q (decide (v ≤ m)) h) (Q false h) := by
    intro m hm
    rcases hb with h1 | h1
    · exact br_f (decide_eq_false (by omega)) hq
    · refine br_t (decide_eq_true (by omega)) ?_
      rw [decide_eq_false (by omega)]; exact hq
  have j3 : zf38.j3 (n : Int) v Q h := by
    unfold zf38.j3
    exact br_if (fun _ => br_if (fun _ => lim (by decide)) (fun _ => j5)) (fun _ => j5)
  unfold zf38
  exact br_if (fun _ => br_if (fun _ => lim (by decide)) (fun _ => j3)) (fun _ => j3)

theorem Encode_any {op rd rs1 rs2 : Nat} {v : Int} (h0 : op < 64) (h1 : rd < 16) (h2 : rs1 < 16) (h3 : rs2 < 16) (h5 : rshape (op : Int) = 5 → rs1 = 0 ∧ rs2 = 0) {Q : Int → Int → Heap → Prop} (hq : ∀ h', Keeps none_ h h' → Q (encOf (op : Int) rd rs1 rs2 v).1 (encOf (op : Int) rd rs1 rs2 v).2 h') : zf35 (op : Int) rd rs1 rs2 v Q h := by
  by_cases hf : FitsB (rshape (op : Int)) v
  · exact Encode_ref h0 h1 h2 h3 hf h5 hq
  · have hv : validOf (op : Int) rd rs1 rs2 v = false := by
      unfold validOf
      by_cases en : rshape (op : Int) = -1
      · rw [shapeOf_none h0 en]
      · rw [shapeOf_of en]
        simp only
        rw [immOk_big hf, Bool.false_and]
    unfold encOf at hq
    rw [hv, if_neg (by decide)] at hq
    unfold zf35
    refine al_of (fun b g hb ho k => ?_)
    refine loc_I ho rfl (loc_I ho rfl (loc_I ho rfl (loc_I ho rfl (loc_I ho rfl ?_))))
    unfold zf37
    refine al_of (fun b2 g2 hb2 ho2 k2 => ?_)
    have fin : ∀ g', Keeps none_ g g' → br (!false) (Q 0 10 g') True := fun g' k' => br_t rfl (hq g' (k.trans k'))
    have hq2 := hq g2 (k.trans k2)
    refine loc_I ho2 rfl (Shape_ref h0 ?_)
    by_cases en : rshape (op : Int) = -1
    · refine br_t (by rw [en]; rfl) ?_
      unfold zf37.j3
      exact br_t rfl hq2
    refine br_f (decide_eq_false (by have := rshape_range h0; omega)) ?_
    refine loc_I ho2 rfl (reg_ref h1 (br_f rfl (loc_I ho2 rfl (reg_ref h2 (br_f rfl (loc_I ho2 rfl (reg_ref h3 (br_f rfl (loc_I ho2 rfl (loc_I ho2 rfl (imm_big h0 hf ?_))))))))))) 
    refine br_t rfl ?_
    unfold zf37.j3
    exact br_t rfl hq2

end
end Go.Asm

set_option linter.unusedSimpArgs false
set_option linter.unusedVariables false
set_option maxRecDepth 100000
namespace Go.Asm
open Go.Lift Go.Fn Go.Insn

/-- The lines of what is left, w read of the first. -/
def splitGo : Str → Str → List Str
  | w, [] => [w]
  | w, b :: s => if b == 10 then w :: splitGo [] s else splitGo (w ++ [b]) s

theorem split_ne : ∀ s : Str, split s ≠ []
  | [] => by simp [split]
  | b :: s => by
    unfold split
    split
    · simp
    · split <;> simp

theorem splitGo_split : ∀ (s w : Str), ∃ l ls, split s = l :: ls ∧ splitGo w s = (w ++ l) :: ls
  | [], w => ⟨[], [], rfl, by simp [splitGo]⟩
  | b :: s, w => by
    by_cases hb : (b == 10) = true
    · obtain ⟨l, ls, h1, h2⟩ := splitGo_split s []
      refine ⟨[], split s, if_pos hb, ?_⟩
      unfold splitGo
      rw [if_pos hb, h2, h1]; simp
    · obtain ⟨l, ls, h1, h2⟩ := splitGo_split s (w ++ [b])
      refine ⟨b :: l, ls, (if_neg hb).trans (by rw [h1]), ?_⟩
      unfold splitGo
      rw [if_neg hb, h2]; simp

theorem split_go (s : Str) : splitGo [] s = split s := by
  obtain ⟨l, ls, h1, h2⟩ := splitGo_split s []
  rw [h1, h2, List.nil_append]

theorem split_cons (b : UInt8) (s : Str) : split (b :: s) = if b == 10 then [] :: split s else match split s with
    | l :: ls => (b :: l) :: ls
    | [] => [[b]] := rfl

theorem split_count : ∀ s : Str, (split s).length ≤ s.length + 1
  | [] => by simp [split]
  | b :: s => by
    have ih := split_count s
    rw [split_cons]
    split
    · simp; omega
    · cases hs : split s with
      | nil => simp
      | cons l ls => rw [hs] at ih; simp at ih ⊢; omega

theorem split_len : ∀ (s : Str), ∀ l ∈ split s, l.length ≤ s.length
  | [], l, hl => by simp [split] at hl; simp [hl]
  | b :: s, l, hl => by
    rw [split_cons] at hl
    split at hl
    · rcases List.mem_cons.1 hl with rfl | hl
      · simp
      · have := split_len s l hl; simp; omega
    · cases hs : split s with
      | nil => exact absurd hs (split_ne s)
      | cons a t2 =>
        rw [hs] at hl
        rcases List.mem_cons.1 hl with rfl | hl
        · have := split_len s a (by rw [hs]; exact List.mem_cons_self); simp; omega
        · have := split_len s l (by rw [hs]; exact List.mem_cons_of_mem _ hl); simp; omega

/-- The cells of the reference's lines. -/
def lnCells (n : Nat) : Ln → List V
  | ⟨m, .blank⟩ => lineL n m 0 false 0 0 0 0 0 [] 0
  | ⟨m, .fill k v⟩ => lineL n m k false 0 0 0 0 0 [] v
  | ⟨m, .ins y want⟩ => lineL n m 1 true y.op y.rd y.rs1 y.rs2 y.imm want 0

theorem lnCells_length (n : Nat) (x : Ln) : (lnCells n x).length = 11 := by
  obtain ⟨m, b⟩ := x
  cases b <;> rfl

def rowFrom : Nat → List Ln → List V
  | _, [] => []
  | n, x :: l => lnCells n x ++ rowFrom (n + 1) l

theorem rowFrom_length : ∀ (l : List Ln) (n : Nat), (rowFrom n l).length = l.length * 11
  | [], _ => rfl
  | x :: l, n => by
    unfold rowFrom
    rw [List.length_append, lnCells_length, rowFrom_length l (n + 1), List.length_cons]
    omega

theorem rowFrom_snoc : ∀ (l : List Ln) (n : Nat) (x : Ln), rowFrom n (l ++ [x]) = rowFrom n l ++ lnCells (n + l.length) x
  | [], n, x => by simp [rowFrom]
  | y :: l, n, x => by
    show lnCells n y ++ rowFrom (n + 1) (l ++ [x]) = lnCells n y ++ rowFrom (n + 1) l ++ _
    rw [rowFrom_snoc l (n + 1) x, List.append_assoc, List.length_cons]
    rw [show n + 1 + l.length = n + (l.length + 1) by omega]

theorem rowFrom_get : ∀ (l : List Ln) (n i : Nat) (x : Ln), l[i]? = some x → ((rowFrom n l).drop (i * 11)).take 11 = lnCells (n + i) x
  | [], _, _, _, h => by cases h
  | y :: l, n, 0, x, h => by
    cases h
    show ((lnCells n y ++ rowFrom (n + 1) l).drop (0 * 11)).take 11 = _
    rw [Nat.zero_mul, List.drop_zero, List.take_left' (lnCells_length n y)]
    rfl
  | y :: l, n, i + 1, x, h => by
    have := rowFrom_get l (n + 1) i x (by simpa using h)
    show ((lnCells n y ++ rowFrom (n + 1) l).drop ((i + 1) * 11)).take 11 = _
    have e : (i + 1) * 11 = (lnCells n y).length + i * 11 := by rw [lnCells_length]; omega
    rw [e, List.drop_append, List.drop_eq_nil_of_le (Nat.le_add_right _ _), List.nil_append, Nat.add_sub_cancel_left, this, show n + 1 + i = n + (i + 1) by omega]

/-- What is known of a line that was read. -/
def InsOk (x : Ins) : Prop := (1 ≤ x.op ∧ x.op ≤ 48) ∧ (0 ≤ x.rd ∧ x.rd < 16) ∧ (0 ≤ x.rs1 ∧ x.rs1 < 16) ∧ (0 ≤ x.rs2 ∧ x.rs2 < 16) ∧ (rshape x.op = 5 → x.rs1 = 0 ∧ x.rs2 = 0) ∧ x.imm.natAbs < 1000000000000000

def BodyOk : Body → Prop
  | .blank => True
  | .fill n v => n ≤ 4096 ∧ v < 4294967296
  | .ins x _ => InsOk x

theorem BodyOk.words {b : Body} (h : BodyOk b) : b.words ≤ 4096 := by
  cases b with
  | blank => exact Nat.zero_le _
  | fill n v => exact h.1
  | ins x w => show 1 ≤ 4096; decide

theorem opnd_ok {x x' : Ins} {want want' w : Str} {c : UInt8} (h : opnd x want c w = some (x', want')) (h1 : 0 ≤ x.rd ∧ x.rd < 16) (h2 : 0 ≤ x.rs1 ∧ x.rs1 < 16) (h3 : 0 ≤ x.rs2 ∧ x.rs2 < 16) (h4 : x.imm.natAbs < 1000000000000000) :
    x'.op = x.op ∧ (0 ≤ x'.rd ∧ x'.rd < 16) ∧ (0 ≤ x'.rs1 ∧ x'.rs1 < 16) ∧ (0 ≤ x'.rs2 ∧ x'.rs2 < 16) ∧ (c ≠ 97 → x'.rs1 = x.rs1) ∧ (c ≠ 98 → x'.rs2 = x.rs2) ∧ x'.imm.natAbs < 1000000000000000 := by
  have hr := regOf_range w
  unfold opnd at h
  split at h
  · split at h
    · cases h
    · cases h; exact ⟨rfl, ⟨by show 0 ≤ regOf w; omega, by show regOf w < 16; omega⟩, h2, h3, fun _ => rfl, fun _ => rfl, h4⟩
  · split at h
    · rename_i hc
      split at h
      · cases h
      · cases h; exact ⟨rfl, h1, ⟨by show 0 ≤ regOf w; omega, by show regOf w < 16; omega⟩, h3, fun e => absurd hc e, fun _ => rfl, h4⟩
    · split at h
      · rename_i hc
        split at h
        · cases h
        · cases h; exact ⟨rfl, h1, h2, ⟨by show 0 ≤ regOf w; omega, by show regOf w < 16; omega⟩, fun _ => rfl, fun e => absurd hc e, h4⟩
      · split at h
        · rename_i v hn
          cases h
          refine ⟨rfl, h1, h2, h3, fun _ => rfl, fun _ => rfl, ?_⟩
          unfold numOf at hn
          split at hn
          · rename_i ho; cases hn; exact numVal_bound ho
          · cases hn
        · split at h
          · cases h; exact ⟨rfl, h1, h2, h3, fun _ => rfl, fun _ => rfl, by show Int.natAbs 0 < _; decide⟩
          · cases h

theorem opnds_ok : ∀ {cs : List UInt8} {ws : List Str} {x x' : Ins} {want want' : Str}, opnds cs ws x want = some (x', want') → (0 ≤ x.rd ∧ x.rd < 16) → (0 ≤ x.rs1 ∧ x.rs1 < 16) → (0 ≤ x.rs2 ∧ x.rs2 < 16) → x.imm.natAbs < 1000000000000000 →
    x'.op = x.op ∧ (0 ≤ x'.rd ∧ x'.rd < 16) ∧ (0 ≤ x'.rs1 ∧ x'.rs1 < 16) ∧ (0 ≤ x'.rs2 ∧ x'.rs2 < 16) ∧ (97 ∉ cs → x'.rs1 = x.rs1) ∧ (98 ∉ cs → x'.rs2 = x.rs2) ∧ x'.imm.natAbs < 1000000000000000
  | [], [], x, x', want, want', h, h1, h2, h3, h4 => by cases h; exact ⟨rfl, h1, h2, h3, fun _ => rfl, fun _ => rfl, h4⟩
  | [], _ :: _, _, _, _, _, h, _, _, _, _ => by cases h
  | _ :: _, [], _, _, _, _, h, _, _, _, _ => by cases h
  | c :: cs, w :: ws, x, x', want, want', h, h1, h2, h3, h4 => by
    rw [opnds_cons] at h
    cases ho : opnd x want c w with
    | none => rw [ho] at h; cases h
    | some p =>
      obtain ⟨y, wy⟩ := p
      rw [ho] at h
      obtain ⟨a1, a2, a3, a4, a5, a6, a7⟩ := opnd_ok ho h1 h2 h3 h4
      obtain ⟨b1, b2, b3, b4, b5, b6, b7⟩ := opnds_ok h a2 a3 a4 a7
      refine ⟨b1.trans a1, b2, b3, b4, fun hn => ?_, fun hn => ?_, b7⟩
      · rw [b5 (fun hm => hn (List.mem_cons_of_mem _ hm)), a5 (fun e => hn (by rw [e]; exact List.mem_cons_self))]
      · rw [b6 (fun hm => hn (List.mem_cons_of_mem _ hm)), a6 (fun e => hn (by rw [e]; exact List.mem_cons_self))]

theorem shape5_ord {n : Nat} (hn : n < 64) (h : rshape (n : Int) = 5) : 97 ∉ ordOf (n : Int) ∧ 98 ∉ ordOf (n : Int) := by
  have key : ∀ n : Fin 64, rshape ((n.val : Nat) : Int) = 5 → 97 ∉ ordOf ((n.val : Nat) : Int) ∧ 98 ∉ ordOf ((n.val : Nat) : Int) := by decide +kernel
  exact key ⟨n, hn⟩ h

theorem readB_ok {ws : List Str} {b : Body} (h : readB ws = some b) : BodyOk b := by
  cases ws with
  | nil => cases h; trivial
  | cons w ws =>
    rw [readB_cons] at h
    split at h
    · match ws, h with
      | [], h => cases h
      | _ :: _ :: _, h => cases h
      | [a], h =>
        simp only at h
        split at h
        · unfold fillB at h
          split at h
          · split at h
            · cases h; exact ⟨by omega, by decide⟩
            · cases h
          · cases h
        · unfold wordB at h
          split at h
          · split at h
            · cases h; exact ⟨by decide, by omega⟩
            · cases h
          · cases h
    · split at h
      · cases h
      · rename_i h0
        cases ho : opnds (ordOf (opOf w : Int)) ws ⟨opOf w, 0, 0, 0, 0⟩ [] with
        | none => rw [ho] at h; cases h
        | some p =>
          obtain ⟨x, want⟩ := p
          rw [ho] at h
          cases h
          have hle := opOf_le w
          obtain ⟨a1, a2, a3, a4, a5, a6, a7⟩ := opnds_ok ho (by show (0 : Int) ≤ 0 ∧ (0 : Int) < 16; decide) (by show (0 : Int) ≤ 0 ∧ (0 : Int) < 16; decide) (by show (0 : Int) ≤ 0 ∧ (0 : Int) < 16; decide) (by show Int.natAbs 0 < _; decide)
          have a1 : x.op = ((opOf w : Nat) : Int) := a1
          refine ⟨by omega, a2, a3, a4, fun h5 => ?_, a7⟩
          rw [a1] at h5
          have := shape5_ord (by omega) h5
          exact ⟨a5 this.1, a6 this.2⟩

theorem readL_ok {s : Str} {x : Ln} (h : readL s = some x) : BodyOk x.body := by
  unfold readL readW at h
  have wm : ∀ {m : Str} {o : Option Body}, withMark m o = some x → o = some x.body := by
    intro m o h
    cases o with
    | none => cases h
    | some b => cases h; rfl
  split at h
  · cases h; trivial
  · split at h
    · split at h
      · exact readB_ok (wm h)
      · cases h
    · exact readB_ok (wm h)

theorem linesGo_ok : ∀ {ss : List Str} {n : Nat} {done l : List Ln}, linesGo n done ss = .inr l → (∀ x ∈ done, BodyOk x.body) → ∀ x ∈ l, BodyOk x.body
  | [], n, done, l, h, hd => by cases h; exact hd
  | s :: ss, n, done, l, h, hd => by
    unfold linesGo at h
    split at h
    · cases h
    · rename_i x hx
      split at h
      · cases h
      · refine linesGo_ok h (fun y hy => ?_)
        rcases List.mem_append.1 hy with hy | hy
        · exact hd y hy
        · rw [List.mem_singleton.1 hy]; exact readL_ok hx

theorem linesGo_len : ∀ {ss : List Str} {n : Nat} {done l : List Ln}, linesGo n done ss = .inr l → l.length = done.length + ss.length
  | [], n, done, l, h => by cases h; rfl
  | s :: ss, n, done, l, h => by
    unfold linesGo at h
    split at h
    · cases h
    · split at h
      · cases h
      · have := linesGo_len h
        simp at this ⊢; omega

end Go.Asm

set_option linter.unusedSimpArgs false
set_option linter.unusedVariables false
set_option maxRecDepth 100000
namespace Go.Asm
open Go.Lift Go.Fn Go.Insn

theorem linesGo_cons (n : Nat) (done : List Ln) (s : Str) (ss : List Str) : linesGo n done (s :: ss) = match readL s with
    | none => .inl n
    | some x => if x.mark ≠ [] ∧ x.mark ∈ done.map (·.mark) then .inl n else linesGo (n + 1) (done ++ [x]) ss := rfl

theorem splitGo_cons (w : Str) (b : UInt8) (s : Str) : splitGo w (b :: s) = if b == 10 then w :: splitGo [] s else splitGo (w ++ [b]) s := rfl

/-- Lines that may be read. -/
structure Lns (g : Heap) (sl : Sl) (l : List Ln) : Prop where
  held : Held g sl 11 (rowFrom 0 l)

section
variable {U : Ifc} {h g g' : Heap} {sl : Sl} {l : List Ln} {x : Ln} {i : Nat}

theorem Lns.len (H : Lns g sl l) : sl.len = l.length := by
  have := H.held.len
  rw [rowFrom_length] at this
  omega

theorem Lns.keep (H : Lns g sl l) (k : Keeps none_ g g') : Lns g' sl l := ⟨H.held.keeps k (fun _ _ f => f)⟩

theorem Lns.get (H : Lns g sl l) (hi : l[i]? = some x) : ∃ p, sl.p = some p ∧ ∀ j, j < 11 → g.get p.b (p.o + i * 11 + j) = (lnCells i x)[j]? := by
  have hlt : i < l.length := by
    rcases Nat.lt_or_ge i l.length with h1 | h1
    · exact h1
    · rw [List.getElem?_eq_none h1] at hi; cases hi
  cases hp : sl.p with
  | none => have := H.held.nil hp; have := H.len; omega
  | some p =>
    refine ⟨p, rfl, fun j hj => ?_⟩
    have hr := rowFrom_get l 0 i x hi
    rw [Nat.zero_add] at hr
    rw [← hr, List.getElem?_take_of_lt hj, List.getElem?_drop]
    have hl : i * 11 + j < (rowFrom 0 l).length := by rw [rowFrom_length]; omega
    rw [List.getElem?_eq_getElem hl, Nat.add_assoc]
    exact H.held.row p hp (i * 11 + j) _ (List.getElem?_eq_getElem hl)

theorem Lns.ix (H : Lns g sl l) (hi : l[i]? = some x) {κ : Nat → Prop} (hk : κ i) : ix (i : Int) sl.len κ := by
  have hlt : i < l.length := by
    rcases Nat.lt_or_ge i l.length with h1 | h1
    · exact h1
    · rw [List.getElem?_eq_none h1] at hi; cases hi
  exact ix_of (by omega) (by rw [H.len]; omega) (by rw [Int.toNat_natCast]; exact hk)

theorem mark_cell (n : Nat) (x : Ln) : (lnCells n x)[1]? = some (.str x.mark) := by
  obtain ⟨m, b⟩ := x; cases b <;> rfl
theorem words_cell (n : Nat) (x : Ln) : (lnCells n x)[2]? = some (.int .i64 x.body.words) := by
  obtain ⟨m, b⟩ := x; cases b <;> rfl

theorem Lns.mark (H : Lns g sl l) (hi : l[i]? = some x) {κ : Str → Prop} (hk : κ x.mark) : der sl.p (fun p => rdStr ((p.add (i * 11)).add 1) κ g) := by
  obtain ⟨p, hp, hg⟩ := H.get hi
  rw [hp, der_some]
  exact rdStr_of ((hg 1 (by decide)).trans (mark_cell i x)) hk

theorem Lns.words (H : Lns g sl l) (hi : l[i]? = some x) {κ : Int → Prop} (hk : κ (x.body.words : Int)) : der sl.p (fun p => rdI .i64 ((p.add (i * 11)).add 2) κ g) := by
  obtain ⟨p, hp, hg⟩ := H.get hi
  rw [hp, der_some]
  exact rdI_of ((hg 2 (by decide)).trans (words_cell i x)) hk

/-- What the lines come to. -/
def linesQ (h : Heap) (Q : Sl → Int → Int → Heap → Prop) : Nat ⊕ List Ln → Prop
  | .inl n => ∀ g, Keeps none_ h g → Q ⟨none, 0, 0⟩ (n : Int) 10 g
  | .inr l => ∀ g sl, Row h g sl 11 (rowFrom 0 l) → Keeps none_ h g → Q sl 0 0 g

theorem take_one {s : Str} {a i : Nat} {b : UInt8} (hai : a ≤ i) (hi : i < s.length) (hb : s.getD i 0 = b) : (s.drop a).take (i + 1 - a) = (s.drop a).take (i - a) ++ [b] := by
  rw [show i + 1 - a = (i - a) + 1 by omega, List.take_add_one, List.getElem?_drop, show a + (i - a) = i by omega, List.getElem?_eq_getElem hi]
  rw [List.getD_eq_getElem?_getD, List.getElem?_eq_getElem hi] at hb
  rw [← hb]; rfl

theorem lines_ref (du : DecAt 10 U) {s : Str} (hs : s.length ≤ 100000) {Q : Sl → Int → Int → Heap → Prop} (hq : linesQ h Q (linesGo 0 [] (split s))) : zf49 U s Q h := by
  unfold zf49 zf49.j5
  intro I H
  rw [← split_go] at hq
  have main : ∀ (r : Str) (i a : Nat) (done : List Ln) (sl : Sl) (g : Heap), s.drop i = r → a ≤ i → i ≤ s.length → done.length ≤ i → Row h g sl 11 (rowFrom 0 done) → Keeps none_ h g → linesQ h Q (linesGo done.length done (splitGo ((s.drop a).take (i - a)) r)) → I s sl (a : Int) (done.length : Int) (i : Int) g := by
    intro r
    have ew : ∀ n : Nat, n ≤ 100001 → IntKind.i64.wrap ((n : Int) + 1) = ((n + 1 : Nat) : Int) := fun n hn => by rw [wrap64] <;> omega
    -- a line's end: at i
    have j8 : ∀ (i a : Nat) (done : List Ln) (sl : Sl) (g : Heap) (ss : List Str), a ≤ i → i ≤ s.length → done.length ≤ i → Row h g sl 11 (rowFrom 0 done) → Keeps none_ h g → linesQ h Q (linesGo done.length done ((s.drop a).take (i - a) :: ss)) →
        (∀ done' sl' g', done'.length = done.length + 1 → Row h g' sl' 11 (rowFrom 0 done') → Keeps none_ h g' → linesQ h Q (linesGo done'.length done' ss) → I s sl' ((i + 1 : Nat) : Int) (done'.length : Int) ((i + 1 : Nat) : Int) g') → zf49.j8 U I s sl (a : Int) (done.length : Int) (i : Int) Q g := by
      intro i a done sl g ss hai hi hdl R k hq next
      unfold zf49.j8
      refine sb_of (by omega) (by omega) (sb_of (by omega) (by omega) ?_)
      rw [Int.toNat_natCast, Int.toNat_natCast]
      rw [linesGo_cons] at hq
      refine read_ref du (by simp; omega) (fun g1 k1 => ?_)
      have R1 := R.keep k1
      have kk1 := k.trans k1
      -- the line is laid, its number set, its mark compared, and it is appended
      have fin : ∀ (x1 x3 : Int) (x2 : Str) (x4 : Bool) (x5 x6 x7 x8 x9 : Int) (x10 : Str) (x11 : Int) (e : Bool),
          ((e = false ∨ (x2 ≠ [] ∧ x2 ∈ done.map (·.mark))) → ∀ g', Keeps none_ h g' → Q ⟨none, 0, 0⟩ (done.length : Int) 10 g') →
          (e = true → ¬ (x2 ≠ [] ∧ x2 ∈ done.map (·.mark)) → ∃ x : Ln, lnCells done.length x = lineL done.length x2 x3 x4 x5 x6 x7 x8 x9 x10 x11 ∧ linesQ h Q (linesGo (done.length + 1) (done ++ [x]) ss)) →
          al zf80 (fun b15 h => wrL [.int .i64 x1, .str x2, .int .i64 x3, .bool x4, .int .i64 x5, .int .i64 x6, .int .i64 x7, .int .i64 x8, .int .i64 x9, .str x10, .int .u32 x11] (⟨b15, 0⟩ : Ptr) 0 (fun h => wr ((⟨b15, 0⟩ : Ptr).add 0) (.int .i64 (done.length : Int)) (fun h => zf49.j11 U I s sl (done.length : Int) (i : Int) (⟨b15, 0⟩ : Ptr) e 0 Q h) h) h) g1 := by
        intro x1 x3 x2 x4 x5 x6 x7 x8 x9 x10 x11 e hbad hgood
        refine al_wrL rfl (fun b g2 hb2 ho2 k2 => loc_wr ho2 rfl (fun g3 ho3 k3 => ?_))
        have k4 : Keeps none_ g1 g3 := Keeps.widen' k2 k3 hb2
        have ho3 : g3.obj b = some (.cells (lineL done.length x2 x3 x4 x5 x6 x7 x8 x9 x10 x11) false) := ho3
        have R3 := R1.keep k4
        have kk3 := kk1.trans k4
        have L3 : Lns g3 sl done := ⟨R3.held⟩
        unfold zf49.j11
        intro I2 H2
        have inner : ∀ (dr : List Ln) (j : Nat) (e : Bool), done.drop j = dr → j ≤ done.length →
            ((e = false ∨ (x2 ≠ [] ∧ x2 ∈ dr.map (·.mark))) → ∀ g', Keeps none_ h g' → Q ⟨none, 0, 0⟩ (done.length : Int) 10 g') →
            (e = true → ¬ (x2 ≠ [] ∧ x2 ∈ dr.map (·.mark)) → ∃ x : Ln, lnCells done.length x = lineL done.length x2 x3 x4 x5 x6 x7 x8 x9 x10 x11 ∧ linesQ h Q (linesGo (done.length + 1) (done ++ [x]) ss)) →
            I2 s sl (done.length : Int) (i : Int) ⟨b, 0⟩ e (j : Int) g3 := by
          intro dr
          have j14f : (∀ g', Keeps none_ h g' → Q ⟨none, 0, 0⟩ (done.length : Int) 10 g') → zf49.j14 U I s sl (done.length : Int) (i : Int) ⟨b, 0⟩ false Q g3 := by
            intro hb
            unfold zf49.j14
            exact br_t rfl (hb g3 kk3)
          induction dr with
          | nil =>
            intro j e hd hj hbad hgood
            refine H2 _ _ _ _ _ _ _ _ ?_
            unfold zf49.b11
            cases e with
            | false => exact br_f rfl (j14f (hbad (.inl rfl)))
            | true =>
              have : done.length ≤ j := by
                have := congrArg List.length hd
                rw [List.length_drop] at this; simp at this; omega
              refine br_t rfl (br_f (decide_eq_false (by rw [L3.len]; omega)) ?_)
              obtain ⟨x, hx, hq2⟩ := hgood rfl (fun hh => by simp at hh)
              unfold zf49.j14 zf49.j6
              refine br_f rfl (rd11 (o := 0) (l := lineL done.length x2 x3 x4 x5 x6 x7 x8 x9 x10 x11) rfl rfl rfl rfl rfl rfl rfl rfl rfl rfl rfl rfl ho3 ?_)
              have hlen := R3.len
              rw [rowFrom_length] at hlen
              refine R3.app1 kk3 rfl rfl (by omega) (by omega) (fun sl' g' R' hl' k' => ?_)
              rw [ew i (by omega), ew done.length (by omega)]
              have hrow : rowFrom 0 done ++ lineL done.length x2 x3 x4 x5 x6 x7 x8 x9 x10 x11 = rowFrom 0 (done ++ [x]) := by
                rw [rowFrom_snoc, Nat.zero_add, hx]
              have R' : Row h g' sl' 11 (rowFrom 0 done ++ lineL done.length x2 x3 x4 x5 x6 x7 x8 x9 x10 x11) := R'
              rw [hrow] at R'
              have hdl : (done ++ [x]).length = done.length + 1 := by simp
              have := next (done ++ [x]) sl' g' hdl R' k' (by rw [hdl]; exact hq2)
              rw [hdl] at this
              exact this
          | cons y dr ih =>
            intro j e hd hj hbad hgood
            refine H2 _ _ _ _ _ _ _ _ ?_
            unfold zf49.b11
            cases e with
            | false => exact br_f rfl (j14f (hbad (.inl rfl)))
            | true =>
              have hjl : j < done.length := by
                rcases Nat.lt_or_ge j done.length with h1 | h1
                · exact h1
                · rw [List.drop_eq_nil_of_le h1] at hd; cases hd
              have hd2 := hd
              rw [List.drop_eq_getElem_cons hjl] at hd2
              injection hd2 with hy hdr
              have hyi : done[j]? = some y := by rw [List.getElem?_eq_getElem hjl, hy]
              refine br_t rfl (br_t (decide_eq_true (by rw [L3.len]; omega)) (loc_Str ho3 rfl ?_))
              have step : ∀ e', (e' = false → x2 ≠ [] ∧ y.mark = x2) → (e' = true → ¬ (x2 ≠ [] ∧ y.mark = x2)) → zf49.j12 U I I2 s sl (done.length : Int) (i : Int) ⟨b, 0⟩ e' (j : Int) Q g3 := by
                intro e' h1 h2
                unfold zf49.j12
                rw [ew j (by omega)]
                refine ih (j + 1) e' hdr (by omega) (fun hh => hbad (.inr ?_)) (fun hh hn => hgood rfl (fun hm => ?_))
                · rcases hh with hh | ⟨ha, hb⟩
                  · obtain ⟨ha, hb⟩ := h1 hh
                    exact ⟨ha, by rw [List.map_cons]; exact List.mem_cons.2 (.inl hb.symm)⟩
                  · exact ⟨ha, by rw [List.map_cons]; exact List.mem_cons_of_mem _ hb⟩
                · obtain ⟨ha, hb⟩ := hm
                  rw [List.map_cons] at hb
                  rcases List.mem_cons.1 hb with hb | hb
                  · exact h2 hh ⟨ha, hb.symm⟩
                  · exact hn ⟨ha, hb⟩
              by_cases hm : x2 = []
              · exact br_t (by rw [beq_iff_eq]; exact hm) (step true (fun e => by cases e) (fun _ hh => hh.1 hm))
              · refine br_f (beq_false_of_ne hm) (L3.ix hyi ?_)
                obtain ⟨p, hp, hg⟩ := L3.get hyi
                rw [hp, der_some]
                refine rdStr_of ((hg 1 (by decide)).trans (mark_cell j y)) (loc_Str ho3 rfl ?_)
                by_cases hyx : y.mark = x2
                · rw [show (!(y.mark == x2)) = false by rw [hyx, beq_self_eq_true]; rfl]
                  exact step false (fun _ => ⟨hm, hyx⟩) (fun e => by cases e)
                · rw [show (!(y.mark == x2)) = true by rw [beq_false_of_ne hyx]; rfl]
                  exact step true (fun e => by cases e) (fun _ hh => hyx hh.2)
        exact inner done 0 e rfl (by omega) hbad hgood
      cases hr : readL ((s.drop a).take (i - a)) with
      | none =>
        rw [hr] at hq
        simp only at hq
        intro y1 y2 y3 y4 y5 y6 y7 y8 y9 y10 y11
        exact fin _ _ _ _ _ _ _ _ _ _ _ false (fun _ => hq) (fun e => by cases e)
      | some x =>
        rw [hr] at hq
        simp only at hq
        have hb : (true = false ∨ (x.mark ≠ [] ∧ x.mark ∈ done.map (·.mark))) → ∀ g', Keeps none_ h g' → Q ⟨none, 0, 0⟩ (done.length : Int) 10 g' := by
          rintro (e | e)
          · cases e
          · rw [if_pos e] at hq; exact hq
        have hg : ¬ (x.mark ≠ [] ∧ x.mark ∈ done.map (·.mark)) → linesQ h Q (linesGo (done.length + 1) (done ++ [x]) ss) := fun e => by rw [if_neg e] at hq; exact hq
        obtain ⟨m, bd⟩ := x
        cases bd with
        | blank => exact fin _ _ _ _ _ _ _ _ _ _ _ true hb (fun _ e => ⟨_, rfl, hg e⟩)
        | fill kk v => exact fin _ _ _ _ _ _ _ _ _ _ _ true hb (fun _ e => ⟨_, rfl, hg e⟩)
        | ins y want => exact fin _ _ _ _ _ _ _ _ _ _ _ true hb (fun _ e => ⟨_, rfl, hg e⟩)
    induction r with
    | nil =>
      intro i a done sl g hd hai hi hdl R k hq
      have hi2 := drop_nil hd
      have hil : i = s.length := by omega
      refine H _ _ _ _ _ _ ?_
      unfold zf49.b5
      refine br_t (decide_eq_true (by omega)) (br_f (decide_eq_false (by omega)) (j8 i a done sl g [] hai hi hdl R k hq ?_))
      intro done' sl' g' hdl' R' k' hq'
      refine H _ _ _ _ _ _ ?_
      unfold zf49.b5
      exact br_f (decide_eq_false (by omega)) (hq' g' sl' R' k')
    | cons b r ih =>
      intro i a done sl g hd hai hi hdl R k hq
      obtain ⟨hlt, hb, hr⟩ := drop_cons hd
      refine H _ _ _ _ _ _ ?_
      unfold zf49.b5
      refine br_t (decide_eq_true (by omega)) (br_t (decide_eq_true (by omega)) (ix_of (by omega) (by omega) ?_))
      rw [Int.toNat_natCast, hb]
      rw [splitGo_cons] at hq
      by_cases h10 : b = 10
      · rw [if_pos (by rw [h10]; decide)] at hq
        refine br_f (by rw [h10]; rfl) (j8 i a done sl g (splitGo [] r) hai (by omega) hdl R k hq ?_)
        intro done' sl' g' hdl' R' k' hq'
        refine ih (i + 1) (i + 1) done' sl' g' hr (by omega) (by omega) (by omega) R' k' ?_
        rw [Nat.sub_self, List.take_zero]
        exact hq'
      · rw [if_neg (by simpa using h10)] at hq
        refine br_t (by rw [bne_iff_ne]; exact fun e => h10 (byte_eq (n := 10) (by omega) (by decide))) ?_
        unfold zf49.j6
        rw [ew i (by omega)]
        refine ih (i + 1) a done sl g hr (by omega) (by omega) (by omega) R k ?_
        rw [take_one hai hlt hb]
        exact hq
  exact main s 0 0 [] ⟨none, 0, 0⟩ h rfl (by omega) (by omega) (by simp) Row.nil (Keeps.refl _ _) hq

end
end Go.Asm

set_option linter.unusedSimpArgs false
set_option linter.unusedVariables false
set_option maxRecDepth 100000
namespace Go.Asm
open Go.Lift Go.Fn Go.Insn

/-- The place of a mark; -1: none. -/
def findV (l : List Ln) (m : Str) : Int := if m = [] then -1 else match place m l with | some p => (p : Int) | none => -1

theorem total_cons (x : Ln) (l : List Ln) : total (x :: l) = x.body.words + total l := by simp [total]
theorem place_cons (m : Str) (x : Ln) (l : List Ln) : place m (x :: l) = if x.mark = m then some 0 else (place m l).map (· + x.body.words) := rfl

theorem total_le : ∀ {l : List Ln}, (∀ x ∈ l, BodyOk x.body) → total l ≤ 4096 * l.length
  | [], _ => by simp [total]
  | x :: l, h => by
    have := total_le (l := l) (fun y hy => h y (List.mem_cons_of_mem _ hy))
    have := (h x List.mem_cons_self).words
    rw [total_cons, List.length_cons]; omega

theorem place_le : ∀ {l : List Ln} {m : Str} {p : Nat}, place m l = some p → p ≤ total l
  | [], _, _, h => by cases h
  | x :: l, m, p, h => by
    rw [place_cons] at h
    rw [total_cons]
    split at h
    · cases h; omega
    · cases hp : place m l with
      | none => rw [hp] at h; cases h
      | some q =>
        rw [hp] at h
        simp only [Option.map_some, Option.some.injEq] at h
        have := place_le hp
        omega

section
variable {U : Ifc} {h g : Heap}

theorem find_ref {l : List Ln} {sl : Sl} (L : Lns h sl l) (hl : l.length ≤ 100001) (hok : ∀ x ∈ l, BodyOk x.body) {m : Str} {Q : Int → Heap → Prop} (hq : Q (findV l m) h) : zf48 sl m Q h := by
  unfold zf48 zf48.j3
  intro I H
  have main : ∀ (r : List Ln) (i acc : Nat), l.drop i = r → i ≤ l.length → acc ≤ 4096 * i → (Q (if m = [] then -1 else match place m r with | some p => ((acc + p : Nat) : Int) | none => -1) h) → I sl m (acc : Int) (i : Int) h := by
    intro r
    induction r with
    | nil =>
      intro i acc hd hi ha hq
      have : l.length ≤ i := by
        have := congrArg List.length hd
        rw [List.length_drop] at this; simp at this; omega
      refine H _ _ _ _ _ ?_
      unfold zf48.b3
      refine br_f (decide_eq_false (by rw [L.len]; omega)) ?_
      by_cases hm : m = []
      · rw [if_pos hm] at hq; exact hq
      · rw [if_neg hm] at hq; exact hq
    | cons x r ih =>
      intro i acc hd hi ha hq
      have hil : i < l.length := by
        rcases Nat.lt_or_ge i l.length with h1 | h1
        · exact h1
        · rw [List.drop_eq_nil_of_le h1] at hd; cases hd
      have hd2 := hd
      rw [List.drop_eq_getElem_cons hil] at hd2
      injection hd2 with hx hr
      have hxi : l[i]? = some x := by rw [List.getElem?_eq_getElem hil, hx]
      have hw := (hok x (List.mem_of_getElem? hxi)).words
      refine H _ _ _ _ _ ?_
      unfold zf48.b3
      refine br_t (decide_eq_true (by rw [L.len]; omega)) (L.ix hxi (L.mark hxi ?_))
      have nxt : (x.mark ≠ m ∨ m = []) → zf48.j7 I sl m (acc : Int) (i : Int) Q h := by
        intro hn
        unfold zf48.j7
        refine L.ix hxi (L.words hxi ?_)
        unfold zf48.j4
        rw [wrap64 (x := (acc : Int) + (x.body.words : Int)) (by omega) (by omega), wrap64 (x := (i : Int) + 1) (by omega) (by omega)]
        refine ih (i + 1) (acc + x.body.words) hr (by omega) (by omega) ?_
        by_cases hm : m = []
        · rw [if_pos hm] at hq ⊢; exact hq
        · rw [if_neg hm] at hq ⊢
          have hne : x.mark ≠ m := hn.resolve_right hm
          rw [place_cons, if_neg hne] at hq
          cases hp : place m r with
          | none => rw [hp] at hq; exact hq
          | some p =>
            rw [hp] at hq
            simp only [Option.map_some] at hq
            show Q ((acc + x.body.words + p : Nat) : Int) h
            rw [show acc + x.body.words + p = acc + (p + x.body.words) by omega]
            exact hq
      by_cases hm : x.mark = m
      · refine br_t (by rw [beq_iff_eq]; exact hm) ?_
        by_cases he : m = []
        · exact br_f (by rw [he]; rfl) (nxt (.inr he))
        · rw [if_neg he, place_cons, if_pos hm] at hq
          exact br_t (by rw [beq_false_of_ne he]; rfl) hq
      · exact br_f (beq_false_of_ne hm) (nxt (.inl hm))
  refine main l 0 0 rfl (by omega) (by omega) ?_
  have e : (if m = [] then (-1 : Int) else match place m l with | some p => ((0 + p : Nat) : Int) | none => -1) = findV l m := by
    unfold findV
    cases place m l with
    | none => rfl
    | some p => simp only [Nat.zero_add]
  rw [e]; exact hq

/-- What an assembly comes to. -/
def resQ (h : Heap) (Q : Sl → Int → Int → Heap → Prop) : Res → Prop
  | .ok _ out => ∀ g sl, Row h g sl 1 (out.map (V.int .u32)) → Keeps none_ h g → Q sl 0 0 g
  | .arg => ∀ g, Keeps none_ h g → Q ⟨none, 0, 0⟩ 0 2 g
  | .big => ∀ g, Keeps none_ h g → Q ⟨none, 0, 0⟩ 0 3 g
  | .form n => ∀ g, Keeps none_ h g → Q ⟨none, 0, 0⟩ (n : Int) 10 g

def encRes (l : List Ln) : Nat ⊕ List Int → Res
  | .inl n => .form n
  | .inr out => .ok l out

theorem encGo_cons (all : List Ln) (n : Nat) (out : List Int) (x : Ln) (l : List Ln) : encGo all n out (x :: l) = match x.body with
    | .blank => encGo all (n + 1) out l
    | .fill k v => encGo all (n + 1) (out ++ List.replicate k (v : Int)) l
    | .ins x want => match immOf all x want out.length with
      | none => .inl n
      | some v => if (encOf x.op x.rd x.rs1 x.rs2 v).2 ≠ 0 then .inl n else encGo all (n + 1) (out ++ [(encOf x.op x.rd x.rs1 x.rs2 v).1]) l := rfl

theorem ins_nats {y : Ins} (ok : InsOk y) : ∃ op rd rs1 rs2 : Nat, y.op = op ∧ y.rd = rd ∧ y.rs1 = rs1 ∧ y.rs2 = rs2 ∧ op < 64 ∧ rd < 16 ∧ rs1 < 16 ∧ rs2 < 16 ∧ (rshape (op : Int) = 5 → rs1 = 0 ∧ rs2 = 0) := by
  obtain ⟨a, b, c, d, e, f⟩ := ok
  refine ⟨y.op.toNat, y.rd.toNat, y.rs1.toNat, y.rs2.toNat, by omega, by omega, by omega, by omega, by omega, by omega, by omega, by omega, fun h5 => ?_⟩
  rw [show ((y.op.toNat : Nat) : Int) = y.op by omega] at h5
  have := e h5
  omega

/-- An instruction is encoded. -/
theorem encode_step {l : List Ln} {out : List Int} {y : Ins} (ok : InsOk y) {v : Int} {sl so : Sl} {b : Nat} {n i : Nat} {m want : Str} {Q : Sl → Int → Int → Heap → Prop} {I : Sl → Sl → Int → Heap → Prop}
    (R : Row h g so 1 (out.map (V.int .u32))) (k : Keeps none_ h g) (ho : g.obj b = some (.cells (lineL n m 1 true y.op y.rd y.rs1 y.rs2 v want 0) false)) (hlen : out.length ≤ 100000) (hi : i ≤ 100001)
    (hbad : (encOf y.op y.rd y.rs1 y.rs2 v).2 ≠ 0 → ∀ g', Keeps none_ h g' → Q ⟨none, 0, 0⟩ (n : Int) 10 g')
    (hgood : (encOf y.op y.rd y.rs1 y.rs2 v).2 = 0 → ∀ so' g', Row h g' so' 1 ((out ++ [(encOf y.op y.rd y.rs1 y.rs2 v).1]).map (V.int .u32)) → Keeps none_ h g' → I sl so' ((i + 1 : Nat) : Int) g') :
    zf40.j30 U I sl so (i : Int) ⟨b, 0⟩ Q g := by
  obtain ⟨op, rd, rs1, rs2, e1, e2, e3, e4, l1, l2, l3, l4, h5⟩ := ins_nats ok
  obtain ⟨yop, yrd, y1, y2, yi⟩ := y
  simp only at e1 e2 e3 e4 ho hbad hgood
  subst e1 e2 e3 e4
  unfold zf40.j30
  refine loc_I ho rfl (loc_I ho rfl (loc_I ho rfl (loc_I ho rfl (loc_I ho rfl (Encode_any l1 l2 l3 l4 h5 (fun g1 k1 => ?_))))))
  have kk := k.trans k1
  by_cases he : (encOf (op : Int) rd rs1 rs2 v).2 = 0
  · refine br_f (by rw [he]; rfl) ?_
    have hlen2 := (R.keep k1).len
    simp only [List.length_map, Nat.mul_one] at hlen2
    refine (R.keep k1).app1 kk rfl rfl (by omega) (by omega) (fun so' g2 R2 hl2 k2 => ?_)
    unfold zf40.j18
    rw [wrap64 (x := (i : Int) + 1) (by omega) (by omega)]
    exact hgood he so' g2 (by rw [List.map_append]; exact R2) k2
  · refine br_t (by rw [bne_iff_ne]; exact he) (loc_I (k1.obj ho (fun f => f)) rfl (hbad he g1 kk))

theorem fill_step {out : List Int} {sl so : Sl} {b : Nat} {n i kk v : Nat} {m : Str} {Q : Sl → Int → Int → Heap → Prop} {I : Sl → Sl → Int → Heap → Prop}
    (R : Row h g so 1 (out.map (V.int .u32))) (k : Keeps none_ h g) (ho : g.obj b = some (.cells (lineL n m kk false 0 0 0 0 0 [] v) false)) (hb0 : h.obj b = none) (hso : ∀ p, so.p = some p → p.b ≠ b) (hlen : out.length + kk ≤ 200000) (hi : i ≤ 100001)
    (hgood : ∀ so' g', Row h g' so' 1 ((out ++ List.replicate kk (v : Int)).map (V.int .u32)) → Keeps none_ h g' → I sl so' ((i + 1 : Nat) : Int) g') :
    zf40.j22 U I sl so (i : Int) ⟨b, 0⟩ 0 Q g := by
  unfold zf40.j22
  intro I2 H2
  have main : ∀ (d j : Nat) (so : Sl) (g : Heap), j + d = kk → Row h g so 1 ((out ++ List.replicate j (v : Int)).map (V.int .u32)) → Keeps none_ h g → g.obj b = some (.cells (lineL n m kk false 0 0 0 0 0 [] v) false) → (∀ p, so.p = some p → p.b ≠ b) → I2 sl so (i : Int) ⟨b, 0⟩ (j : Int) g := by
    intro d
    induction d with
    | zero =>
      intro j so g hj R k ho hso
      refine H2 _ _ _ _ _ _ ?_
      unfold zf40.b22
      refine loc_I ho rfl (br_f (decide_eq_false (by omega)) ?_)
      unfold zf40.j18
      rw [wrap64 (x := (i : Int) + 1) (by omega) (by omega)]
      have : j = kk := by omega
      rw [this] at R
      exact hgood so g R k
    | succ d ih =>
      intro j so g hj R k ho hso
      refine H2 _ _ _ _ _ _ ?_
      unfold zf40.b22
      refine loc_I ho rfl (br_t (decide_eq_true (by omega)) (loc_I ho rfl ?_))
      have hlen2 := R.len
      simp only [List.length_map, Nat.mul_one, List.length_append, List.length_replicate] at hlen2
      -- the row is another block than the line
      refine al_of (fun b1 g1 hb1 ho1 k1 => rdN_held (vs := [.int .u32 (v : Int)]) rfl (fun j v hj => by rw [get_cells ho1, Nat.zero_add]; exact hj) ?_)
      have R1 := R.keep k1
      have kk1 := k.trans k1
      have ho1b := k1.obj ho (fun f => f)
      rcases R1 with ⟨hsn, hvn⟩ | ⟨rb, O, hrb⟩
      · subst hsn
        refine appS_nil (m := 1) rfl (by decide) rfl (by decide) (by decide) (fun s' h' b' O' hl hbn k' => ?_)
        have kk2 := kk1.trans k'
        rw [wrap64 (x := (j : Int) + 1) (by omega) (by omega)]
        have hout : out = [] ∧ j = 0 := by
          have := congrArg List.length hvn
          simp only [List.length_map, List.length_append, List.length_replicate, List.length_nil] at this
          exact ⟨List.length_eq_zero_iff.1 (by omega), by omega⟩
        obtain ⟨rfl, rfl⟩ := hout
        refine ih 1 s' h' (by omega) (.inr ⟨b', O', ?_⟩) kk2 (k'.obj ho1b (fun f => f)) (fun p hp => ?_)
        · cases hh : h.obj b' with
          | none => rfl
          | some y => exact absurd hbn (kk1.known b' (by rw [hh]; simp))
        · rw [O'.p] at hp; cases hp
          intro e
          have e : b' = b := e
          rw [e, ho1b] at hbn; cases hbn
      · refine appS_own (m := 1) O rfl rfl (by omega) (by omega) (fun s' h' b' O' hl hbb k' => ?_)
        have hrne : rb ≠ b := hso ⟨rb, 0⟩ O.p
        have kk2 : Keeps none_ h h' := Keeps.widen' kk1 k' hrb
        rw [wrap64 (x := (j : Int) + 1) (by omega) (by omega)]
        have hb'0 : h.obj b' = none := by
          rcases hbb with rfl | hbn
          · exact hrb
          · cases hh : h.obj b' with
            | none => rfl
            | some y => exact absurd hbn (kk1.known b' (by rw [hh]; simp))
        refine ih (j + 1) s' h' (by omega) (.inr ⟨b', ?_, hb'0⟩) kk2 (k'.obj ho1b (fun e => hrne e.symm)) (fun p hp => ?_)
        · have e : (out ++ List.replicate (j + 1) (v : Int)).map (V.int .u32) = (out ++ List.replicate j (v : Int)).map (V.int .u32) ++ [.int .u32 (v : Int)] := by
            rw [List.replicate_succ', ← List.append_assoc, List.map_append (l₂ := [(v : Int)])]; rfl
          rw [e]; exact O'
        · rw [O'.p] at hp; cases hp
          rcases hbb with e2 | hbn
          · intro e; exact hrne (e2 ▸ e)
          · intro e
            have e : b' = b := e
            rw [e, ho1b] at hbn; cases hbn
  refine main kk 0 so g (by omega) ?_ k ho hso
  rw [List.replicate_zero, List.append_nil]; exact R

end
end Go.Asm

set_option linter.unusedSimpArgs false
set_option linter.unusedVariables false
set_option maxRecDepth 100000
namespace Go.Asm
open Go.Lift Go.Fn Go.Insn

section
variable {U : Ifc} {h g : Heap}

theorem Lns.all {l : List Ln} {sl : Sl} {x : Ln} {i : Nat} (H : Lns g sl l) (hi : l[i]? = some x) {n k op rd rs1 rs2 imm v : Int} {m want : Str} {is : Bool} (hc : lnCells i x = lineL n m k is op rd rs1 rs2 imm want v)
    {κ : Int → Str → Int → Bool → Int → Int → Int → Int → Int → Str → Int → Prop} (hk : κ n m k is op rd rs1 rs2 imm want v) :
    der sl.p (fun p => rdI .i64 ((p.add (i * 11)).add 0) (fun x1 => rdStr ((p.add (i * 11)).add 1) (fun x2 => rdI .i64 ((p.add (i * 11)).add 2) (fun x3 => rdB ((p.add (i * 11)).add 3) (fun x4 => rdI .i64 ((p.add (i * 11)).add 4) (fun x5 => rdI .i64 ((p.add (i * 11)).add 5) (fun x6 => rdI .i64 ((p.add (i * 11)).add 6) (fun x7 => rdI .i64 ((p.add (i * 11)).add 7) (fun x8 => rdI .i64 ((p.add (i * 11)).add 8) (fun x9 => rdStr ((p.add (i * 11)).add 9) (fun x10 => rdI .u32 ((p.add (i * 11)).add 10) (fun x11 => κ x1 x2 x3 x4 x5 x6 x7 x8 x9 x10 x11) g) g) g) g) g) g) g) g) g) g) g) := by
  obtain ⟨p, hp, hg⟩ := H.get hi
  rw [hp, der_some]
  rw [hc] at hg
  exact rdI_of (hg 0 (by decide)) (rdStr_of (hg 1 (by decide)) (rdI_of (hg 2 (by decide)) (rdB_of (hg 3 (by decide)) (rdI_of (hg 4 (by decide)) (rdI_of (hg 5 (by decide)) (rdI_of (hg 6 (by decide)) (rdI_of (hg 7 (by decide)) (rdI_of (hg 8 (by decide)) (rdStr_of (hg 9 (by decide)) (rdI_of (hg 10 (by decide)) hk))))))))))

theorem enc_loop {l : List Ln} {sl : Sl} (L : Lns h sl l) (hl : l.length ≤ 100001) (hok : ∀ x ∈ l, BodyOk x.body) (ht : total l ≤ 16384) {Q : Sl → Int → Int → Heap → Prop} {I : Sl → Sl → Int → Heap → Prop}
    (H : ∀ a1 a2 a3 h, zf40.b17 U I a1 a2 a3 Q h → I a1 a2 a3 h) :
    ∀ (r : List Ln) (i : Nat) (out : List Int) (so : Sl) (g : Heap), l.drop i = r → i ≤ l.length → out.length + total r ≤ 16384 → Row h g so 1 (out.map (V.int .u32)) → Keeps none_ h g → resQ h Q (encRes l (encGo l i out r)) → I sl so (i : Int) g := by
  intro r
  induction r with
  | nil =>
    intro i out so g hd hi ho R k hq
    have : l.length ≤ i := by
      have := congrArg List.length hd
      rw [List.length_drop] at this; simp at this; omega
    refine H _ _ _ _ ?_
    unfold zf40.b17
    exact br_f (decide_eq_false (by rw [L.len]; omega)) (hq g so R k)
  | cons x r ih =>
    intro i out so g hd hi ho R k hq
    have hil : i < l.length := by
      rcases Nat.lt_or_ge i l.length with h1 | h1
      · exact h1
      · rw [List.drop_eq_nil_of_le h1] at hd; cases hd
    have hd2 := hd
    rw [List.drop_eq_getElem_cons hil] at hd2
    injection hd2 with hx hr
    have hxi : l[i]? = some x := by rw [List.getElem?_eq_getElem hil, hx]
    have hxok := hok x (List.mem_of_getElem? hxi)
    have hw := hxok.words
    rw [total_cons] at ho
    rw [encGo_cons] at hq
    have Lg := L.keep k
    refine H _ _ _ _ ?_
    unfold zf40.b17
    refine br_t (decide_eq_true (by rw [L.len]; omega)) (L.ix hxi ?_)
    -- the line is copied
    have cp : ∀ {z vs : List V} {κ : Nat → Heap → Prop}, z.length = vs.length → (∀ b g1, h.obj b = none → g1.obj b = some (.cells vs false) → Keeps none_ h g1 → Row h g1 so 1 (out.map (V.int .u32)) → (∀ p, so.p = some p → p.b ≠ b) → κ b g1) → al z (fun b h => wrL vs ⟨b, 0⟩ 0 (κ b) h) g := by
      intro z vs κ hz hk
      refine al_wrL hz (fun b g1 hb ho k1 => hk b g1 ?_ ho (k.trans k1) (R.keep k1) (fun p hp e => ?_))
      · cases hh : h.obj b with
        | none => rfl
        | some y => exact absurd hb (k.known b (by rw [hh]; simp))
      · rcases R with ⟨rfl, _⟩ | ⟨rb, O, _⟩
        · cases hp
        · rw [O.p] at hp; cases hp
          have e : rb = b := e
          exact O.known (e ▸ hb)
    obtain ⟨m, bd⟩ := x
    cases bd with
    | blank =>
      refine Lg.all hxi rfl (cp rfl (fun b g1 hb0 ho1 k1 R1 hso => loc_B ho1 rfl (br_t rfl ?_)))
      refine fill_step (kk := 0) (v := 0) R1 k1 ho1 hb0 hso (by omega) (by omega) (fun so' g' R' k' => ?_)
      rw [List.replicate_zero, List.append_nil] at R'
      exact ih (i + 1) out so' g' hr (by omega) (by have : Body.words .blank = 0 := rfl; simp only [this] at ho; omega) R' k' hq
    | fill kk v =>
      refine Lg.all hxi rfl (cp rfl (fun b g1 hb0 ho1 k1 R1 hso => loc_B ho1 rfl (br_t rfl ?_)))
      have e : Body.words (.fill kk v) = kk := rfl
      simp only [e] at ho hw
      refine fill_step (kk := kk) (v := v) R1 k1 ho1 hb0 hso (by omega) (by omega) (fun so' g' R' k' => ?_)
      exact ih (i + 1) _ so' g' hr (by omega) (by rw [List.length_append, List.length_replicate]; omega) R' k' hq
    | ins y want =>
      have e : Body.words (.ins y want) = 1 := rfl
      simp only [e] at ho hw
      have hyok : InsOk y := hxok
      refine Lg.all hxi rfl (cp rfl (fun b g1 hb0 ho1 k1 R1 hso => loc_B ho1 rfl (br_f rfl (loc_Str ho1 rfl ?_))))
      simp only at hq
      have fin : ∀ (v : Int) (g1 : Heap), immOf l y want out.length = some v → Row h g1 so 1 (out.map (V.int .u32)) → Keeps none_ h g1 → g1.obj b = some (.cells (lineL i m 1 true y.op y.rd y.rs1 y.rs2 v want 0) false) → zf40.j30 U I sl so (i : Int) ⟨b, 0⟩ Q g1 := by
        intro v g1 hv R1 k1 ho1
        rw [hv] at hq
        simp only at hq
        refine encode_step (l := l) hyok R1 k1 ho1 (by omega) (by omega) (fun hb => ?_) (fun hg so' g' R' k' => ?_)
        · rw [if_pos hb] at hq; exact hq
        · rw [if_neg (fun hh => hh hg)] at hq
          exact ih (i + 1) _ so' g' hr (by omega) (by rw [List.length_append]; simp; omega) R' k' hq
      by_cases hwn : want = []
      · exact br_f (by rw [hwn]; rfl) (fin y.imm g1 (by unfold immOf; rw [if_pos hwn]) R1 k1 ho1)
      · refine br_t (by rw [beq_false_of_ne hwn]; rfl) (loc_Str ho1 rfl (find_ref (L.keep k1) hl hok ?_))
        unfold findV
        rw [if_neg hwn]
        cases hp : place want l with
        | none =>
          have hv : immOf l y want out.length = none := by unfold immOf; rw [if_neg hwn, hp]
          rw [hv] at hq
          exact br_t (by decide) (loc_I ho1 rfl (hq g1 k1))
        | some p =>
          have hple := place_le hp
          have hlen := R1.len
          simp only [List.length_map, Nat.mul_one] at hlen
          simp only
          refine br_f (decide_eq_false (by omega)) ?_
          rw [wrap64 (x := (p : Int) - ((so.len : Nat) : Int)) (by omega) (by omega)]
          refine loc_wr ho1 rfl (fun g2 ho2 k2 => ?_)
          have R2 : Row h g2 so 1 (out.map (V.int .u32)) := by
            rcases R1 with R1 | ⟨rb, O, hrb⟩
            · exact .inl R1
            · exact .inr ⟨rb, O.keeps k2 (fun e => hso ⟨rb, 0⟩ O.p e), hrb⟩
          have ho2 : g2.obj b = some (.cells (lineL i m 1 true y.op y.rd y.rs1 y.rs2 ((p : Int) - ((so.len : Nat) : Int)) want 0) false) := ho2
          refine fin _ g2 ?_ R2 (Keeps.widen' k1 k2 hb0) ho2
          unfold immOf
          rw [if_neg hwn, hp]
          show some ((p : Int) - (out.length : Int)) = some ((p : Int) - ((so.len : Nat) : Int))
          congr 2; omega

theorem tot_loop {l : List Ln} {sl : Sl} (L : Lns h sl l) (hl : l.length ≤ 100001) (hok : ∀ x ∈ l, BodyOk x.body) {Q : Sl → Int → Int → Heap → Prop} (hq : resQ h Q (asmL l)) : zf40.j9 U sl 0 Q h := by
  unfold zf40.j9 zf40.j10
  intro I H
  have main : ∀ (r : List Ln) (i acc : Nat), l.drop i = r → i ≤ l.length → acc + total r = total l → acc ≤ 4096 * i → I sl (acc : Int) (i : Int) h := by
    intro r
    induction r with
    | nil =>
      intro i acc hd hi ha hb
      have : l.length ≤ i := by
        have := congrArg List.length hd
        rw [List.length_drop] at this; simp at this; omega
      have ea : acc = total l := by rw [← ha]; simp [total]
      refine H _ _ _ _ ?_
      unfold zf40.b10
      refine br_f (decide_eq_false (by rw [L.len]; omega)) ?_
      unfold asmL at hq
      by_cases ht : total l > 16384
      · rw [if_pos ht] at hq
        exact br_t (decide_eq_true (by omega)) (hq h (Keeps.refl _ _))
      · rw [if_neg ht] at hq
        refine br_f (decide_eq_false (by omega)) ?_
        unfold zf40.j17
        intro I2 H2
        have hq2 : resQ h Q (encRes l (encGo l 0 [] l)) := by
          unfold encRes; exact hq
        exact enc_loop L hl hok (by omega) H2 l 0 [] ⟨none, 0, 0⟩ h rfl (by omega) (by simp; omega) Row.nil (Keeps.refl _ _) hq2
    | cons x r ih =>
      intro i acc hd hi ha hb
      have hil : i < l.length := by
        rcases Nat.lt_or_ge i l.length with h1 | h1
        · exact h1
        · rw [List.drop_eq_nil_of_le h1] at hd; cases hd
      have hd2 := hd
      rw [List.drop_eq_getElem_cons hil] at hd2
      injection hd2 with hx hr
      have hxi : l[i]? = some x := by rw [List.getElem?_eq_getElem hil, hx]
      have hw := (hok x (List.mem_of_getElem? hxi)).words
      rw [total_cons] at ha
      refine H _ _ _ _ ?_
      unfold zf40.b10
      refine br_t (decide_eq_true (by rw [L.len]; omega)) (L.ix hxi (L.words hxi ?_))
      rw [wrap64 (x := (acc : Int) + (x.body.words : Int)) (by omega) (by omega), wrap64 (x := (i : Int) + 1) (by omega) (by omega)]
      exact ih (i + 1) (acc + x.body.words) hr (by omega) (by omega) (by omega)
  exact main l 0 0 rfl (by omega) (by omega) (by omega)

theorem linesGo_bound {s : Str} {l : List Ln} (hs : s.length ≤ 100000) (h : linesGo 0 [] (split s) = .inr l) : l.length ≤ 100001 := by
  have := linesGo_len h
  have := split_count s
  simp at *; omega

theorem resQ_mono {h h' : Heap} (k : Keeps none_ h h') {Q : Sl → Int → Int → Heap → Prop} : ∀ {r : Res}, resQ h Q r → resQ h' Q r
  | .ok _ out, hq => fun g sl R kk => hq g sl (by
      rcases R with R | ⟨b, O, hb⟩
      · exact .inl R
      · exact .inr ⟨b, O, by
          cases hh : h.obj b with
          | none => rfl
          | some y => exact absurd hb (k.known b (by rw [hh]; simp))⟩) (k.trans kk)
  | .arg, hq => fun g kk => hq g (k.trans kk)
  | .big, hq => fun g kk => hq g (k.trans kk)
  | .form n, hq => fun g kk => hq g (k.trans kk)

theorem Assemble_ref (du : DecAt 10 U) {s : Str} {base : Nat} {Q : Sl → Int → Int → Heap → Prop} (hq : resQ h Q (asm s base)) : zf40 U s (base : Int) Q h := by
  unfold zf40
  refine nz_of (by decide) ?_
  unfold asm at hq
  have em : ((base : Int)).tmod 4 = ((base % 4 : Nat) : Int) := by rw [show (4 : Int) = ((4 : Nat) : Int) from rfl, Int.ofNat_tmod]
  rw [em]
  by_cases h1 : base % 4 ≠ 0 ∨ base > 1099511627776
  · rw [if_pos h1] at hq
    refine br_if (fun _ => ?_) (fun c => br_t (decide_eq_true ?_) ?_)
    · unfold zf40.j2; exact hq h (Keeps.refl _ _)
    · have : ((base % 4 : Nat) : Int) = 0 := by simpa using c
      omega
    · unfold zf40.j2; exact hq h (Keeps.refl _ _)
  · rw [if_neg h1] at hq
    refine br_f (by rw [bne_eq_false_iff_eq]; omega) (br_f (decide_eq_false (by omega)) ?_)
    by_cases h2 : s.length > 65536
    · rw [if_pos h2] at hq
      exact br_t (decide_eq_true (by omega)) (hq h (Keeps.refl _ _))
    · rw [if_neg h2] at hq
      refine br_f (decide_eq_false (by omega)) (lines_ref du (by omega) ?_)
      unfold asmT at hq
      cases hl : linesGo 0 [] (split s) with
      | inl n =>
        rw [hl] at hq
        exact fun g k => br_t rfl (hq g k)
      | inr l =>
        rw [hl] at hq
        refine fun g sl R k => br_f rfl ?_
        exact tot_loop (Lns.mk R.held) (linesGo_bound (by omega) hl) (linesGo_ok hl (fun x hx => by cases hx)) (resQ_mono k hq)

/-- A program's mark. -/
def markOf (s : Str) (base : Nat) (m : Str) : Option Int := match asm s base with
  | .ok l _ => if findV l m < 0 then none else some (IntKind.u64.wrap ((base : Int) + IntKind.u64.wrap (4 * IntKind.u64.wrap (findV l m))))
  | _ => none

theorem asm_ok {s : Str} {base : Nat} {l : List Ln} {out : List Int} (h : asm s base = .ok l out) : s.length ≤ 65536 ∧ linesGo 0 [] (split s) = .inr l := by
  unfold asm at h
  split at h
  · cases h
  · split at h
    · cases h
    · unfold asmT asmL at h
      split at h
      · cases h
      · rename_i l' hl
        split at h
        · cases h
        · split at h
          · cases h
          · cases h; exact ⟨by omega, hl⟩

theorem Mark_ref (du : DecAt 10 U) {s m : Str} {base : Nat} {Q : Int → Bool → Heap → Prop} (hq : ∀ g, Keeps none_ h g → match markOf s base m with | some v => Q v true g | none => Q 0 false g) : zf42 U s (base : Int) m Q h := by
  unfold zf42
  refine Assemble_ref du ?_
  unfold markOf at hq
  cases ha : asm s base with
  | arg => rw [ha] at hq; exact fun g k => br_t rfl (hq g k)
  | big => rw [ha] at hq; exact fun g k => br_t rfl (hq g k)
  | form n => rw [ha] at hq; exact fun g k => br_t rfl (hq g k)
  | ok l out =>
    rw [ha] at hq
    obtain ⟨hs, hl⟩ := asm_ok ha
    refine fun g sl R k => br_f rfl (lines_ref du (by omega) ?_)
    rw [hl]
    intro g2 sl2 R2 k2
    refine find_ref (Lns.mk R2.held) (linesGo_bound (by omega) hl) (linesGo_ok hl (fun x hx => by cases hx)) ?_
    have hq := hq g2 (k.trans k2)
    unfold zf42.j6
    simp only at hq
    by_cases hv : findV l m < 0
    · rw [if_pos hv] at hq
      exact br_t (decide_eq_true hv) hq
    · rw [if_neg hv] at hq
      exact br_f (decide_eq_false hv) hq

end
end Go.Asm
