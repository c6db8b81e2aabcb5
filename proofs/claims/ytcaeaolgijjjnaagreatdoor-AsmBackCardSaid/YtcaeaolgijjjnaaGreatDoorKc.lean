/- The assembler: what a text says. No program in sight. -/
import Derived.Test.YtcaeaolgijjjnaaGreatDoorKb
import Derived.Test.YtcaeaolgijjjnaaGreatDoorKa

set_option linter.unusedSimpArgs false
set_option linter.unusedVariables false
set_option maxRecDepth 100000
namespace Go.Asm
open Go.Lift Go.Fn Go.Insn

abbrev Str := List UInt8

def isSep (b : UInt8) : Bool := b == 32 || (b == 44 || (b == 9 || (b == 40 || b == 41)))

/-- The words of a line; w: the word that is being read. -/
def wordsGo : Str → Str → List Str
  | w, [] => if w.isEmpty then [] else [w]
  | w, b :: s => if b == 35 then (if w.isEmpty then [] else [w]) else if isSep b then (if w.isEmpty then wordsGo [] s else w :: wordsGo [] s) else wordsGo (w ++ [b]) s

def isDig (b : UInt8) : Bool := decide (48 ≤ b.toNat) && decide (b.toNat ≤ 57)
def valGo (v : Nat) (d : Str) : Nat := d.foldl (fun v b => v * 10 + (b.toNat - 48)) v

/-- What stands behind a minus. -/
def unsign : Str → Str
  | [] => []
  | b :: d => if b == 45 then d else b :: d

def numOk (s : Str) : Bool := decide (1 ≤ (unsign s).length) && (decide ((unsign s).length ≤ 15) && (!((unsign s).getD 0 0 == 48 && s != [48]) && (unsign s).all isDig))
def numVal (s : Str) : Int := if s.getD 0 0 == 45 then -(valGo 0 (unsign s) : Int) else (valGo 0 (unsign s) : Int)
def numOf (s : Str) : Option Int := if numOk s then some (numVal s) else none

def regV : Option Int → Int
  | some v => if 0 ≤ v ∧ v ≤ 15 then v else -1
  | none => -1

/-- The register of a word; -1: none. -/
def regOf : Str → Int
  | [] => -1
  | b :: d => if b == 120 then regV (numOf d) else -1

def nameCh (b : UInt8) : Bool := (decide (97 ≤ b.toNat) && decide (b.toNat ≤ 122)) || (isDig b || b == 95)
def nameOk (s : Str) : Bool := decide (1 ≤ s.length) && (decide (s.length ≤ 30) && (s.all nameCh && (!isDig (s.getD 0 0) && decide (regOf s < 0))))

def opOf (s : Str) : Nat := if namesL.idxOf s < 48 then namesL.idxOf s + 1 else 0

structure Ins where
  op : Int
  rd : Int
  rs1 : Int
  rs2 : Int
  imm : Int

def opnd (x : Ins) (want : Str) (c : UInt8) (w : Str) : Option (Ins × Str) :=
  if c = 100 then (if regOf w < 0 then none else some (⟨x.op, regOf w, x.rs1, x.rs2, x.imm⟩, want))
  else if c = 97 then (if regOf w < 0 then none else some (⟨x.op, x.rd, regOf w, x.rs2, x.imm⟩, want))
  else if c = 98 then (if regOf w < 0 then none else some (⟨x.op, x.rd, x.rs1, regOf w, x.imm⟩, want))
  else match numOf w with
    | some v => some (⟨x.op, x.rd, x.rs1, x.rs2, v⟩, want)
    | none => if c = 109 ∧ nameOk w = true then some (⟨x.op, x.rd, x.rs1, x.rs2, 0⟩, w) else none

def opnds : List UInt8 → List Str → Ins → Str → Option (Ins × Str)
  | [], [], x, want => some (x, want)
  | c :: cs, w :: ws, x, want => match opnd x want c w with
    | some (x', want') => opnds cs ws x' want'
    | none => none
  | _, _, _, _ => none

inductive Body where
  | blank
  | fill (n v : Nat)
  | ins (x : Ins) (want : Str)

def Body.words : Body → Nat
  | .blank => 0
  | .fill n _ => n
  | .ins _ _ => 1

def dotWord : Str := [46, 119, 111, 114, 100]
def dotFill : Str := [46, 102, 105, 108, 108]

def wordB : Option Int → Option Body
  | some n => if -2147483648 ≤ n ∧ n ≤ 4294967295 then some (.fill 1 (n % 4294967296).toNat) else none
  | none => none
def fillB : Option Int → Option Body
  | some n => if 0 ≤ n ∧ n ≤ 4096 then some (.fill n.toNat 0) else none
  | none => none

def readB : List Str → Option Body
  | [] => some .blank
  | w :: ws =>
    if w = dotWord ∨ w = dotFill then (match ws with
      | [a] => if w = dotFill then fillB (numOf a) else wordB (numOf a)
      | _ => none)
    else if opOf w = 0 then none
    else match opnds (ordOf (opOf w : Int)) ws ⟨opOf w, 0, 0, 0, 0⟩ [] with
      | some (x, want) => some (.ins x want)
      | none => none

structure Ln where
  mark : Str
  body : Body

def withMark (m : Str) : Option Body → Option Ln
  | some b => some ⟨m, b⟩
  | none => none

def readW : List Str → Option Ln
  | [] => some ⟨[], .blank⟩
  | w :: ws => if w.getLast? = some 58 then (if nameOk w.dropLast then withMark w.dropLast (readB ws) else none) else withMark [] (readB (w :: ws))

def readL (s : Str) : Option Ln := readW (wordsGo [] s)

/-- The lines that were read, or the first that is none. -/
def linesGo : Nat → List Ln → List Str → Nat ⊕ List Ln
  | _, done, [] => .inr done
  | n, done, s :: ss => match readL s with
    | none => .inl n
    | some x => if x.mark ≠ [] ∧ x.mark ∈ done.map (·.mark) then .inl n else linesGo (n + 1) (done ++ [x]) ss

def split : Str → List Str
  | [] => [[]]
  | b :: s => if b == 10 then [] :: split s else match split s with
    | l :: ls => (b :: l) :: ls
    | [] => [[b]]

def total (l : List Ln) : Nat := (l.map (·.body.words)).sum

/-- The place of a mark, in words. -/
def place (m : Str) : List Ln → Option Nat
  | [] => none
  | x :: l => if x.mark = m then some 0 else (place m l).map (· + x.body.words)

def immOf (all : List Ln) (x : Ins) (want : Str) (n : Nat) : Option Int :=
  if want = [] then some x.imm else match place want all with
    | some p => some ((p : Int) - (n : Int))
    | none => none

def encGo (all : List Ln) : Nat → List Int → List Ln → Nat ⊕ List Int
  | _, out, [] => .inr out
  | n, out, x :: l => match x.body with
    | .blank => encGo all (n + 1) out l
    | .fill k v => encGo all (n + 1) (out ++ List.replicate k (v : Int)) l
    | .ins x want => match immOf all x want out.length with
      | none => .inl n
      | some v => if (encOf x.op x.rd x.rs1 x.rs2 v).2 ≠ 0 then .inl n else encGo all (n + 1) (out ++ [(encOf x.op x.rd x.rs1 x.rs2 v).1]) l

inductive Res where
  | ok (l : List Ln) (out : List Int)
  | arg
  | big
  | form (line : Nat)

def asmL (l : List Ln) : Res :=
  if total l > 16384 then .big else match encGo l 0 [] l with
    | .inl n => .form n
    | .inr out => .ok l out

def asmT (text : Str) : Res := match linesGo 0 [] (split text) with
  | .inl n => .form n
  | .inr l => asmL l

def asm (text : Str) (base : Nat) : Res :=
  if base % 4 ≠ 0 ∨ base > 1099511627776 then .arg else if text.length > 65536 then .big else asmT text

end Go.Asm

set_option linter.unusedSimpArgs false
set_option linter.unusedVariables false
set_option maxRecDepth 100000
namespace Go.Asm
open Go.Lift Go.Fn Go.Insn

theorem isDig_iff {b : UInt8} : isDig b = true ↔ 48 ≤ b.toNat ∧ b.toNat ≤ 57 := by
  unfold isDig; simp

theorem valGo_lt : ∀ (d : Str) (v : Nat), d.all isDig = true → valGo v d < (v + 1) * 10 ^ d.length
  | [], v, _ => by simp [valGo]
  | b :: d, v, h => by
    simp only [List.all_cons, Bool.and_eq_true, isDig_iff] at h
    have := valGo_lt d (v * 10 + (b.toNat - 48)) h.2
    have e : valGo v (b :: d) = valGo (v * 10 + (b.toNat - 48)) d := rfl
    rw [e, List.length_cons, Nat.pow_succ]
    refine Nat.lt_of_lt_of_le this ?_
    rw [Nat.mul_comm (10 ^ d.length) 10, ← Nat.mul_assoc]
    exact Nat.mul_le_mul_right _ (by omega)

theorem numVal_bound {s : Str} (h : numOk s = true) : (numVal s).natAbs < 1000000000000000 := by
  unfold numOk at h
  simp only [Bool.and_eq_true, decide_eq_true_eq] at h
  obtain ⟨h1, h2, _, h4⟩ := h
  have := valGo_lt (unsign s) 0 h4
  have hp : (10 : Nat) ^ (unsign s).length ≤ 10 ^ 15 := Nat.pow_le_pow_right (by decide) h2
  unfold numVal
  split <;> omega

theorem byte_eq {b : UInt8} {n : Nat} (h : b.toNat = n) (hn : n < 256) : b = UInt8.ofNat n := by
  apply UInt8.toNat_inj.1
  rw [h]; simp; omega

theorem itoa_nat {i : Nat} : Lib.itoa (i : Int) = Lib.decDigits i := by
  unfold Lib.itoa
  rw [if_neg (by omega)]; simp

theorem regOf_itoa {i : Nat} (hi : i < 16) : regOf (120 :: Lib.itoa (i : Int)) = i := by
  rw [itoa_nat]
  by_cases h : i < 10
  · rw [Lib.decDigits_one h]
    rcases (by omega : i = 0 ∨ i = 1 ∨ i = 2 ∨ i = 3 ∨ i = 4 ∨ i = 5 ∨ i = 6 ∨ i = 7 ∨ i = 8 ∨ i = 9) with rfl | rfl | rfl | rfl | rfl | rfl | rfl | rfl | rfl | rfl <;> decide
  · rw [Lib.decDigits_two h (by omega)]
    rcases (by omega : i = 10 ∨ i = 11 ∨ i = 12 ∨ i = 13 ∨ i = 14 ∨ i = 15) with rfl | rfl | rfl | rfl | rfl | rfl <;> decide

theorem regOf_range (s : Str) : -1 ≤ regOf s ∧ regOf s ≤ 15 := by
  cases s with
  | nil => decide
  | cons b d =>
    show -1 ≤ (if (b == 120) = true then regV (numOf d) else -1) ∧ (if (b == 120) = true then regV (numOf d) else -1) ≤ 15
    by_cases hb : (b == 120) = true
    · rw [if_pos hb]
      cases numOf d with
      | none => decide
      | some v => unfold regV; simp only; split <;> omega
    · rw [if_neg hb]; decide

theorem opOf_le (s : Str) : opOf s ≤ 48 := by
  unfold opOf
  split <;> omega

end Go.Asm

set_option linter.unusedSimpArgs false
set_option linter.unusedVariables false
set_option maxRecDepth 100000
namespace Go.Asm
open Go.Lift Go.Fn Go.Insn

theorem drop_cons {d : Str} {i : Nat} {b : UInt8} {r : Str} (h : d.drop i = b :: r) : i < d.length ∧ d.getD i 0 = b ∧ d.drop (i + 1) = r := by
  have hi : i < d.length := by
    rcases Nat.lt_or_ge i d.length with h1 | h1
    · exact h1
    · rw [List.drop_eq_nil_of_le h1] at h; cases h
  rw [List.drop_eq_getElem_cons hi] at h
  injection h with h1 h2
  refine ⟨hi, ?_, h2⟩
  rw [List.getD_eq_getElem?_getD, List.getElem?_eq_getElem hi]
  exact h1

theorem drop_nil {d : Str} {i : Nat} (h : d.drop i = []) : d.length ≤ i := by
  have := congrArg List.length h
  rw [List.length_drop] at this
  simp at this; omega

theorem u8eq {b : UInt8} {n : Nat} (hn : n < 256) : (((b.toNat : Nat) : Int) == (n : Int)) = (b == UInt8.ofNat n) := by
  by_cases e : b = UInt8.ofNat n
  · subst e
    rw [beq_self_eq_true, u8n' hn]
    exact beq_self_eq_true _
  · rw [beq_false_of_ne e]
    exact beq_false_of_ne (fun hh => e (byte_eq (by omega) hn))
where u8n' {n : Nat} (h : n < 256) : (UInt8.ofNat n).toNat = n := by simp; omega

section
variable {h : Heap}

end

section
variable {U : Ifc} {h : Heap}

end
end Go.Asm

set_option linter.unusedSimpArgs false
set_option linter.unusedVariables false
set_option maxRecDepth 100000
namespace Go.Asm
open Go.Lift Go.Fn Go.Insn

theorem wordsGo_end (w : Str) : wordsGo w [] = if w.isEmpty then [] else [w] := rfl
theorem wordsGo_cons (w : Str) (b : UInt8) (s : Str) : wordsGo w (b :: s) = if b == 35 then (if w.isEmpty then [] else [w]) else if isSep b then (if w.isEmpty then wordsGo [] s else w :: wordsGo [] s) else wordsGo (w ++ [b]) s := rfl

section
variable {h : Heap}

end
end Go.Asm

set_option linter.unusedSimpArgs false
set_option linter.unusedVariables false
set_option maxRecDepth 100000
namespace Go.Asm
open Go.Lift Go.Fn Go.Insn

/-- A line's cells. -/
def lineL (n : Int) (m : Str) (k : Int) (is : Bool) (op rd rs1 rs2 imm : Int) (want : Str) (v : Int) : List V := [.int .i64 n, .str m, .int .i64 k, .bool is, .int .i64 op, .int .i64 rd, .int .i64 rs1, .int .i64 rs2, .int .i64 imm, .str want, .int .u32 v]

section
variable {U : Ifc} {h0 h g : Heap} {W : Nat → Prop} {L : List (Nat × HO)} {i : Nat}

theorem opnds_len : ∀ {cs : List UInt8} {ws : List Str} {x : Ins} {want : Str}, cs.length ≠ ws.length → opnds cs ws x want = none
  | [], [], _, _, h => absurd rfl h
  | [], _ :: _, _, _, _ => rfl
  | _ :: _, [], _, _, _ => rfl
  | c :: cs, w :: ws, x, want, h => by
    unfold opnds
    cases opnd x want c w with
    | none => rfl
    | some p => exact opnds_len (by simpa using h)

theorem ord_chars {n : Nat} (hn : n < 64) : ∀ c ∈ ordOf (n : Int), c = 100 ∨ c = 97 ∨ c = 98 ∨ c = 105 ∨ c = 109 := by
  have key : ∀ n : Fin 64, ((ordOf ((n.val : Nat) : Int)).all fun c => decide (c = 100 ∨ c = 97 ∨ c = 98 ∨ c = 105 ∨ c = 109)) = true := by decide +kernel
  intro c hc
  have := List.all_eq_true.1 (key ⟨n, hn⟩) c hc
  simpa using this

end
end Go.Asm

set_option linter.unusedSimpArgs false
set_option linter.unusedVariables false
set_option maxRecDepth 100000
namespace Go.Asm
open Go.Lift Go.Fn Go.Insn

theorem opnds_cons (c : UInt8) (cs : List UInt8) (w : Str) (ws : List Str) (x : Ins) (want : Str) : opnds (c :: cs) (w :: ws) x want = match opnd x want c w with | some (x', want') => opnds cs ws x' want' | none => none := rfl

theorem opnd_d (x : Ins) (want w : Str) : opnd x want 100 w = if regOf w < 0 then none else some (⟨x.op, regOf w, x.rs1, x.rs2, x.imm⟩, want) := rfl
theorem opnd_a (x : Ins) (want w : Str) : opnd x want 97 w = if regOf w < 0 then none else some (⟨x.op, x.rd, regOf w, x.rs2, x.imm⟩, want) := rfl
theorem opnd_b (x : Ins) (want w : Str) : opnd x want 98 w = if regOf w < 0 then none else some (⟨x.op, x.rd, x.rs1, regOf w, x.imm⟩, want) := rfl
theorem opnd_i (x : Ins) (want w : Str) : opnd x want 105 w = match numOf w with | some v => some (⟨x.op, x.rd, x.rs1, x.rs2, v⟩, want) | none => none := rfl
theorem opnd_m (x : Ins) (want w : Str) : opnd x want 109 w = match numOf w with | some v => some (⟨x.op, x.rd, x.rs1, x.rs2, v⟩, want) | none => if nameOk w = true then some (⟨x.op, x.rd, x.rs1, x.rs2, 0⟩, w) else none := by
  show (match numOf w with | some v => some _ | none => if (109 : UInt8) = 109 ∧ nameOk w = true then _ else _) = _
  cases numOf w with
  | some v => rfl
  | none => simp

section
variable {U : Ifc} {h g : Heap}

end
end Go.Asm

set_option linter.unusedSimpArgs false
set_option linter.unusedVariables false
set_option maxRecDepth 100000
namespace Go.Asm
open Go.Lift Go.Fn Go.Insn

theorem readB_cons (w : Str) (ws : List Str) : readB (w :: ws) =
    if w = dotWord ∨ w = dotFill then (match ws with | [a] => if w = dotFill then fillB (numOf a) else wordB (numOf a) | _ => none)
    else if opOf w = 0 then none
    else match opnds (ordOf (opOf w : Int)) ws ⟨opOf w, 0, 0, 0, 0⟩ [] with
      | some (x, want) => some (.ins x want)
      | none => none := rfl

section
variable {U : Ifc} {h g : Heap}

theorem words_len : ∀ (s w : Str), ∀ u ∈ wordsGo w s, u.length ≤ w.length + s.length
  | [], w, u, hu => by
    rw [wordsGo_end] at hu
    split at hu
    · cases hu
    · rw [List.mem_singleton.1 hu]; simp
  | b :: s, w, u, hu => by
    rw [wordsGo_cons] at hu
    split at hu
    · split at hu
      · cases hu
      · rw [List.mem_singleton.1 hu]; omega
    · split at hu
      · split at hu
        · have := words_len s [] u hu; simp at this ⊢; omega
        · rcases List.mem_cons.1 hu with rfl | hu
          · omega
          · have := words_len s [] u hu; simp at this ⊢; omega
      · have := words_len s (w ++ [b]) u hu; simp at this ⊢; omega

theorem words_ne : ∀ (s w : Str), ∀ u ∈ wordsGo w s, u ≠ []
  | [], w, u, hu => by
    rw [wordsGo_end] at hu
    split at hu
    · cases hu
    · rename_i h1
      rw [List.mem_singleton.1 hu]; simpa using h1
  | b :: s, w, u, hu => by
    rw [wordsGo_cons] at hu
    split at hu
    · split at hu
      · cases hu
      · rename_i h1
        rw [List.mem_singleton.1 hu]; simpa using h1
    · split at hu
      · split at hu
        · exact words_ne s [] u hu
        · rename_i h1
          rcases List.mem_cons.1 hu with rfl | hu
          · simpa using h1
          · exact words_ne s [] u hu
      · exact words_ne s (w ++ [b]) u hu

theorem last_is {w : Str} (hw : w ≠ []) : w.getLast? = some (w.getD (w.length - 1) 0) := by
  rw [List.getLast?_eq_getElem?, List.getD_eq_getElem?_getD, List.getElem?_eq_getElem (by have := List.length_pos_iff.2 hw; omega)]
  rfl

end
end Go.Asm

set_option linter.unusedSimpArgs false
set_option linter.unusedVariables false
set_option maxRecDepth 100000
namespace Go.Asm
open Go.Lift Go.Fn Go.Insn

section
variable {h : Heap}

end
end Go.Asm

set_option linter.unusedSimpArgs false
set_option linter.unusedVariables false
set_option maxRecDepth 100000
namespace Go.Asm
open Go.Lift Go.Fn Go.Insn

theorem split_ne : ∀ s : Str, split s ≠ []
  | [] => by simp [split]
  | b :: s => by
    unfold split
    split
    · simp
    · split <;> simp

theorem split_cons (b : UInt8) (s : Str) : split (b :: s) = if b == 10 then [] :: split s else match split s with
    | l :: ls => (b :: l) :: ls
    | [] => [[b]] := rfl

theorem split_count : ∀ s : Str, (split s).length ≤ s.length + 1
  | [] => by simp [split]
  | b :: s => by
    have ih := split_count s
    rw [split_cons]
    split
    · simp; omega
    · cases hs : split s with
      | nil => simp
      | cons l ls => rw [hs] at ih; simp at ih ⊢; omega

theorem split_len : ∀ (s : Str), ∀ l ∈ split s, l.length ≤ s.length
  | [], l, hl => by simp [split] at hl; simp [hl]
  | b :: s, l, hl => by
    rw [split_cons] at hl
    split at hl
    · rcases List.mem_cons.1 hl with rfl | hl
      · simp
      · have := split_len s l hl; simp; omega
    · cases hs : split s with
      | nil => exact absurd hs (split_ne s)
      | cons a t2 =>
        rw [hs] at hl
        rcases List.mem_cons.1 hl with rfl | hl
        · have := split_len s a (by rw [hs]; exact List.mem_cons_self); simp; omega
        · have := split_len s l (by rw [hs]; exact List.mem_cons_of_mem _ hl); simp; omega

/-- The cells of the reference's lines. -/
def lnCells (n : Nat) : Ln → List V
  | ⟨m, .blank⟩ => lineL n m 0 false 0 0 0 0 0 [] 0
  | ⟨m, .fill k v⟩ => lineL n m k false 0 0 0 0 0 [] v
  | ⟨m, .ins y want⟩ => lineL n m 1 true y.op y.rd y.rs1 y.rs2 y.imm want 0

theorem lnCells_length (n : Nat) (x : Ln) : (lnCells n x).length = 11 := by
  obtain ⟨m, b⟩ := x
  cases b <;> rfl

def rowFrom : Nat → List Ln → List V
  | _, [] => []
  | n, x :: l => lnCells n x ++ rowFrom (n + 1) l

theorem rowFrom_length : ∀ (l : List Ln) (n : Nat), (rowFrom n l).length = l.length * 11
  | [], _ => rfl
  | x :: l, n => by
    unfold rowFrom
    rw [List.length_append, lnCells_length, rowFrom_length l (n + 1), List.length_cons]
    omega

theorem rowFrom_get : ∀ (l : List Ln) (n i : Nat) (x : Ln), l[i]? = some x → ((rowFrom n l).drop (i * 11)).take 11 = lnCells (n + i) x
  | [], _, _, _, h => by cases h
  | y :: l, n, 0, x, h => by
    cases h
    show ((lnCells n y ++ rowFrom (n + 1) l).drop (0 * 11)).take 11 = _
    rw [Nat.zero_mul, List.drop_zero, List.take_left' (lnCells_length n y)]
    rfl
  | y :: l, n, i + 1, x, h => by
    have := rowFrom_get l (n + 1) i x (by simpa using h)
    show ((lnCells n y ++ rowFrom (n + 1) l).drop ((i + 1) * 11)).take 11 = _
    have e : (i + 1) * 11 = (lnCells n y).length + i * 11 := by rw [lnCells_length]; omega
    rw [e, List.drop_append, List.drop_eq_nil_of_le (Nat.le_add_right _ _), List.nil_append, Nat.add_sub_cancel_left, this, show n + 1 + i = n + (i + 1) by omega]

/-- What is known of a line that was read. -/
def InsOk (x : Ins) : Prop := (1 ≤ x.op ∧ x.op ≤ 48) ∧ (0 ≤ x.rd ∧ x.rd < 16) ∧ (0 ≤ x.rs1 ∧ x.rs1 < 16) ∧ (0 ≤ x.rs2 ∧ x.rs2 < 16) ∧ (rshape x.op = 5 → x.rs1 = 0 ∧ x.rs2 = 0) ∧ x.imm.natAbs < 1000000000000000

def BodyOk : Body → Prop
  | .blank => True
  | .fill n v => n ≤ 4096 ∧ v < 4294967296
  | .ins x _ => InsOk x

theorem BodyOk.words {b : Body} (h : BodyOk b) : b.words ≤ 4096 := by
  cases b with
  | blank => exact Nat.zero_le _
  | fill n v => exact h.1
  | ins x w => show 1 ≤ 4096; decide

theorem opnd_ok {x x' : Ins} {want want' w : Str} {c : UInt8} (h : opnd x want c w = some (x', want')) (h1 : 0 ≤ x.rd ∧ x.rd < 16) (h2 : 0 ≤ x.rs1 ∧ x.rs1 < 16) (h3 : 0 ≤ x.rs2 ∧ x.rs2 < 16) (h4 : x.imm.natAbs < 1000000000000000) :
    x'.op = x.op ∧ (0 ≤ x'.rd ∧ x'.rd < 16) ∧ (0 ≤ x'.rs1 ∧ x'.rs1 < 16) ∧ (0 ≤ x'.rs2 ∧ x'.rs2 < 16) ∧ (c ≠ 97 → x'.rs1 = x.rs1) ∧ (c ≠ 98 → x'.rs2 = x.rs2) ∧ x'.imm.natAbs < 1000000000000000 := by
  have hr := regOf_range w
  unfold opnd at h
  split at h
  · split at h
    · cases h
    · cases h; exact ⟨rfl, ⟨by show 0 ≤ regOf w; omega, by show regOf w < 16; omega⟩, h2, h3, fun _ => rfl, fun _ => rfl, h4⟩
  · split at h
    · rename_i hc
      split at h
      · cases h
      · cases h; exact ⟨rfl, h1, ⟨by show 0 ≤ regOf w; omega, by show regOf w < 16; omega⟩, h3, fun e => absurd hc e, fun _ => rfl, h4⟩
    · split at h
      · rename_i hc
        split at h
        · cases h
        · cases h; exact ⟨rfl, h1, h2, ⟨by show 0 ≤ regOf w; omega, by show regOf w < 16; omega⟩, fun _ => rfl, fun e => absurd hc e, h4⟩
      · split at h
        · rename_i v hn
          cases h
          refine ⟨rfl, h1, h2, h3, fun _ => rfl, fun _ => rfl, ?_⟩
          unfold numOf at hn
          split at hn
          · rename_i ho; cases hn; exact numVal_bound ho
          · cases hn
        · split at h
          · cases h; exact ⟨rfl, h1, h2, h3, fun _ => rfl, fun _ => rfl, by show Int.natAbs 0 < _; decide⟩
          · cases h

theorem opnds_ok : ∀ {cs : List UInt8} {ws : List Str} {x x' : Ins} {want want' : Str}, opnds cs ws x want = some (x', want') → (0 ≤ x.rd ∧ x.rd < 16) → (0 ≤ x.rs1 ∧ x.rs1 < 16) → (0 ≤ x.rs2 ∧ x.rs2 < 16) → x.imm.natAbs < 1000000000000000 →
    x'.op = x.op ∧ (0 ≤ x'.rd ∧ x'.rd < 16) ∧ (0 ≤ x'.rs1 ∧ x'.rs1 < 16) ∧ (0 ≤ x'.rs2 ∧ x'.rs2 < 16) ∧ (97 ∉ cs → x'.rs1 = x.rs1) ∧ (98 ∉ cs → x'.rs2 = x.rs2) ∧ x'.imm.natAbs < 1000000000000000
  | [], [], x, x', want, want', h, h1, h2, h3, h4 => by cases h; exact ⟨rfl, h1, h2, h3, fun _ => rfl, fun _ => rfl, h4⟩
  | [], _ :: _, _, _, _, _, h, _, _, _, _ => by cases h
  | _ :: _, [], _, _, _, _, h, _, _, _, _ => by cases h
  | c :: cs, w :: ws, x, x', want, want', h, h1, h2, h3, h4 => by
    rw [opnds_cons] at h
    cases ho : opnd x want c w with
    | none => rw [ho] at h; cases h
    | some p =>
      obtain ⟨y, wy⟩ := p
      rw [ho] at h
      obtain ⟨a1, a2, a3, a4, a5, a6, a7⟩ := opnd_ok ho h1 h2 h3 h4
      obtain ⟨b1, b2, b3, b4, b5, b6, b7⟩ := opnds_ok h a2 a3 a4 a7
      refine ⟨b1.trans a1, b2, b3, b4, fun hn => ?_, fun hn => ?_, b7⟩
      · rw [b5 (fun hm => hn (List.mem_cons_of_mem _ hm)), a5 (fun e => hn (by rw [e]; exact List.mem_cons_self))]
      · rw [b6 (fun hm => hn (List.mem_cons_of_mem _ hm)), a6 (fun e => hn (by rw [e]; exact List.mem_cons_self))]

theorem shape5_ord {n : Nat} (hn : n < 64) (h : rshape (n : Int) = 5) : 97 ∉ ordOf (n : Int) ∧ 98 ∉ ordOf (n : Int) := by
  have key : ∀ n : Fin 64, rshape ((n.val : Nat) : Int) = 5 → 97 ∉ ordOf ((n.val : Nat) : Int) ∧ 98 ∉ ordOf ((n.val : Nat) : Int) := by decide +kernel
  exact key ⟨n, hn⟩ h

theorem readB_ok {ws : List Str} {b : Body} (h : readB ws = some b) : BodyOk b := by
  cases ws with
  | nil => cases h; trivial
  | cons w ws =>
    rw [readB_cons] at h
    split at h
    · match ws, h with
      | [], h => cases h
      | _ :: _ :: _, h => cases h
      | [a], h =>
        simp only at h
        split at h
        · unfold fillB at h
          split at h
          · split at h
            · cases h; exact ⟨by omega, by decide⟩
            · cases h
          · cases h
        · unfold wordB at h
          split at h
          · split at h
            · cases h; exact ⟨by decide, by omega⟩
            · cases h
          · cases h
    · split at h
      · cases h
      · rename_i h0
        cases ho : opnds (ordOf (opOf w : Int)) ws ⟨opOf w, 0, 0, 0, 0⟩ [] with
        | none => rw [ho] at h; cases h
        | some p =>
          obtain ⟨x, want⟩ := p
          rw [ho] at h
          cases h
          have hle := opOf_le w
          obtain ⟨a1, a2, a3, a4, a5, a6, a7⟩ := opnds_ok ho (by show (0 : Int) ≤ 0 ∧ (0 : Int) < 16; decide) (by show (0 : Int) ≤ 0 ∧ (0 : Int) < 16; decide) (by show (0 : Int) ≤ 0 ∧ (0 : Int) < 16; decide) (by show Int.natAbs 0 < _; decide)
          have a1 : x.op = ((opOf w : Nat) : Int) := a1
          refine ⟨by omega, a2, a3, a4, fun h5 => ?_, a7⟩
          rw [a1] at h5
          have := shape5_ord (by omega) h5
          exact ⟨a5 this.1, a6 this.2⟩

theorem readL_ok {s : Str} {x : Ln} (h : readL s = some x) : BodyOk x.body := by
  unfold readL readW at h
  have wm : ∀ {m : Str} {o : Option Body}, withMark m o = some x → o = some x.body := by
    intro m o h
    cases o with
    | none => cases h
    | some b => cases h; rfl
  split at h
  · cases h; trivial
  · split at h
    · split at h
      · exact readB_ok (wm h)
      · cases h
    · exact readB_ok (wm h)

theorem linesGo_ok : ∀ {ss : List Str} {n : Nat} {done l : List Ln}, linesGo n done ss = .inr l → (∀ x ∈ done, BodyOk x.body) → ∀ x ∈ l, BodyOk x.body
  | [], n, done, l, h, hd => by cases h; exact hd
  | s :: ss, n, done, l, h, hd => by
    unfold linesGo at h
    split at h
    · cases h
    · rename_i x hx
      split at h
      · cases h
      · refine linesGo_ok h (fun y hy => ?_)
        rcases List.mem_append.1 hy with hy | hy
        · exact hd y hy
        · rw [List.mem_singleton.1 hy]; exact readL_ok hx

theorem linesGo_len : ∀ {ss : List Str} {n : Nat} {done l : List Ln}, linesGo n done ss = .inr l → l.length = done.length + ss.length
  | [], n, done, l, h => by cases h; rfl
  | s :: ss, n, done, l, h => by
    unfold linesGo at h
    split at h
    · cases h
    · split at h
      · cases h
      · have := linesGo_len h
        simp at this ⊢; omega

end Go.Asm

set_option linter.unusedSimpArgs false
set_option linter.unusedVariables false
set_option maxRecDepth 100000
namespace Go.Asm
open Go.Lift Go.Fn Go.Insn

theorem linesGo_cons (n : Nat) (done : List Ln) (s : Str) (ss : List Str) : linesGo n done (s :: ss) = match readL s with
    | none => .inl n
    | some x => if x.mark ≠ [] ∧ x.mark ∈ done.map (·.mark) then .inl n else linesGo (n + 1) (done ++ [x]) ss := rfl

/-- Lines that may be read. -/
structure Lns (g : Heap) (sl : Sl) (l : List Ln) : Prop where
  held : Held g sl 11 (rowFrom 0 l)

section
variable {U : Ifc} {h g g' : Heap} {sl : Sl} {l : List Ln} {x : Ln} {i : Nat}

theorem Lns.len (H : Lns g sl l) : sl.len = l.length := by
  have := H.held.len
  rw [rowFrom_length] at this
  omega

theorem Lns.keep (H : Lns g sl l) (k : Keeps none_ g g') : Lns g' sl l := ⟨H.held.keeps k (fun _ _ f => f)⟩

theorem Lns.get (H : Lns g sl l) (hi : l[i]? = some x) : ∃ p, sl.p = some p ∧ ∀ j, j < 11 → g.get p.b (p.o + i * 11 + j) = (lnCells i x)[j]? := by
  have hlt : i < l.length := by
    rcases Nat.lt_or_ge i l.length with h1 | h1
    · exact h1
    · rw [List.getElem?_eq_none h1] at hi; cases hi
  cases hp : sl.p with
  | none => have := H.held.nil hp; have := H.len; omega
  | some p =>
    refine ⟨p, rfl, fun j hj => ?_⟩
    have hr := rowFrom_get l 0 i x hi
    rw [Nat.zero_add] at hr
    rw [← hr, List.getElem?_take_of_lt hj, List.getElem?_drop]
    have hl : i * 11 + j < (rowFrom 0 l).length := by rw [rowFrom_length]; omega
    rw [List.getElem?_eq_getElem hl, Nat.add_assoc]
    exact H.held.row p hp (i * 11 + j) _ (List.getElem?_eq_getElem hl)

theorem Lns.ix (H : Lns g sl l) (hi : l[i]? = some x) {κ : Nat → Prop} (hk : κ i) : ix (i : Int) sl.len κ := by
  have hlt : i < l.length := by
    rcases Nat.lt_or_ge i l.length with h1 | h1
    · exact h1
    · rw [List.getElem?_eq_none h1] at hi; cases hi
  exact ix_of (by omega) (by rw [H.len]; omega) (by rw [Int.toNat_natCast]; exact hk)

theorem mark_cell (n : Nat) (x : Ln) : (lnCells n x)[1]? = some (.str x.mark) := by
  obtain ⟨m, b⟩ := x; cases b <;> rfl
theorem words_cell (n : Nat) (x : Ln) : (lnCells n x)[2]? = some (.int .i64 x.body.words) := by
  obtain ⟨m, b⟩ := x; cases b <;> rfl

theorem Lns.mark (H : Lns g sl l) (hi : l[i]? = some x) {κ : Str → Prop} (hk : κ x.mark) : der sl.p (fun p => rdStr ((p.add (i * 11)).add 1) κ g) := by
  obtain ⟨p, hp, hg⟩ := H.get hi
  rw [hp, der_some]
  exact rdStr_of ((hg 1 (by decide)).trans (mark_cell i x)) hk

theorem Lns.words (H : Lns g sl l) (hi : l[i]? = some x) {κ : Int → Prop} (hk : κ (x.body.words : Int)) : der sl.p (fun p => rdI .i64 ((p.add (i * 11)).add 2) κ g) := by
  obtain ⟨p, hp, hg⟩ := H.get hi
  rw [hp, der_some]
  exact rdI_of ((hg 2 (by decide)).trans (words_cell i x)) hk

theorem take_one {s : Str} {a i : Nat} {b : UInt8} (hai : a ≤ i) (hi : i < s.length) (hb : s.getD i 0 = b) : (s.drop a).take (i + 1 - a) = (s.drop a).take (i - a) ++ [b] := by
  rw [show i + 1 - a = (i - a) + 1 by omega, List.take_add_one, List.getElem?_drop, show a + (i - a) = i by omega, List.getElem?_eq_getElem hi]
  rw [List.getD_eq_getElem?_getD, List.getElem?_eq_getElem hi] at hb
  rw [← hb]; rfl

end
end Go.Asm

set_option linter.unusedSimpArgs false
set_option linter.unusedVariables false
set_option maxRecDepth 100000
namespace Go.Asm
open Go.Lift Go.Fn Go.Insn

/-- The place of a mark; -1: none. -/
def findV (l : List Ln) (m : Str) : Int := if m = [] then -1 else match place m l with | some p => (p : Int) | none => -1

theorem total_cons (x : Ln) (l : List Ln) : total (x :: l) = x.body.words + total l := by simp [total]
theorem place_cons (m : Str) (x : Ln) (l : List Ln) : place m (x :: l) = if x.mark = m then some 0 else (place m l).map (· + x.body.words) := rfl

theorem total_le : ∀ {l : List Ln}, (∀ x ∈ l, BodyOk x.body) → total l ≤ 4096 * l.length
  | [], _ => by simp [total]
  | x :: l, h => by
    have := total_le (l := l) (fun y hy => h y (List.mem_cons_of_mem _ hy))
    have := (h x List.mem_cons_self).words
    rw [total_cons, List.length_cons]; omega

theorem place_le : ∀ {l : List Ln} {m : Str} {p : Nat}, place m l = some p → p ≤ total l
  | [], _, _, h => by cases h
  | x :: l, m, p, h => by
    rw [place_cons] at h
    rw [total_cons]
    split at h
    · cases h; omega
    · cases hp : place m l with
      | none => rw [hp] at h; cases h
      | some q =>
        rw [hp] at h
        simp only [Option.map_some, Option.some.injEq] at h
        have := place_le hp
        omega

section
variable {U : Ifc} {h g : Heap}

theorem encGo_cons (all : List Ln) (n : Nat) (out : List Int) (x : Ln) (l : List Ln) : encGo all n out (x :: l) = match x.body with
    | .blank => encGo all (n + 1) out l
    | .fill k v => encGo all (n + 1) (out ++ List.replicate k (v : Int)) l
    | .ins x want => match immOf all x want out.length with
      | none => .inl n
      | some v => if (encOf x.op x.rd x.rs1 x.rs2 v).2 ≠ 0 then .inl n else encGo all (n + 1) (out ++ [(encOf x.op x.rd x.rs1 x.rs2 v).1]) l := rfl

end
end Go.Asm

set_option linter.unusedSimpArgs false
set_option linter.unusedVariables false
set_option maxRecDepth 100000
namespace Go.Asm
open Go.Lift Go.Fn Go.Insn

section
variable {U : Ifc} {h g : Heap}

theorem Lns.all {l : List Ln} {sl : Sl} {x : Ln} {i : Nat} (H : Lns g sl l) (hi : l[i]? = some x) {n k op rd rs1 rs2 imm v : Int} {m want : Str} {is : Bool} (hc : lnCells i x = lineL n m k is op rd rs1 rs2 imm want v)
    {κ : Int → Str → Int → Bool → Int → Int → Int → Int → Int → Str → Int → Prop} (hk : κ n m k is op rd rs1 rs2 imm want v) :
    der sl.p (fun p => rdI .i64 ((p.add (i * 11)).add 0) (fun x1 => rdStr ((p.add (i * 11)).add 1) (fun x2 => rdI .i64 ((p.add (i * 11)).add 2) (fun x3 => rdB ((p.add (i * 11)).add 3) (fun x4 => rdI .i64 ((p.add (i * 11)).add 4) (fun x5 => rdI .i64 ((p.add (i * 11)).add 5) (fun x6 => rdI .i64 ((p.add (i * 11)).add 6) (fun x7 => rdI .i64 ((p.add (i * 11)).add 7) (fun x8 => rdI .i64 ((p.add (i * 11)).add 8) (fun x9 => rdStr ((p.add (i * 11)).add 9) (fun x10 => rdI .u32 ((p.add (i * 11)).add 10) (fun x11 => κ x1 x2 x3 x4 x5 x6 x7 x8 x9 x10 x11) g) g) g) g) g) g) g) g) g) g) g) := by
  obtain ⟨p, hp, hg⟩ := H.get hi
  rw [hp, der_some]
  rw [hc] at hg
  exact rdI_of (hg 0 (by decide)) (rdStr_of (hg 1 (by decide)) (rdI_of (hg 2 (by decide)) (rdB_of (hg 3 (by decide)) (rdI_of (hg 4 (by decide)) (rdI_of (hg 5 (by decide)) (rdI_of (hg 6 (by decide)) (rdI_of (hg 7 (by decide)) (rdI_of (hg 8 (by decide)) (rdStr_of (hg 9 (by decide)) (rdI_of (hg 10 (by decide)) hk))))))))))

theorem linesGo_bound {s : Str} {l : List Ln} (hs : s.length ≤ 100000) (h : linesGo 0 [] (split s) = .inr l) : l.length ≤ 100001 := by
  have := linesGo_len h
  have := split_count s
  simp at *; omega

/-- A program's mark. -/
def markOf (s : Str) (base : Nat) (m : Str) : Option Int := match asm s base with
  | .ok l _ => if findV l m < 0 then none else some (IntKind.u64.wrap ((base : Int) + IntKind.u64.wrap (4 * IntKind.u64.wrap (findV l m))))
  | _ => none

end
end Go.Asm
