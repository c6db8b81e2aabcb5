/- The shallow layer: values, partial heaps, the words of the printed functions, and the interpreter that makes of a loaded function's code a statement over them. No program in sight. -/
import Derived.Calls
import Derived.Orders
import Derived.KernelRfl
import Derived.WalkKit
import Derived.Laws.IdiomCopy
import Derived.Laws.AppendOwn
import Derived.MapKept
import Derived.Laws.StructEq
import Derived.ChangeKeysEq
set_option linter.unusedSimpArgs false
set_option linter.unusedVariables false

namespace Go.Lift

structure Ptr where
  b : Nat
  o : Nat
  deriving DecidableEq, Inhabited

def Ptr.add (p : Ptr) (n : Nat) : Ptr := ⟨p.b, p.o + n⟩

structure Sl where
  p : Option Ptr
  len : Nat
  cap : Nat
  deriving DecidableEq, Inhabited

inductive V where
  | int (k : IntKind) (n : Int)
  | bool (b : Bool)
  | str (s : List UInt8)
  | ptr (p : Option Ptr)
  | sl (s : Sl)
  | map (r : Option Nat)
  | chan (r : Option Nat)
  | fn (f : Nat) (caps : List V)
  | nilfn
  | mth (m : String) (v : V)   -- a method of a value
  | iface (t : Nat) (v : V)
  | nilif
  | agg (cs : List V)      -- a struct or an array whose cells stand written out
  | ago (cs : List V)      -- one whose cells are a list
  | tup (vs : List V)
  deriving Inhabited

/-- A value of one cell, by sight. -/
def V.one : V → Bool
  | .agg _ | .ago _ | .tup _ => false
  | _ => true

def V.nt : V → Bool
  | .tup _ => false
  | _ => true

def V.wfb : V → Bool
  | .tup _ => false
  | .agg cs => cs.all V.one
  | .ago cs => cs.all V.one
  | _ => true

/-- The kinds of one cell. -/
inductive Sh where
  | int (k : IntKind) | bool | str | ptr | sl | map | chan | any
  deriving DecidableEq, Inhabited

/-- What is known of a block. -/
inductive HO where
  | cells (l : List V) (mk : Bool)
  | ro (f : Nat → Option V)          -- one that stood there ahead of the call: it is only read
  | map (ks : Sh) (es : List (V × V)) (bs : List Nat) (c : Nat)   -- a map of this program's own, in order of insertion, with the moments at which its entries were born
  | iter (m : Option Nat) (since : Nat) (seen : List Nat) (last : Nat)   -- one that goes through a map
  | siter (s : List UInt8) (pos : Nat)   -- one that goes through a string
  | chan (cap : Nat) (q : List V)   -- a channel with room for so many, open, nobody waiting at it; what lies in it, the eldest first
  deriving Inhabited

/-- What is known of the memory: some blocks. -/
structure Heap where
  obj : Nat → Option HO

def Heap.get (h : Heap) (b o : Nat) : Option V :=
  match h.obj b with
  | some (.cells l _) => l[o]?
  | some (.ro f) => f o
  | _ => none

/-- Where it may be written. -/
def Heap.getW (h : Heap) (b o : Nat) : Option V :=
  match h.obj b with
  | some (.cells l _) => l[o]?
  | _ => none

def HO.set (o : Nat) (v : V) : HO → HO
  | .cells l m => .cells (l.set o v) m
  | x => x

def Heap.set (h : Heap) (b o : Nat) (v : V) : Heap := ⟨fun b' => if b' = b then (h.obj b').map (HO.set o v) else h.obj b'⟩

def Heap.setO (h : Heap) (b : Nat) (x : HO) : Heap := ⟨fun b' => if b' = b then some x else h.obj b'⟩

def Heap.new (h : Heap) (b : Nat) (x : HO) : Heap := ⟨fun b' => if b' = b then some x else h.obj b'⟩

/-! ## the words of the printed functions -/

def der (q : Option Ptr) (κ : Ptr → Prop) : Prop :=
  match q with
  | some p => κ p
  | none => False

def br (x : Bool) (A B : Prop) : Prop :=
  match x with
  | true => A
  | false => B

def rdI (k : IntKind) (p : Ptr) (κ : Int → Prop) (h : Heap) : Prop := ∃ x, h.get p.b p.o = some (.int k x) ∧ κ x
def rdB (p : Ptr) (κ : Bool → Prop) (h : Heap) : Prop := ∃ x, h.get p.b p.o = some (.bool x) ∧ κ x
def rdStr (p : Ptr) (κ : List UInt8 → Prop) (h : Heap) : Prop := ∃ x, h.get p.b p.o = some (.str x) ∧ κ x
def rdP (p : Ptr) (κ : Option Ptr → Prop) (h : Heap) : Prop := ∃ x, h.get p.b p.o = some (.ptr x) ∧ κ x
def rdSl (p : Ptr) (κ : Sl → Prop) (h : Heap) : Prop := ∃ x, h.get p.b p.o = some (.sl x) ∧ κ x
def rdM (p : Ptr) (κ : Option Nat → Prop) (h : Heap) : Prop := ∃ x, h.get p.b p.o = some (.map x) ∧ κ x
def rdC (p : Ptr) (κ : Option Nat → Prop) (h : Heap) : Prop := ∃ x, h.get p.b p.o = some (.chan x) ∧ κ x
def rdV (p : Ptr) (κ : V → Prop) (h : Heap) : Prop := ∃ x, h.get p.b p.o = some x ∧ κ x

def rdSh : Sh → Ptr → (V → Prop) → Heap → Prop
  | .int k, p, κ, h => rdI k p (fun x => κ (.int k x)) h
  | .bool, p, κ, h => rdB p (fun x => κ (.bool x)) h
  | .str, p, κ, h => rdStr p (fun x => κ (.str x)) h
  | .ptr, p, κ, h => rdP p (fun x => κ (.ptr x)) h
  | .sl, p, κ, h => rdSl p (fun x => κ (.sl x)) h
  | .map, p, κ, h => rdM p (fun x => κ (.map x)) h
  | .chan, p, κ, h => rdC p (fun x => κ (.chan x)) h
  | .any, p, κ, h => rdV p κ h

def rdL : List Sh → Ptr → Nat → (List V → Prop) → Heap → Prop
  | [], _, _, κ, _ => κ []
  | s :: ss, p, i, κ, h => rdSh s (p.add i) (fun v => rdL ss p (i + 1) (fun vs => κ (v :: vs)) h) h

/-- A row of cells whose kinds are not asked. -/
def rdN (n : Nat) (p : Ptr) (κ : List V → Prop) (h : Heap) : Prop :=
  ∃ cs : List V, cs.length = n ∧ (∀ i, i < n → h.get p.b (p.o + i) = cs[i]?) ∧ κ cs

/-- A value that stands in a list, taken as of a kind. -/
def asSh : Sh → Option V → (V → Prop) → Prop
  | .int k, v, κ => ∃ x, v = some (.int k x) ∧ κ (.int k x)
  | .bool, v, κ => ∃ x, v = some (.bool x) ∧ κ (.bool x)
  | .str, v, κ => ∃ x, v = some (.str x) ∧ κ (.str x)
  | .ptr, v, κ => ∃ x, v = some (.ptr x) ∧ κ (.ptr x)
  | .sl, v, κ => ∃ x, v = some (.sl x) ∧ κ (.sl x)
  | .map, v, κ => ∃ x, v = some (.map x) ∧ κ (.map x)
  | .chan, v, κ => ∃ x, v = some (.chan x) ∧ κ (.chan x)
  | .any, v, κ => ∃ x, v = some x ∧ κ x

def asL : List Sh → List V → Nat → (List V → Prop) → Prop
  | [], _, _, κ => κ []
  | s :: ss, l, i, κ => asSh s l[i]? (fun v => asL ss l (i + 1) (fun vs => κ (v :: vs)))

/-- What was read stands there still. -/
def ck (p : Ptr) : List V → Nat → Heap → Prop
  | [], _, _ => True
  | v :: vs, i, h => h.get p.b (p.o + i) = some v ∧ ck p vs (i + 1) h

def chkF : List (Nat × (Heap → Prop)) → Heap → Prop → Prop
  | [], _, A => A
  | (_, c) :: F, h, A => c h ∧ chkF F h A

def wr (p : Ptr) (v : V) (κ : Heap → Prop) (h : Heap) : Prop := (∃ u, h.getW p.b p.o = some u) ∧ κ (h.set p.b p.o v)

def wrL : List V → Ptr → Nat → (Heap → Prop) → Heap → Prop
  | [], _, _, κ, h => κ h
  | v :: vs, p, i, κ, h => wr (p.add i) v (wrL vs p (i + 1) κ) h

def al (l : List V) (κ : Nat → Heap → Prop) (h : Heap) : Prop := ∀ b, h.obj b = none → κ b (h.new b (.cells l false))

def ix (i : Int) (n : Nat) (κ : Nat → Prop) : Prop := 0 ≤ i ∧ i < n ∧ κ i.toNat

def chk (b : Bool) (A : Prop) : Prop :=
  match b with
  | true => A
  | false => False

def nz (x : Int) (A : Prop) : Prop := x ≠ 0 ∧ A
def nneg (x : Int) (A : Prop) : Prop := 0 ≤ x ∧ A

def ibits (op : BinOp) (k : IntKind) (x y : Int) : Int :=
  let a := BitVec.ofInt k.bits x
  let b := BitVec.ofInt k.bits y
  match op with
  | .and => k.wrap (a &&& b).toNat
  | .or => k.wrap (a ||| b).toNat
  | .xor => k.wrap (a ^^^ b).toNat
  | _ => k.wrap (a &&& ~~~b).toNat

def shlI (k : IntKind) (x y : Int) : Int := k.wrap (x * 2 ^ min y.toNat k.bits)
def shrI (k : IntKind) (x y : Int) : Int := x.fdiv (2 ^ min y.toNat k.bits)

def isNil (v : V) (κ : Bool → Prop) : Prop :=
  match v with
  | .nilif => κ true
  | .iface _ _ => κ false
  | _ => False

def isNilF (v : V) (κ : Bool → Prop) : Prop :=
  match v with
  | .nilfn => κ true
  | .fn _ _ => κ false
  | _ => False

/-- What stands in a value's place, where it must be something. -/
def nilC (v : V) (κ : V → Prop) : Prop :=
  match v with
  | .ptr q => der q fun p => κ (.ptr (some p))
  | .sl s => κ (.sl s)
  | .map r => κ (.map r)
  | .fn f caps => κ (.fn f caps)
  | .iface t u => κ (.iface t u)
  | _ => False

def V.ofAg : V → V
  | .agg cs => .ago cs
  | v => v

/-! maps: keys are numbers, bools, strings -/

def keyIs : Sh → V → Bool
  | .int k, .int k' _ => decide (k = k')
  | .bool, .bool _ => true
  | .str, .str _ => true
  | _, _ => false

def keq : V → V → Bool
  | .int _ a, .int _ b => a == b
  | .bool a, .bool b => a == b
  | .str a, .str b => a == b
  | _, _ => false

def mfind (k : V) : List (V × V) → Option V
  | [] => none
  | (k', v) :: es => bif keq k k' then some v else mfind k es

def mput (k v : V) : List (V × V) → List (V × V)
  | [] => [(k, v)]
  | (k', v') :: es => bif keq k k' then (k, v) :: es else (k', v') :: mput k v es

def mdel (k : V) : List (V × V) → List (V × V)
  | [] => []
  | (k', v') :: es => bif keq k k' then es else (k', v') :: mdel k es

/-- The births, when an entry goes. -/
def bdel (k : V) : List (V × V) → List Nat → List Nat
  | (k', _) :: es, b :: bs => bif keq k k' then bs else b :: bdel k es bs
  | _, bs => bs

def putO (ks : Sh) (es : List (V × V)) (bs : List Nat) (c : Nat) (k v : V) : HO :=
  match mfind k es with
  | some _ => .map ks (mput k v es) bs c
  | none => .map ks (mput k v es) (bs ++ [c]) (c + 1)

def mapGet (ks : Sh) (m : Option Nat) (k : V) (κ : Option V → Prop) (h : Heap) : Prop :=
  match m with
  | none => κ none
  | some r => ∃ es bs c, h.obj r = some (.map ks es bs c) ∧ κ (mfind k es)

def mapPut (ks : Sh) (m : Option Nat) (k v : V) (κ : Heap → Prop) (h : Heap) : Prop :=
  match m with
  | none => False
  | some r => ∃ es bs c, h.obj r = some (.map ks es bs c) ∧ κ (h.setO r (putO ks es bs c k v))

/-- The stamp of a key's entry. -/
def bfind (k : V) : List (V × V) → List Nat → Option Nat
  | (k', _) :: es, b :: bs => bif keq k k' then some b else bfind k es bs
  | _, _ => none

def mset (k v : V) : List (V × V) → List (V × V)
  | [] => []
  | (k', v') :: es => bif keq k k' then (k', v) :: es else (k', v') :: mset k v es

def bornOf (k : V) : HO → Option Nat
  | .map _ es bs _ => bfind k es bs
  | _ => none

/-- A place of a map, as an assignment takes it ahead: it is there from now on. -/
def mapEnt (ks : Sh) (m : Option Nat) (k z : V) (κ : V → Int → Heap → Prop) (h : Heap) : Prop :=
  match m with
  | none => False
  | some r => ∃ es bs c, h.obj r = some (.map ks es bs c) ∧ ∀ b : Nat, bornOf k (putO ks es bs c k ((mfind k es).getD z)) = some b → κ ((mfind k es).getD z) b (h.setO r (putO ks es bs c k ((mfind k es).getD z)))

def entPut (m : Option Nat) (b : Int) (v : V) (κ : Heap → Prop) (h : Heap) : Prop :=
  match m with
  | none => False
  | some r => ∃ ks es bs c k, ∃ n : Nat, h.obj r = some (.map ks es bs c) ∧ bfind k es bs = some n ∧ (n : Int) = b ∧ κ (h.setO r (.map ks (mset k v es) bs c))

def mapDel (ks : Sh) (m : Option Nat) (k : V) (κ : Heap → Prop) (h : Heap) : Prop :=
  match m with
  | none => κ h
  | some r => ∃ es bs c, h.obj r = some (.map ks es bs c) ∧ κ (h.setO r (.map ks (mdel k es) (bdel k es bs) c))

def mapLen (m : Option Nat) (κ : Int → Prop) (h : Heap) : Prop :=
  match m with
  | none => κ 0
  | some r => ∃ ks es bs c, h.obj r = some (.map ks es bs c) ∧ κ es.length

def alM (ks : Sh) (κ : Nat → Heap → Prop) (h : Heap) : Prop := ∀ b, h.obj b = none → κ b (h.new b (.map ks [] [] 0))

/-- for .. range over a map: one that goes through it is laid. -/
def rangeM (m : Option Nat) (κ : Nat → Heap → Prop) (h : Heap) : Prop :=
  match m with
  | none => ∀ b, h.obj b = none → κ b (h.new b (.iter none 0 [] 0))
  | some r => ∃ ks es bs c, h.obj r = some (.map ks es bs c) ∧ ∀ b, h.obj b = none → κ b (h.new b (.iter (some r) c [] c))

/-- The next entry, or none: in any order. -/
def nextM (it : Nat) (over : Heap → Prop) (step : V → V → Heap → Prop) (h : Heap) : Prop :=
  ∃ m since seen last, h.obj it = some (.iter m since seen last) ∧ match m with
  | none => over h
  | some r => ∃ ks es bs c, h.obj r = some (.map ks es bs c) ∧ ¬ (seen ≠ [] ∧ es ≠ [] ∧ ∀ b, b ∈ bs → last ≤ b) ∧
      ((∀ b, b ∈ bs → b ∉ seen → since ≤ b) → over h) ∧
      ∀ (i : Nat) (k v : V) (b : Nat), es[i]? = some (k, v) → bs[i]? = some b → b ∉ seen → step k v (h.setO it (.iter (some r) since (seen ++ [b]) c))


/-- range over a string: runes. -/
def rangeS (s : List UInt8) (κ : Nat → Heap → Prop) (h : Heap) : Prop := ∀ b, h.obj b = none → κ b (h.new b (.siter s 0))

def runeAt (s : List UInt8) (i : Nat) : Nat × Nat := Utf8.decode ⟨s.toArray⟩ i

def nextS (it : Nat) (over : Heap → Prop) (step : Int → Int → Heap → Prop) (h : Heap) : Prop :=
  ∃ s pos, h.obj it = some (.siter s pos) ∧ if pos < s.length then step (pos : Int) ((runeAt s pos).1 : Int) (h.setO it (.siter s (pos + (runeAt s pos).2))) else over h

/-- A channel is made. -/
def alC (cap : Nat) (κ : Nat → Heap → Prop) (h : Heap) : Prop := ∀ b, h.obj b = none → κ b (h.new b (.chan cap []))

def chLen (r : Option Nat) (κ : Int → Prop) (h : Heap) : Prop :=
  match r with
  | none => κ 0
  | some r => ∃ cap q, h.obj r = some (.chan cap q) ∧ κ q.length

/-- select of one send, with a default: which way (0: sent; -1: no room). -/
def chSend (r : Option Nat) (v : V) (κ : Int → Heap → Prop) (h : Heap) : Prop :=
  match r with
  | none => False
  | some r => ∃ cap q, h.obj r = some (.chan cap q) ∧ if q.length < cap then κ 0 (h.setO r (.chan cap (q ++ [v]))) else κ (-1) h

/-- select of one receive, with a default. -/
def chRecv (r : Option Nat) (z : V) (κ : Int → Bool → V → Heap → Prop) (h : Heap) : Prop :=
  match r with
  | none => False
  | some r => ∃ cap q, h.obj r = some (.chan cap q) ∧ match q with
    | [] => κ (-1) false z h
    | v :: q => κ 0 true v (h.setO r (.chan cap q))

/-- The entry that was last come to. -/
def entryM (it : Nat) (κ : V → V → Prop) (h : Heap) : Prop :=
  ∃ r since seen last, h.obj it = some (.iter (some r) since seen last) ∧ ∃ ks es bs, h.obj r = some (.map ks es bs last) ∧
    ∃ (i : Nat) (k v : V) (b : Nat), seen.getLast? = some b ∧ bs[i]? = some b ∧ es[i]? = some (k, v) ∧ κ k v

def minI (a b : Int) : Int := if b < a then b else a
def maxI (a b : Int) : Int := if b > a then b else a

/-- Pointers are compared where both blocks are known, and bear no mark. -/
def plainP (q : Option Ptr) (h : Heap) : Prop := ∀ p, q = some p → ∃ l, h.obj p.b = some (.cells l false)

def eqP (q q' : Option Ptr) (κ : Bool → Prop) (h : Heap) : Prop :=
  match q' with
  | none => κ q.isNone
  | some p' => plainP q h ∧ plainP (some p') h ∧ κ (q == some p')

def eqL : List Bool → Bool
  | [] => true
  | b :: bs => b && eqL bs

def slp (p : Option Ptr) (k l m : Nat) : Option Ptr := if m = l then p else p.map (·.add k)

/-- A bound of a slice expression. -/
def sb (i : Int) (n : Nat) (κ : Nat → Prop) : Prop := 0 ≤ i ∧ i ≤ n ∧ κ i.toNat

def bytesLess : List UInt8 → List UInt8 → Bool := Op.bytesLess

def catS (a b : List UInt8) (κ : List UInt8 → Prop) : Prop := ((a.length + b.length : Nat) : Int) ≤ 9223372036854775807 ∧ κ (a ++ b)

def flatRep (n : Nat) (z : List V) : List V := (List.replicate n z).flatten

/-- make([]T, len, cap): 'bytes' an element. -/
def mkSl (bytes : Nat) (z : List V) (len cap : Int) (κ : Sl → Heap → Prop) (h : Heap) : Prop :=
  0 ≤ len ∧ len ≤ cap ∧ cap ≤ 9223372036854775807 ∧ bytes * cap ≤ 281474976710656 ∧ al (flatRep cap.toNat z) (fun b h => κ ⟨some ⟨b, 0⟩, len.toNat, cap.toNat⟩ h) h

/-- append(s, x...): the cells of x, and how many elements they are. -/
def appS (size bytes : Nat) (z : List V) (s : Sl) (new : List V) (m : Nat) (κ : Sl → Heap → Prop) (h : Heap) : Prop :=
  if s.len + m ≤ s.cap then
    match s.p with
    | some p => wrL new (p.add (s.len * size)) 0 (fun h => κ ⟨some p, s.len + m, s.cap⟩ h) h
    | none => new = [] ∧ κ ⟨none, s.len + m, s.cap⟩ h
  else (s.len + m) * bytes ≤ 140737488355328 ∧ s.len + m ≤ 9223372036854775807 ∧
    (match s.p with
    | some p => fun κ' => rdN (s.len * size) p κ' h
    | none => fun κ' => s.len = 0 ∧ κ' []) (fun old =>
      ∀ c, s.len + m ≤ c → al (old ++ new ++ flatRep (c - (s.len + m)) z) (fun b h => κ ⟨some ⟨b, 0⟩, s.len + m, c⟩ h) h)

/-- append(s, make([]T, n)...) -/
def appZ (size bytes : Nat) (z : List V) (s : Sl) (n : Int) (κ : Sl → Heap → Prop) (h : Heap) : Prop :=
  0 ≤ n ∧ n * bytes ≤ 281474976710656 ∧ n ≤ 9223372036854775807 ∧ appS size bytes z s (flatRep n.toNat z) n.toNat κ h

/-- The cells of a slice's elements. -/
def cellsS (size : Nat) (s : Sl) (κ : List V → Prop) (h : Heap) : Prop :=
  match s.p with
  | some p => rdN (s.len * size) p κ h
  | none => s.len = 0 ∧ κ []

/-- copy(d, s), 'cs' the cells of s, m its length. -/
def copyS (size : Nat) (d : Sl) (cs : List V) (m : Nat) (κ : Int → Heap → Prop) (h : Heap) : Prop :=
  match d.p with
  | some p => wrL (cs.take (min m d.len * size)) p 0 (fun h => κ (min m d.len : Nat) h) h
  | none => d.len = 0 ∧ κ 0 h

/-- clear(s) -/
def clearS (z : List V) (s : Sl) (κ : Heap → Prop) (h : Heap) : Prop :=
  match s.p with
  | some p => wrL (flatRep s.len z) p 0 κ h
  | none => κ h

def strCells (s : List UInt8) : List V := s.map fun b => V.int .u8 b.toNat

def bytesOf : List V → (List UInt8 → Prop) → Prop
  | [], κ => κ []
  | .int .u8 n :: vs, κ => bytesOf vs (fun s => κ (UInt8.ofNat n.toNat :: s))
  | _ :: _, _ => False

/-- string(r) of a number. -/
def runeStr (n : Int) : List UInt8 := (Utf8.encode n).data.toList

/-- []byte(s) -/
def ofStr (s : List UInt8) (κ : Sl → Heap → Prop) (h : Heap) : Prop :=
  ∀ c, s.length ≤ c → ∀ b, h.obj b = none → κ ⟨some ⟨b, 0⟩, s.length, c⟩ (h.new b (.cells (strCells s ++ List.replicate (c - s.length) (.int .u8 0)) true))

def putCells : List V → Nat → List V → List V
  | l, _, [] => l
  | l, o, v :: vs => putCells (l.set o v) (o + 1) vs

/-! ## types -/

inductive TD where
  | leaf (s : Sh)
  | ptr (e : Nat)
  | iface
  | func
  | slice (e : Nat)
  | array (n : Nat) (e : Nat)
  | struct (fs : List (Nat × Nat))
  | map (k e : Nat)
  deriving Inhabited

mutual
/-- Plain data that may be compared, cell by cell. -/
inductive EQ where
  | leaf (s : Sh)
  | arr (n sz : Nat) (e : EQ)
  | struct (fs : EQL)
inductive EQL where
  | nil
  | cons (o sz : Nat) (d : EQ) (fs : EQL)
end

def flatSh : Nat → List Sh → List Sh
  | 0, _ => []
  | n + 1, l => l ++ flatSh n l

mutual
def EQ.leaves : EQ → List Sh
  | .leaf s => [s]
  | .arr n _ e => flatSh n e.leaves
  | .struct fs => fs.leaves
def EQL.leaves : EQL → List Sh
  | .nil => []
  | .cons _ _ d fs => d.leaves ++ fs.leaves
end

def fitsL : List Sh → List V → Prop
  | [], [] => True
  | s :: ss, v :: vs => keyIs s v = true ∧ fitsL ss vs
  | _, _ => False

def keqL : List V → List V → Bool
  | x :: xs, y :: ys => keq x y && keqL xs ys
  | [], [] => true
  | _, _ => false

/-- == of structs and arrays whose cells are a list. -/
def eqAgo (ss : List Sh) (xs ys : List V) (κ : Bool → Prop) : Prop := fitsL ss xs ∧ fitsL ss ys ∧ κ (keqL xs ys)

structure TI where
  d : TD
  size : Nat
  bytes : Nat
  zero : List V
  leaves : Option (List Sh)
  eq : Bool := false
  eqd : Option EQ := none
  deriving Inhabited

abbrev Fr := List (Nat × Option V)

def look : Fr → Nat → Option V
  | [], _ => none
  | (t, v) :: ρ, s => bif Nat.beq t s then v else look ρ s

def looks {α : Type} : List (Nat × α) → Nat → Option α
  | [], _ => none
  | (t, v) :: ρ, s => bif Nat.beq t s then some v else looks ρ s

def ofLeaf : Value → Option V
  | .bool b => some (.bool b)
  | .int k n => some (.int k n)
  | .string s => some (.str s.data.toList)
  | .pointer none => some (.ptr none)
  | .slice none 0 0 => some (.sl ⟨none, 0, 0⟩)
  | .map none => some (.map none)
  | .chan none => some (.chan none)
  | .nilFunc => some .nilfn
  | .nilIface => some .nilif
  | _ => none

def ofLeaves : List Value → Option (List V)
  | [] => some []
  | v :: vs => match ofLeaf v with
    | some x => match ofLeaves vs with
      | some xs => some (x :: xs)
      | none => none
    | none => none

def ofConst : Value → Option V
  | .agg cs => (ofLeaves cs.toList).map .agg
  | v => ofLeaf v

/-- Calls of values that are not known. -/
structure Ifc where
  glob : Nat → Nat
  callV : V → List V → (V → Heap → Prop) → Heap → Prop
  inv : V → String → List V → (V → Heap → Prop) → Heap → Prop
  ahead : V → String → Bool
  tabs : List (Nat × List V)   -- package variables whose cells are known, all of them

def noIfc : Ifc := ⟨id, fun _ _ _ _ => False, fun _ _ _ _ _ => False, fun _ _ => false, []⟩

/-- The method of a value, taken ahead of its call. -/
def mthC (m : String) (v : V) (κ : V → Prop) : Prop :=
  match v with
  | .iface t u => κ (.mth m (.iface t u))
  | _ => False

/-- What stands in a value's place, where it must be something; a method's receiver must be known to be something. -/
def nilCU (I : Ifc) (v : V) (κ : V → Prop) : Prop :=
  match v with
  | .mth m u => chk (I.ahead u m) (κ (.mth m u))
  | v => nilC v κ

/-- The form of a result that comes from a call of a value that is not known. -/
inductive RS where
  | one (s : Sh)
  | agg (ss : List Sh)
  | ago
  deriving Inhabited

inductive RT where
  | single (r : RS)
  | multi (rs : List RS)
  deriving Inhabited

def asI (k : IntKind) (v : V) (κ : Int → Prop) : Prop := match v with | .int k' x => chk (decide (k' = k)) (κ x) | _ => False
def asB (v : V) (κ : Bool → Prop) : Prop := match v with | .bool x => κ x | _ => False
def asStr (v : V) (κ : List UInt8 → Prop) : Prop := match v with | .str x => κ x | _ => False
def asP (v : V) (κ : Option Ptr → Prop) : Prop := match v with | .ptr x => κ x | _ => False
def asSl (v : V) (κ : Sl → Prop) : Prop := match v with | .sl x => κ x | _ => False
def asM (v : V) (κ : Option Nat → Prop) : Prop := match v with | .map x => κ x | _ => False
def asC (v : V) (κ : Option Nat → Prop) : Prop := match v with | .chan x => κ x | _ => False
def asAggV (v : V) (κ : List V → Prop) : Prop := match v with | .agg x => κ x | _ => False
def asAgoV (v : V) (κ : List V → Prop) : Prop := match v with | .ago x => κ x | _ => False
def asTupV (v : V) (κ : List V → Prop) : Prop := match v with | .tup x => κ x | _ => False
def asCons (l : List V) (κ : V → List V → Prop) : Prop := match l with | v :: vs => κ v vs | [] => False
def asNil (l : List V) (A : Prop) : Prop := match l with | [] => A | _ => False

def asV (s : Sh) (v : V) (κ : V → Prop) : Prop :=
  match s with
  | .int k => asI k v fun x => κ (.int k x)
  | .bool => asB v fun x => κ (.bool x)
  | .str => asStr v fun x => κ (.str x)
  | .ptr => asP v fun x => κ (.ptr x)
  | .sl => asSl v fun x => κ (.sl x)
  | .map => asM v fun x => κ (.map x)
  | .chan => asC v fun x => κ (.chan x)
  | .any => κ v

def asVs : List Sh → List V → (List V → Prop) → Prop
  | [], l, κ => asNil l (κ [])
  | s :: ss, l, κ => asCons l fun v l => asV s v fun v => asVs ss l fun vs => κ (v :: vs)

def asR (r : RS) (v : V) (κ : V → Prop) : Prop :=
  match r with
  | .one s => asV s v κ
  | .agg ss => asAggV v fun l => asVs ss l fun vs => κ (.agg vs)
  | .ago => asAgoV v fun l => κ (.ago l)

def asRs : List RS → List V → (List V → Prop) → Prop
  | [], l, κ => asNil l (κ [])
  | r :: rs, l, κ => asCons l fun v l => asR r v fun v => asRs rs l fun vs => κ (v :: vs)

def asT (t : RT) (v : V) (κ : V → Prop) : Prop :=
  match t with
  | .single r => asR r v κ
  | .multi rs => asTupV v fun l => asRs rs l fun vs => κ (.tup vs)

def rsOf (s : Option Sh) (ls : Option (List Sh)) : RS :=
  match s with
  | some s => .one s
  | none => match ls with
    | some ls => .agg ls
    | none => .ago

structure Env where
  tis : List (Nat × TI)
  fns : List (Nat × Nat)
  tys : List (Nat × Nat)
  gls : List (Nat × Nat)
  rts : List (Nat × RT)
  unk : List Nat
  nxt : List (Nat × (RS × RS))
  calls : List (Nat × (List V → (V → Heap → Prop) → Heap → Prop))
  ifc : Ifc
  cuts : List (Nat × (List Nat × (List V → Heap → Prop)))
  ret : V → Heap → Prop
  rets : List ResultVar
  n : Nat

def Env.ti (E : Env) (t : Nat) : Option TI := looks E.tis t
def Env.fnc (E : Env) (f : Nat) : Option Nat := looks E.fns f
def Env.tyc (E : Env) (t : Nat) : Option Nat := looks E.tys t
def Env.call (E : Env) (g : Nat) (vs : List V) (κ : V → Heap → Prop) (h : Heap) : Prop :=
  match looks E.calls g with
  | some C => C vs κ h
  | none => False
def Env.callV (E : Env) : V → List V → (V → Heap → Prop) → Heap → Prop := E.ifc.callV
def Env.inv (E : Env) : V → String → List V → (V → Heap → Prop) → Heap → Prop := E.ifc.inv
def Env.cut (E : Env) (id : Nat) : Option (List Nat × (List V → Heap → Prop)) := looks E.cuts id

/-- Slots whose function is not known at some call. -/
def Env.isUnk (E : Env) (x : Operand) : Bool :=
  match x with
  | .tmp t => E.unk.any (Nat.beq t)
  | _ => false

def ev (E : Env) (ρ : Fr) : Operand → Option V
  | .tmp t => look ρ t
  | .const v => ofConst v
  | .func f => match E.fnc f with
    | some g => some (.fn g [])
    | none => none
  | .global g => match looks E.gls g with
    | some c => some (.ptr (some ⟨E.ifc.glob c, 0⟩))
    | none => none

def ev1 (E : Env) (ρ : Fr) (x : Operand) (κ : V → Prop) : Prop :=
  match ev E ρ x with
  | some v => κ v
  | none => False

def evL (E : Env) (ρ : Fr) : List Operand → (List V → Prop) → Prop
  | [], κ => κ []
  | x :: xs, κ => ev1 E ρ x (fun v => evL E ρ xs (fun vs => κ (v :: vs)))

/-- What the entry is, in its form. -/
def asNext (t : Option (RS × RS)) (v : V) (κ : V → Prop) : Prop :=
  match v with
  | .tup [k, u] => match t with
    | some (rk, ru) => asR rk k fun k => asR ru u fun u => κ (.tup [k, u])
    | _ => κ v
  | v => κ v

/-- What a call of a value hands back, in its form. -/
def asO (E : Env) (o : Oper) (v : V) (κ : V → Prop) : Prop :=
  match o.op with
  | .call c => match c.callee with
    | .value (.func _) => κ v
    | .builtin _ => κ v
    | _ => match looks E.rts o.type with
      | some t => asT t v κ
      | none => κ v
  | .entry _ => asNext (match o.dst with | some d => looks E.nxt d | none => none) v κ
  | _ => κ v

def withTI (E : Env) (t : Nat) (κ : TI → Prop) : Prop :=
  match E.ti t with
  | some i => κ i
  | none => False

def V.cells : V → List V
  | .agg cs => cs
  | .ago cs => cs
  | v => [v]

def rdT (i : TI) (p : Ptr) (κ : V → Prop) (h : Heap) : Prop :=
  match i.d with
  | .leaf s => rdSh s p κ h
  | .ptr _ => rdP p (fun x => κ (.ptr x)) h
  | .iface => rdV p κ h
  | .func => rdV p κ h
  | .slice _ => rdSl p (fun x => κ (.sl x)) h
  | .map _ _ => rdM p (fun x => κ (.map x)) h
  | _ => match i.leaves with
    | some ls => rdL ls p 0 (fun vs => κ (.agg vs)) h
    | none => rdN i.size p (fun vs => κ (.ago vs)) h

def TD.sh : TD → Option Sh
  | .leaf s => some s
  | .ptr _ => some .ptr
  | .iface => some .any
  | .func => some .any
  | .slice _ => some .sl
  | .map _ _ => some .map
  | _ => none

def TI.zv (i : TI) : V :=
  match i.d.sh with
  | some _ => i.zero.headD .nilfn
  | none => match i.leaves with
    | some _ => .agg i.zero
    | none => .ago i.zero

/-- The cells of a value of a type. -/
def cellsT (i : TI) (v : V) (κ : List V → Prop) : Prop :=
  match i.d.sh with
  | some _ => chk v.one (κ [v])
  | none => match v with
    | .agg cs => chk (Nat.beq cs.length i.size) (κ cs)
    | .ago cs => cs.length = i.size ∧ κ cs
    | _ => False

/-- A part of a struct's or an array's cells. -/
def partT (i : TI) (v : V) (off : Nat) (κ : V → Prop) : Prop :=
  match v with
  | .agg cs => match i.d.sh with
    | some _ => match cs[off]? with
      | some u => κ u
      | none => False
    | none => κ (.agg ((cs.drop off).take i.size))
  | .ago cs => match i.d.sh with
    | some s => asSh s cs[off]? κ
    | none => match i.leaves with
      | some ls => asL ls ((cs.drop off).take i.size) 0 (fun vs => κ (.agg vs))
      | none => κ (.ago ((cs.drop off).take i.size))
  | _ => False

end Go.Lift

namespace Go.Lift

def binI (op : BinOp) (k : IntKind) (a b : Int) (κ : V → Prop) : Prop :=
  match op with
  | .add => κ (.int k (k.wrap (a + b)))
  | .sub => κ (.int k (k.wrap (a - b)))
  | .mul => κ (.int k (k.wrap (a * b)))
  | .quo => nz b (κ (.int k (k.wrap (a.tdiv b))))
  | .rem => nz b (κ (.int k (a.tmod b)))
  | .and => κ (.int k (ibits .and k a b))
  | .or => κ (.int k (ibits .or k a b))
  | .xor => κ (.int k (ibits .xor k a b))
  | .andNot => κ (.int k (ibits .andNot k a b))
  | .eql => κ (.bool (a == b))
  | .neq => κ (.bool (a != b))
  | .lss => κ (.bool (decide (a < b)))
  | .leq => κ (.bool (decide (a ≤ b)))
  | .gtr => κ (.bool (decide (a > b)))
  | .geq => κ (.bool (decide (a ≥ b)))
  | _ => False

def binS (op : BinOp) (a b : List UInt8) (κ : V → Prop) : Prop :=
  match op with
  | .add => catS a b (fun s => κ (.str s))
  | .eql => κ (.bool (a == b))
  | .neq => κ (.bool !(a == b))
  | .lss => κ (.bool (bytesLess a b))
  | .leq => κ (.bool (bytesLess a b || a == b))
  | .gtr => κ (.bool !(bytesLess a b || a == b))
  | .geq => κ (.bool !(bytesLess a b))
  | _ => False

def isConstO : Operand → Bool
  | .const _ => true
  | _ => false

def eqD (d : TD) (x y : V) (κ : Bool → Prop) : Prop :=
  match d, x, y with
  | .leaf (.int _), .int k a, .int k' b => if k = k' then κ (a == b) else False
  | .leaf .bool, .bool a, .bool b => κ (a == b)
  | .leaf .str, .str a, .str b => κ (a == b)
  | _, _, _ => False

def TD.plain : TD → Bool
  | .leaf (.int _) => true
  | .leaf .bool => true
  | .leaf .str => true
  | _ => false

/-- Structs are compared field by field: numbers, bools, strings. -/
def eqFs (E : Env) : List (Nat × Nat) → List V → List V → (List Bool → Prop) → Prop
  | [], _, _, κ => κ []
  | (o, t) :: fs, xs, ys, κ => withTI E t fun i =>
      match xs[o]?, ys[o]? with
      | some x, some y => eqD i.d x y (fun b => eqFs E fs xs ys (fun c => κ (b :: c)))
      | _, _ => False

/-- And structs in structs. -/
def eqFs1 (E : Env) : List (Nat × Nat) → List V → List V → (List Bool → Prop) → Prop
  | [], _, _, κ => κ []
  | (o, t) :: fs, xs, ys, κ => withTI E t fun i =>
      match i.d with
      | .struct gs => bif i.eq then eqFs E gs ((xs.drop o).take i.size) ((ys.drop o).take i.size) (fun bs => eqFs1 E fs xs ys (fun c => κ (eqL bs :: c))) else False
      | d => match xs[o]?, ys[o]? with
        | some x, some y => eqD d x y (fun b => eqFs1 E fs xs ys (fun c => κ (b :: c)))
        | _, _ => False

/-- x == y, y first: nil is mostly there. -/
def eqPT (E : Env) (t : Nat) (x y : V) (yc : Bool) (κ : Bool → Prop) (h : Heap) : Prop :=
  withTI E t fun i =>
  match i.d with
  | .ptr e => withTI E e fun j => match x, y with
    | .ptr q, .ptr q' => bif Nat.beq j.size 0 then False else eqP q q' κ h
    | _, _ => False
  | .iface => match y with
    | .nilif => bif yc then isNil x κ else False
    | _ => False
  | .func => match y with
    | .nilfn => isNilF x κ
    | _ => False
  | .slice _ => match x, y with
    | .sl s, .sl ⟨none, _, _⟩ => κ s.p.isNone
    | _, _ => False
  | .map _ _ => match x, y with
    | .map r, .map none => κ r.isNone
    | _, _ => False
  | .leaf .bool => eqD i.d x y κ
  | .struct fs => match x, y with
    | .agg xs, .agg ys => bif i.eq then eqFs1 E fs xs ys (fun bs => κ (eqL bs)) else False
    | .ago xs, .ago ys => match i.eqd with
      | some d => eqAgo d.leaves xs ys κ
      | none => False
    | _, _ => False
  | _ => False

def isNilV : V → Bool
  | .nilif => true
  | .nilfn => true
  | _ => false

def binP0 (E : Env) (op : BinOp) (t : Nat) (x y : V) (yc : Bool) (κ : V → Prop) (h : Heap) : Prop :=
  match op, x, y with
  | .shl, .int k a, .int _ b => nneg b (κ (.int k (shlI k a b)))
  | .shr, .int k a, .int _ b => nneg b (κ (.int k (shrI k a b)))
  | op, .int k a, .int k' b => if k = k' then binI op k a b κ else False
  | op, .str a, .str b => binS op a b κ
  | .eql, x, y => eqPT E t x y yc (fun b => κ (.bool b)) h
  | .neq, x, y => eqPT E t x y yc (fun b => κ (.bool !b)) h
  | _, _, _ => False

def binPT (E : Env) (op : BinOp) (t : Nat) (x y : V) (yc : Bool) (κ : V → Prop) (h : Heap) : Prop :=
  bif isNilV y then
    match op with
    | .eql => eqPT E t x y yc (fun b => κ (.bool b)) h
    | .neq => eqPT E t x y yc (fun b => κ (.bool !b)) h
    | _ => False
  else binP0 E op t x y yc κ h

def unPT (op : UnOp) (x : V) (κ : V → Prop) : Prop :=
  match op, x with
  | .neg, .int k a => κ (.int k (k.wrap (0 - a)))
  | .xor, .int k a => κ (.int k (ibits .xor k (if k.signed then -1 else k.max) a))
  | .not, .bool b => κ (.bool !b)
  | _, _ => False

def convPT (E : Env) (s d : Nat) (x : V) (κ : V → Heap → Prop) (h : Heap) : Prop :=
  withTI E s fun i' => withTI E d fun i =>
  match i.d, x with
  | .leaf (.int k), .int _ a => κ (.int k (k.wrap a)) h
  | .leaf .str, .str a => κ (.str a) h
  | .leaf .str, .int _ n => κ (.str (runeStr n)) h
  | .slice e, .str a => withTI E e fun j => match j.d with
    | .leaf (.int .u8) => ofStr a (fun s h => κ (.sl s) h) h
    | _ => False
  | .leaf .str, .sl sl => match i'.d with
    | .slice e => withTI E e fun j => match j.d with
      | .leaf (.int .u8) => cellsS 1 sl (fun cs => bytesOf cs (fun b => κ (.str b) h)) h
      | _ => False
    | _ => False
  | _, _ => False

def fieldOf (E : Env) (t f : Nat) (κ : Nat → TI → Prop) : Prop :=
  withTI E t fun i => match i.d with
  | .struct fs => match fs[f]? with
    | some (off, ft) => withTI E ft fun j => κ off j
    | none => False
  | _ => False

def slBounds (lo hi mx : Option V) (len cap : Nat) (κ : Nat → Nat → Nat → Prop) : Prop :=
  (match mx with
    | some (.int _ m) => sb m cap
    | none => fun k => k cap
    | _ => fun _ => False) fun m =>
  (match hi, mx with
    | some (.int _ x), _ => sb x m
    | none, none => fun k => k len
    | _, _ => fun _ => False) fun hh =>
  (match lo with
    | some (.int _ x) => sb x hh
    | none => fun k => k 0
    | _ => fun _ => False) fun l => κ l hh m

def evO (E : Env) (ρ : Fr) : Option Operand → (Option V → Prop) → Prop
  | none, κ => κ none
  | some x, κ => ev1 E ρ x (fun v => κ (some v))

def slicePT (E : Env) (t : Nat) (x : V) (lo hi mx : Option V) (κ : V → Prop) : Prop :=
  withTI E t fun i => match i.d, x with
  | .leaf .str, .str s => match mx with
    | none => slBounds lo hi none s.length s.length fun l hh _ => κ (.str ((s.drop l).take (hh - l)))
    | some _ => False
  | .slice e, .sl s => withTI E e fun j => slBounds lo hi mx s.len s.cap fun l hh m => κ (.sl ⟨slp s.p (l * j.size) l m, hh - l, m - l⟩)
  | .array n e, .ptr (some p) => withTI E e fun j => slBounds lo hi mx n n fun l hh m => κ (.sl ⟨slp (some p) (l * j.size) l m, hh - l, m - l⟩)
  | _, _ => False

def fillPT (E : Env) (place : Nat → Option (Nat × TI)) (ρ : Fr) : List (Nat × Operand) → List V → (List V → Prop) → Prop
  | [], cs, κ => κ cs
  | (i, x) :: ps, cs, κ => ev1 E ρ x fun v => match place i with
    | some (off, ti) => chk (Nat.ble (off + ti.size) cs.length) (cellsT ti v fun vs => fillPT E place ρ ps (putCells cs off vs) κ)
    | none => False

def fieldTIs (E : Env) : List (Nat × Nat) → (List (Nat × TI) → Prop) → Prop
  | [], κ => κ []
  | (o, t) :: fs, κ => withTI E t fun i => fieldTIs E fs fun r => κ ((o, i) :: r)

def small (n : Nat) : Bool := Nat.ble n 16

def buildPT (E : Env) (t : Nat) (parts : List (Nat × Operand)) (ρ : Fr) (κ : V → Prop) : Prop :=
  withTI E t fun i =>
  let fin := fun cs => κ (bif small i.size then .agg cs else .ago cs)
  match i.d with
  | .struct fs => fieldTIs E fs fun ps => fillPT E (fun j => ps[j]?) ρ parts i.zero fin
  | .array _ e => withTI E e fun j => fillPT E (fun m => some (m * j.size, j)) ρ parts i.zero fin
  | _ => False

def lenPT (E : Env) (t : Nat) (x : V) (κ : V → Prop) (h : Heap) : Prop :=
  withTI E t fun i => match i.d, x with
  | .leaf .str, .str s => κ (.int .i64 s.length)
  | .array n _, _ => κ (.int .i64 n)
  | .ptr a, _ => withTI E a fun j => match j.d with
    | .array n _ => κ (.int .i64 n)
    | _ => False
  | .slice _, .sl s => κ (.int .i64 s.len)
  | .map _ _, .map r => mapLen r (fun n => κ (.int .i64 n)) h
  | .leaf .chan, .chan r => chLen r (fun n => κ (.int .i64 n)) h
  | _, _ => False

def builtinPT (E : Env) (b : Builtin) (ts : List Nat) (vs : List V) (κ : V → Heap → Prop) (h : Heap) : Prop :=
  match b, ts, vs with
  | .len, t :: _, [x] => lenPT E t x (fun v => κ v h) h
  | .cap, t :: _, [x] => withTI E t fun i => match i.d, x with
    | .slice _, .sl s => κ (.int .i64 s.cap) h
    | _, _ => False
  | .append, [t, u], [.sl s, x] => withTI E t fun i => match i.d with
    | .slice e => withTI E e fun j => withTI E u fun iu => chk (Nat.blt 0 j.size) <| match iu.d, x with
      | .slice _, .sl x => cellsS j.size x (fun new => appS j.size j.bytes j.zero s new x.len (fun s h => κ (.sl s) h) h) h
      | .leaf .str, .str x => appS j.size j.bytes j.zero s (strCells x) x.length (fun s h => κ (.sl s) h) h
      | .leaf (.int _), .int _ n => appZ j.size j.bytes j.zero s n (fun s h => κ (.sl s) h) h
      | _, _ => False
    | _ => False
  | .copy, t :: _, [.sl d, x] => withTI E t fun i => match i.d with
    | .slice e => withTI E e fun j => match x with
      | .sl x => cellsS j.size x (fun cs => copyS j.size d cs x.len (fun n h => κ (.int .i64 n) h) h) h
      | .str x => chk (Nat.beq j.size 1) (copyS j.size d (strCells x) x.length (fun n h => κ (.int .i64 n) h) h)
      | _ => False
    | _ => False
  | .delete, t :: _, [x, y] => withTI E t fun i => match i.d, x with
    | .map kt _, .map m => withTI E kt fun ik => match ik.d with
      | .leaf ks => chk (keyIs ks y) (mapDel ks m y (fun h => κ (.tup []) h) h)
      | _ => False
    | _, _ => False
  | .min, _, [.int k a, .int _ b] => κ (.int k (minI a b)) h
  | .max, _, [.int k a, .int _ b] => κ (.int k (maxI a b)) h
  | .clear, t :: _, [x] => withTI E t fun i => match i.d, x with
    | .slice e, .sl s => withTI E e fun j => chk (Nat.blt 0 j.size) (clearS j.zero s (fun h => κ (.tup []) h) h)
    | _, _ => False
  | _, _, _ => False

def callPT (E : Env) (c : Call) (ρ : Fr) (κ : V → Heap → Prop) (h : Heap) : Prop :=
  match c.callee with
  | .value (.func f) => match E.fnc f with
    | some g => evL E ρ c.args.toList fun vs => E.call g vs κ h
    | none => False
  | .value x => ev1 E ρ x fun v => evL E ρ c.args.toList fun vs => bif E.isUnk x then E.callV v vs κ h else match v with
    | .fn g caps => chk (caps.all V.wfb) (E.call g (vs ++ caps) κ h)
    | _ => False
  | .invoke r m => ev1 E ρ r fun v => evL E ρ c.args.toList fun vs => E.inv v m vs κ h
  | .builtin b => evL E ρ c.args.toList fun vs => builtinPT E b c.argTypes.toList vs κ h

def mapPutPT (E : Env) (t : Nat) (v u r : V) (κ : Heap → Prop) (h : Heap) : Prop :=
  withTI E t fun i => match i.d, v with
    | .map kt _, .map m => withTI E kt fun ik => match ik.d with
      | .leaf ks => chk (keyIs ks u) (chk r.nt (mapPut ks m u r κ h))
      | _ => False
    | _, _ => False

def mapEntPT (E : Env) (t : Nat) (v u : V) (κ : V → Heap → Prop) (h : Heap) : Prop :=
  withTI E t fun i => match i.d, v with
    | .map kt et, .map m => withTI E kt fun ik => withTI E et fun ie => match ik.d with
      | .leaf ks => chk (keyIs ks u) (mapEnt ks m u ie.zv (fun r b h => asR (rsOf ie.d.sh ie.leaves) r fun r => κ (.tup [r, .int .i64 b]) h) h)
      | _ => False
    | _, _ => False

def entPutPT (v s r : V) (κ : Heap → Prop) (h : Heap) : Prop :=
  match v, s with
  | .map m, .int _ b => chk r.nt (entPut m b r κ h)
  | _, _ => False

def opPT (E : Env) (op : Op) (ρ : Fr) (κ : V → Heap → Prop) (h : Heap) : Prop :=
  match op with
  | .move x => ev1 E ρ x fun v => κ v h
  | .assign x => ev1 E ρ x fun v => κ v h
  | .pick c a b => ev1 E ρ c fun x => match x with
    | .bool true => ev1 E ρ a fun v => κ v h
    | .bool false => ev1 E ρ b fun v => κ v h
    | _ => False
  | .alloc t => withTI E t fun i => al i.zero (fun b h => κ (.ptr (some ⟨b, 0⟩)) h) h
  | .box t x => ev1 E ρ x fun v => withTI E t fun i => cellsT i v fun cs => al cs (fun b h => κ (.ptr (some ⟨b, 0⟩)) h) h
  | .build t parts => buildPT E t parts.toList ρ (fun v => κ v h)
  | .buildSlice t len parts => withTI E t fun i => match i.d with
    | .slice e => withTI E e fun j => chk (Nat.ble (len * j.size) 16777216 && Nat.blt 0 j.size) (fillPT E (fun m => some (m * j.size, j)) ρ parts.toList (flatRep len j.zero) (fun cs => al cs (fun b h => κ (.sl ⟨some ⟨b, 0⟩, len, len⟩) h) h))
    | _ => False
  | .load t a => ev1 E ρ a fun v => withTI E t fun i => match v with
    | .ptr (some p) => rdT i p (fun v => κ v h) h
    | _ => False
  | .store t a x => ev1 E ρ a fun v => ev1 E ρ x fun u => withTI E t fun i => match v with
    | .ptr (some p) => match i.d.sh with
      | some _ => chk u.one (wr p u (fun h => κ (.tup []) h) h)
      | none => cellsT i u fun cs => wrL cs p 0 (fun h => κ (.tup []) h) h
    | _ => False
  | .nilCheck x => ev1 E ρ x fun v => nilCU E.ifc v fun v => κ v h
  | .binOp op t x y _ => ev1 E ρ x fun a => ev1 E ρ y fun b => binPT E op t a b (isConstO y) (fun v => κ v h) h
  | .unOp op _ x => ev1 E ρ x fun a => unPT op a fun v => κ v h
  | .convert s d x => ev1 E ρ x fun a => convPT E s d a κ h
  | .makeInterface t x => ev1 E ρ x fun v => withTI E t fun i => match i.d, E.tyc t with
    | .iface, _ => False
    | _, some u => κ (.iface u v) h
    | _, none => False
  | .makeFunc (.func f) first caps => match first.toList, E.fnc f with
    | [], some g => evL E ρ caps.toList fun vs => κ (.fn g vs) h
    | _, _ => False
  | .makeFunc (.method m) first caps => match first.toList, caps.toList with
    | [x], [] => ev1 E ρ x fun v => mthC m v fun v => κ v h
    | _, _ => False
  | .makeSlice t l c => ev1 E ρ l fun a => ev1 E ρ c fun b => withTI E t fun i => match i.d, a, b with
    | .slice e, .int _ len, .int _ cap => withTI E e fun j => bif Nat.beq j.size 0 then False else mkSl j.bytes j.zero len cap (fun s h => κ (.sl s) h) h
    | _, _, _ => False
  | .slice t x lo hi mx => ev1 E ρ x fun v => evO E ρ lo fun lo => evO E ρ hi fun hi => evO E ρ mx fun mx => slicePT E t v lo hi mx fun v => κ v h
  | .fieldAddr s x f => ev1 E ρ x fun v => match v with
    | .ptr (some p) => fieldOf E s f fun off j => bif Nat.beq j.size 0 then False else κ (.ptr (some (p.add off))) h
    | _ => False
  | .field t x f => ev1 E ρ x fun v => fieldOf E t f fun off j => partT j v off fun v => κ v h
  | .indexAddr t x i => ev1 E ρ x fun v => ev1 E ρ i fun w => withTI E t fun ti => match ti.d, v, w with
    | .slice e, .sl s, .int _ i => withTI E e fun j => ix i s.len fun n => der s.p fun p => κ (.ptr (some (p.add (n * j.size)))) h
    | .array len e, .ptr (some p), .int _ i => withTI E e fun j => ix i len fun n => κ (.ptr (some (p.add (n * j.size)))) h
    | _, _, _ => False
  | .index t x i => ev1 E ρ x fun v => ev1 E ρ i fun w => withTI E t fun ti => match ti.d, v, w with
    | .leaf .str, .str s, .int _ i => ix i s.length fun n => κ (.int .u8 (s.getD n 0).toNat) h
    | .array len e, v, .int _ i => withTI E e fun j => ix i len fun n => partT j v.ofAg (n * j.size) fun v => κ v h
    | _, _, _ => False
  | .extract x i => ev1 E ρ x fun v => match v with
    | .tup vs => match vs[i]? with
      | some v => κ v h
      | none => False
    | _ => False
  | .call c => callPT E c ρ κ h
  | .makeMap t none => withTI E t fun i => match i.d with
    | .map kt _ => withTI E kt fun ik => match ik.d with
      | .leaf ks => alM ks (fun b h => κ (.map (some b)) h) h
      | _ => False
    | _ => False
  | .makeChan t x => ev1 E ρ x fun v => withTI E t fun i => match i.d, v with
    | .leaf .chan, .int .i64 n => chk (decide (0 ≤ n) && decide (n ≤ 65536)) (alC n.toNat (fun b h => κ (.chan (some b)) h) h)
    | _, _ => False
  | .lookup t x y c => ev1 E ρ x fun v => ev1 E ρ y fun u => withTI E t fun i => match i.d, v with
    | .map kt et, .map m => withTI E kt fun ik => withTI E et fun ie => match ik.d with
      | .leaf ks => chk (keyIs ks u) (mapGet ks m u (fun o => asR (rsOf ie.d.sh ie.leaves) (o.getD ie.zv) fun r => κ (bif c then .tup [r, .bool o.isSome] else r) h) h)
      | _ => False
    | _, _ => False
  | .range t x => ev1 E ρ x fun v => withTI E t fun i => match i.d, v with
    | .map _ _, .map m => rangeM m (fun b h => κ (.ptr (some ⟨b, 0⟩)) h) h
    | .leaf .str, .str s => rangeS s (fun b h => κ (.ptr (some ⟨b, 0⟩)) h) h
    | _, _ => False
  | .next x false => ev1 E ρ x fun v => match v with
    | .ptr (some p) => p.o = 0 ∧ nextM p.b (fun h => κ (.tup [.bool false]) h) (fun k u h => κ (.tup [.bool true, k, u]) h) h
    | _ => False
  | .next x true => ev1 E ρ x fun v => match v with
    | .ptr (some p) => p.o = 0 ∧ nextS p.b (fun h => κ (.tup [.bool false]) h) (fun i c h => κ (.tup [.bool true, .int .i64 i, .int .i32 c]) h) h
    | _ => False
  | .entry x => ev1 E ρ x fun v => match v with
    | .ptr (some p) => p.o = 0 ∧ entryM p.b (fun k u => κ (.tup [k, u]) h) h
    | _ => False
  | .mapUpdate t x y z => ev1 E ρ x fun v => ev1 E ρ y fun u => ev1 E ρ z fun r => mapPutPT E t v u r (fun h => κ (.tup []) h) h
  | .mapEntry t x y => ev1 E ρ x fun v => ev1 E ρ y fun u => mapEntPT E t v u κ h
  | .entryStore _ x s y => ev1 E ρ x fun v => ev1 E ρ s fun b => ev1 E ρ y fun r => entPutPT v b r (fun h => κ (.tup []) h) h
  | .insert t x y z => ev1 E ρ x fun v => ev1 E ρ y fun u => ev1 E ρ z fun r => mapPutPT E t v u r (fun h => κ (.tup []) h) h
  | _ => False

def putF (E : Env) (dst : Option Tmp) (v : Option V) (ρ : Fr) (κ : Fr → Prop) : Prop :=
  match dst with
  | none => κ ρ
  | some d => bif Nat.blt d E.n then κ ((d, v) :: ρ) else False

/-- Is an operation performed? -/
def guardG (E : Env) (all : List Oper) (o : Oper) (run skip : Fr → Prop) (ρ : Fr) : Prop :=
  match o.guard with
  | none => run ρ
  | some (j, want) => match (all[j]?).bind (·.dst) with
    | none => False
    | some d => bif Nat.blt d E.n then match look ρ d with
      | some (.bool x) => br x
          (bif want then run ((d, some (V.bool true)) :: ρ) else skip ((d, some (V.bool true)) :: ρ))
          (bif want then skip ((d, some (V.bool false)) :: ρ) else run ((d, some (V.bool false)) :: ρ))
      | some (.tup _) => skip ρ
      | _ => False
      else False

/-- One operation of a region, guard and all. -/
def stepPT (E : Env) (all : List Oper) (o : Oper) (κ : Fr → Heap → Prop) (ρ : Fr) (h : Heap) : Prop :=
  guardG E all o (fun ρ => opPT E o.op ρ (fun v h => asO E o v fun v => putF E o.dst (some v) ρ fun ρ => κ ρ h) h) (fun ρ => putF E o.dst (some (.tup [])) ρ fun ρ => κ ρ h) ρ

def ptOps (E : Env) (all : List Oper) : List Oper → (Fr → Heap → Prop) → Fr → Heap → Prop
  | [], κ, ρ, h => κ ρ h
  | o :: os, κ, ρ, h => stepPT E all o (fun ρ h => ptOps E all os κ ρ h) ρ h

/-! ### regions whose order is open -/

def edgeM : List Edge → Nat → Nat
  | [], m => m
  | e :: es, m => edgeM es (bif Region.binds .any e then m ||| (1 <<< e.on) else m)

def upM (ops : Array Oper) : Nat → Nat → Nat
  | 0, m => m
  | k + 1, m => upM ops k (bif m.testBit k then match ops[k]? with
    | some o => edgeM o.after.toList m
    | none => m else m)

/-- Must j be done ahead of i? Bits of a number tell what must. -/
def anc (ops : Array Oper) (n j i : Nat) : Bool :=
  match ops[i]? with
  | some o => (upM ops n (edgeM o.after.toList 0)).testBit j
  | none => false

def TD.isMap : TD → Bool
  | .map _ _ => true
  | .leaf .chan => true
  | _ => false

def TD.isInt : TD → Bool
  | .leaf (.int _) => true
  | _ => false

def withB (E : Env) (t : Nat) (p : TI → Bool) : Bool :=
  match E.ti t with
  | some i => p i
  | none => false

/-- Operations that only reckon. -/
def quietOp (E : Env) : Op → Bool
  | .move _ => true
  | .assign _ => true
  | .pick _ _ _ => true
  | .fieldAddr _ _ _ => true
  | .field _ _ _ => true
  | .indexAddr _ _ _ => true
  | .index _ _ _ => true
  | .unOp _ _ _ => true
  | .extract _ _ => true
  | .nilCheck _ => true
  | .slice _ _ _ _ _ => true
  | .binOp _ t _ _ _ => withB E t fun i => i.d.plain
  | .convert s d _ => withB E d fun i => withB E s fun i' => i.d.isInt && i'.d.isInt
  | .call c => match c.callee with
    | .builtin .len => match c.argTypes.toList with
      | t :: _ => withB E t fun i => !i.d.isMap
      | [] => false
    | _ => false
  | _ => false

def loadOp : Op → Bool
  | .load _ _ => true
  | _ => false

def hoists (E : Env) (ops : Array Oper) (listed : Array Bool) (i : Nat) : Bool :=
  match ops[i]? with
  | some o => (quietOp E o.op || loadOp o.op) && Region.free .any ops listed i
  | none => false

def allPT : List Nat → (Nat → Prop) → Prop
  | [], _ => True
  | [i], p => p i
  | i :: is, p => p i ∧ allPT is p

def ptD (E : Env) (ops : Array Oper) : Nat → Array Bool → List (Nat × (Heap → Prop)) → (Fr → Heap → Prop) → Fr → Heap → Prop
  | 0, _, _, _, _, _ => False
  | n + 1, listed, F, κ, ρ, h =>
    match Region.ready .any ops listed with
    | [] => κ ρ h
    | r :: rs => match (r :: rs).find? (hoists E ops listed) with
      | some i => match ops[i]? with
        | none => False
        | some o => match o.op with
          | .load t x => guardG E ops.toList o
              (fun ρ => ev1 E ρ x fun v => withTI E t fun ti => match v with
                | .ptr (some p) => rdT ti p (fun v => putF E o.dst (some v) ρ fun ρ => ptD E ops n (listed.setIfInBounds i true) ((i, fun h => ck p v.cells 0 h) :: F) κ ρ h) h
                | _ => False)
              (fun ρ => putF E o.dst (some (.tup [])) ρ fun ρ => ptD E ops n (listed.setIfInBounds i true) F κ ρ h) ρ
          | _ => stepPT E ops.toList o (fun ρ h => ptD E ops n (listed.setIfInBounds i true) F κ ρ h) ρ h
      | none => allPT (r :: rs) fun i => match ops[i]? with
        | none => False
        | some o =>
          let F' := F.filter fun p => !anc ops ops.size p.1 i
          stepPT E ops.toList o (fun ρ h => chkF F' h (ptD E ops n (listed.setIfInBounds i true) F' κ ρ h)) ρ h

def retL (E : Env) (ρ : Fr) (h : Heap) : List ResultVar → (List V → Prop) → Prop
  | [], κ => κ []
  | .tmp t :: rs, κ => match look ρ t with
    | some v => chk v.nt (retL E ρ h rs fun vs => κ (v :: vs))
    | none => False
  | .cell ad t :: rs, κ => match look ρ ad with
    | some (.ptr (some p)) => withTI E t fun i => rdT i p (fun v => chk v.nt (retL E ρ h rs fun vs => κ (v :: vs))) h
    | _ => False

def atRet (E : Env) (ρ : Fr) (h : Heap) : Prop :=
  retL E ρ h E.rets fun vs => match vs with
    | [v] => E.ret v h
    | vs => E.ret (.tup vs) h

def picks (ρ : Fr) : List Nat → (List V → Prop) → Prop
  | [], κ => κ []
  | t :: ts, κ => match look ρ t with
    | some v => picks ρ ts fun vs => κ (v :: vs)
    | none => False

def lit (c : Operand) (b : Bool) (ρ : Fr) : Fr :=
  match c with
  | .tmp d => (d, some (.bool b)) :: ρ
  | _ => ρ

/-- select of one case, with a default. -/
def selPT (E : Env) (cs : List SelectCase) (b : Bool) (ρ : Fr) (κ : V → Heap → Prop) (h : Heap) : Prop :=
  match cs, b with
  | [c], false => match c.send with
    | some x => ev1 E ρ c.chan fun v => ev1 E ρ x fun u => withTI E c.elem fun _ => match v with
      | .chan r => chk u.nt (chSend r u (fun k h => κ (.tup [.int .i64 k, .bool false]) h) h)
      | _ => False
    | none => ev1 E ρ c.chan fun v => withTI E c.elem fun ie => match v with
      | .chan r => chRecv r ie.zv (fun k ok x h => asR (rsOf ie.d.sh ie.leaves) x fun x => κ (.tup [.int .i64 k, .bool ok, x]) h) h
      | _ => False
  | _, _ => False

/-- A region in its own order; a select may stand first in it. -/
def ptR (E : Env) (ops : List Oper) (κ : Fr → Heap → Prop) (ρ : Fr) (h : Heap) : Prop :=
  match ops with
  | o :: os => match o.op, o.guard with
    | .select cs b, none => selPT E cs.toList b ρ (fun v h => putF E o.dst (some v) ρ fun ρ => ptOps E ops os κ ρ h) h
    | _, _ => ptOps E ops ops κ ρ h
  | [] => ptOps E ops ops κ ρ h

def pts (E : Env) : Nat → Bool → List Item → Fr → Heap → Prop
  | 0, _, _, _, _ => False
  | n + 1, first, todo, ρ, h => match todo with
    | [] => atRet E ρ h
    | .code c :: k => match c with
      | .skip => pts E n first k ρ h
      | .label _ => pts E n first k ρ h
      | .seq a b => pts E n first (.code a :: .code b :: k) ρ h
      | .cond c t e => match ev E ρ c with
        | some (.bool x) => br x (pts E n first (.code t :: k) (lit c true ρ) h) (pts E n first (.code e :: k) (lit c false ρ) h)
        | _ => False
      | .block id b => pts E n first (.code b :: .inBlock id :: k) ρ h
      | .loop b => pts E n first (.code b :: .inLoop b :: k) ρ h
      | .scope b => pts E n first (.code b :: .inScope b :: k) ρ h
      | .exit id => match exitTo id k with
        | some k' => pts E n first k' ρ h
        | none => False
      | .ret => atRet E ρ h
      | .region id ops draw => match (bif first then none else E.cut id) with
        | some (L, κ) => picks ρ L fun vs => κ vs h
        | none => bif draw then chk (Region.noSelect ops) (ptD E ops (ops.size + 1) (Array.replicate ops.size false) [] (fun ρ h => pts E n false k ρ h) ρ h) else ptR E ops.toList (fun ρ h => pts E n false k ρ h) ρ h
      | _ => False
    | .inBlock _ :: k => pts E n first k ρ h
    | .inScope _ :: k => pts E n first k ρ h
    | .inLoop b :: k => pts E n first (.code b :: .inLoop b :: k) ρ h
    | _ => False

/-! ### where regions stand in the code -/

def posC : Code → List Item → List (Nat × List Item)
  | .region id ops d, k => [(id, .code (.region id ops d) :: k)]
  | .seq a b, k => posC a (.code b :: k) ++ posC b k
  | .cond _ t e, k => posC t k ++ posC e k
  | .block id c, k => posC c (.inBlock id :: k)
  | .loop c, k => posC c (.inLoop c :: k)
  | .scope c, k => posC c (.inScope c :: k)
  | _, _ => []

def atPos (pos : List (Nat × List Item)) (id : Nat) : List Item :=
  match pos with
  | [] => []
  | (j, t) :: ps => bif Nat.beq j id then t else atPos ps id

/-- Frames with so many slots written. -/
def frOf : Nat → List V → Fr
  | _, [] => []
  | i, v :: vs => (i, some v) :: frOf (i + 1) vs

def frAt : List Nat → List V → Fr
  | t :: ts, v :: vs => (t, some v) :: frAt ts vs
  | _, _ => []

end Go.Lift

namespace Go.Lift
open Go.RowKit

structure Seat where
  P : Program
  fn : Nat → Nat
  ty : Nat → Nat

/-- All pairs of numbers, in a row. -/
def pairN : Nat → Nat × Nat
  | 0 => (0, 0)
  | n + 1 => match pairN n with
    | (0, y) => (y + 1, 0)
    | (x + 1, y) => (x, y + 1)

theorem pairN_all : ∀ s y : Nat, y ≤ s → ∃ n, pairN n = (s - y, y)
  | 0, 0, _ => ⟨0, rfl⟩
  | 0, y + 1, h => absurd h (by omega)
  | s + 1, 0, _ => by
    obtain ⟨n, hn⟩ := pairN_all s s (Nat.le_refl _)
    refine ⟨n + 1, ?_⟩
    simp only [pairN, hn, Nat.sub_self, Nat.sub_zero]
  | s + 1, y + 1, h => by
    obtain ⟨n, hn⟩ := pairN_all (s + 1) y (by omega)
    refine ⟨n + 1, ?_⟩
    have e : s + 1 - y = (s + 1 - (y + 1)) + 1 := by omega
    simp only [pairN, hn]
    rw [e]

theorem pairN_is (x y : Nat) : ∃ n, pairN n = (x, y) := by
  obtain ⟨n, hn⟩ := pairN_all (x + y) y (by omega)
  exact ⟨n, by rw [hn]; simp⟩

/-- The block 2 k is the machine's block k; the odd ones stand for addresses with a mark, whose blocks are not looked at. -/
def Ptr.addr (p : Ptr) : Addr :=
  if p.b % 2 = 0 then ⟨p.b / 2, p.o, none⟩
  else if p.o = 0 then ⟨(pairN (p.b / 2)).1, (pairN (pairN (p.b / 2)).2).1, some (pairN (pairN (p.b / 2)).2).2⟩
  else ⟨(pairN (p.b / 2)).1, (pairN (pairN (p.b / 2)).2).1 + p.o, none⟩

theorem addr_vb (k o : Nat) : Ptr.addr ⟨2 * k, o⟩ = ⟨k, o, none⟩ := by
  unfold Ptr.addr
  rw [if_pos (Nat.mul_mod_right 2 k)]
  simp

theorem addr_of {p : Ptr} {k : Nat} (h : p.b = 2 * k) : p.addr = ⟨k, p.o, none⟩ := by
  obtain ⟨b, o⟩ := p
  subst h
  exact addr_vb k o

/-- A pointer for any address. -/
theorem addr_all (a : Addr) : ∃ p : Ptr, p.addr = a := by
  obtain ⟨b, o, s⟩ := a
  cases s with
  | none => exact ⟨⟨2 * b, o⟩, addr_vb b o⟩
  | some s =>
    obtain ⟨m, hm⟩ := pairN_is o s
    obtain ⟨n, hn⟩ := pairN_is b m
    refine ⟨⟨2 * n + 1, 0⟩, ?_⟩
    unfold Ptr.addr
    have h1 : (2 * n + 1) % 2 = 1 := by omega
    have h2 : (2 * n + 1) / 2 = n := by omega
    simp [h1, h2, hn, hm]

noncomputable def Addr.ptr (a : Addr) : Ptr :=
  match a.spot with
  | none => ⟨2 * a.block, a.off⟩
  | some _ => Classical.choose (addr_all a)

theorem ptr_addr (a : Addr) : (Addr.ptr a).addr = a := by
  obtain ⟨b, o, s⟩ := a
  cases s with
  | none => exact addr_vb b o
  | some s => exact Classical.choose_spec (addr_all ⟨b, o, some s⟩)

theorem ptr_none (b o : Nat) : Addr.ptr ⟨b, o, none⟩ = ⟨2 * b, o⟩ := rfl

def mref (r : Option Nat) : Option Nat := r.map (· / 2)
theorem mref_vb (k : Nat) : mref (some (2 * k)) = some k := by simp [mref]
theorem mref_none : mref none = none := rfl
theorem mref_isNone (r : Option Nat) : (mref r).isNone = r.isNone := by cases r <;> rfl

mutual
def V.val (σ : Seat) : V → Value
  | .int k n => .int k n
  | .bool b => .bool b
  | .str s => .string ⟨s.toArray⟩
  | .ptr p => .pointer (p.map Ptr.addr)
  | .sl s => .slice (s.p.map Ptr.addr) s.len s.cap
  | .map r => .map (mref r)
  | .chan r => .chan (mref r)
  | .fn f caps => .func (.func (σ.fn f)) #[] (V.vals σ caps).toArray
  | .nilfn => .nilFunc
  | .mth m v => .func (.method m) #[V.val σ v] #[]
  | .iface t v => .iface (σ.ty t) (V.val σ v)
  | .nilif => .nilIface
  | .agg cs => .agg (V.vals σ cs).toArray
  | .ago cs => .agg (V.vals σ cs).toArray
  | .tup vs => .tuple (V.vals σ vs).toArray
def V.vals (σ : Seat) : List V → List Value
  | [] => []
  | v :: vs => V.val σ v :: V.vals σ vs
end

theorem vals_map (σ : Seat) (l : List V) : V.vals σ l = l.map (V.val σ) := by
  induction l with
  | nil => rfl
  | cons v vs ih => simp [V.vals, ih]

def V.wf1 (v : V) : Prop := ∀ u ∈ v.cells, u.one = true

/-- A value as the machine's slots hold them. -/
def V.wf : V → Prop
  | .tup vs => ∀ v ∈ vs, v.wf1
  | v => v.wf1

theorem V.wf_nt {v : V} (hn : v.nt = true) (hw : v.wf) : v.wf1 := by
  cases v <;> first | exact hw | exact absurd hn Bool.false_ne_true

theorem V.wf1_wf {v : V} (hw : v.wf1) : v.wf := by
  cases v <;> first | exact hw | exact absurd (hw _ (List.mem_singleton.2 rfl)) Bool.false_ne_true

theorem V.one_val {σ : Seat} {v : V} (h1 : v.one = true) : (v.val σ).oneCell' = true := by
  cases v <;> first | rfl | exact absurd h1 Bool.false_ne_true

theorem V.wf_one {v : V} (h1 : v.one = true) : v.wf := by
  cases v <;> first | exact absurd h1 Bool.false_ne_true | (intro u hu; simp [V.cells] at hu; subst hu; rfl)

theorem V.one_cells {v : V} (h1 : v.one = true) : v.cells = [v] := by
  cases v <;> first | exact absurd h1 Bool.false_ne_true | rfl

theorem vals_cells (σ : Seat) (v : V) : (v.val σ).cells.toList = V.vals σ v.cells := by
  cases v <;> simp [V.val, Value.cells, V.cells, V.vals]

def shD : Sh → TypeDesc
  | .int k => .int k
  | .bool => .bool
  | _ => .string

def simO (σ : Seat) : HO → Obj → Prop
  | .cells l mk, .cells c _ fz => c.toList = V.vals σ l ∧ (∀ v ∈ l, v.one = true) ∧ (if mk then l.length ≤ fz.1 else fz = (0, 0))
  | .ro f, .cells c _ _ => ∀ i v, f i = some v → c[i]? = some (v.val σ) ∧ v.one = true
  | .map ks es bs cl, .map c clock => c.toList.map (fun e => (e.key, e.val)) = es.map (fun p => (p.1.val σ, p.2.val σ)) ∧ (∀ p ∈ es, keyIs ks p.1 = true ∧ p.2.wf1) ∧ MapKept.Stamped c clock ∧ c.toList.map (·.born) = bs ∧ clock = cl
  | .iter m since seen last, .mapIter m' since' seen' last' => m' = mref m ∧ since' = since ∧ seen'.toList = seen ∧ last' = last
  | .siter s pos, .stringIter s' pos' => s' = ⟨s.toArray⟩ ∧ pos' = pos
  | .chan cap q, .chan cap' buf closed _ _ tm => cap' = cap ∧ buf.toList = V.vals σ q ∧ (∀ v ∈ q, v.wf1) ∧ closed = false ∧ tm = false
  | _, _ => False

def HO.isRo : HO → Bool
  | .ro _ => true
  | _ => false

structure Sim (σ : Seat) (W0 : World) (h : Heap) (w : World) : Prop where
  os : w.os = W0.os
  output : w.output = W0.output
  tape : w.tape = W0.tape
  size : W0.heap.size ≤ w.heap.size
  known : ∀ (b : Nat) x, h.obj b = some x → ∃ k o, b = 2 * k ∧ w.heap[k]? = some o ∧ simO σ x o
  old : ∀ b : Nat, b < W0.heap.size → w.heap[b]? = W0.heap[b]?
  own : ∀ (b : Nat) x, h.obj b = some x → x.isRo = false → 2 * W0.heap.size ≤ b

structure SimF (σ : Seat) (n : Nat) (ρ : Fr) (a : Act) : Prop where
  size : a.tmps.size = n
  defers : a.defers = []
  vals : ∀ t v, look ρ t = some v → a.tmps.getD t Go.undef = v.val σ ∧ v.wf

section
variable {σ : Seat} {W0 : World} {h : Heap} {w : World}

theorem Sim.drew (s : Sim σ W0 h w) : Sim σ W0 h w.drew := ⟨s.os, s.output, s.tape, s.size, s.known, s.old, s.own⟩

theorem Sim.getW (s : Sim σ W0 h w) {p : Ptr} {v : V} (hg : h.getW p.b p.o = some v) : w.cell? p.addr = some (v.val σ) ∧ w.frozen? p.addr = false ∧ v.one = true := by
  unfold Heap.getW at hg
  cases hb : h.obj p.b with
  | none => rw [hb] at hg; cases hg
  | some x =>
    rw [hb] at hg
    cases x with
    | map ks es bs cl => cases hg
    | iter m a b c => cases hg
    | siter a b => cases hg
    | chan a b => cases hg
    | ro f => cases hg
    | cells l mk =>
      simp only at hg
      obtain ⟨kb, o, ek, ho, hs⟩ := s.known _ _ hb
      cases o <;> simp only [simO] at hs
      rename_i c e fz
      obtain ⟨hc, h1, hf⟩ := hs
      rw [addr_of ek]
      have hlt : p.o < l.length := by
        rcases Nat.lt_or_ge p.o l.length with h | h
        · exact h
        · rw [List.getElem?_eq_none h] at hg; cases hg
      refine ⟨?_, ?_, h1 v (List.mem_of_getElem? hg)⟩
      · simp only [World.cell?, ho]
        have : c[p.o]? = c.toList[p.o]? := by simp
        rw [this, hc, vals_map, List.getElem?_map, hg]; simp
      · simp only [World.frozen?, ho]
        cases mk
        · simp only [Bool.false_eq_true, if_false] at hf; subst hf; simp
        · simp only [if_true] at hf
          have : ¬ fz.1 ≤ p.o := by omega
          simp [this]

theorem Sim.get (s : Sim σ W0 h w) {p : Ptr} {v : V} (hg : h.get p.b p.o = some v) : w.cell? p.addr = some (v.val σ) ∧ True ∧ v.one = true := by
  unfold Heap.get at hg
  cases hb : h.obj p.b with
  | none => rw [hb] at hg; cases hg
  | some x =>
    cases x with
    | map ks es bs cl => rw [hb] at hg; cases hg
    | iter m a b c => rw [hb] at hg; cases hg
    | siter a b => rw [hb] at hg; cases hg
    | chan a b => rw [hb] at hg; cases hg
    | ro f =>
      rw [hb] at hg
      obtain ⟨kb, o, ek, ho, hs⟩ := s.known _ _ hb
      cases o <;> simp only [simO] at hs
      obtain ⟨h1, h2⟩ := hs _ _ hg
      rw [addr_of ek]
      exact ⟨by simp only [World.cell?, ho]; simpa using h1, trivial, h2⟩
    | cells l mk =>
      rw [hb] at hg
      have := s.getW (p := p) (v := v) (by unfold Heap.getW; rw [hb]; exact hg)
      exact ⟨this.1, trivial, this.2.2⟩

theorem Heap.get_lt {b o : Nat} {v : V} (hg : h.getW b o = some v) : ∃ l mk, h.obj b = some (.cells l mk) ∧ l[o]? = some v ∧ o < l.length := by
  unfold Heap.getW at hg
  cases hb : h.obj b with
  | none => rw [hb] at hg; cases hg
  | some x =>
    rw [hb] at hg
    cases x with
    | map ks es bs cl => cases hg
    | iter m a b c => cases hg
    | siter a b => cases hg
    | chan a b => cases hg
    | ro f => cases hg
    | cells l mk =>
      refine ⟨l, mk, rfl, hg, ?_⟩
      rcases Nat.lt_or_ge o l.length with h | h
      · exact h
      · simp only at hg; rw [List.getElem?_eq_none h] at hg; cases hg

theorem Sim.set (s : Sim σ W0 h w) {p : Ptr} {u v : V} (hg : h.getW p.b p.o = some u) (hv : v.one = true) : Sim σ W0 (h.set p.b p.o v) (w.setCell p.addr (v.val σ)) := by
  obtain ⟨l, mk, hb, hl, hlt⟩ := Heap.get_lt hg
  obtain ⟨kb, o, ek, ho, hs⟩ := s.known _ _ hb
  cases o <;> simp only [simO] at hs
  rename_i c e fz
  obtain ⟨hc, h1, hf⟩ := hs
  have hheap : ∀ b : Nat, (w.setCell p.addr (v.val σ)).heap[b]? = if b = kb then some (.cells (c.setIfInBounds p.o (v.val σ)) e fz) else w.heap[b]? := by
    intro b
    simp only [World.setCell, addr_of ek, Array.getElem?_modify]
    by_cases hbe : b = kb
    · subst hbe; simp [ho]
    · have : ¬ kb = b := fun h => hbe h.symm
      simp [hbe, this]
  refine ⟨s.os, s.output, s.tape, by simp [World.setCell]; exact s.size, ?_, ?_, ?_⟩
  · intro b x hx
    by_cases hbe : b = p.b
    · subst hbe
      simp only [Heap.set, if_true, hb, Option.map_some, HO.set] at hx
      cases hx
      refine ⟨kb, .cells (c.setIfInBounds p.o (v.val σ)) e fz, ek, by rw [hheap, if_pos rfl], ?_, ?_, ?_⟩
      · simp [hc, vals_map, List.map_set]
      · intro z hz
        rcases List.mem_or_eq_of_mem_set hz with hz | rfl
        · exact h1 z hz
        · exact hv
      · cases mk <;> simpa using hf
    · simp only [Heap.set, hbe, if_false] at hx
      obtain ⟨k', o', ek', ho', hs'⟩ := s.known b x hx
      exact ⟨k', o', ek', by rw [hheap, if_neg (by omega)]; exact ho', hs'⟩
  · intro b hb'
    have : b ≠ kb := by have := s.own _ _ hb rfl; omega
    rw [hheap, if_neg this]
    exact s.old b hb'
  · intro b x hx hr
    simp only [Heap.set] at hx
    by_cases hbe : b = p.b
    · subst hbe; exact s.own _ _ hb rfl
    · rw [if_neg hbe] at hx; exact s.own b x hx hr

theorem Sim.size_none (s : Sim σ W0 h w) : h.obj (2 * w.heap.size) = none := by
  cases hb : h.obj (2 * w.heap.size) with
  | none => rfl
  | some x =>
    obtain ⟨k, o, ek, ho, _⟩ := s.known _ _ hb
    obtain rfl : w.heap.size = k := by omega
    simp at ho

theorem Sim.new (s : Sim σ W0 h w) {x : HO} {o : Obj} (hx : simO σ x o) : Sim σ W0 (h.new (2 * w.heap.size) x) (w.alloc o) := by
  refine ⟨s.os, s.output, s.tape, by show _ ≤ (w.heap.push o).size; simp; have := s.size; omega, ?_, ?_, ?_⟩
  · intro b y hy
    show ∃ k' o', b = 2 * k' ∧ (w.heap.push o)[k']? = _ ∧ _
    simp only [Heap.new] at hy
    by_cases hb : b = 2 * w.heap.size
    · subst hb; rw [if_pos rfl] at hy; cases hy
      exact ⟨_, o, rfl, by simp, hx⟩
    · rw [if_neg hb] at hy
      obtain ⟨k', o', ek', ho', hs⟩ := s.known b y hy
      refine ⟨k', o', ek', ?_, hs⟩
      rw [Array.getElem?_push, if_neg (by omega)]; exact ho'
  · intro b hb
    have hlt := s.size
    have hne : b ≠ w.heap.size := by omega
    show (w.heap.push o)[b]? = _
    rw [Array.getElem?_push, if_neg hne]; exact s.old b hb
  · intro b y hy hr
    simp only [Heap.new] at hy
    by_cases hb : b = 2 * w.heap.size
    · have := s.size; omega
    · rw [if_neg hb] at hy; exact s.own b y hy hr

theorem Sim.newCells (s : Sim σ W0 h w) {l : List V} {c : Array Value} {e : TypeId} (hc : c.toList = V.vals σ l) (h1 : ∀ v ∈ l, v.one = true) : Sim σ W0 (h.new (2 * w.heap.size) (.cells l false)) (w.alloc (.cells c e)) :=
  s.new ⟨hc, h1, rfl⟩

end

/-! ## types -/

def TDok (P : Program) (t : Nat) : TD → Prop
  | .leaf (.int k) => P.underlying t = some (.int k)
  | .leaf .bool => P.underlying t = some .bool
  | .leaf .str => P.underlying t = some .string
  | .leaf .chan => ∃ d e info, P.underlying t = some (.chan d e) ∧ P.info? e = some info ∧ info.bytes ≤ 65536
  | .leaf _ => False
  | .ptr e => P.underlying t = some (.pointer e)
  | .iface => ∃ ms, P.underlying t = some (.interface ms)
  | .func => ∃ a b c, P.underlying t = some (.func a b c)
  | .slice e => P.underlying t = some (.slice e)
  | .array n e => P.underlying t = some (.array n e)
  | .struct fs => ∃ fields : Array Field, P.underlying t = some (.struct fields) ∧ fields.toList.map (fun f => (f.offset, f.type)) = fs
  | .map k e => P.underlying t = some (.map k e)

def Value.isAgg' : Value → Bool
  | .agg _ => true
  | _ => false

def TD.one : TD → Bool
  | .array _ _ => false
  | .struct _ => false
  | _ => true

mutual
def EQ.depth : EQ → Nat
  | .leaf _ => 0
  | .arr _ _ e => e.depth + 1
  | .struct fs => fs.depth + 1
def EQL.depth : EQL → Nat
  | .nil => 0
  | .cons _ _ d fs => max d.depth fs.depth
end

mutual
def eqOK (P : Program) : EQ → Nat → Bool
  | .leaf (.int k), t => match P.underlying t with | some (.int k') => decide (k' = k) | _ => false
  | .leaf .bool, t => match P.underlying t with | some .bool => true | _ => false
  | .leaf .str, t => match P.underlying t with | some .string => true | _ => false
  | .leaf _, _ => false
  | .arr n sz e, t => match P.underlying t with | some (.array m u) => Nat.beq m n && Nat.beq (P.cellsOf u) sz && Nat.beq e.leaves.length sz && (P.info? u).isSome && eqOK P e u | _ => false
  | .struct fs, t => match P.underlying t with | some (.struct fields) => !P.stoodInHeld t && eqlOK P fs fields.toList 0 | _ => false
def eqlOK (P : Program) : EQL → List Field → Nat → Bool
  | .nil, [], _ => true
  | .cons o sz d fs, f :: l, i => Nat.beq o i && Nat.beq f.offset o && f.name != "_" && Nat.beq (P.cellsOf f.type) sz && Nat.beq d.leaves.length sz && (P.info? f.type).isSome && eqOK P d f.type && eqlOK P fs l (i + sz)
  | _, _, _ => false
end

structure TIok (P : Program) (t : Nat) (i : TI) : Prop where
  info : ∃ info, P.info? t = some info ∧ info.size = i.size ∧ info.bytes = i.bytes ∧ ∃ z, info.zero = some z ∧ ∀ σ, z.cells.toList = V.vals σ i.zero
  d : TDok P t i.d
  one : i.d.one = true → i.size = 1
  leaves : ∀ ls, i.leaves = some ls → ls.length = i.size
  eq : i.eq = true → P.stoodInHeld t = false ∧ P.eqGuardType P.depth t = false ∧ ∀ fields, P.underlying t = some (.struct fields) → ∀ f ∈ fields.toList, f.name ≠ "_"
  zlen : i.zero.length = i.size
  zag : ∀ info z, P.info? t = some info → info.zero = some z → Value.isAgg' z = i.d.sh.isNone
  zone : ∀ v ∈ i.zero, v.one = true
  eqd : ∀ d, i.eqd = some d → P.eqGuardType P.depth t = false ∧ eqOK P d t = true ∧ d.depth < 10000

end Go.Lift

namespace Go.Lift
open Go.RowKit

/-- A value is called. -/
def CallsVal (P : Program) (v : Value) (args : Array Value) (w : World) (R : Ending → World → Prop) : Prop :=
  ∃ f as, (do let d ← Deferred.ofValue v args; invoke d.target d.args : Sem Next).run P w = .ok (.enter f as) w ∧ Calls P f as w R

def CallsInv (P : Program) (v : Value) (m : String) (args : Array Value) (w : World) (R : Ending → World → Prop) : Prop :=
  ∃ f as, (invoke (.fn (.method m) #[]) (#[v] ++ args) : Sem Next).run P w = .ok (.enter f as) w ∧ Calls P f as w R

def Post (σ : Seat) (W0 : World) (κ : V → Heap → Prop) (e : Ending) (w' : World) : Prop :=
  ∃ r h', e = .returned (V.val σ r) ∧ r.wf ∧ Sim σ W0 h' w' ∧ κ r h'

structure EnvOK (σ : Seat) (W0 : World) (E : Env) : Prop where
  ti : ∀ t i, E.ti t = some i → TIok σ.P t i
  fnc : ∀ f g, E.fnc f = some g → σ.fn g = f
  tyc : ∀ t u, E.tyc t = some u → σ.ty u = t
  gl : ∀ g c, looks E.gls g = some c → E.ifc.glob c = 2 * g
  call : ∀ g vs κ h, (∀ v ∈ vs, v.wf) → E.call g vs κ h → ∀ w, Sim σ W0 h w → CallsVal σ.P (.func (.func (σ.fn g)) #[] #[]) (V.vals σ vs).toArray w (Post σ W0 κ)
  callV : ∀ v vs κ h, v.wf → (∀ v ∈ vs, v.wf) → E.callV v vs κ h → ∀ w, Sim σ W0 h w → CallsVal σ.P (V.val σ v) (V.vals σ vs).toArray w (Post σ W0 κ)
  ahead : ∀ v m, E.ifc.ahead v m = true → ∃ t u, v = .iface t u ∧ ∀ w, (nilAhead (σ.P.types.size + Made.depth) (σ.ty t) (V.val σ u) m).run σ.P w = .ok (some false) w
  inv : ∀ v m vs κ h, v.wf → (∀ v ∈ vs, v.wf) → E.inv v m vs κ h → ∀ w, Sim σ W0 h w → CallsInv σ.P (V.val σ v) m (V.vals σ vs).toArray w (Post σ W0 κ)

section
variable {σ : Seat} {W0 : World} {h : Heap} {w : World} {E : Env} {ρ : Fr} {a : Act}

theorem ofLeaf_val {c : Value} {v : V} (hc : ofLeaf c = some v) : v.val σ = c ∧ v.one = true := by
  unfold ofLeaf at hc
  split at hc <;> cases hc <;> simp [V.val, V.one, mref_none]

theorem ofLeaves_vals : ∀ {cs : List Value} {vs : List V}, ofLeaves cs = some vs → V.vals σ vs = cs ∧ ∀ v ∈ vs, v.one = true := by
  intro cs
  induction cs with
  | nil => intro vs hv; cases hv; exact ⟨rfl, by simp⟩
  | cons c cs ih =>
    intro vs hv
    unfold ofLeaves at hv
    split at hv
    · rename_i x hx
      split at hv
      · rename_i xs hxs
        cases hv
        have h1 := ofLeaf_val (σ := σ) hx
        have h2 := ih hxs
        exact ⟨by simp [V.vals, h1.1, h2.1], by simp [h1.2]; exact h2.2⟩
      · cases hv
    · cases hv

theorem ofConst_val {c : Value} {v : V} (hc : ofConst c = some v) : v.val σ = c ∧ v.wf := by
  unfold ofConst at hc
  split at hc
  · rename_i cs
    cases hl : ofLeaves cs.toList with
    | none => rw [hl] at hc; cases hc
    | some vs =>
      rw [hl] at hc; cases hc
      have := ofLeaves_vals (σ := σ) hl
      exact ⟨by simp [V.val, this.1], this.2⟩
  · exact ⟨(ofLeaf_val hc).1, V.wf_one (ofLeaf_val (σ := σ) hc).2⟩

theorem ev_val (ok : EnvOK σ W0 E) (f : SimF σ E.n ρ a) {x : Operand} {v : V} (hx : ev E ρ x = some v) : a.eval x = v.val σ ∧ v.wf := by
  cases x with
  | tmp t => exact f.vals t v hx
  | const c => exact ⟨(ofConst_val hx).1.symm, (ofConst_val (σ := σ) hx).2⟩
  | global g =>
    simp only [ev] at hx
    split at hx
    · rename_i c hc
      cases hx
      refine ⟨?_, V.wf_one rfl⟩
      simp only [V.val, Option.map_some, ok.gl g c hc, addr_vb]
      rfl
    · cases hx
  | func g =>
    simp only [ev] at hx
    split at hx
    · rename_i c hc
      cases hx
      refine ⟨?_, V.wf_one rfl⟩
      simp only [V.val, V.vals, ok.fnc g c hc]
      rfl
    · cases hx

theorem ev1_val (ok : EnvOK σ W0 E) (f : SimF σ E.n ρ a) {x : Operand} {κ : V → Prop} (hx : ev1 E ρ x κ) : ∃ v, a.eval x = v.val σ ∧ v.wf ∧ κ v := by
  unfold ev1 at hx
  split at hx
  · rename_i v hv; exact ⟨v, (ev_val ok f hv).1, (ev_val ok f hv).2, hx⟩
  · exact hx.elim

theorem evL_vals (ok : EnvOK σ W0 E) (f : SimF σ E.n ρ a) : ∀ {xs : List Operand} {κ : List V → Prop}, evL E ρ xs κ → ∃ vs, xs.map a.eval = V.vals σ vs ∧ (∀ v ∈ vs, v.wf) ∧ κ vs := by
  intro xs
  induction xs with
  | nil => intro κ hx; exact ⟨[], rfl, by simp, hx⟩
  | cons x xs ih =>
    intro κ hx
    obtain ⟨v, hv, wv, hx⟩ := ev1_val ok f hx
    obtain ⟨vs, hvs, wvs, hx⟩ := ih hx
    exact ⟨v :: vs, by simp [V.vals, hv, hvs], by simp; exact ⟨wv, wvs⟩, hx⟩

theorem withTI_ok (ok : EnvOK σ W0 E) {t : Nat} {κ : TI → Prop} (hx : withTI E t κ) : ∃ i, TIok σ.P t i ∧ κ i := by
  unfold withTI at hx
  split at hx
  · rename_i i hi; exact ⟨i, ok.ti t i hi, hx⟩
  · exact hx.elim

theorem TIok.size {P : Program} {t : Nat} {i : TI} (k : TIok P t i) (w : World) : (sizeOf t).run P w = .ok i.size w := by
  obtain ⟨info, hi, hs, _⟩ := k.info
  simp [sizeOf, typeInfo, hi, hs]

theorem TIok.zero {P : Program} {t : Nat} {i : TI} (k : TIok P t i) (w : World) : ∃ z, (zeroValue t).run P w = .ok z w ∧ ∀ σ, z.cells.toList = V.vals σ i.zero := by
  obtain ⟨info, hi, _, _, z, hz, hc⟩ := k.info
  exact ⟨z, by simp [zeroValue, typeInfo, hi, hz], hc⟩

theorem run_under {P : Program} {t : Nat} {d : TypeDesc} (hd : P.underlying t = some d) (w : World) : (underlying t).run P w = .ok d w := by
  simp [underlying, hd]

theorem TIok.under {P : Program} {t : Nat} {i : TI} (k : TIok P t i) : ∃ d, P.underlying t = some d ∧ (i.d.one = true → (match d with | .struct _ | .array _ _ => true | _ => false) = false) ∧ (i.d.one = false → (match d with | .struct _ | .array _ _ => true | _ => false) = true) := by
  have hd := k.d
  cases hi : i.d with
  | leaf s =>
    rw [hi] at hd
    cases s <;> simp only [TDok] at hd <;> first
      | exact hd.elim
      | exact ⟨_, hd, by simp, by simp [TD.one]⟩
      | (obtain ⟨d, e, info, hd, _⟩ := hd; exact ⟨_, hd, by simp, by simp [TD.one]⟩)
  | ptr e => rw [hi] at hd; exact ⟨_, hd, by simp, by simp [TD.one]⟩
  | iface => rw [hi] at hd; obtain ⟨ms, hd⟩ := hd; exact ⟨_, hd, by simp, by simp [TD.one]⟩
  | func => rw [hi] at hd; obtain ⟨x, y, z, hd⟩ := hd; exact ⟨_, hd, by simp, by simp [TD.one]⟩
  | slice e => rw [hi] at hd; exact ⟨_, hd, by simp, by simp [TD.one]⟩
  | array n e => rw [hi] at hd; exact ⟨_, hd, by simp [TD.one], by simp⟩
  | struct fs => rw [hi] at hd; obtain ⟨x, hd, _⟩ := hd; exact ⟨_, hd, by simp [TD.one], by simp⟩
  | map x y => rw [hi] at hd; exact ⟨_, hd, by simp, by simp [TD.one]⟩

theorem TIok.isAgg {P : Program} {t : Nat} {i : TI} (k : TIok P t i) (w : World) : (isAgg t).run P w = .ok (!i.d.one) w := by
  obtain ⟨d, hd, h1, h2⟩ := k.under
  cases ho : i.d.one with
  | true =>
    have := h1 ho
    cases d <;> simp_all [Go.isAgg, run_under hd]
  | false =>
    have := h2 ho
    cases d <;> simp_all [Go.isAgg, run_under hd]

/-! ### loads -/

theorem addr_add (p : Ptr) (n : Nat) : p.addr.add n = (p.add n).addr := by
  unfold Addr.add Ptr.add
  by_cases hn : n = 0
  · simp [hn]
  · rw [if_neg hn]
    unfold Ptr.addr
    have h1 : ¬ p.o + n = 0 := by omega
    by_cases hb : p.b % 2 = 0
    · simp only [hb, if_true]
    · by_cases ho : p.o = 0
      · simp only [hb, if_false, ho, if_true]
        simp [hn]
      · simp only [hb, if_false, ho, h1, Nat.add_assoc]

theorem rdSh_get {s : Sh} {p : Ptr} {κ : V → Prop} (hx : rdSh s p κ h) : ∃ v, h.get p.b p.o = some v ∧ κ v := by
  cases s <;> (obtain ⟨x, hx, hk⟩ := hx; exact ⟨_, hx, hk⟩)

theorem rdL_get : ∀ {ss : List Sh} {p : Ptr} {i : Nat} {κ : List V → Prop}, rdL ss p i κ h → ∃ vs : List V, vs.length = ss.length ∧ (∀ j v, vs[j]? = some v → h.get p.b (p.o + (i + j)) = some v) ∧ κ vs := by
  intro ss
  induction ss with
  | nil => intro p i κ hx; exact ⟨[], rfl, by simp, hx⟩
  | cons s ss ih =>
    intro p i κ hx
    obtain ⟨v, hv, hx⟩ := rdSh_get hx
    obtain ⟨vs, hl, hvs, hk⟩ := ih hx
    refine ⟨v :: vs, by simp [hl], ?_, hk⟩
    intro j u hj
    cases j with
    | zero => simp at hj; subst hj; simpa [Ptr.add] using hv
    | succ j =>
      have := hvs j u (by simpa using hj)
      rw [← this]; congr 1; omega

theorem run_loadCells_get (s : Sim σ W0 h w) {p : Ptr} {vs : List V} (hg : ∀ j v, vs[j]? = some v → h.get p.b (p.o + j) = some v) : (loadCells p.addr vs.length).run σ.P w = .ok (V.vals σ vs).toArray w := by
  have := run_loadCells_list (P := σ.P) (w := w) p.addr (V.vals σ vs) (by
    intro j v hj
    rw [vals_map, List.getElem?_map] at hj
    cases hv : vs[j]? with
    | none => rw [hv] at hj; cases hj
    | some u =>
      rw [hv] at hj; simp at hj; subst hj
      rw [addr_add]
      exact (s.get (p := p.add j) (hg j u hv)).1)
  simpa [vals_map] using this

theorem run_loadVar_one {P : Program} {t : Nat} {i : TI} (k : TIok P t i) (ho : i.d.one = true) {w : World} {a : Addr} {v : Value} (hc : w.cell? a = some v) : (loadVar t a).run P w = .ok v w := by
  simp [loadVar, k.isAgg, ho, hc]

theorem run_loadVar_agg (s : Sim σ W0 h w) {t : Nat} {i : TI} (k : TIok σ.P t i) (ho : i.d.one = false) {p : Ptr} {vs : List V} (hl : vs.length = i.size) (hg : ∀ j v, vs[j]? = some v → h.get p.b (p.o + j) = some v) : (loadVar t p.addr).run σ.P w = .ok (.agg (V.vals σ vs).toArray) w := by
  have := run_loadCells_get s hg
  simp [loadVar, k.isAgg, ho, k.size, ← hl, this]

theorem rdT_sound (s : Sim σ W0 h w) {t : Nat} {i : TI} (k : TIok σ.P t i) {p : Ptr} {κ : V → Prop} (hx : rdT i p κ h) : ∃ v, (loadVar t p.addr).run σ.P w = .ok (v.val σ) w ∧ v.wf ∧ κ v := by
  have one : ∀ v, i.d.one = true → h.get p.b p.o = some v → κ v → ∃ v, (loadVar t p.addr).run σ.P w = .ok (v.val σ) w ∧ v.wf ∧ κ v :=
    fun v ho hg hk => ⟨v, run_loadVar_one k ho (s.get hg).1, V.wf_one (s.get hg).2.2, hk⟩
  have agg : i.d.one = false → (match i.leaves with
    | some ls => rdL ls p 0 (fun vs => κ (.agg vs)) h
    | none => rdN i.size p (fun vs => κ (.ago vs)) h) → ∃ v, (loadVar t p.addr).run σ.P w = .ok (v.val σ) w ∧ v.wf ∧ κ v := by
    have wfl : ∀ vs : List V, (∀ j v, vs[j]? = some v → h.get p.b (p.o + j) = some v) → ∀ u ∈ vs, u.one = true := by
      intro vs hg u hu
      obtain ⟨j, hj⟩ := List.mem_iff_getElem?.1 hu
      exact (s.get (p := p.add j) (hg j u hj)).2.2
    intro ho hx
    split at hx
    · rename_i ls hls
      obtain ⟨vs, hl, hg, hk⟩ := rdL_get hx
      have hg' : ∀ j v, vs[j]? = some v → h.get p.b (p.o + j) = some v := fun j v hj => by simpa using hg j v hj
      exact ⟨.agg vs, run_loadVar_agg s k ho (by rw [hl, k.leaves ls hls]) hg', wfl vs hg', hk⟩
    · obtain ⟨cs, hl, hg, hk⟩ := hx
      have hg' : ∀ j v, cs[j]? = some v → h.get p.b (p.o + j) = some v := ?_
      · exact ⟨.ago cs, run_loadVar_agg s k ho hl hg', wfl cs hg', hk⟩
      intro j v hj
      have hlt : j < cs.length := by
        rcases Nat.lt_or_ge j cs.length with h | h
        · exact h
        · rw [List.getElem?_eq_none h] at hj; cases hj
      rw [hg j (by omega), hj]
  unfold rdT at hx
  split at hx <;> rename_i hd
  · obtain ⟨v, hv, hk⟩ := rdSh_get hx; exact one v (by rw [hd]; rfl) hv hk
  · obtain ⟨v, hv, hk⟩ := hx; exact one _ (by rw [hd]; rfl) hv hk
  · obtain ⟨v, hv, hk⟩ := hx; exact one _ (by rw [hd]; rfl) hv hk
  · obtain ⟨v, hv, hk⟩ := hx; exact one _ (by rw [hd]; rfl) hv hk
  · obtain ⟨v, hv, hk⟩ := hx; exact one _ (by rw [hd]; rfl) hv hk
  · obtain ⟨v, hv, hk⟩ := hx; exact one _ (by rw [hd]; rfl) hv hk
  · refine agg ?_ hx
    cases hi : i.d <;> simp_all [TD.one]
end
end Go.Lift

namespace Go.Lift
open Go.RowKit

section
variable {σ : Seat} {W0 : World} {h : Heap} {w : World} {E : Env} {ρ : Fr} {a : Act}

/-! ### stores -/

theorem run_store_get (s : Sim σ W0 h w) {p : Ptr} {u v : V} (hg : h.getW p.b p.o = some u) (h1 : v.one = true) : (store p.addr (v.val σ)).run σ.P w = .ok () (w.setCell p.addr (v.val σ)) := by
  obtain ⟨hc, hf, _⟩ := s.getW hg
  simp [run_store _ _ _ _ _ (V.one_val h1), hc, hf]

theorem wrL_sound : ∀ {vs : List V} {p : Ptr} {i : Nat} {κ : Heap → Prop} {h : Heap} {w : World}, Sim σ W0 h w → (∀ v ∈ vs, v.one = true) → wrL vs p i κ h → ∃ h' w', (storeCells p.addr (V.vals σ vs) i).run σ.P w = .ok () w' ∧ Sim σ W0 h' w' ∧ κ h' := by
  intro vs
  induction vs with
  | nil => intro p i κ h w s _ hx; exact ⟨h, w, by simp [V.vals, storeCells], s, hx⟩
  | cons v vs ih =>
    intro p i κ h w s h1 hx
    obtain ⟨⟨u, hu⟩, hx⟩ := hx
    have hv := h1 v (by simp)
    obtain ⟨h', w', hr, hs, hk⟩ := ih (s.set hu hv) (fun z hz => h1 z (by simp [hz])) hx
    refine ⟨h', w', ?_, hs, hk⟩
    have hst := run_store_get s hu hv
    rw [V.vals, storeCells, addr_add]
    simp [hst, hr]

theorem storeVar_sound (s : Sim σ W0 h w) {t : Nat} {i : TI} (k : TIok σ.P t i) {p : Ptr} {v : V} {κ : Heap → Prop} (hl : v.cells.length = i.size) (h1 : v.wf1) (hx : wrL v.cells p 0 κ h) : ∃ h' w', (storeVar t p.addr (v.val σ)).run σ.P w = .ok () w' ∧ Sim σ W0 h' w' ∧ κ h' := by
  obtain ⟨h', w', hr, hs, hk⟩ := wrL_sound s h1 hx
  refine ⟨h', w', ?_, hs, hk⟩
  have hc := vals_cells σ v
  have hsz : (v.val σ).cells.size = i.size := by
    rw [← Array.length_toList, hc, vals_map, List.length_map, hl]
  unfold storeVar
  simp [k.size, hsz, hc, hr]

/-! ### parts -/

theorem asSh_get {s : Sh} {v : Option V} {κ : V → Prop} (hx : asSh s v κ) : ∃ u, v = some u ∧ κ u := by
  cases s <;> (obtain ⟨x, hx, hk⟩ := hx; exact ⟨_, hx, hk⟩)

theorem asL_get : ∀ {ss : List Sh} {l : List V} {i : Nat} {κ : List V → Prop}, asL ss l i κ → ∃ vs : List V, vs.length = ss.length ∧ (∀ j v, vs[j]? = some v → l[i + j]? = some v) ∧ κ vs := by
  intro ss
  induction ss with
  | nil => intro l i κ hx; exact ⟨[], rfl, by simp, hx⟩
  | cons s ss ih =>
    intro l i κ hx
    obtain ⟨v, hv, hx⟩ := asSh_get hx
    obtain ⟨vs, hl, hvs, hk⟩ := ih hx
    refine ⟨v :: vs, by simp [hl], ?_, hk⟩
    intro j u hj
    cases j with
    | zero => simp at hj; subst hj; simpa using hv
    | succ j =>
      have := hvs j u (by simpa using hj)
      rw [← this]; congr 1; omega

theorem list_eq_of_get {vs l : List V} (h1 : l.length ≤ vs.length) (hg : ∀ (j : Nat) (v : V), vs[j]? = some v → l[j]? = some v) : l = vs := by
  apply List.ext_getElem?
  intro j
  cases hv : vs[j]? with
  | some v => rw [hg j v hv]
  | none => rw [List.getElem?_eq_none_iff] at hv ⊢; omega

theorem run_part_one {P : Program} {t : Nat} {i : TI} (k : TIok P t i) (ho : i.d.one = true) {cs : Array Value} {off : Nat} {v : Value} (hc : cs[off]? = some v) : (part t cs off).run P w = .ok v w := by
  simp [part, k.isAgg, ho, hc]

theorem run_part_agg {P : Program} {t : Nat} {i : TI} (k : TIok P t i) (ho : i.d.one = false) (cs : Array Value) (off : Nat) : (part t cs off).run P w = .ok (.agg (cs.extract off (off + i.size))) w := by
  simp [part, k.isAgg, ho, k.size]

theorem TD.sh_one {d : TD} : d.one = d.sh.isSome := by cases d <;> rfl

theorem vals_extract (cs : List V) (off n : Nat) : (V.vals σ cs).toArray.extract off (off + n) = (V.vals σ ((cs.drop off).take n)).toArray := by
  apply Array.ext'
  simp [vals_map, List.map_take, List.map_drop]

theorem partT_sound {t : Nat} {i : TI} (k : TIok σ.P t i) {x : V} (wx : x.wf) {off : Nat} {κ : V → Prop} (hx : partT i x off κ) : ∃ cs v, x.val σ = .agg cs ∧ (∀ w, (part t cs off).run σ.P w = .ok (v.val σ) w) ∧ v.wf ∧ κ v := by
  unfold partT at hx
  split at hx
  · rename_i cs
    refine ⟨(V.vals σ cs).toArray, ?_⟩
    split at hx
    · rename_i s hs
      split at hx
      · rename_i u hu
        refine ⟨u, rfl, fun w => run_part_one k (by rw [TD.sh_one, hs]; rfl) ?_, V.wf_one (wx u (List.mem_of_getElem? hu)), hx⟩
        simp [vals_map, hu]
      · exact hx.elim
    · rename_i hs
      refine ⟨.agg ((cs.drop off).take i.size), rfl, fun w => ?_, fun u hu => wx u (List.mem_of_mem_drop (List.mem_of_mem_take hu)), hx⟩
      rw [run_part_agg k (by rw [TD.sh_one, hs]; rfl), vals_extract]; rfl
  · rename_i cs
    refine ⟨(V.vals σ cs).toArray, ?_⟩
    split at hx
    · rename_i s hs
      obtain ⟨u, hu, hk⟩ := asSh_get hx
      refine ⟨u, rfl, fun w => run_part_one k (by rw [TD.sh_one, hs]; rfl) ?_, V.wf_one (wx u (List.mem_of_getElem? hu)), hk⟩
      simp [vals_map, hu]
    · rename_i hs
      have wc : ∀ u ∈ (cs.drop off).take i.size, u.one = true := fun u hu => wx u (List.mem_of_mem_drop (List.mem_of_mem_take hu))
      split at hx
      · rename_i ls hls
        obtain ⟨vs, hl, hg, hk⟩ := asL_get hx
        have e : (cs.drop off).take i.size = vs := list_eq_of_get (by rw [hl, k.leaves ls hls]; simp; omega) (fun j v hj => by simpa using hg j v hj)
        refine ⟨.agg vs, rfl, fun w => ?_, by rw [← e]; exact wc, hk⟩
        rw [run_part_agg k (by rw [TD.sh_one, hs]; rfl), vals_extract, e]; rfl
      · refine ⟨.ago ((cs.drop off).take i.size), rfl, fun w => ?_, wc, hx⟩
        rw [run_part_agg k (by rw [TD.sh_one, hs]; rfl), vals_extract]; rfl
  · exact hx.elim

/-! ### numbers -/

theorem wf_int (k : IntKind) (n : Int) : (V.int k n).wf := V.wf_one rfl
theorem wf_bool (b : Bool) : (V.bool b).wf := V.wf_one rfl
theorem wf_str (s : List UInt8) : (V.str s).wf := V.wf_one rfl
theorem wf_ptr (p : Option Ptr) : (V.ptr p).wf := V.wf_one rfl
theorem wf_sl (s : Sl) : (V.sl s).wf := V.wf_one rfl

theorem binI_sound {op : BinOp} {t : Nat} {k : IntKind} {x y : Int} {κ : V → Prop} (hx : binI op k x y κ) : ∃ v, (∀ w, (binOp op t (.int k x) (.int k y)).run σ.P w = .ok (V.val σ v) w) ∧ v.wf ∧ κ v := by
  cases op <;> simp only [binI] at hx
  case quo => exact ⟨_, fun w => by simp [binOp, Op.intDiv, hx.1]; rfl, wf_int _ _, hx.2⟩
  case rem => exact ⟨_, fun w => by simp [binOp, Op.intDiv, hx.1]; rfl, wf_int _ _, hx.2⟩
  case eql => exact ⟨_, fun w => by simp [binOp, Op.intCmp]; rfl, wf_bool _, hx⟩
  case neq => exact ⟨_, fun w => by simp [binOp, Op.intCmp]; rfl, wf_bool _, hx⟩
  case lss => exact ⟨_, fun w => by simp [binOp, Op.intCmp]; rfl, wf_bool _, hx⟩
  case leq => exact ⟨_, fun w => by simp [binOp, Op.intCmp]; rfl, wf_bool _, hx⟩
  case gtr => exact ⟨_, fun w => by simp [binOp, Op.intCmp]; rfl, wf_bool _, hx⟩
  case geq => exact ⟨_, fun w => by simp [binOp, Op.intCmp]; rfl, wf_bool _, hx⟩
  all_goals exact ⟨_, fun w => by simp only [binOp, ne_eq, not_true, if_false, Op.intArith, Op.intBits, Sem.run_pure]; rfl, wf_int _ _, hx⟩

theorem ba_toList (s : List UInt8) : (ByteArray.mk s.toArray).toList = s := by
  rw [ByteArray.toList_eq]

theorem ba_size (s : List UInt8) : (ByteArray.mk s.toArray).size = s.length := by
  simp [ByteArray.size]

theorem binS_sound {op : BinOp} {t : Nat} {x y : List UInt8} {κ : V → Prop} (hx : binS op x y κ) : ∃ v, (∀ w, (binOp op t (V.val σ (.str x)) (V.val σ (.str y))).run σ.P w = .ok (V.val σ v) w) ∧ v.wf ∧ κ v := by
  cases op <;> simp only [binS] at hx
  case add =>
    refine ⟨.str (x ++ y), fun w => ?_, wf_str _, hx.2⟩
    have h1 := hx.1
    simp only [V.val, binOp, Op.stringOp, ba_size]
    rw [if_neg (by simp [IntKind.max, IntKind.bits, IntKind.signed]; omega)]
    simp only [Sem.run_pure]
    congr 2
  all_goals first
    | exact hx.elim
    | exact ⟨_, fun w => by simp only [V.val, binOp, Op.stringOp, ba_toList]; rfl, wf_bool _, hx⟩


theorem isNil_sound {v : V} {κ : Bool → Prop} (hx : isNil v κ) : (v = .nilif ∧ κ true) ∨ ((∃ t u, v = .iface t u) ∧ κ false) := by
  unfold isNil at hx
  split at hx
  · exact .inl ⟨rfl, hx⟩
  · exact .inr ⟨⟨_, _, rfl⟩, hx⟩
  · exact hx.elim

theorem isNilF_sound {v : V} {κ : Bool → Prop} (hx : isNilF v κ) : (v = .nilfn ∧ κ true) ∨ ((∃ f c, v = .fn f c) ∧ κ false) := by
  unfold isNilF at hx
  split at hx
  · exact .inl ⟨rfl, hx⟩
  · exact .inr ⟨⟨_, _, rfl⟩, hx⟩
  · exact hx.elim

theorem plainP_known (s : Sim σ W0 h w) {p : Ptr} (hp : plainP (some p) h) : ∃ k c e, p.b = 2 * k ∧ w.heap[k]? = some (.cells c e (0, 0)) := by
  obtain ⟨l, hl⟩ := hp p rfl
  obtain ⟨k, o, ek, ho, hs⟩ := s.known _ _ hl
  cases o <;> simp only [simO] at hs
  rename_i c e fz
  simp only [Bool.false_eq_true, if_false] at hs
  obtain ⟨_, _, rfl⟩ := hs
  exact ⟨k, c, e, ek, ho⟩

theorem run_sameAddr (s : Sim σ W0 h w) {p q : Ptr} (hp : plainP (some p) h) (hq : plainP (some q) h) : (sameAddr p.addr q.addr).run σ.P w = .ok (p == q) w := by
  obtain ⟨k, c, e, ek, hc⟩ := plainP_known s hp
  obtain ⟨k', c', e', ek', hc'⟩ := plainP_known s hq
  have fp : ∀ n, w.frozen? ⟨k, n, none⟩ = false := by intro n; simp [World.frozen?, hc]
  have fq : ∀ n, w.frozen? ⟨k', n, none⟩ = false := by intro n; simp [World.frozen?, hc']
  have sp : w.shape? k = some (e, c.size) := by simp [World.shape?, hc]
  have sq : w.shape? k' = some (e', c'.size) := by simp [World.shape?, hc']
  have gp := addr_of ek
  have gq := addr_of ek'
  unfold sameAddr
  by_cases hb : k = k'
  · have e1 : (p.addr.block == q.addr.block) = true := by simp [gp, gq, hb]
    rw [if_pos e1]
    have : (p.addr == q.addr) = (p == q) := by
      rw [gp, gq]
      obtain ⟨pb, po⟩ := p; obtain ⟨qb, qo⟩ := q
      simp only at ek ek'
      rw [Bool.eq_iff_iff]
      simp [ek, ek', hb]
    rw [this]; rfl
  · have e1 : (p.addr.block == q.addr.block) = false := by simp [gp, gq, hb]
    have e2 : (p == q) = false := by
      rw [beq_eq_false_iff_ne]; intro h; exact hb (by rw [h] at ek; omega)
    rw [e1, e2]
    simp [gp, gq, fp, fq, noView, viewAt, sp, sq, mayBeOne, stringish]

theorem slBounds_sb {i : Int} {n : Nat} {κ : Nat → Prop} (hx : sb i n κ) (k : IntKind) (code : BoundsCode) : ∃ m : Nat, (∀ w, (Instr.sliceBound (.int k i) n code).run σ.P w = .ok m w) ∧ κ m := by
  obtain ⟨h0, h1, hk⟩ := hx
  exact ⟨i.toNat, fun w => by simp [Instr.sliceBound, asIntOf, h0, h1], hk⟩

theorem slBounds_sound {lo hi mx : Option V} {len cap : Nat} {κ : Nat → Nat → Nat → Prop} (isS : Bool) (hx : slBounds lo hi mx len cap κ) : ∃ l h m, (∀ w, (Instr.sliceBounds isS len cap (lo.map (V.val σ)) (hi.map (V.val σ)) (mx.map (V.val σ))).run σ.P w = .ok (l, h, m) w) ∧ κ l h m := by
  unfold slBounds at hx
  have low : ∀ (lo : Option V) (hh m : Nat) (code : BoundsCode), (match lo with
    | some (.int _ x) => sb x hh
    | none => fun k => k 0
    | _ => fun _ => False) (fun l => κ l hh m) → ∃ l, (∀ w, (match lo.map (V.val σ) with
      | some v => Instr.sliceBound v hh code
      | none => (pure 0 : Sem Nat)).run σ.P w = .ok l w) ∧ κ l hh m := by
    intro lo hh m code hx
    split at hx
    · rename_i k x
      obtain ⟨l, hr, hk⟩ := slBounds_sb (σ := σ) hx k code
      exact ⟨l, fun w => by simpa [V.val] using hr w, hk⟩
    · exact ⟨0, fun _ => rfl, hx⟩
    · exact hx.elim
  cases mx with
  | none =>
    simp only at hx
    cases hi with
    | none =>
      simp only at hx
      obtain ⟨l, hr, hk⟩ := low lo _ _ .sliceB hx
      refine ⟨l, len, cap, fun w => ?_, hk⟩
      cases lo <;> simp_all [Instr.sliceBounds]
    | some v =>
      cases v <;> first | exact hx.elim | skip
      rename_i k x
      obtain ⟨hh, hr', hx⟩ := slBounds_sb (σ := σ) hx k (if isS then .sliceAcap else .sliceAlen)
      obtain ⟨l, hr, hk⟩ := low lo _ _ .sliceB hx
      refine ⟨l, hh, cap, fun w => ?_, hk⟩
      cases lo <;> simp_all [Instr.sliceBounds, V.val]
  | some v =>
    cases v <;> first | exact hx.elim | skip
    rename_i k x
    obtain ⟨m, hrm, hx⟩ := slBounds_sb (σ := σ) hx k (if isS then .slice3Acap else .slice3Alen)
    cases hi with
    | none => exact hx.elim
    | some v =>
      cases v with
      | int k' x' =>
        obtain ⟨hh, hr', hx⟩ := slBounds_sb (σ := σ) hx k' .slice3B
        obtain ⟨l, hr, hk⟩ := low lo _ _ .slice3C hx
        refine ⟨l, hh, m, fun w => ?_, hk⟩
        cases lo <;> simp_all [Instr.sliceBounds, V.val]
      | _ => exact hx.elim

theorem slp_val (p : Option Ptr) (k l m : Nat) : (if m = l then p.map Ptr.addr else (p.map Ptr.addr).map (·.add k)) = (slp p k l m).map Ptr.addr := by
  unfold slp
  by_cases h : m = l
  · rw [if_pos h, if_pos h]
  · rw [if_neg h, if_neg h]
    cases p <;> simp [addr_add]

end
end Go.Lift

namespace Go.Lift
open Go.RowKit

section
variable {σ : Seat} {W0 : World} {h : Heap} {w : World} {E : Env} {ρ : Fr} {a : Act}

theorem eqD_run {x y : V} {t : Nat} {i : TI} (k : TIok σ.P t i) (n : Nat) {κ : Bool → Prop} (hx : eqD i.d x y κ) : ∃ b, (Op.equalIn (n + 1) t (x.val σ) (y.val σ)).run σ.P w = .ok b w ∧ κ b ∧ i.d.one = true := by
  have hd := k.d
  unfold eqD at hx
  split at hx
  · rename_i hi
    rw [hi] at hd
    split at hx
    · rename_i hk; subst hk
      exact ⟨_, run_equalIn_int w n t _ _ _ _ hd, hx, by rw [hi]; rfl⟩
    · exact hx.elim
  · rename_i hi; rw [hi] at hd
    exact ⟨_, run_equalIn_bool' w n t _ _ hd, hx, by rw [hi]; rfl⟩
  · rename_i p q hi; rw [hi] at hd
    refine ⟨_, run_equalIn_string w n t _ _ hd, ?_, by rw [hi]; rfl⟩
    rw [ba_toList, ba_toList]; exact hx
  · exact hx.elim

theorem eqFs_run (ok : EnvOK σ W0 E) (n : Nat) {xs ys : List V} : ∀ {fields : List Field} {fs : List (Nat × Nat)} {κ : List Bool → Prop}, fields.map (fun f => (f.offset, f.type)) = fs → (∀ f ∈ fields, f.name ≠ "_") → eqFs E fs xs ys κ →
    ∃ bs, (Op.eqFields (n + 1) (V.vals σ xs).toArray (V.vals σ ys).toArray fields).run σ.P w = .ok (eqL bs) w ∧ κ bs := by
  intro fields
  induction fields with
  | nil => intro fs κ hf _ hx; simp at hf; subst hf; exact ⟨[], rfl, hx⟩
  | cons f fields ih =>
    intro fs κ hf hn hx
    simp at hf; subst hf
    obtain ⟨i, k, hx⟩ := withTI_ok ok hx
    split at hx
    · rename_i x y hxo hyo
      obtain ⟨b, hr, hx, h1⟩ := eqD_run (w := w) k n hx
      obtain ⟨bs, hr', hk⟩ := ih rfl (fun g hg => hn g (by simp [hg])) hx
      refine ⟨b :: bs, ?_, hk⟩
      have px := run_part_one (w := w) k h1 (cs := (V.vals σ xs).toArray) (off := f.offset) (v := x.val σ) (by simp [vals_map, hxo])
      have py := run_part_one (w := w) k h1 (cs := (V.vals σ ys).toArray) (off := f.offset) (v := y.val σ) (by simp [vals_map, hyo])
      have hname := hn f (by simp)
      simp only [Op.eqFields, if_pos hname, Sem.run_bind, px, py, hr, Result.andThen_ok]
      cases b
      · simp [eqL]
      · simp [eqL, hr']
    · exact hx.elim

theorem eqFs1_run (ok : EnvOK σ W0 E) (n : Nat) {xs ys : List V} : ∀ {fields : List Field} {fs : List (Nat × Nat)} {κ : List Bool → Prop}, fields.map (fun f => (f.offset, f.type)) = fs → (∀ f ∈ fields, f.name ≠ "_") → eqFs1 E fs xs ys κ →
    ∃ bs, (Op.eqFields (n + 2) (V.vals σ xs).toArray (V.vals σ ys).toArray fields).run σ.P w = .ok (eqL bs) w ∧ κ bs := by
  intro fields
  induction fields with
  | nil => intro fs κ hf _ hx; simp at hf; subst hf; exact ⟨[], rfl, hx⟩
  | cons f fields ih =>
    intro fs κ hf hn hx
    simp at hf; subst hf
    obtain ⟨i, k, hx⟩ := withTI_ok ok hx
    have hname := hn f (by simp)
    have nested : ∀ gs, i.d = .struct gs → (bif i.eq then eqFs E gs ((xs.drop f.offset).take i.size) ((ys.drop f.offset).take i.size) (fun bs => eqFs1 E (fields.map (fun f => (f.offset, f.type))) xs ys (fun c => κ (eqL bs :: c))) else False) →
        ∃ bs, (Op.eqFields (n + 2) (V.vals σ xs).toArray (V.vals σ ys).toArray (f :: fields)).run σ.P w = .ok (eqL bs) w ∧ κ bs := by
      intro gs hd hx
      cases he : i.eq with
      | false => rw [he] at hx; exact hx.elim
      | true =>
        rw [he] at hx
        have hdd := k.d
        rw [hd] at hdd
        obtain ⟨gfields, hu, hf⟩ := hdd
        obtain ⟨h1, _, h3⟩ := k.eq he
        have hfo : σ.P.fieldsOf f.type = gfields := by simp [Program.fieldsOf, hu]
        obtain ⟨b0, hr0, hx⟩ := eqFs_run (w := w) ok n hf (h3 gfields hu) hx
        obtain ⟨bs, hr', hk⟩ := ih rfl (fun g hg => hn g (by simp [hg])) hx
        refine ⟨eqL b0 :: bs, ?_, hk⟩
        have hone : i.d.one = false := by rw [hd]; rfl
        have px : (part f.type (V.vals σ xs).toArray f.offset).run σ.P w = .ok (.agg (V.vals σ ((xs.drop f.offset).take i.size)).toArray) w := by rw [run_part_agg k hone, vals_extract]
        have py : (part f.type (V.vals σ ys).toArray f.offset).run σ.P w = .ok (.agg (V.vals σ ((ys.drop f.offset).take i.size)).toArray) w := by rw [run_part_agg k hone, vals_extract]
        have hr : (Op.equalIn (n + 2) f.type (.agg (V.vals σ ((xs.drop f.offset).take i.size)).toArray) (.agg (V.vals σ ((ys.drop f.offset).take i.size)).toArray)).run σ.P w = .ok (eqL b0) w := by
          rw [run_equalIn_struct w (n + 1) f.type _ _ (by rw [hfo]; exact hu) h1, hfo]
          exact hr0
        simp only [Op.eqFields, if_pos hname, Sem.run_bind, px, py, hr, Result.andThen_ok]
        cases hb : eqL b0
        · simp [eqL]
        · simp [eqL, hr']
    have flat : (match xs[f.offset]?, ys[f.offset]? with
        | some x, some y => eqD i.d x y (fun b => eqFs1 E (fields.map (fun f => (f.offset, f.type))) xs ys (fun c => κ (b :: c)))
        | _, _ => False) → ∃ bs, (Op.eqFields (n + 2) (V.vals σ xs).toArray (V.vals σ ys).toArray (f :: fields)).run σ.P w = .ok (eqL bs) w ∧ κ bs := by
      intro hx
      split at hx
      · rename_i x y hxo hyo
        obtain ⟨b, hr, hx, h1⟩ := eqD_run (w := w) k (n + 1) hx
        obtain ⟨bs, hr', hk⟩ := ih rfl (fun g hg => hn g (by simp [hg])) hx
        refine ⟨b :: bs, ?_, hk⟩
        have px := run_part_one (w := w) k h1 (cs := (V.vals σ xs).toArray) (off := f.offset) (v := x.val σ) (by simp [vals_map, hxo])
        have py := run_part_one (w := w) k h1 (cs := (V.vals σ ys).toArray) (off := f.offset) (v := y.val σ) (by simp [vals_map, hyo])
        simp only [Op.eqFields, if_pos hname, Sem.run_bind, px, py, hr, Result.andThen_ok]
        cases b
        · simp [eqL]
        · simp [eqL, hr']
      · exact hx.elim
    cases hd : i.d with
    | struct gs => rw [hd] at hx; exact nested gs hd hx
    | _ => rw [hd] at hx flat; exact flat hx

theorem run_equal_agg {t : Nat} {i : TI} {fs : List (Nat × Nat)} (ok : EnvOK σ W0 E) (k : TIok σ.P t i) (hd : i.d = .struct fs) (he : i.eq = true) {xs ys : List V} {κ : List Bool → Prop} (hx : eqFs1 E fs xs ys κ) :
    ∃ bs, (Op.equal t (.agg (V.vals σ xs).toArray) (.agg (V.vals σ ys).toArray)).run σ.P w = .ok (eqL bs) w ∧ κ bs := by
  have hdd := k.d
  rw [hd] at hdd
  obtain ⟨fields, hu, hf⟩ := hdd
  obtain ⟨h1, _, h3⟩ := k.eq he
  have hfo : σ.P.fieldsOf t = fields := by simp [Program.fieldsOf, hu]
  obtain ⟨bs, hr, hk⟩ := eqFs1_run (w := w) ok 9997 hf (h3 fields hu) hx
  refine ⟨bs, ?_, hk⟩
  unfold Op.equal Op.maxDepth
  rw [run_equalIn_struct w 9999 t _ _ (by rw [hfo]; exact hu) h1, hfo]
  exact hr

/-! structs and arrays whose cells are a list -/

def EQ.mk (σ : Seat) : EQ → List V → Value
  | .leaf _, xs => (xs.headD .nilfn).val σ
  | _, xs => .agg (V.vals σ xs).toArray

theorem fitsL_len : ∀ {ss : List Sh} {xs : List V}, fitsL ss xs → xs.length = ss.length
  | [], [], _ => rfl
  | [], _ :: _, h => h.elim
  | _ :: _, [], h => h.elim
  | _ :: ss, _ :: xs, h => by simp [fitsL_len h.2]

theorem fitsL_app : ∀ {a b : List Sh} {xs : List V}, fitsL (a ++ b) xs → fitsL a (xs.take a.length) ∧ fitsL b (xs.drop a.length)
  | [], b, xs, h => by simpa [fitsL] using h
  | s :: a, b, [], h => h.elim
  | s :: a, b, x :: xs, h => by
    obtain ⟨h1, h2⟩ := h
    obtain ⟨p, q⟩ := fitsL_app (a := a) (b := b) h2
    exact ⟨⟨h1, p⟩, by simpa using q⟩

theorem keqL_split : ∀ (n : Nat) {xs ys : List V}, xs.length = ys.length → keqL xs ys = (keqL (xs.take n) (ys.take n) && keqL (xs.drop n) (ys.drop n))
  | 0, xs, ys, _ => by simp [keqL]
  | n + 1, [], [], _ => by simp [keqL]
  | n + 1, [], _ :: _, h => by simp at h
  | n + 1, _ :: _, [], h => by simp at h
  | n + 1, x :: xs, y :: ys, h => by
    simp only [List.take_succ_cons, List.drop_succ_cons, keqL]
    rw [keqL_split n (by simpa using h), Bool.and_assoc]

theorem keyIs_leafOK {P : Program} {s : Sh} {t : Nat} (hk : eqOK P (.leaf s) t = true) : P.plainKey t = true := by
  unfold eqOK at hk
  unfold Program.plainKey
  cases s <;> simp only at hk <;> first | (cases hk; done) | skip
  all_goals (split at hk <;> first | (cases hk; done) | (rename_i hu; simp [hu]))

theorem isAgg_of {P : Program} {w : World} {d : EQ} {t : Nat} (hk : eqOK P d t = true) (hl : ∀ s, d ≠ .leaf s) : (isAgg t).run P w = .ok true w := by
  unfold eqOK at hk
  cases d with
  | leaf s => exact absurd rfl (hl s)
  | arr n sz e =>
    simp only at hk
    split at hk
    · rename_i hu; simp [isAgg, run_under hu]
    · cases hk
  | struct fs =>
    simp only at hk
    split at hk
    · rename_i hu; simp [isAgg, run_under hu]
    · cases hk

theorem part_of_eq {d : EQ} {t : Nat} (hk : eqOK σ.P d t = true) (hi : (σ.P.info? t).isSome = true) {xs : List V} {off : Nat} (hc : σ.P.cellsOf t = d.leaves.length) (hf : fitsL d.leaves ((xs.drop off).take d.leaves.length)) :
    (part t (V.vals σ xs).toArray off).run σ.P w = .ok (d.mk σ ((xs.drop off).take d.leaves.length)) w := by
  have agg : (∀ s, d ≠ .leaf s) → (part t (V.vals σ xs).toArray off).run σ.P w = .ok (d.mk σ ((xs.drop off).take d.leaves.length)) w := by
    intro hl
    obtain ⟨info, hinfo⟩ := Option.isSome_iff_exists.1 hi
    have hsz : info.size = d.leaves.length := by simpa [Program.cellsOf, hinfo] using hc
    have hm : d.mk σ ((xs.drop off).take d.leaves.length) = .agg (V.vals σ ((xs.drop off).take d.leaves.length)).toArray := by
      cases d with
      | leaf s => exact absurd rfl (hl s)
      | arr n sz e => rfl
      | struct fs => rfl
    rw [hm]
    simp [part, isAgg_of (w := w) hk hl, run_sizeOf w hinfo, hc, vals_map, List.map_take, List.map_drop]
  cases d with
  | leaf s =>
    have hlen := fitsL_len hf
    have : ∃ v, (xs.drop off).take 1 = [v] := by
      simp only [EQ.leaves, List.length_singleton] at hlen
      match h : (xs.drop off).take 1, hlen with
      | [v], _ => exact ⟨v, rfl⟩
    obtain ⟨v, hv⟩ := this
    have hx : xs[off]? = some v := by
      have := congrArg (fun l => l[0]?) hv
      rw [List.getElem?_take_of_lt (by omega), List.getElem?_drop] at this
      simpa using this
    have hm : EQ.mk σ (.leaf s) ((xs.drop off).take (EQ.leaf s).leaves.length) = v.val σ := by
      show ((((xs.drop off).take 1)).headD .nilfn).val σ = _
      rw [hv]; rfl
    rw [hm]
    exact run_part_plain w (keyIs_leafOK hk) (by simp [vals_map, hx])
  | arr n sz e => exact agg (fun s => by simp)
  | struct fs => exact agg (fun s => by simp)

theorem flatSh_length : ∀ (n : Nat) (l : List Sh), (flatSh n l).length = n * l.length
  | 0, l => by simp [flatSh]
  | n + 1, l => by simp [flatSh, flatSh_length n l, Nat.succ_mul, Nat.add_comm]

mutual
theorem eqE_run : ∀ (d : EQ) {t n : Nat} {xs ys : List V}, eqOK σ.P d t = true → d.depth < n → fitsL d.leaves xs → fitsL d.leaves ys →
    (Op.equalIn n t (d.mk σ xs) (d.mk σ ys)).run σ.P w = .ok (keqL xs ys) w
  | .leaf s, t, n, xs, ys, hk, hn, hx, hy => by
    obtain ⟨m, rfl⟩ : ∃ m, n = m + 1 := ⟨n - 1, by omega⟩
    match xs, hx with
    | [], h => exact h.elim
    | x :: x2 :: xs, h => exact h.2.elim
    | [x], hx =>
    match ys, hy with
    | [], h => exact h.elim
    | y :: y2 :: ys, h => exact h.2.elim
    | [y], hy =>
    obtain ⟨hx, _⟩ := hx
    obtain ⟨hy, _⟩ := hy
    unfold eqOK at hk
    show (Op.equalIn (m + 1) t (x.val σ) (y.val σ)).run σ.P w = _
    cases s <;> simp only at hk <;> first | (cases hk; done) | skip
    · split at hk
      · rename_i hu
        cases x <;> simp [keyIs] at hx
        cases y <;> simp [keyIs] at hy
        subst hx; subst hy
        simp only [keqL, keq, Bool.and_true]
        exact run_equalIn_int w m t _ _ _ _ hu
      · cases hk
    · split at hk
      · rename_i hu
        cases x <;> simp [keyIs] at hx
        cases y <;> simp [keyIs] at hy
        simp only [keqL, keq, Bool.and_true]
        exact run_equalIn_bool' w m t _ _ hu
      · cases hk
    · split at hk
      · rename_i hu
        cases x <;> simp [keyIs] at hx
        cases y <;> simp [keyIs] at hy
        simp only [keqL, keq, Bool.and_true]
        have := run_equalIn_string (P := σ.P) w m t ⟨(‹List UInt8›).toArray⟩ ⟨(‹List UInt8›).toArray⟩ hu
        rename_i s1 s2
        have := run_equalIn_string (P := σ.P) w m t ⟨s1.toArray⟩ ⟨s2.toArray⟩ hu
        rw [ba_toList, ba_toList] at this
        exact this
      · cases hk
  | .arr k sz e, t, n, xs, ys, hk, hn, hx, hy => by
    obtain ⟨m, rfl⟩ : ∃ m, n = m + 1 := ⟨n - 1, by omega⟩
    unfold eqOK at hk
    split at hk
    · rename_i k' u hu
      simp only [Bool.and_eq_true] at hk
      obtain ⟨⟨⟨⟨h1, h2⟩, h3⟩, h4⟩, h5⟩ := hk
      have h1 := Nat.eq_of_beq_eq_true h1
      have h2 := Nat.eq_of_beq_eq_true h2
      have h3 := Nat.eq_of_beq_eq_true h3
      subst h1
      obtain ⟨info, hinfo⟩ := Option.isSome_iff_exists.1 h4
      have hde : e.depth < m := by simp only [EQ.depth] at hn; omega
      show (Op.equalIn (m + 1) t (.agg (V.vals σ xs).toArray) (.agg (V.vals σ ys).toArray)).run σ.P w = _
      rw [run_equalIn_array w m _ _ hu hinfo, h2]
      have hlx := fitsL_len hx
      have hly := fitsL_len hy
      simp only [EQ.leaves] at hx hy hlx hly
      rw [flatSh_length, h3] at hlx hly
      have key : ∀ (j i : Nat), i + j = k' → fitsL (flatSh j e.leaves) (xs.drop (i * sz)) → fitsL (flatSh j e.leaves) (ys.drop (i * sz)) →
          (Op.eqItems m u sz (V.vals σ xs).toArray (V.vals σ ys).toArray (List.range' i j)).run σ.P w = .ok (keqL (xs.drop (i * sz)) (ys.drop (i * sz))) w := by
        intro j
        induction j with
        | zero =>
          intro i hi fx fy
          have ex : xs.drop (i * sz) = [] := List.length_eq_zero_iff.1 (by have := fitsL_len fx; simpa [flatSh] using this)
          have ey : ys.drop (i * sz) = [] := List.length_eq_zero_iff.1 (by have := fitsL_len fy; simpa [flatSh] using this)
          rw [ex, ey]
          simp [Op.eqItems, keqL]
        | succ j ih =>
          intro i hi fx fy
          simp only [flatSh] at fx fy
          obtain ⟨fx1, fx2⟩ := fitsL_app fx
          obtain ⟨fy1, fy2⟩ := fitsL_app fy
          have px := part_of_eq (w := w) h5 h4 (xs := xs) (off := i * sz) (by omega) fx1
          have py := part_of_eq (w := w) h5 h4 (xs := ys) (off := i * sz) (by omega) fy1
          have he := eqE_run e h5 hde fx1 fy1
          rw [List.drop_drop, h3] at fx2 fy2
          have es : i * sz + sz = (i + 1) * sz := by rw [Nat.succ_mul]
          rw [es] at fx2 fy2
          have hr := ih (i + 1) (by omega) fx2 fy2
          have hlen : (xs.drop (i * sz)).length = (ys.drop (i * sz)).length := by simp; omega
          rw [keqL_split sz hlen, List.drop_drop, List.drop_drop, es]
          rw [h3] at px py he
          simp only [List.range'_succ, Op.eqItems, Sem.run_bind, px, py, he, Result.andThen_ok]
          cases keqL ((xs.drop (i * sz)).take sz) ((ys.drop (i * sz)).take sz)
          · simp
          · simpa using hr
      have := key k' 0 (by omega) (by simpa using hx) (by simpa using hy)
      simpa [List.range_eq_range'] using this
    · cases hk
  | .struct fs, t, n, xs, ys, hk, hn, hx, hy => by
    obtain ⟨m, rfl⟩ : ∃ m, n = m + 1 := ⟨n - 1, by omega⟩
    unfold eqOK at hk
    split at hk
    · rename_i fields hu
      simp only [Bool.and_eq_true, Bool.not_eq_true'] at hk
      have hfo : σ.P.fieldsOf t = fields := by simp [Program.fieldsOf, hu]
      show (Op.equalIn (m + 1) t (.agg (V.vals σ xs).toArray) (.agg (V.vals σ ys).toArray)).run σ.P w = _
      rw [run_equalIn_struct w m t _ _ (by rw [hfo]; exact hu) hk.1, hfo]
      have := eqL_run fs (fields := fields.toList) (i := 0) (n := m) (xs := xs) (ys := ys) hk.2 (by simp only [EQ.depth] at hn; omega) (by simpa [EQ.leaves] using hx) (by simpa [EQ.leaves] using hy)
      simpa using this
    · cases hk
theorem eqL_run : ∀ (fs : EQL) {fields : List Field} {i n : Nat} {xs ys : List V}, eqlOK σ.P fs fields i = true → fs.depth < n → fitsL fs.leaves (xs.drop i) → fitsL fs.leaves (ys.drop i) →
    (Op.eqFields n (V.vals σ xs).toArray (V.vals σ ys).toArray fields).run σ.P w = .ok (keqL (xs.drop i) (ys.drop i)) w
  | .nil, fields, i, n, xs, ys, hk, hn, hx, hy => by
    cases fields with
    | cons f l => simp [eqlOK] at hk
    | nil =>
      have ex : xs.drop i = [] := List.length_eq_zero_iff.1 (by have := fitsL_len hx; simpa [EQL.leaves] using this)
      have ey : ys.drop i = [] := List.length_eq_zero_iff.1 (by have := fitsL_len hy; simpa [EQL.leaves] using this)
      rw [ex, ey]
      simp [Op.eqFields, keqL]
  | .cons o sz d fs, fields, i, n, xs, ys, hk, hn, hx, hy => by
    cases fields with
    | nil => simp [eqlOK] at hk
    | cons f l =>
      simp only [eqlOK, Bool.and_eq_true] at hk
      obtain ⟨⟨⟨⟨⟨⟨⟨h0, h1⟩, h2⟩, h3⟩, h4⟩, h5⟩, h6⟩, h7⟩ := hk
      have h0 := Nat.eq_of_beq_eq_true h0
      have h1 := Nat.eq_of_beq_eq_true h1
      have h3 := Nat.eq_of_beq_eq_true h3
      have h4 := Nat.eq_of_beq_eq_true h4
      have h2 : f.name ≠ "_" := by simpa using h2
      subst h0
      simp only [EQL.leaves] at hx hy
      simp only [EQL.depth] at hn
      obtain ⟨fx1, fx2⟩ := fitsL_app hx
      obtain ⟨fy1, fy2⟩ := fitsL_app hy
      have px := part_of_eq (w := w) h6 h5 (xs := xs) (off := o) (by omega) fx1
      have py := part_of_eq (w := w) h6 h5 (xs := ys) (off := o) (by omega) fy1
      have he := eqE_run d h6 (n := n) (by omega) fx1 fy1
      rw [List.drop_drop, h4] at fx2 fy2
      have hr := eqL_run fs h7 (n := n) (by omega) fx2 fy2
      have hlen : (xs.drop o).length = (ys.drop o).length := by rw [fitsL_len hx, fitsL_len hy]
      rw [keqL_split sz hlen, List.drop_drop, List.drop_drop]
      rw [h4] at px py he
      rw [← h1] at px py he hr ⊢
      simp only [Op.eqFields, if_pos h2, Sem.run_bind, px, py, he, Result.andThen_ok]
      cases keqL ((xs.drop f.offset).take sz) ((ys.drop f.offset).take sz)
      · simp
      · simpa using hr
end

theorem run_equal_ago {t : Nat} {i : TI} (k : TIok σ.P t i) {d : EQ} (hd : i.eqd = some d) {fs : List (Nat × Nat)} (hs : i.d = .struct fs) {xs ys : List V} {κ : Bool → Prop} (hx : eqAgo d.leaves xs ys κ) :
    ∃ b, (Op.equal t (.agg (V.vals σ xs).toArray) (.agg (V.vals σ ys).toArray)).run σ.P w = .ok b w ∧ κ b := by
  obtain ⟨_, h1, h2⟩ := k.eqd d hd
  obtain ⟨fx, fy, hk⟩ := hx
  refine ⟨_, ?_, hk⟩
  have hm : ∀ l, d.mk σ l = .agg (V.vals σ l).toArray := by
    intro l
    cases d with
    | leaf s =>
      exfalso
      have hdd := k.d
      rw [hs] at hdd
      obtain ⟨fields, hu, _⟩ := hdd
      have hp := keyIs_leafOK h1
      unfold Program.plainKey at hp
      rw [hu] at hp
      cases hp
    | arr n sz e => rfl
    | struct fs => rfl
  have := eqE_run (w := w) d h1 h2 fx fy
  rw [hm, hm] at this
  exact this

theorem eqGuard_plain {w : World} {op : BinOp} {t : Nat} {xo yo : Operand} {u v : Value} (hu : (match u with | .nilIface | .agg _ => true | _ => false) = false) : (eqGuard op t xo yo u v).run σ.P w = .ok () w := by
  unfold eqGuard
  cases op <;> first | rfl | skip
  all_goals cases u <;> first | rfl | cases hu

theorem eqGuard_nil {op : BinOp} {t : Nat} {xo yo : Operand} (hc : isConstO yo = true) : (eqGuard op t xo yo .nilIface .nilIface).run σ.P w = .ok () w := by
  unfold eqGuard
  cases op <;> first | rfl | skip
  all_goals (cases yo <;> first | cases hc | skip)
  all_goals simp

theorem eqGuard_agg {op : BinOp} {t : Nat} {xo yo : Operand} {u v : Array Value} (hc : σ.P.eqGuardType σ.P.depth t = false) : (eqGuard op t xo yo (.agg u) (.agg v)).run σ.P w = .ok () w := by
  unfold eqGuard
  cases op <;> first | rfl | skip
  all_goals simp [hc]

theorem eqIn_ptr_nn {t e : Nat} (n : Nat) (hu : σ.P.underlying t = some (.pointer e)) (b : Option Addr) : (Op.equalIn (n + 1) t (.pointer none) (.pointer b)).run σ.P w = .ok b.isNone w := by
  simp only [Op.equalIn, Sem.run_bind, run_under hu, Result.andThen_ok, Sem.run_pure]

theorem eqIn_ptr_sn {t e : Nat} (n : Nat) (hu : σ.P.underlying t = some (.pointer e)) (b : Addr) : (Op.equalIn (n + 1) t (.pointer (some b)) (.pointer none)).run σ.P w = .ok false w := by
  simp only [Op.equalIn, Sem.run_bind, run_under hu, Result.andThen_ok, Sem.run_pure]

theorem eqIn_ptr_ss {t e : Nat} (n : Nat) (hu : σ.P.underlying t = some (.pointer e)) {m : Nat} (hm : (sizeOf e).run σ.P w = .ok m w) (h0 : m ≠ 0) (a b : Addr) : (Op.equalIn (n + 1) t (.pointer (some a)) (.pointer (some b))).run σ.P w = (sameAddr a b).run σ.P w := by
  simp only [Op.equalIn, Sem.run_bind, run_under hu, Result.andThen_ok, hm]
  rw [if_pos h0]

theorem eqIn_slice {t e : Nat} (n : Nat) (hu : σ.P.underlying t = some (.slice e)) (a : Option Addr) (l c l' c' : Nat) : (Op.equalIn (n + 1) t (.slice a l c) (.slice none l' c')).run σ.P w = .ok a.isNone w := by
  cases a <;> simp only [Op.equalIn, Sem.run_bind, run_under hu, Result.andThen_ok, Sem.run_pure] <;> rfl

theorem eqIn_map {t e e' : Nat} (n : Nat) (hu : σ.P.underlying t = some (.map e e')) (a : Option Nat) : (Op.equalIn (n + 1) t (.map a) (.map none)).run σ.P w = .ok a.isNone w := by
  cases a <;> simp only [Op.equalIn, Sem.run_bind, run_under hu, Result.andThen_ok, Sem.run_pure] <;> rfl

theorem eqIn_nilif {t : Nat} {ms} (n : Nat) (hu : σ.P.underlying t = some (.interface ms)) : (Op.equalIn (n + 1) t .nilIface .nilIface).run σ.P w = .ok true w := by
  simp only [Op.equalIn, Sem.run_bind, run_under hu, Result.andThen_ok, Sem.run_pure]

theorem eqIn_iface {t : Nat} {ms} (n : Nat) (hu : σ.P.underlying t = some (.interface ms)) (t' : Nat) (u : Value) : (Op.equalIn (n + 1) t (.iface t' u) .nilIface).run σ.P w = .ok false w := by
  simp only [Op.equalIn, Sem.run_bind, run_under hu, Result.andThen_ok, Sem.run_pure]

theorem eqIn_nilfn {t : Nat} {x y z} (n : Nat) (hu : σ.P.underlying t = some (.func x y z)) : (Op.equalIn (n + 1) t .nilFunc .nilFunc).run σ.P w = .ok true w := by
  simp only [Op.equalIn, Sem.run_bind, run_under hu, Result.andThen_ok, Sem.run_pure]

theorem eqIn_fn {t : Nat} {x y z} (n : Nat) (hu : σ.P.underlying t = some (.func x y z)) (f : Fn) (u v : Array Value) : (Op.equalIn (n + 1) t (.func f u v) .nilFunc).run σ.P w = .ok false w := by
  simp only [Op.equalIn, Sem.run_bind, run_under hu, Result.andThen_ok, Sem.run_pure]

theorem run_equal_ptr {t e : Nat} {i j : TI} (k : TIok σ.P t i) (hd : i.d = .ptr e) (kj : TIok σ.P e j) (hz : Nat.beq j.size 0 = false) (s : Sim σ W0 h w) {q q' : Option Ptr} {κ : Bool → Prop} (hx : eqP q q' κ h) :
    ∃ b, (Op.equal t (.pointer (q.map Ptr.addr)) (.pointer (q'.map Ptr.addr))).run σ.P w = .ok b w ∧ κ b := by
  have hu := k.d
  rw [hd] at hu
  have hu : σ.P.underlying t = some (.pointer e) := hu
  have hz' : j.size ≠ 0 := by intro h0; rw [h0] at hz; cases hz
  unfold eqP at hx
  unfold Op.equal Op.maxDepth
  cases q' with
  | none =>
    cases q with
    | none => exact ⟨true, eqIn_ptr_nn 9999 hu _, hx⟩
    | some p => exact ⟨false, eqIn_ptr_sn 9999 hu _, hx⟩
  | some p' =>
    obtain ⟨hp, hp', hx⟩ := hx
    cases q with
    | none => exact ⟨false, eqIn_ptr_nn 9999 hu _, hx⟩
    | some p => exact ⟨p == p', (eqIn_ptr_ss 9999 hu (kj.size w) hz' _ _).trans (run_sameAddr s hp hp'), by simpa using hx⟩

/-- '==' between values that are no numbers and no strings. -/
theorem eqPT_sound (ok : EnvOK σ W0 E) (s : Sim σ W0 h w) {t : Nat} {x y : V} {xo yo : Operand} {κ : Bool → Prop} (op : BinOp) (hx : eqPT E t x y (isConstO yo) κ h) :
    ∃ b, (eqGuard op t xo yo (x.val σ) (y.val σ)).run σ.P w = .ok () w ∧ (Op.equal t (x.val σ) (y.val σ)).run σ.P w = .ok b w ∧ κ b ∧
      binOp .eql t (x.val σ) (y.val σ) = (do pure (.bool (← Op.equal t (x.val σ) (y.val σ)))) ∧ binOp .neq t (x.val σ) (y.val σ) = (do pure (.bool (!(← Op.equal t (x.val σ) (y.val σ))))) := by
  obtain ⟨i, k, hx⟩ := withTI_ok ok hx
  have hd := k.d
  split at hx
  · rename_i e hi
    obtain ⟨j, kj, hx⟩ := withTI_ok ok hx
    split at hx
    · rename_i q q'
      cases hz : Nat.beq j.size 0 with
      | true => rw [hz] at hx; exact hx.elim
      | false =>
        rw [hz] at hx
        obtain ⟨b, hr, hk⟩ := run_equal_ptr k hi kj hz s hx
        exact ⟨b, eqGuard_plain rfl, hr, hk, rfl, rfl⟩
    · exact hx.elim
  · rename_i hi
    rw [hi] at hd
    obtain ⟨ms, hu⟩ := hd
    split at hx
    · cases hc : isConstO yo with
      | false => rw [hc] at hx; exact hx.elim
      | true =>
        rw [hc] at hx
        rcases isNil_sound hx with ⟨rfl, hk⟩ | ⟨⟨t', u, rfl⟩, hk⟩
        · exact ⟨true, eqGuard_nil hc, eqIn_nilif 9999 hu, hk, rfl, rfl⟩
        · exact ⟨false, eqGuard_plain rfl, eqIn_iface 9999 hu _ _, hk, rfl, rfl⟩
    · exact hx.elim
  · rename_i hi
    rw [hi] at hd
    obtain ⟨a1, a2, a3, hu⟩ := hd
    split at hx
    · rcases isNilF_sound hx with ⟨rfl, hk⟩ | ⟨⟨f, c, rfl⟩, hk⟩
      · exact ⟨true, eqGuard_plain rfl, eqIn_nilfn 9999 hu, hk, rfl, rfl⟩
      · exact ⟨false, eqGuard_plain rfl, eqIn_fn 9999 hu _ _ _, hk, rfl, rfl⟩
    · exact hx.elim
  · rename_i e hi
    rw [hi] at hd
    have hu : σ.P.underlying t = some (.slice e) := hd
    split at hx
    · exact ⟨_, eqGuard_plain rfl, eqIn_slice 9999 hu _ _ _ _ _, by simpa using hx, rfl, rfl⟩
    · exact hx.elim
  · rename_i k1 e1 hi
    rw [hi] at hd
    have hu : σ.P.underlying t = some (.map k1 e1) := hd
    split at hx
    · exact ⟨_, eqGuard_plain rfl, eqIn_map 9999 hu _, by rw [mref_isNone]; exact hx, rfl, rfl⟩
    · exact hx.elim
  · rename_i hi
    have hx' := hx
    obtain ⟨b, hr, hk, _⟩ := eqD_run (w := w) k 9999 hx
    rw [hi] at hx'
    have sh : ∃ p q, x = .bool p ∧ y = .bool q := by
      cases x <;> first | exact hx'.elim | skip
      cases y <;> first | exact hx'.elim | exact ⟨_, _, rfl, rfl⟩
    obtain ⟨p, q, rfl, rfl⟩ := sh
    exact ⟨b, eqGuard_plain rfl, hr, hk, rfl, rfl⟩
  · rename_i fs hi
    split at hx
    · rename_i xs ys
      cases he : i.eq with
      | false => rw [he] at hx; exact hx.elim
      | true =>
        rw [he] at hx
        obtain ⟨bs, hr, hk⟩ := run_equal_agg (w := w) ok k hi he hx
        exact ⟨_, eqGuard_agg (k.eq he).2.1, hr, hk, rfl, rfl⟩
    · rename_i xs ys
      split at hx
      · rename_i d hd
        obtain ⟨b, hr, hk⟩ := run_equal_ago (w := w) k hd hi hx
        exact ⟨_, eqGuard_agg (k.eqd d hd).1, hr, hk, rfl, rfl⟩
      · exact hx.elim
    · exact hx.elim
  · exact hx.elim

theorem binP0_sound (ok : EnvOK σ W0 E) (s : Sim σ W0 h w) {op : BinOp} {t : Nat} {x y : V} {xo yo : Operand} {κ : V → Prop} (hx : binP0 E op t x y (isConstO yo) κ h) :
    ∃ v, (do eqGuard op t xo yo (x.val σ) (y.val σ); binOp op t (x.val σ) (y.val σ) : Sem Value).run σ.P w = .ok (V.val σ v) w ∧ v.wf ∧ κ v := by
  unfold binP0 at hx
  split at hx
  · rename_i k m k' n
    obtain ⟨h0, hk⟩ := hx
    refine ⟨_, ?_, wf_int _ _, hk⟩
    have : ¬ n < 0 := by omega
    simp [eqGuard, V.val, binOp, Op.shift, this, shlI]
  · rename_i k m k' n
    obtain ⟨h0, hk⟩ := hx
    refine ⟨_, ?_, wf_int _ _, hk⟩
    have : ¬ n < 0 := by omega
    simp [eqGuard, V.val, binOp, Op.shift, this, shrI]
  · split at hx
    · rename_i hk; subst hk
      obtain ⟨v, hr, hw, hk⟩ := binI_sound (σ := σ) (t := t) hx
      exact ⟨v, by simp [V.val, eqGuard_plain, hr], hw, hk⟩
    · exact hx.elim
  · obtain ⟨v, hr, hw, hk⟩ := binS_sound (σ := σ) (t := t) hx
    refine ⟨v, ?_, hw, hk⟩
    simp only [V.val] at hr ⊢
    simp [eqGuard_plain, hr]
  · obtain ⟨b, hg, hr, hk, e1, _⟩ := eqPT_sound (xo := xo) ok s .eql hx
    refine ⟨.bool b, ?_, wf_bool _, hk⟩
    rw [e1]
    simp [hg, hr, V.val]
  · obtain ⟨b, hg, hr, hk, _, e2⟩ := eqPT_sound (xo := xo) ok s .neq hx
    refine ⟨.bool !b, ?_, wf_bool _, hk⟩
    rw [e2]
    simp [hg, hr, V.val]
  · exact hx.elim

theorem binPT_sound (ok : EnvOK σ W0 E) (s : Sim σ W0 h w) {op : BinOp} {t : Nat} {x y : V} {xo yo : Operand} {κ : V → Prop} (hx : binPT E op t x y (isConstO yo) κ h) :
    ∃ v, (do eqGuard op t xo yo (x.val σ) (y.val σ); binOp op t (x.val σ) (y.val σ) : Sem Value).run σ.P w = .ok (V.val σ v) w ∧ v.wf ∧ κ v := by
  unfold binPT at hx
  cases hn : isNilV y with
  | false => rw [hn] at hx; exact binP0_sound ok s hx
  | true =>
    rw [hn] at hx
    simp only [cond_true] at hx
    split at hx
    · obtain ⟨b, hg, hr, hk, e1, _⟩ := eqPT_sound (xo := xo) ok s .eql hx
      refine ⟨.bool b, ?_, wf_bool _, hk⟩
      rw [e1]
      simp [hg, hr, V.val]
    · obtain ⟨b, hg, hr, hk, _, e2⟩ := eqPT_sound (xo := xo) ok s .neq hx
      refine ⟨.bool !b, ?_, wf_bool _, hk⟩
      rw [e2]
      simp [hg, hr, V.val]
    · exact hx.elim

end
end Go.Lift

namespace Go.Lift
open Go.RowKit

section
variable {σ : Seat} {W0 : World} {h : Heap} {w : World} {E : Env} {ρ : Fr} {a : Act}

theorem al_sound (s : Sim σ W0 h w) {l : List V} {κ : Nat → Heap → Prop} (h1 : ∀ v ∈ l, v.one = true) (hx : al l κ h) {c : Array Value} {e : TypeId} (hc : c.toList = V.vals σ l) :
    Sim σ W0 (h.new (2 * w.heap.size) (.cells l false)) (w.alloc (.cells c e)) ∧ κ (2 * w.heap.size) (h.new (2 * w.heap.size) (.cells l false)) :=
  ⟨s.newCells hc h1, hx _ s.size_none⟩

theorem run_newVar {P : Program} (t : Nat) (v : Value) : (newVar t v).run P w = .ok ⟨w.heap.size, 0, none⟩ (w.alloc (.cells v.cells t)) := by
  simp [newVar, newRow]

theorem range_mod (z : List Value) (hz : z ≠ []) : ∀ n : Nat, (List.range (n * z.length)).map (fun i => z[i % z.length]!) = (List.replicate n z).flatten := by
  intro n
  have hl : 0 < z.length := by cases z <;> simp_all
  induction n with
  | zero => simp
  | succ n ih =>
    rw [Nat.succ_mul, List.range_add, List.map_append, ih, List.replicate_succ', List.flatten_append]
    congr 1
    simp only [List.map_map, List.flatten_cons, List.flatten_nil, List.append_nil]
    apply List.ext_getElem
    · simp
    · intro i h1 h2
      simp
      rw [Nat.mod_eq_of_lt h2]
      simp [h2]

theorem arr_range_mod (z : Array Value) (hz : 0 < z.size) (n : Nat) : ((Array.range (n * z.size)).map (fun i => z[i % z.size]!)).toList = (List.replicate n z.toList).flatten := by
  have := range_mod z.toList (by intro h; have : z.size = 0 := by rw [← Array.length_toList, h]; rfl
                                 omega) n
  rw [Array.toList_map, Array.toList_range]
  rw [Array.length_toList] at this
  rw [← this]
  apply List.map_congr_left
  intro i _
  have hlt : i % z.size < z.size := Nat.mod_lt _ hz
  simp [hlt]

theorem vals_flatRep (n : Nat) (z : List V) : V.vals σ (flatRep n z) = (List.replicate n (V.vals σ z)).flatten := by
  simp [flatRep, vals_map]

theorem one_flatRep {n : Nat} {z : List V} (hz : ∀ v ∈ z, v.one = true) : ∀ v ∈ flatRep n z, v.one = true := by
  intro v hv
  simp [flatRep] at hv
  obtain ⟨l, ⟨_, rfl⟩, hv⟩ := hv
  exact hz v hv

theorem cellsS_sound (s : Sim σ W0 h w) {size : Nat} {x : Sl} {κ : List V → Prop} (hx : cellsS size x κ h) :
    ∃ cs : List V, (∀ w, Sim σ W0 h w → (Builtin.firstCells size x.len (V.val σ (.sl x))).run σ.P w = .ok (V.vals σ cs).toArray w) ∧ (∀ v ∈ cs, v.one = true) ∧ cs.length = x.len * size ∧ κ cs := by
  unfold cellsS at hx
  cases hp : x.p with
  | none =>
    rw [hp] at hx
    refine ⟨[], ?_, by simp, by simp [hx.1], hx.2⟩
    intro w s
    simp [V.val, hp, Builtin.firstCells, V.vals]
  | some p =>
    rw [hp] at hx
    obtain ⟨cs, hl, hg, hk⟩ := hx
    have hg' : ∀ j v, cs[j]? = some v → h.get p.b (p.o + j) = some v := by
      intro j v hj
      have hlt : j < cs.length := by
        rcases Nat.lt_or_ge j cs.length with h | h
        · exact h
        · rw [List.getElem?_eq_none h] at hj; cases hj
      rw [hg j (by omega), hj]
    refine ⟨cs, ?_, ?_, hl, hk⟩
    · intro w s
      have := run_loadCells_get s hg'
      simp only [V.val, hp, Option.map_some, Builtin.firstCells]
      rw [← hl]; exact this
    · intro u hu
      obtain ⟨j, hj⟩ := List.mem_iff_getElem?.1 hu
      exact (s.get (p := p.add j) (hg' j u hj)).2.2

theorem cellsS_sub (s : Sim σ W0 h w) {size : Nat} {x : Sl} {κ : List V → Prop} (hx : cellsS size x κ h) :
    ∃ cs : List V, (∀ n, n ≤ x.len → (Builtin.firstCells size n (V.val σ (.sl x))).run σ.P w = .ok (V.vals σ (cs.take (n * size))).toArray w) ∧ (∀ v ∈ cs, v.one = true) ∧ cs.length = x.len * size ∧ κ cs := by
  unfold cellsS at hx
  cases hp : x.p with
  | none =>
    rw [hp] at hx
    refine ⟨[], ?_, by simp, by simp [hx.1], hx.2⟩
    intro n _
    simp [V.val, hp, Builtin.firstCells, V.vals]
  | some p =>
    rw [hp] at hx
    obtain ⟨cs, hl, hg, hk⟩ := hx
    have hg' : ∀ j v, cs[j]? = some v → h.get p.b (p.o + j) = some v := by
      intro j v hj
      have hlt : j < cs.length := by
        rcases Nat.lt_or_ge j cs.length with h | h
        · exact h
        · rw [List.getElem?_eq_none h] at hj; cases hj
      rw [hg j (by omega), hj]
    refine ⟨cs, ?_, ?_, hl, hk⟩
    · intro n hn
      have := run_loadCells_get s (vs := cs.take (n * size)) (p := p) (fun j v hj => hg' j v (by
        rw [List.getElem?_take] at hj
        split at hj
        · exact hj
        · cases hj))
      simp only [V.val, hp, Option.map_some, Builtin.firstCells]
      have hle : n * size ≤ cs.length := by rw [hl]; exact Nat.mul_le_mul_right _ hn
      rw [List.length_take, Nat.min_eq_left hle] at this
      exact this
    · intro u hu
      obtain ⟨j, hj⟩ := List.mem_iff_getElem?.1 hu
      exact (s.get (p := p.add j) (hg' j u hj)).2.2

theorem growBy_le (m : Nat) : ∀ (r c : Nat), c ≤ 2 * m → 256 ≤ m → Builtin.growBy m r c ≤ 2 * m := by
  intro r
  induction r with
  | zero => intro c hc _; exact hc
  | succ r ih =>
    intro c hc hm
    unfold Builtin.growBy
    split
    · exact hc
    · exact ih _ (by omega) hm

theorem nextslicecap_le {m c : Nat} (h : c < m) : Builtin.nextslicecap m c ≤ 2 * m := by
  unfold Builtin.nextslicecap
  split
  · omega
  · split
    · omega
    · exact growBy_le _ _ _ (by omega) (by omega)

theorem zeroCells_vals {z : Value} {zs : List V} (hz : z.cells.toList = V.vals σ zs) (h0 : 0 < zs.length) (n : Nat) : (Builtin.zeroCells z.cells n).toList = V.vals σ (flatRep n zs) := by
  unfold Builtin.zeroCells
  have hs : z.cells.size = zs.length := by rw [← Array.length_toList, hz, vals_map, List.length_map]
  rw [arr_range_mod _ (by omega), hz, vals_flatRep]

theorem append_sound (s : Sim σ W0 h w) {t u ty e : Nat} {j : TI} (ht : σ.P.underlying t = some (.slice e)) (kj : TIok σ.P e j) (hsz : 0 < j.size) (hu : (∃ e', σ.P.underlying u = some (.slice e')) ∨ σ.P.underlying u = some .string)
    {sl : Sl} {xv : Value} {m : Nat} {new : List V} (hlen : ∀ w, (Builtin.lenOf xv).run σ.P w = .ok m w)
    (hnew : ∀ w, Sim σ W0 h w → (Builtin.firstCells j.size m xv).run σ.P w = .ok (V.vals σ new).toArray w) (hone : ∀ v ∈ new, v.one = true) {κ : Sl → Heap → Prop}
    (hx : appS j.size j.bytes j.zero sl new m κ h) :
    ∃ r h' w', (Builtin.append_ #[t, u] ty #[V.val σ (.sl sl), xv]).run σ.P w = .ok (V.val σ (.sl r)) w' ∧ Sim σ W0 h' w' ∧ κ r h' := by
  obtain ⟨info, hi, hisz, hiby, z, hiz, hzc⟩ := kj.info
  have hti : ∀ w, (typeInfo e).run σ.P w = .ok info w := by intro w'; simp [typeInfo, hi]
  have hzv : ∀ w, (zeroValue e).run σ.P w = .ok z w := by intro w'; simp [zeroValue, hti, hiz]
  have hun : ∃ d, (∀ w, (underlying u).run σ.P w = .ok d w) ∧ ((∃ e', d = .slice e') ∨ d = .string) := by
    rcases hu with ⟨e', hu⟩ | hu
    · exact ⟨_, run_under hu, .inl ⟨_, rfl⟩⟩
    · exact ⟨_, run_under hu, .inr rfl⟩
  obtain ⟨d, hud, hdd⟩ := hun
  unfold appS at hx
  by_cases hcap : sl.len + m ≤ sl.cap
  · rw [if_pos hcap] at hx
    cases hp : sl.p with
    | none =>
      rw [hp] at hx
      obtain ⟨rfl, hk⟩ := hx
      refine ⟨_, h, w, ?_, s, hk⟩
      have hn := hnew w s
      rcases hdd with ⟨e', rfl⟩ | rfl <;>
        simp [Builtin.append_, V.val, hp, run_under ht, hud, kj.size, hlen, hcap, hn]
    | some p =>
      rw [hp] at hx
      obtain ⟨h', w', hr, hs, hk⟩ := wrL_sound s hone hx
      refine ⟨_, h', w', ?_, hs, hk⟩
      have hn := hnew w s
      rw [← addr_add] at hr
      rcases hdd with ⟨e', rfl⟩ | rfl <;>
        simp [Builtin.append_, V.val, hp, run_under ht, hud, kj.size, hlen, hcap, hn, hr]
  · rw [if_neg hcap] at hx
    obtain ⟨hb1, hb2, hx⟩ := hx
    have hf : (Question.appendCap (sl.len + m) sl.cap e).forced = false := rfl
    have hn1 : ¬ (9223372036854775807 < (sl.len : Int) + (m : Int) ∧ info.bytes = 0) := by omega
    have hn2 : ¬ (281474976710656 < Builtin.nextslicecap (sl.len + m) sl.cap * info.bytes) := by
      have h1 := nextslicecap_le (m := sl.len + m) (c := sl.cap) (by omega)
      have h2 := Nat.mul_le_mul_right info.bytes h1
      rw [hiby] at h2 ⊢
      have h3 : 2 * (sl.len + m) * j.bytes = 2 * ((sl.len + m) * j.bytes) := by rw [Nat.mul_assoc]
      omega
    let q := Question.appendCap (sl.len + m) sl.cap e
    have hge : sl.len + m ≤ q.cut (w.tape w.drawn q) := by simp [q, Question.cut]
    have sd := s.drew
    have hnw := hnew _ sd
    have main : ∀ old : List V, (∀ v ∈ old, v.one = true) → (Builtin.firstCells j.size sl.len (V.val σ (.sl sl))).run σ.P w.drew = .ok (V.vals σ old).toArray w.drew →
        (∀ c, sl.len + m ≤ c → al (old ++ new ++ flatRep (c - (sl.len + m)) j.zero) (fun b h => κ ⟨some ⟨b, 0⟩, sl.len + m, c⟩ h) h) →
        ∃ r h' w', (Builtin.append_ #[t, u] ty #[V.val σ (.sl sl), xv]).run σ.P w = .ok (V.val σ (.sl r)) w' ∧ Sim σ W0 h' w' ∧ κ r h' := by
      intro old h1 hold hx
      obtain ⟨hs, hk⟩ := al_sound sd (e := e) (c := ((V.vals σ old).toArray ++ ((V.vals σ new).toArray ++ Builtin.zeroCells z.cells (q.cut (w.tape w.drawn q) - (sl.len + m))))) (by
          intro v hv
          simp only [List.mem_append] at hv
          rcases hv with (hv | hv) | hv
          · exact h1 v hv
          · exact hone v hv
          · exact one_flatRep kj.zone v hv) (hx _ hge) (by
          have := zeroCells_vals (σ := σ) (hzc σ) (by rw [kj.zlen]; exact hsz) (q.cut (w.tape w.drawn q) - (sl.len + m))
          simp [this, vals_map])
      refine ⟨_, _, _, ?_, hs, hk⟩
      simp only [V.val] at hold
      rcases hdd with ⟨e', rfl⟩ | rfl <;>
        simp [Builtin.append_, V.val, run_under ht, hud, kj.size, hlen, hcap, hf, hti, hn1, hn2, hzv, hold, hnw, newRow, q, addr_vb]
    cases hp : sl.p with
    | none =>
      rw [hp] at hx
      obtain ⟨h0, hx⟩ := hx
      exact main [] (by simp) (by simp [V.val, hp, Builtin.firstCells, V.vals]) hx
    | some p =>
      rw [hp] at hx
      have hx' : cellsS j.size sl (fun old => ∀ c, sl.len + m ≤ c → al (old ++ new ++ flatRep (c - (sl.len + m)) j.zero) (fun b h => κ ⟨some ⟨b, 0⟩, sl.len + m, c⟩ h) h) h := by
        unfold cellsS; rw [hp]; exact hx
      obtain ⟨cs, hr, h1, _, hk⟩ := cellsS_sound s hx'
      exact main cs h1 (hr _ sd) hk

theorem appendZ_sound (s : Sim σ W0 h w) {t u ty e : Nat} {j : TI} (ht : σ.P.underlying t = some (.slice e)) (kj : TIok σ.P e j) (hsz : 0 < j.size) {ku kn : IntKind} (hu : σ.P.underlying u = some (.int ku))
    {sl : Sl} {n : Int} {κ : Sl → Heap → Prop}
    (hx : appZ j.size j.bytes j.zero sl n κ h) :
    ∃ r h' w', (Builtin.append_ #[t, u] ty #[V.val σ (.sl sl), V.val σ (.int kn n)]).run σ.P w = .ok (V.val σ (.sl r)) w' ∧ Sim σ W0 h' w' ∧ κ r h' := by
  obtain ⟨info, hi, hisz, hiby, z, hiz, hzc⟩ := kj.info
  have hti : ∀ w, (typeInfo e).run σ.P w = .ok info w := by intro w'; simp [typeInfo, hi]
  have hzv : ∀ w, (zeroValue e).run σ.P w = .ok z w := by intro w'; simp [zeroValue, hti, hiz]
  have hud : ∀ w, (underlying u).run σ.P w = .ok (.int ku) w := run_under hu
  obtain ⟨hn0, hn48, hn63, hx⟩ := hx
  obtain ⟨m, rfl⟩ : ∃ m : Nat, n = m := ⟨n.toNat, by omega⟩
  simp only [Int.toNat_natCast] at hx
  have hwr : IntKind.i64.wrap (m : Int) = m := by
    simp [IntKind.wrap, IntKind.bits, IntKind.signed, IntKind.max, IntKind.min, Int.bmod]; omega
  have hneg : ¬ ((m : Int) < 0) := by omega
  have h48 : ¬ (281474976710656 < (m : Int) * (info.bytes : Int)) := by rw [hiby]; omega
  have hone : ∀ v ∈ flatRep m j.zero, v.one = true := one_flatRep kj.zone
  have hzz := zeroCells_vals (σ := σ) (hzc σ) (by rw [kj.zlen]; exact hsz) m
  have hzz' : Builtin.zeroCells z.cells m = (V.vals σ (flatRep m j.zero)).toArray := by apply Array.ext'; rw [hzz]
  have h00 : (m * j.size = 0 ∧ flatRep m j.zero = []) ∨ ¬ m * j.size = 0 := by
    by_cases h0 : m * j.size = 0
    · have : m = 0 := by rcases Nat.mul_eq_zero.1 h0 with h | h <;> omega
      subst this
      exact .inl ⟨h0, by simp [flatRep]⟩
    · exact .inr h0
  generalize hnew : flatRep m j.zero = new at *
  unfold appS at hx
  by_cases hcap : sl.len + m ≤ sl.cap
  · rw [if_pos hcap] at hx
    cases hp : sl.p with
    | none =>
      rw [hp] at hx
      obtain ⟨rfl, hk⟩ := hx
      refine ⟨_, h, w, ?_, s, hk⟩
      have h48' := h48
      rcases h00 with ⟨h0, _⟩ | h0
      · simp [Builtin.append_, V.val, hp, run_under ht, hud, kj.size, asIntOf, asInt, hwr, hneg, hti, h48, hcap, h0]
      · simp [Builtin.append_, V.val, hp, run_under ht, hud, kj.size, asIntOf, asInt, hwr, hneg, hti, h48, hcap, h0, hzv, hzz']
    | some p =>
      rw [hp] at hx
      obtain ⟨h', w', hr, hs, hk⟩ := wrL_sound s hone hx
      refine ⟨_, h', w', ?_, hs, hk⟩
      rw [← addr_add] at hr
      rcases h00 with ⟨h0, rfl⟩ | h0
      · simp [V.vals, storeCells] at hr
        subst hr
        simp [Builtin.append_, V.val, hp, run_under ht, hud, kj.size, asIntOf, asInt, hwr, hneg, hti, h48, hcap, h0, storeCells]
      · simp [Builtin.append_, V.val, hp, run_under ht, hud, kj.size, asIntOf, asInt, hwr, hneg, hti, h48, hcap, h0, hzv, hzz', hr]
  · rw [if_neg hcap] at hx
    obtain ⟨hb1, hb2, hx⟩ := hx
    have hf : (Question.appendCap (sl.len + m) sl.cap e).forced = false := rfl
    have hn1 : ¬ (9223372036854775807 < (sl.len : Int) + (m : Int)) := by omega
    have hn2 : ¬ (281474976710656 < Builtin.nextslicecap (sl.len + m) sl.cap * info.bytes) := by
      have h1 := nextslicecap_le (m := sl.len + m) (c := sl.cap) (by omega)
      have h2 := Nat.mul_le_mul_right info.bytes h1
      rw [hiby] at h2 ⊢
      have h3 : 2 * (sl.len + m) * j.bytes = 2 * ((sl.len + m) * j.bytes) := by rw [Nat.mul_assoc]
      omega
    let q := Question.appendCap (sl.len + m) sl.cap e
    have hge : sl.len + m ≤ q.cut (w.tape w.drawn q) := by simp [q, Question.cut]
    have sd := s.drew
    have main : ∀ old : List V, (∀ v ∈ old, v.one = true) → (Builtin.firstCells j.size sl.len (V.val σ (.sl sl))).run σ.P w.drew = .ok (V.vals σ old).toArray w.drew →
        (∀ c, sl.len + m ≤ c → al (old ++ new ++ flatRep (c - (sl.len + m)) j.zero) (fun b h => κ ⟨some ⟨b, 0⟩, sl.len + m, c⟩ h) h) →
        ∃ r h' w', (Builtin.append_ #[t, u] ty #[V.val σ (.sl sl), V.val σ (.int kn (m : Int))]).run σ.P w = .ok (V.val σ (.sl r)) w' ∧ Sim σ W0 h' w' ∧ κ r h' := by
      intro old h1 hold hx
      obtain ⟨hs, hk⟩ := al_sound sd (e := e) (c := ((V.vals σ old).toArray ++ ((V.vals σ new).toArray ++ Builtin.zeroCells z.cells (q.cut (w.tape w.drawn q) - (sl.len + m))))) (by
          intro v hv
          simp only [List.mem_append] at hv
          rcases hv with (hv | hv) | hv
          · exact h1 v hv
          · exact hone v hv
          · exact one_flatRep kj.zone v hv) (hx _ hge) (by
          have := zeroCells_vals (σ := σ) (hzc σ) (by rw [kj.zlen]; exact hsz) (q.cut (w.tape w.drawn q) - (sl.len + m))
          simp [this, vals_map])
      refine ⟨_, _, _, ?_, hs, hk⟩
      simp only [V.val] at hold
      rcases h00 with ⟨h0, rfl⟩ | h0
      · simp [Builtin.append_, V.val, run_under ht, hud, kj.size, asIntOf, asInt, hwr, hneg, h48, hcap, hf, hti, hn1, hn2, hzv, hold, h0, V.vals, newRow, q, addr_vb]
      · simp [Builtin.append_, V.val, run_under ht, hud, kj.size, asIntOf, asInt, hwr, hneg, h48, hcap, hf, hti, hn1, hn2, hzv, hold, h0, hzz', newRow, q, addr_vb]
    cases hp : sl.p with
    | none =>
      rw [hp] at hx
      obtain ⟨h0, hx⟩ := hx
      exact main [] (by simp) (by simp [V.val, hp, Builtin.firstCells, V.vals]) hx
    | some p =>
      rw [hp] at hx
      have hx' : cellsS j.size sl (fun old => ∀ c, sl.len + m ≤ c → al (old ++ new ++ flatRep (c - (sl.len + m)) j.zero) (fun b h => κ ⟨some ⟨b, 0⟩, sl.len + m, c⟩ h) h) h := by
        unfold cellsS; rw [hp]; exact hx
      obtain ⟨cs, hr, h1, _, hk⟩ := cellsS_sound s hx'
      exact main cs h1 (hr _ sd) hk

end
end Go.Lift

namespace Go.Lift
open Go.RowKit

section
variable {σ : Seat} {W0 : World} {h : Heap} {w : World} {E : Env} {ρ : Fr} {a : Act}

theorem copy_sound (s : Sim σ W0 h w) {t u ty e : Nat} {j : TI} (ht : σ.P.underlying t = some (.slice e)) (kj : TIok σ.P e j)
    {d : Sl} {xv : Value} {m : Nat} {cs : List V} (hlen : ∀ w, (Builtin.lenOf xv).run σ.P w = .ok m w)
    (hnew : ∀ n, n ≤ m → (Builtin.firstCells j.size n xv).run σ.P w = .ok (V.vals σ (cs.take (n * j.size))).toArray w) (hone : ∀ v ∈ cs, v.one = true) {κ : Int → Heap → Prop}
    (hx : copyS j.size d cs m κ h) :
    ∃ r h' w', (Builtin.copy_ #[t, u] ty #[V.val σ (.sl d), xv]).run σ.P w = .ok (.int .i64 r) w' ∧ Sim σ W0 h' w' ∧ κ r h' := by
  unfold copyS at hx
  have hn := hnew (min m d.len) (Nat.min_le_left _ _)
  cases hp : d.p with
  | none =>
    rw [hp] at hx
    obtain ⟨h0, hk⟩ := hx
    refine ⟨0, h, w, ?_, s, hk⟩
    rw [h0] at hn
    simp only [Nat.min_zero] at hn
    simp [Builtin.copy_, V.val, hp, run_under ht, kj.size, hlen, h0, hn, goInt]
  | some p =>
    rw [hp] at hx
    obtain ⟨h', w', hr, hs, hk⟩ := wrL_sound s (fun v hv => hone v (List.mem_of_mem_take hv)) hx
    refine ⟨_, h', w', ?_, hs, hk⟩
    simp [Builtin.copy_, V.val, hp, run_under ht, kj.size, hlen, hn, goInt, hr]

theorem run_makeSlice (s : Sim σ W0 h w) {t e : Nat} {j : TI} (ht : σ.P.underlying t = some (.slice e)) (kj : TIok σ.P e j) (hsz : 0 < j.size) {kl kc : IntKind} {len cap : Int} {κ : Sl → Heap → Prop} (hx : mkSl j.bytes j.zero len cap κ h) :
    ∃ r h' w', (Instr.makeSlice t (.int kl len) (.int kc cap)).run σ.P w = .ok (V.val σ (.sl r)) w' ∧ Sim σ W0 h' w' ∧ κ r h' := by
  obtain ⟨h0, hlc, hmax, hby, hx⟩ := hx
  obtain ⟨info, hi, hisz, hiby, z, hiz, hzc⟩ := kj.info
  have hti : ∀ w, (typeInfo e).run σ.P w = .ok info w := by intro w'; simp [typeInfo, hi]
  have hzv : ∀ w, (zeroValue e).run σ.P w = .ok z w := by intro w'; simp [zeroValue, hti, hiz]
  have hzs : z.cells.size = j.size := by rw [← Array.length_toList, hzc σ, vals_map, List.length_map, kj.zlen]
  have w1 : IntKind.i64.wrap len = len := by simp [IntKind.wrap, IntKind.bits, IntKind.signed]; omega
  have w2 : IntKind.i64.wrap cap = cap := by simp [IntKind.wrap, IntKind.bits, IntKind.signed]; omega
  have hby' : ¬ (281474976710656 < (info.bytes : Int) * cap) := by rw [hiby]; omega
  have hc0 : ¬ cap < 0 := by omega
  have hl0 : ¬ len < 0 := by omega
  have hlc' : ¬ cap < len := by omega
  obtain ⟨hs, hk⟩ := al_sound s (e := e) (c := (Array.range (cap.toNat * j.size)).map fun i => (if cap.toNat * j.size = 0 then #[] else z.cells)[i % (if cap.toNat * j.size = 0 then #[] else z.cells).size]!) (one_flatRep kj.zone) hx (by
    by_cases hn : cap.toNat * j.size = 0
    · have : cap.toNat = 0 := by rcases Nat.mul_eq_zero.1 hn with h | h <;> omega
      simp [this, flatRep, V.vals]
    · simp only [hn, if_false]
      rw [← hzs, arr_range_mod _ (by omega), vals_flatRep, hzc σ])
  refine ⟨_, _, _, ?_, hs, hk⟩
  by_cases hn : cap.toNat * j.size = 0 <;>
    simp [Instr.makeSlice, run_under ht, asInt, asIntOf, hti, w1, w2, hby', hc0, hl0, hlc', kj.size, hzv, hn, newRow, V.val, addr_vb]

theorem cellsT_sound {t : Nat} {i : TI} (k : TIok σ.P t i) {v : V} (wv : v.wf) {κ : List V → Prop} (hx : cellsT i v κ) : ∃ cs, (v.val σ).cells.toList = V.vals σ cs ∧ (∀ u ∈ cs, u.one = true) ∧ cs.length = i.size ∧ κ cs := by
  have key : ∀ cs, v.cells = cs → (∀ u ∈ cs, u.one = true) → cs.length = i.size → κ cs → ∃ cs, (v.val σ).cells.toList = V.vals σ cs ∧ (∀ u ∈ cs, u.one = true) ∧ cs.length = i.size ∧ κ cs :=
    fun cs e h1 hl hk => ⟨cs, by rw [vals_cells, e], h1, hl, hk⟩
  unfold cellsT at hx
  split at hx
  · rename_i sh hs
    cases ho : v.one with
    | false => rw [ho] at hx; exact hx.elim
    | true =>
      rw [ho] at hx
      exact key [v] (V.one_cells ho) (by simpa using ho) (by simp [k.one (by rw [TD.sh_one, hs]; rfl)]) hx
  · split at hx
    · rename_i cs
      cases hn : Nat.beq cs.length i.size with
      | false => rw [hn] at hx; exact hx.elim
      | true => rw [hn] at hx; exact key cs rfl wv (Nat.eq_of_beq_eq_true hn) hx
    · rename_i cs
      exact key cs rfl wv hx.1 hx.2
    · exact hx.elim

theorem putCells_foldl (off : Nat) : ∀ (vs : List V) (k : Nat) (l : List V), ((V.vals σ vs).zipIdx k).foldl (fun (cs : Array Value) (p : Value × Nat) => cs.setIfInBounds (off + p.2) p.1) (V.vals σ l).toArray = (V.vals σ (putCells l (off + k) vs)).toArray := by
  intro vs
  induction vs with
  | nil => intro k l; rfl
  | cons v vs ih =>
    intro k l
    simp only [V.vals, List.zipIdx_cons, List.foldl_cons, putCells]
    have : (V.vals σ l).toArray.setIfInBounds (off + k) (V.val σ v) = (V.vals σ (l.set (off + k) v)).toArray := by
      apply Array.ext'
      simp [vals_map, List.map_set]
    rw [this, ih (k + 1)]
    rfl

theorem putCells_length : ∀ (vs : List V) (o : Nat) (l : List V), (putCells l o vs).length = l.length := by
  intro vs
  induction vs with
  | nil => intro o l; rfl
  | cons v vs ih => intro o l; simp [putCells, ih]

theorem putCells_one : ∀ (vs : List V) (o : Nat) (l : List V), (∀ u ∈ l, u.one = true) → (∀ u ∈ vs, u.one = true) → ∀ u ∈ putCells l o vs, u.one = true := by
  intro vs
  induction vs with
  | nil => intro o l h1 _; exact h1
  | cons v vs ih =>
    intro o l h1 h2
    refine ih _ _ ?_ (fun u hu => h2 u (by simp [hu]))
    intro u hu
    rcases List.mem_or_eq_of_mem_set hu with hu | rfl
    · exact h1 u hu
    · exact h2 _ (by simp)

theorem chk_true {b : Bool} {A : Prop} (hx : chk b A) : b = true ∧ A := by
  cases b
  · exact hx.elim
  · exact ⟨rfl, hx⟩

theorem fillPT_sound (ok : EnvOK σ W0 E) (f : SimF σ E.n ρ a) {place : Nat → Option (Nat × TI)} {mplace : Nat → Option (Nat × Nat)} (hpl : ∀ i off ti, place i = some (off, ti) → ∃ t, TIok σ.P t ti ∧ mplace i = some (off, ti.size)) :
    ∀ {ps : List (Nat × Operand)} {cs : List V} {κ : List V → Prop}, (∀ u ∈ cs, u.one = true) → fillPT E place ρ ps cs κ →
    ∃ cs', Instr.fill mplace (V.vals σ cs).toArray (ps.map fun (i, x) => (i, a.eval x)) = some (V.vals σ cs').toArray ∧ (∀ u ∈ cs', u.one = true) ∧ cs'.length = cs.length ∧ κ cs' := by
  intro ps
  induction ps with
  | nil => intro cs κ h1 hx; exact ⟨cs, rfl, h1, rfl, hx⟩
  | cons p ps ih =>
    intro cs κ h1 hx
    obtain ⟨i, x⟩ := p
    obtain ⟨v, hv, wv, hx⟩ := ev1_val ok f hx
    split at hx
    · rename_i off ti hp
      obtain ⟨t, kt, hm⟩ := hpl _ _ _ hp
      obtain ⟨hle, hx⟩ := chk_true hx
      obtain ⟨vs, hvs, h1', hl, hx⟩ := cellsT_sound kt wv hx
      obtain ⟨cs', hr, h1'', hl', hk⟩ := ih (putCells_one vs off cs h1 h1') hx
      refine ⟨cs', ?_, h1'', by rw [hl', putCells_length], hk⟩
      have hle := Nat.le_of_ble_eq_true hle
      have hcz : (a.eval x).cells.size = ti.size := by rw [hv, ← Array.length_toList, hvs, vals_map, List.length_map, hl]
      simp only [List.map_cons, Instr.fill, hm]
      rw [if_neg]
      · have hz : (a.eval x).cells.zipIdx.foldl (fun (cs : Array Value) (p : Value × Nat) => cs.setIfInBounds (off + p.2) p.1) (V.vals σ cs).toArray = (V.vals σ (putCells cs off vs)).toArray := by
          rw [← Array.foldl_toList, Array.toList_zipIdx, hv, hvs]
          exact putCells_foldl off vs 0 cs
        rw [← hr]
        exact congrArg (fun z => Instr.fill mplace z _) hz
      · rw [hcz]
        simp [vals_map]
        omega
    · exact hx.elim

theorem fieldTIs_sound (ok : EnvOK σ W0 E) : ∀ {fields : List Field} {fs : List (Nat × Nat)} {κ : List (Nat × TI) → Prop}, fields.map (fun f => (f.offset, f.type)) = fs → fieldTIs E fs κ →
    ∃ ps : List (Nat × TI), (∀ (j off : Nat) (ti : TI), ps[j]? = some (off, ti) → ∃ t, TIok σ.P t ti) ∧ (fields.mapM (fun f => Prod.mk f.offset <$> sizeOf f.type : Field → Sem (Nat × Nat))).run σ.P w = .ok (ps.map fun p => (p.1, p.2.size)) w ∧ κ ps := by
  intro fields
  induction fields with
  | nil => intro fs κ hf hx; simp at hf; subst hf; exact ⟨[], by simp, rfl, hx⟩
  | cons f fields ih =>
    intro fs κ hf hx
    simp at hf; subst hf
    obtain ⟨i, k, hx⟩ := withTI_ok ok hx
    obtain ⟨ps, hps, hr, hk⟩ := ih rfl hx
    refine ⟨(f.offset, i) :: ps, ?_, ?_, hk⟩
    · intro j off ti hj
      cases j with
      | zero => simp at hj; obtain ⟨rfl, rfl⟩ := hj; exact ⟨_, k⟩
      | succ j => exact hps j off ti (by simpa using hj)
    · simp [List.mapM_cons, k.size, hr]

theorem run_zero_cells {t : Nat} {i : TI} (k : TIok σ.P t i) : ∃ z, (∀ w, (zeroValue t).run σ.P w = .ok z w) ∧ z.cells = (V.vals σ i.zero).toArray := by
  obtain ⟨info, hi, _, _, z, hz, hc⟩ := k.info
  exact ⟨z, fun w => by simp [zeroValue, typeInfo, hi, hz], by rw [← hc σ]⟩

theorem buildPT_sound (ok : EnvOK σ W0 E) (f : SimF σ E.n ρ a) {t : Nat} {parts : Array (Nat × Operand)} {κ : V → Prop} (hx : buildPT E t parts.toList ρ κ) :
    ∃ v, (Instr.build t (parts.map fun (i, x) => (i, a.eval x))).run σ.P w = .ok (V.val σ v) w ∧ v.wf ∧ κ v := by
  obtain ⟨i, k, hx⟩ := withTI_ok ok hx
  have hd := k.d
  obtain ⟨z, hz, hzc⟩ := run_zero_cells k
  have fin : ∀ cs : List V, (∀ u ∈ cs, u.one = true) → κ (bif small i.size then .agg cs else .ago cs) → ∃ v : V, V.val σ v = .agg (V.vals σ cs).toArray ∧ v.wf ∧ κ v := by
    intro cs h1 hk
    cases hsm : small i.size <;> rw [hsm] at hk
    · exact ⟨.ago cs, rfl, h1, hk⟩
    · exact ⟨.agg cs, rfl, h1, hk⟩
  simp only at hx
  split at hx
  · rename_i fs hi
    rw [hi] at hd
    obtain ⟨fields, hu, hf⟩ := hd
    obtain ⟨ps, hps, hr, hx⟩ := fieldTIs_sound (w := w) ok hf hx
    obtain ⟨cs', hfill, h1, _, hk⟩ := fillPT_sound ok f (mplace := fun j => (ps.map fun p => (p.1, p.2.size))[j]?) (by
      intro j off ti hj
      obtain ⟨t', kt⟩ := hps j off ti hj
      exact ⟨t', kt, by simp [hj]⟩) k.zone hx
    obtain ⟨v, hv, wv, hk⟩ := fin cs' h1 hk
    refine ⟨v, ?_, wv, hk⟩
    have hr' : (fields.mapM (fun f => do pure (f.offset, ← sizeOf f.type) : Field → Sem (Nat × Nat))).run σ.P w = .ok (ps.map fun p => (p.1, p.2.size)).toArray w := by
      have e1 : (fun f => do pure (f.offset, ← sizeOf f.type) : Field → Sem (Nat × Nat)) = (fun f => Prod.mk f.offset <$> sizeOf f.type) := by funext f; simp
      rw [← Array.toArray_toList (xs := fields), List.mapM_toArray, e1, Sem.run_map, hr]
      rfl
    rw [hv]
    unfold Instr.build
    simp only [Sem.run_bind, hz, run_under hu, Result.andThen_ok, hr', hzc]
    have : (parts.map fun (i, x) => (i, a.eval x)).toList = parts.toList.map fun (i, x) => (i, a.eval x) := by simp
    rw [this]
    have hplace : (fun j : Nat => (ps.map fun p => (p.1, p.2.size)).toArray[j]?) = (fun j : Nat => (ps.map fun p => (p.1, p.2.size))[j]?) := by funext j; simp
    rw [show (fun x => ((ps.map fun p => (p.1, p.2.size)).toArray)[x]?) = _ from hplace, hfill]
    rfl
  · rename_i n e hi
    rw [hi] at hd
    have hu : σ.P.underlying t = some (.array n e) := hd
    obtain ⟨j, kj, hx⟩ := withTI_ok ok hx
    obtain ⟨cs', hfill, h1, _, hk⟩ := fillPT_sound ok f (mplace := fun i => some (i * j.size, j.size)) (by
      intro m off ti hj
      simp at hj
      obtain ⟨rfl, rfl⟩ := hj
      exact ⟨e, kj, rfl⟩) k.zone hx
    obtain ⟨v, hv, wv, hk⟩ := fin cs' h1 hk
    refine ⟨v, ?_, wv, hk⟩
    rw [hv]
    unfold Instr.build
    simp only [Sem.run_bind, hz, run_under hu, Result.andThen_ok, kj.size, hzc]
    have : (parts.map fun (i, x) => (i, a.eval x)).toList = parts.toList.map fun (i, x) => (i, a.eval x) := by simp
    rw [this, hfill]
    rfl
  · exact hx.elim

theorem buildSlice_sound (ok : EnvOK σ W0 E) (s : Sim σ W0 h w) (f : SimF σ E.n ρ a) {t e : Nat} {j : TI} (hu : σ.P.underlying t = some (.slice e)) (kj : TIok σ.P e j) {len : Nat} {parts : Array (Nat × Operand)} {κ : Sl → Heap → Prop}
    (hsz : len * j.size ≤ 16777216) (h0 : 0 < j.size)
    (hx : fillPT E (fun m => some (m * j.size, j)) ρ parts.toList (flatRep len j.zero) (fun cs => al cs (fun b h => κ ⟨some ⟨b, 0⟩, len, len⟩ h) h)) :
    ∃ r h' w', (Instr.buildSlice t len (parts.map fun (i, x) => (i, a.eval x))).run σ.P w = .ok (V.val σ (.sl r)) w' ∧ Sim σ W0 h' w' ∧ κ r h' := by
  obtain ⟨z, hz, hzc⟩ := run_zero_cells kj
  obtain ⟨cs', hfill, h1, hl, hx⟩ := fillPT_sound ok f (mplace := fun i => some (i * j.size, j.size)) (by
      intro m off ti hj
      simp at hj
      obtain ⟨rfl, rfl⟩ := hj
      exact ⟨e, kj, rfl⟩) (one_flatRep kj.zone) hx
  obtain ⟨hs, hk⟩ := al_sound s (e := e) (c := (V.vals σ cs').toArray) h1 hx (by simp)
  refine ⟨_, _, _, ?_, hs, hk⟩
  have hzs : z.cells.size = j.size := by rw [hzc]; simp [vals_map, kj.zlen]
  have hcells : ((Array.range (len * j.size)).map fun i => (if len * j.size = 0 then #[] else z.cells)[i % (if len * j.size = 0 then #[] else z.cells).size]!) = (V.vals σ (flatRep len j.zero)).toArray := by
    apply Array.ext'
    by_cases hn : len * j.size = 0
    · have : len = 0 := by rcases Nat.mul_eq_zero.1 hn with h | h <;> omega
      simp [this, flatRep, V.vals]
    · simp only [hn, if_false]
      rw [← hzs, arr_range_mod _ (by omega), vals_flatRep, hzc]
  have hp : (parts.map fun (i, x) => (i, a.eval x)).toList = parts.toList.map fun (i, x) => (i, a.eval x) := by simp
  have hle : ¬ (len * j.size > 2 ^ 24) := by omega
  unfold Instr.buildSlice
  by_cases hn : len * j.size = 0
  · simp only [hn, if_true] at hcells
    simp only [Sem.run_bind, run_under hu, Result.andThen_ok, kj.size, if_neg hle]
    rw [if_pos hn]
    simp only [pure_bind, hn, hcells, hp, hfill]
    simp [newRow, V.val, addr_vb]
  · simp only [hn, if_false] at hcells
    simp only [Sem.run_bind, run_under hu, Result.andThen_ok, kj.size, if_neg hle]
    rw [if_neg hn]
    simp only [Sem.run_bind, Sem.run_pure, hz, Result.andThen_ok, hcells, hp, hfill]
    simp [newRow, V.val, addr_vb]

end
end Go.Lift
