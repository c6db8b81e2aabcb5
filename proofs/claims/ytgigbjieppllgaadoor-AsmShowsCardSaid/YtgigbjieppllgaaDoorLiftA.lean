/- The shallow layer: values, partial heaps, the words of the printed functions, and the interpreter that makes of a loaded function's code a statement over them. No program in sight. -/
import Derived.Calls
import Derived.Orders
import Derived.KernelRfl
namespace Go.Lift

structure Ptr where
  b : Nat
  o : Nat
  deriving DecidableEq, Inhabited

def Ptr.add (p : Ptr) (n : Nat) : Ptr := ⟨p.b, p.o + n⟩

structure Sl where
  p : Option Ptr
  len : Nat
  cap : Nat
  deriving DecidableEq, Inhabited

inductive V where
  | int (k : IntKind) (n : Int)
  | bool (b : Bool)
  | str (s : List UInt8)
  | ptr (p : Option Ptr)
  | sl (s : Sl)
  | map (r : Option Nat)
  | chan (r : Option Nat)
  | fn (f : Nat) (caps : List V)
  | nilfn
  | mth (m : String) (v : V)   -- a method of a value
  | iface (t : Nat) (v : V)
  | nilif
  | agg (cs : List V)      -- a struct or an array whose cells stand written out
  | ago (cs : List V)      -- one whose cells are a list
  | tup (vs : List V)
  deriving Inhabited

/-- A value of one cell, by sight. -/
def V.one : V → Bool
  | .agg _ | .ago _ | .tup _ => false
  | _ => true

def V.nt : V → Bool
  | .tup _ => false
  | _ => true

def V.wfb : V → Bool
  | .tup _ => false
  | .agg cs => cs.all V.one
  | .ago cs => cs.all V.one
  | _ => true

/-- The kinds of one cell. -/
inductive Sh where
  | int (k : IntKind) | bool | str | ptr | sl | map | chan | any
  deriving DecidableEq, Inhabited

/-- What is known of a block. -/
inductive HO where
  | cells (l : List V) (mk : Bool)
  | ro (f : Nat → Option V)          -- one that stood there ahead of the call: it is only read
  | map (ks : Sh) (es : List (V × V)) (bs : List Nat) (c : Nat)   -- a map of this program's own, in order of insertion, with the moments at which its entries were born
  | iter (m : Option Nat) (since : Nat) (seen : List Nat) (last : Nat)   -- one that goes through a map
  | siter (s : List UInt8) (pos : Nat)   -- one that goes through a string
  | chan (cap : Nat) (q : List V)   -- a channel with room for so many, open, nobody waiting at it; what lies in it, the eldest first
  deriving Inhabited

/-- What is known of the memory: some blocks. -/
structure Heap where
  obj : Nat → Option HO

def Heap.get (h : Heap) (b o : Nat) : Option V :=
  match h.obj b with
  | some (.cells l _) => l[o]?
  | some (.ro f) => f o
  | _ => none

/-- Where it may be written. -/
def Heap.getW (h : Heap) (b o : Nat) : Option V :=
  match h.obj b with
  | some (.cells l _) => l[o]?
  | _ => none

def HO.set (o : Nat) (v : V) : HO → HO
  | .cells l m => .cells (l.set o v) m
  | x => x

def Heap.set (h : Heap) (b o : Nat) (v : V) : Heap := ⟨fun b' => if b' = b then (h.obj b').map (HO.set o v) else h.obj b'⟩

def Heap.setO (h : Heap) (b : Nat) (x : HO) : Heap := ⟨fun b' => if b' = b then some x else h.obj b'⟩

def Heap.new (h : Heap) (b : Nat) (x : HO) : Heap := ⟨fun b' => if b' = b then some x else h.obj b'⟩

/-! ## the words of the printed functions -/

def der (q : Option Ptr) (κ : Ptr → Prop) : Prop :=
  match q with
  | some p => κ p
  | none => False

def br (x : Bool) (A B : Prop) : Prop :=
  match x with
  | true => A
  | false => B

def rdI (k : IntKind) (p : Ptr) (κ : Int → Prop) (h : Heap) : Prop := ∃ x, h.get p.b p.o = some (.int k x) ∧ κ x
def rdB (p : Ptr) (κ : Bool → Prop) (h : Heap) : Prop := ∃ x, h.get p.b p.o = some (.bool x) ∧ κ x
def rdStr (p : Ptr) (κ : List UInt8 → Prop) (h : Heap) : Prop := ∃ x, h.get p.b p.o = some (.str x) ∧ κ x
def rdP (p : Ptr) (κ : Option Ptr → Prop) (h : Heap) : Prop := ∃ x, h.get p.b p.o = some (.ptr x) ∧ κ x
def rdSl (p : Ptr) (κ : Sl → Prop) (h : Heap) : Prop := ∃ x, h.get p.b p.o = some (.sl x) ∧ κ x
def rdM (p : Ptr) (κ : Option Nat → Prop) (h : Heap) : Prop := ∃ x, h.get p.b p.o = some (.map x) ∧ κ x
def rdC (p : Ptr) (κ : Option Nat → Prop) (h : Heap) : Prop := ∃ x, h.get p.b p.o = some (.chan x) ∧ κ x
def rdV (p : Ptr) (κ : V → Prop) (h : Heap) : Prop := ∃ x, h.get p.b p.o = some x ∧ κ x

def rdSh : Sh → Ptr → (V → Prop) → Heap → Prop
  | .int k, p, κ, h => rdI k p (fun x => κ (.int k x)) h
  | .bool, p, κ, h => rdB p (fun x => κ (.bool x)) h
  | .str, p, κ, h => rdStr p (fun x => κ (.str x)) h
  | .ptr, p, κ, h => rdP p (fun x => κ (.ptr x)) h
  | .sl, p, κ, h => rdSl p (fun x => κ (.sl x)) h
  | .map, p, κ, h => rdM p (fun x => κ (.map x)) h
  | .chan, p, κ, h => rdC p (fun x => κ (.chan x)) h
  | .any, p, κ, h => rdV p κ h

def rdL : List Sh → Ptr → Nat → (List V → Prop) → Heap → Prop
  | [], _, _, κ, _ => κ []
  | s :: ss, p, i, κ, h => rdSh s (p.add i) (fun v => rdL ss p (i + 1) (fun vs => κ (v :: vs)) h) h

/-- A row of cells whose kinds are not asked. -/
def rdN (n : Nat) (p : Ptr) (κ : List V → Prop) (h : Heap) : Prop :=
  ∃ cs : List V, cs.length = n ∧ (∀ i, i < n → h.get p.b (p.o + i) = cs[i]?) ∧ κ cs

/-- A value that stands in a list, taken as of a kind. -/
def asSh : Sh → Option V → (V → Prop) → Prop
  | .int k, v, κ => ∃ x, v = some (.int k x) ∧ κ (.int k x)
  | .bool, v, κ => ∃ x, v = some (.bool x) ∧ κ (.bool x)
  | .str, v, κ => ∃ x, v = some (.str x) ∧ κ (.str x)
  | .ptr, v, κ => ∃ x, v = some (.ptr x) ∧ κ (.ptr x)
  | .sl, v, κ => ∃ x, v = some (.sl x) ∧ κ (.sl x)
  | .map, v, κ => ∃ x, v = some (.map x) ∧ κ (.map x)
  | .chan, v, κ => ∃ x, v = some (.chan x) ∧ κ (.chan x)
  | .any, v, κ => ∃ x, v = some x ∧ κ x

def asL : List Sh → List V → Nat → (List V → Prop) → Prop
  | [], _, _, κ => κ []
  | s :: ss, l, i, κ => asSh s l[i]? (fun v => asL ss l (i + 1) (fun vs => κ (v :: vs)))

/-- What was read stands there still. -/
def ck (p : Ptr) : List V → Nat → Heap → Prop
  | [], _, _ => True
  | v :: vs, i, h => h.get p.b (p.o + i) = some v ∧ ck p vs (i + 1) h

def chkF : List (Nat × (Heap → Prop)) → Heap → Prop → Prop
  | [], _, A => A
  | (_, c) :: F, h, A => c h ∧ chkF F h A

def wr (p : Ptr) (v : V) (κ : Heap → Prop) (h : Heap) : Prop := (∃ u, h.getW p.b p.o = some u) ∧ κ (h.set p.b p.o v)

def wrL : List V → Ptr → Nat → (Heap → Prop) → Heap → Prop
  | [], _, _, κ, h => κ h
  | v :: vs, p, i, κ, h => wr (p.add i) v (wrL vs p (i + 1) κ) h

def al (l : List V) (κ : Nat → Heap → Prop) (h : Heap) : Prop := ∀ b, h.obj b = none → κ b (h.new b (.cells l false))

def ix (i : Int) (n : Nat) (κ : Nat → Prop) : Prop := 0 ≤ i ∧ i < n ∧ κ i.toNat

def chk (b : Bool) (A : Prop) : Prop :=
  match b with
  | true => A
  | false => False

def nz (x : Int) (A : Prop) : Prop := x ≠ 0 ∧ A
def nneg (x : Int) (A : Prop) : Prop := 0 ≤ x ∧ A

def ibits (op : BinOp) (k : IntKind) (x y : Int) : Int :=
  let a := BitVec.ofInt k.bits x
  let b := BitVec.ofInt k.bits y
  match op with
  | .and => k.wrap (a &&& b).toNat
  | .or => k.wrap (a ||| b).toNat
  | .xor => k.wrap (a ^^^ b).toNat
  | _ => k.wrap (a &&& ~~~b).toNat

def shlI (k : IntKind) (x y : Int) : Int := k.wrap (x * 2 ^ min y.toNat k.bits)
def shrI (k : IntKind) (x y : Int) : Int := x.fdiv (2 ^ min y.toNat k.bits)

def isNil (v : V) (κ : Bool → Prop) : Prop :=
  match v with
  | .nilif => κ true
  | .iface _ _ => κ false
  | _ => False

def isNilF (v : V) (κ : Bool → Prop) : Prop :=
  match v with
  | .nilfn => κ true
  | .fn _ _ => κ false
  | _ => False

def notNil (v : V) (κ : Prop) : Prop :=
  match v with
  | .iface _ _ => κ
  | .fn _ _ => κ
  | _ => False

/-- What stands in a value's place, where it must be something. -/
def nilC (v : V) (κ : V → Prop) : Prop :=
  match v with
  | .ptr q => der q fun p => κ (.ptr (some p))
  | .sl s => κ (.sl s)
  | .map r => κ (.map r)
  | .fn f caps => κ (.fn f caps)
  | .iface t u => κ (.iface t u)
  | _ => False

def V.ofAg : V → V
  | .agg cs => .ago cs
  | v => v

/-! maps: keys are numbers, bools, strings -/

def keyIs : Sh → V → Bool
  | .int k, .int k' _ => decide (k = k')
  | .bool, .bool _ => true
  | .str, .str _ => true
  | _, _ => false

def keq : V → V → Bool
  | .int _ a, .int _ b => a == b
  | .bool a, .bool b => a == b
  | .str a, .str b => a == b
  | _, _ => false

def mfind (k : V) : List (V × V) → Option V
  | [] => none
  | (k', v) :: es => bif keq k k' then some v else mfind k es

def mput (k v : V) : List (V × V) → List (V × V)
  | [] => [(k, v)]
  | (k', v') :: es => bif keq k k' then (k, v) :: es else (k', v') :: mput k v es

def mdel (k : V) : List (V × V) → List (V × V)
  | [] => []
  | (k', v') :: es => bif keq k k' then es else (k', v') :: mdel k es

/-- The births, when an entry goes. -/
def bdel (k : V) : List (V × V) → List Nat → List Nat
  | (k', _) :: es, b :: bs => bif keq k k' then bs else b :: bdel k es bs
  | _, bs => bs

def putO (ks : Sh) (es : List (V × V)) (bs : List Nat) (c : Nat) (k v : V) : HO :=
  match mfind k es with
  | some _ => .map ks (mput k v es) bs c
  | none => .map ks (mput k v es) (bs ++ [c]) (c + 1)

def mapGet (ks : Sh) (m : Option Nat) (k : V) (κ : Option V → Prop) (h : Heap) : Prop :=
  match m with
  | none => κ none
  | some r => ∃ es bs c, h.obj r = some (.map ks es bs c) ∧ κ (mfind k es)

def mapPut (ks : Sh) (m : Option Nat) (k v : V) (κ : Heap → Prop) (h : Heap) : Prop :=
  match m with
  | none => False
  | some r => ∃ es bs c, h.obj r = some (.map ks es bs c) ∧ κ (h.setO r (putO ks es bs c k v))

/-- The stamp of a key's entry. -/
def bfind (k : V) : List (V × V) → List Nat → Option Nat
  | (k', _) :: es, b :: bs => bif keq k k' then some b else bfind k es bs
  | _, _ => none

def mset (k v : V) : List (V × V) → List (V × V)
  | [] => []
  | (k', v') :: es => bif keq k k' then (k', v) :: es else (k', v') :: mset k v es

def bornOf (k : V) : HO → Option Nat
  | .map _ es bs _ => bfind k es bs
  | _ => none

/-- A place of a map, as an assignment takes it ahead: it is there from now on. -/
def mapEnt (ks : Sh) (m : Option Nat) (k z : V) (κ : V → Int → Heap → Prop) (h : Heap) : Prop :=
  match m with
  | none => False
  | some r => ∃ es bs c, h.obj r = some (.map ks es bs c) ∧ ∀ b : Nat, bornOf k (putO ks es bs c k ((mfind k es).getD z)) = some b → κ ((mfind k es).getD z) b (h.setO r (putO ks es bs c k ((mfind k es).getD z)))

def entPut (m : Option Nat) (b : Int) (v : V) (κ : Heap → Prop) (h : Heap) : Prop :=
  match m with
  | none => False
  | some r => ∃ ks es bs c k, ∃ n : Nat, h.obj r = some (.map ks es bs c) ∧ bfind k es bs = some n ∧ (n : Int) = b ∧ κ (h.setO r (.map ks (mset k v es) bs c))

def mapDel (ks : Sh) (m : Option Nat) (k : V) (κ : Heap → Prop) (h : Heap) : Prop :=
  match m with
  | none => κ h
  | some r => ∃ es bs c, h.obj r = some (.map ks es bs c) ∧ κ (h.setO r (.map ks (mdel k es) (bdel k es bs) c))

def mapLen (m : Option Nat) (κ : Int → Prop) (h : Heap) : Prop :=
  match m with
  | none => κ 0
  | some r => ∃ ks es bs c, h.obj r = some (.map ks es bs c) ∧ κ es.length

def alM (ks : Sh) (κ : Nat → Heap → Prop) (h : Heap) : Prop := ∀ b, h.obj b = none → κ b (h.new b (.map ks [] [] 0))

/-- for .. range over a map: one that goes through it is laid. -/
def rangeM (m : Option Nat) (κ : Nat → Heap → Prop) (h : Heap) : Prop :=
  match m with
  | none => ∀ b, h.obj b = none → κ b (h.new b (.iter none 0 [] 0))
  | some r => ∃ ks es bs c, h.obj r = some (.map ks es bs c) ∧ ∀ b, h.obj b = none → κ b (h.new b (.iter (some r) c [] c))

/-- The next entry, or none: in any order. -/
def nextM (it : Nat) (over : Heap → Prop) (step : V → V → Heap → Prop) (h : Heap) : Prop :=
  ∃ m since seen last, h.obj it = some (.iter m since seen last) ∧ match m with
  | none => over h
  | some r => ∃ ks es bs c, h.obj r = some (.map ks es bs c) ∧ ¬ (seen ≠ [] ∧ es ≠ [] ∧ ∀ b, b ∈ bs → last ≤ b) ∧
      ((∀ b, b ∈ bs → b ∉ seen → since ≤ b) → over h) ∧
      ∀ (i : Nat) (k v : V) (b : Nat), es[i]? = some (k, v) → bs[i]? = some b → b ∉ seen → step k v (h.setO it (.iter (some r) since (seen ++ [b]) c))


/-- range over a string: runes. -/
def rangeS (s : List UInt8) (κ : Nat → Heap → Prop) (h : Heap) : Prop := ∀ b, h.obj b = none → κ b (h.new b (.siter s 0))

def runeAt (s : List UInt8) (i : Nat) : Nat × Nat := Utf8.decode ⟨s.toArray⟩ i

def nextS (it : Nat) (over : Heap → Prop) (step : Int → Int → Heap → Prop) (h : Heap) : Prop :=
  ∃ s pos, h.obj it = some (.siter s pos) ∧ if pos < s.length then step (pos : Int) ((runeAt s pos).1 : Int) (h.setO it (.siter s (pos + (runeAt s pos).2))) else over h

/-- A channel is made. -/
def alC (cap : Nat) (κ : Nat → Heap → Prop) (h : Heap) : Prop := ∀ b, h.obj b = none → κ b (h.new b (.chan cap []))

def chLen (r : Option Nat) (κ : Int → Prop) (h : Heap) : Prop :=
  match r with
  | none => κ 0
  | some r => ∃ cap q, h.obj r = some (.chan cap q) ∧ κ q.length

/-- select of one send, with a default: which way (0: sent; -1: no room). -/
def chSend (r : Option Nat) (v : V) (κ : Int → Heap → Prop) (h : Heap) : Prop :=
  match r with
  | none => False
  | some r => ∃ cap q, h.obj r = some (.chan cap q) ∧ if q.length < cap then κ 0 (h.setO r (.chan cap (q ++ [v]))) else κ (-1) h

/-- select of one receive, with a default. -/
def chRecv (r : Option Nat) (z : V) (κ : Int → Bool → V → Heap → Prop) (h : Heap) : Prop :=
  match r with
  | none => False
  | some r => ∃ cap q, h.obj r = some (.chan cap q) ∧ match q with
    | [] => κ (-1) false z h
    | v :: q => κ 0 true v (h.setO r (.chan cap q))

/-- The entry that was last come to. -/
def entryM (it : Nat) (κ : V → V → Prop) (h : Heap) : Prop :=
  ∃ r since seen last, h.obj it = some (.iter (some r) since seen last) ∧ ∃ ks es bs, h.obj r = some (.map ks es bs last) ∧
    ∃ (i : Nat) (k v : V) (b : Nat), seen.getLast? = some b ∧ bs[i]? = some b ∧ es[i]? = some (k, v) ∧ κ k v

def minI (a b : Int) : Int := if b < a then b else a
def maxI (a b : Int) : Int := if b > a then b else a

/-- Pointers are compared where both blocks are known, and bear no mark. -/
def plainP (q : Option Ptr) (h : Heap) : Prop := ∀ p, q = some p → ∃ l, h.obj p.b = some (.cells l false)

def eqP (q q' : Option Ptr) (κ : Bool → Prop) (h : Heap) : Prop :=
  match q' with
  | none => κ q.isNone
  | some p' => plainP q h ∧ plainP (some p') h ∧ κ (q == some p')

def eqL : List Bool → Bool
  | [] => true
  | b :: bs => b && eqL bs

def slp (p : Option Ptr) (k l m : Nat) : Option Ptr := if m = l then p else p.map (·.add k)

/-- A bound of a slice expression. -/
def sb (i : Int) (n : Nat) (κ : Nat → Prop) : Prop := 0 ≤ i ∧ i ≤ n ∧ κ i.toNat

def bytesLess : List UInt8 → List UInt8 → Bool := Op.bytesLess

def catS (a b : List UInt8) (κ : List UInt8 → Prop) : Prop := ((a.length + b.length : Nat) : Int) ≤ 9223372036854775807 ∧ κ (a ++ b)

def flatRep (n : Nat) (z : List V) : List V := (List.replicate n z).flatten

/-- make([]T, len, cap): 'bytes' an element. -/
def mkSl (bytes : Nat) (z : List V) (len cap : Int) (κ : Sl → Heap → Prop) (h : Heap) : Prop :=
  0 ≤ len ∧ len ≤ cap ∧ cap ≤ 9223372036854775807 ∧ bytes * cap ≤ 281474976710656 ∧ al (flatRep cap.toNat z) (fun b h => κ ⟨some ⟨b, 0⟩, len.toNat, cap.toNat⟩ h) h

/-- append(s, x...): the cells of x, and how many elements they are. -/
def appS (size bytes : Nat) (z : List V) (s : Sl) (new : List V) (m : Nat) (κ : Sl → Heap → Prop) (h : Heap) : Prop :=
  if s.len + m ≤ s.cap then
    match s.p with
    | some p => wrL new (p.add (s.len * size)) 0 (fun h => κ ⟨some p, s.len + m, s.cap⟩ h) h
    | none => new = [] ∧ κ ⟨none, s.len + m, s.cap⟩ h
  else (s.len + m) * bytes ≤ 140737488355328 ∧ s.len + m ≤ 9223372036854775807 ∧
    (match s.p with
    | some p => fun κ' => rdN (s.len * size) p κ' h
    | none => fun κ' => s.len = 0 ∧ κ' []) (fun old =>
      ∀ c, s.len + m ≤ c → al (old ++ new ++ flatRep (c - (s.len + m)) z) (fun b h => κ ⟨some ⟨b, 0⟩, s.len + m, c⟩ h) h)

/-- append(s, make([]T, n)...) -/
def appZ (size bytes : Nat) (z : List V) (s : Sl) (n : Int) (κ : Sl → Heap → Prop) (h : Heap) : Prop :=
  0 ≤ n ∧ n * bytes ≤ 281474976710656 ∧ n ≤ 9223372036854775807 ∧ appS size bytes z s (flatRep n.toNat z) n.toNat κ h

/-- The cells of a slice's elements. -/
def cellsS (size : Nat) (s : Sl) (κ : List V → Prop) (h : Heap) : Prop :=
  match s.p with
  | some p => rdN (s.len * size) p κ h
  | none => s.len = 0 ∧ κ []

/-- copy(d, s), 'cs' the cells of s, m its length. -/
def copyS (size : Nat) (d : Sl) (cs : List V) (m : Nat) (κ : Int → Heap → Prop) (h : Heap) : Prop :=
  match d.p with
  | some p => wrL (cs.take (min m d.len * size)) p 0 (fun h => κ (min m d.len : Nat) h) h
  | none => d.len = 0 ∧ κ 0 h

/-- clear(s) -/
def clearS (z : List V) (s : Sl) (κ : Heap → Prop) (h : Heap) : Prop :=
  match s.p with
  | some p => wrL (flatRep s.len z) p 0 κ h
  | none => κ h

def strCells (s : List UInt8) : List V := s.map fun b => V.int .u8 b.toNat

def bytesOf : List V → (List UInt8 → Prop) → Prop
  | [], κ => κ []
  | .int .u8 n :: vs, κ => bytesOf vs (fun s => κ (UInt8.ofNat n.toNat :: s))
  | _ :: _, _ => False

/-- []byte(s) -/
def ofStr (s : List UInt8) (κ : Sl → Heap → Prop) (h : Heap) : Prop :=
  ∀ c, s.length ≤ c → ∀ b, h.obj b = none → κ ⟨some ⟨b, 0⟩, s.length, c⟩ (h.new b (.cells (strCells s ++ List.replicate (c - s.length) (.int .u8 0)) true))

def putCells : List V → Nat → List V → List V
  | l, _, [] => l
  | l, o, v :: vs => putCells (l.set o v) (o + 1) vs

/-! ## types -/

inductive TD where
  | leaf (s : Sh)
  | ptr (e : Nat)
  | iface
  | func
  | slice (e : Nat)
  | array (n : Nat) (e : Nat)
  | struct (fs : List (Nat × Nat))
  | map (k e : Nat)
  deriving Inhabited

mutual
/-- Plain data that may be compared, cell by cell. -/
inductive EQ where
  | leaf (s : Sh)
  | arr (n sz : Nat) (e : EQ)
  | struct (fs : EQL)
inductive EQL where
  | nil
  | cons (o sz : Nat) (d : EQ) (fs : EQL)
end

def flatSh : Nat → List Sh → List Sh
  | 0, _ => []
  | n + 1, l => l ++ flatSh n l

mutual
def EQ.leaves : EQ → List Sh
  | .leaf s => [s]
  | .arr n _ e => flatSh n e.leaves
  | .struct fs => fs.leaves
def EQL.leaves : EQL → List Sh
  | .nil => []
  | .cons _ _ d fs => d.leaves ++ fs.leaves
end

def fitsL : List Sh → List V → Prop
  | [], [] => True
  | s :: ss, v :: vs => keyIs s v = true ∧ fitsL ss vs
  | _, _ => False

def keqL : List V → List V → Bool
  | x :: xs, y :: ys => keq x y && keqL xs ys
  | [], [] => true
  | _, _ => false

/-- == of structs and arrays whose cells are a list. -/
def eqAgo (ss : List Sh) (xs ys : List V) (κ : Bool → Prop) : Prop := fitsL ss xs ∧ fitsL ss ys ∧ κ (keqL xs ys)

structure TI where
  d : TD
  size : Nat
  bytes : Nat
  zero : List V
  leaves : Option (List Sh)
  eq : Bool := false
  eqd : Option EQ := none
  deriving Inhabited

abbrev Fr := List (Nat × Option V)

def look : Fr → Nat → Option V
  | [], _ => none
  | (t, v) :: ρ, s => bif Nat.beq t s then v else look ρ s

def looks {α : Type} : List (Nat × α) → Nat → Option α
  | [], _ => none
  | (t, v) :: ρ, s => bif Nat.beq t s then some v else looks ρ s

def ofLeaf : Value → Option V
  | .bool b => some (.bool b)
  | .int k n => some (.int k n)
  | .string s => some (.str s.data.toList)
  | .pointer none => some (.ptr none)
  | .slice none 0 0 => some (.sl ⟨none, 0, 0⟩)
  | .map none => some (.map none)
  | .chan none => some (.chan none)
  | .nilFunc => some .nilfn
  | .nilIface => some .nilif
  | _ => none

def ofLeaves : List Value → Option (List V)
  | [] => some []
  | v :: vs => match ofLeaf v with
    | some x => match ofLeaves vs with
      | some xs => some (x :: xs)
      | none => none
    | none => none

def ofConst : Value → Option V
  | .agg cs => (ofLeaves cs.toList).map .agg
  | v => ofLeaf v

/-- Calls of values that are not known. -/
structure Ifc where
  glob : Nat → Nat
  callV : V → List V → (V → Heap → Prop) → Heap → Prop
  inv : V → String → List V → (V → Heap → Prop) → Heap → Prop
  ahead : V → String → Bool
  tabs : List (Nat × List V)   -- package variables whose cells are known, all of them

def noIfc : Ifc := ⟨id, fun _ _ _ _ => False, fun _ _ _ _ _ => False, fun _ _ => false, []⟩

/-- The method of a value, taken ahead of its call. -/
def mthC (m : String) (v : V) (κ : V → Prop) : Prop :=
  match v with
  | .iface t u => κ (.mth m (.iface t u))
  | _ => False

/-- What stands in a value's place, where it must be something; a method's receiver must be known to be something. -/
def nilCU (I : Ifc) (v : V) (κ : V → Prop) : Prop :=
  match v with
  | .mth m u => chk (I.ahead u m) (κ (.mth m u))
  | v => nilC v κ

/-- The form of a result that comes from a call of a value that is not known. -/
inductive RS where
  | one (s : Sh)
  | agg (ss : List Sh)
  | ago
  deriving Inhabited

inductive RT where
  | single (r : RS)
  | multi (rs : List RS)
  deriving Inhabited

def asI (k : IntKind) (v : V) (κ : Int → Prop) : Prop := match v with | .int k' x => chk (decide (k' = k)) (κ x) | _ => False
def asB (v : V) (κ : Bool → Prop) : Prop := match v with | .bool x => κ x | _ => False
def asStr (v : V) (κ : List UInt8 → Prop) : Prop := match v with | .str x => κ x | _ => False
def asP (v : V) (κ : Option Ptr → Prop) : Prop := match v with | .ptr x => κ x | _ => False
def asSl (v : V) (κ : Sl → Prop) : Prop := match v with | .sl x => κ x | _ => False
def asM (v : V) (κ : Option Nat → Prop) : Prop := match v with | .map x => κ x | _ => False
def asC (v : V) (κ : Option Nat → Prop) : Prop := match v with | .chan x => κ x | _ => False
def asAggV (v : V) (κ : List V → Prop) : Prop := match v with | .agg x => κ x | _ => False
def asAgoV (v : V) (κ : List V → Prop) : Prop := match v with | .ago x => κ x | _ => False
def asTupV (v : V) (κ : List V → Prop) : Prop := match v with | .tup x => κ x | _ => False
def asCons (l : List V) (κ : V → List V → Prop) : Prop := match l with | v :: vs => κ v vs | [] => False
def asNil (l : List V) (A : Prop) : Prop := match l with | [] => A | _ => False

def asV (s : Sh) (v : V) (κ : V → Prop) : Prop :=
  match s with
  | .int k => asI k v fun x => κ (.int k x)
  | .bool => asB v fun x => κ (.bool x)
  | .str => asStr v fun x => κ (.str x)
  | .ptr => asP v fun x => κ (.ptr x)
  | .sl => asSl v fun x => κ (.sl x)
  | .map => asM v fun x => κ (.map x)
  | .chan => asC v fun x => κ (.chan x)
  | .any => κ v

def asVs : List Sh → List V → (List V → Prop) → Prop
  | [], l, κ => asNil l (κ [])
  | s :: ss, l, κ => asCons l fun v l => asV s v fun v => asVs ss l fun vs => κ (v :: vs)

def asR (r : RS) (v : V) (κ : V → Prop) : Prop :=
  match r with
  | .one s => asV s v κ
  | .agg ss => asAggV v fun l => asVs ss l fun vs => κ (.agg vs)
  | .ago => asAgoV v fun l => κ (.ago l)

def asRs : List RS → List V → (List V → Prop) → Prop
  | [], l, κ => asNil l (κ [])
  | r :: rs, l, κ => asCons l fun v l => asR r v fun v => asRs rs l fun vs => κ (v :: vs)

def asT (t : RT) (v : V) (κ : V → Prop) : Prop :=
  match t with
  | .single r => asR r v κ
  | .multi rs => asTupV v fun l => asRs rs l fun vs => κ (.tup vs)

def rsOf (s : Option Sh) (ls : Option (List Sh)) : RS :=
  match s with
  | some s => .one s
  | none => match ls with
    | some ls => .agg ls
    | none => .ago

structure Env where
  tis : List (Nat × TI)
  fns : List (Nat × Nat)
  tys : List (Nat × Nat)
  gls : List (Nat × Nat)
  rts : List (Nat × RT)
  unk : List Nat
  nxt : List (Nat × (RS × RS))
  calls : List (Nat × (List V → (V → Heap → Prop) → Heap → Prop))
  ifc : Ifc
  cuts : List (Nat × (List Nat × (List V → Heap → Prop)))
  ret : V → Heap → Prop
  rets : List ResultVar
  n : Nat

def Env.ti (E : Env) (t : Nat) : Option TI := looks E.tis t
def Env.fnc (E : Env) (f : Nat) : Option Nat := looks E.fns f
def Env.tyc (E : Env) (t : Nat) : Option Nat := looks E.tys t
def Env.call (E : Env) (g : Nat) (vs : List V) (κ : V → Heap → Prop) (h : Heap) : Prop :=
  match looks E.calls g with
  | some C => C vs κ h
  | none => False
def Env.callV (E : Env) : V → List V → (V → Heap → Prop) → Heap → Prop := E.ifc.callV
def Env.inv (E : Env) : V → String → List V → (V → Heap → Prop) → Heap → Prop := E.ifc.inv
def Env.cut (E : Env) (id : Nat) : Option (List Nat × (List V → Heap → Prop)) := looks E.cuts id

/-- Slots whose function is not known at some call. -/
def Env.isUnk (E : Env) (x : Operand) : Bool :=
  match x with
  | .tmp t => E.unk.any (Nat.beq t)
  | _ => false

def ev (E : Env) (ρ : Fr) : Operand → Option V
  | .tmp t => look ρ t
  | .const v => ofConst v
  | .func f => match E.fnc f with
    | some g => some (.fn g [])
    | none => none
  | .global g => match looks E.gls g with
    | some c => some (.ptr (some ⟨E.ifc.glob c, 0⟩))
    | none => none

def ev1 (E : Env) (ρ : Fr) (x : Operand) (κ : V → Prop) : Prop :=
  match ev E ρ x with
  | some v => κ v
  | none => False

def evL (E : Env) (ρ : Fr) : List Operand → (List V → Prop) → Prop
  | [], κ => κ []
  | x :: xs, κ => ev1 E ρ x (fun v => evL E ρ xs (fun vs => κ (v :: vs)))

/-- What the entry is, in its form. -/
def asNext (t : Option (RS × RS)) (v : V) (κ : V → Prop) : Prop :=
  match v with
  | .tup [k, u] => match t with
    | some (rk, ru) => asR rk k fun k => asR ru u fun u => κ (.tup [k, u])
    | _ => κ v
  | v => κ v

/-- What a call of a value hands back, in its form. -/
def asO (E : Env) (o : Oper) (v : V) (κ : V → Prop) : Prop :=
  match o.op with
  | .call c => match c.callee with
    | .value (.func _) => κ v
    | .builtin _ => κ v
    | _ => match looks E.rts o.type with
      | some t => asT t v κ
      | none => κ v
  | .entry _ => asNext (match o.dst with | some d => looks E.nxt d | none => none) v κ
  | _ => κ v

def withTI (E : Env) (t : Nat) (κ : TI → Prop) : Prop :=
  match E.ti t with
  | some i => κ i
  | none => False

def V.cells : V → List V
  | .agg cs => cs
  | .ago cs => cs
  | v => [v]

def rdT (i : TI) (p : Ptr) (κ : V → Prop) (h : Heap) : Prop :=
  match i.d with
  | .leaf s => rdSh s p κ h
  | .ptr _ => rdP p (fun x => κ (.ptr x)) h
  | .iface => rdV p κ h
  | .func => rdV p κ h
  | .slice _ => rdSl p (fun x => κ (.sl x)) h
  | .map _ _ => rdM p (fun x => κ (.map x)) h
  | _ => match i.leaves with
    | some ls => rdL ls p 0 (fun vs => κ (.agg vs)) h
    | none => rdN i.size p (fun vs => κ (.ago vs)) h

def TD.sh : TD → Option Sh
  | .leaf s => some s
  | .ptr _ => some .ptr
  | .iface => some .any
  | .func => some .any
  | .slice _ => some .sl
  | .map _ _ => some .map
  | _ => none

def TI.zv (i : TI) : V :=
  match i.d.sh with
  | some _ => i.zero.headD .nilfn
  | none => match i.leaves with
    | some _ => .agg i.zero
    | none => .ago i.zero

/-- The cells of a value of a type. -/
def cellsT (i : TI) (v : V) (κ : List V → Prop) : Prop :=
  match i.d.sh with
  | some _ => chk v.one (κ [v])
  | none => match v with
    | .agg cs => chk (Nat.beq cs.length i.size) (κ cs)
    | .ago cs => cs.length = i.size ∧ κ cs
    | _ => False

/-- A part of a struct's or an array's cells. -/
def partT (i : TI) (v : V) (off : Nat) (κ : V → Prop) : Prop :=
  match v with
  | .agg cs => match i.d.sh with
    | some _ => match cs[off]? with
      | some u => κ u
      | none => False
    | none => κ (.agg ((cs.drop off).take i.size))
  | .ago cs => match i.d.sh with
    | some s => asSh s cs[off]? κ
    | none => match i.leaves with
      | some ls => asL ls ((cs.drop off).take i.size) 0 (fun vs => κ (.agg vs))
      | none => κ (.ago ((cs.drop off).take i.size))
  | _ => False

end Go.Lift
