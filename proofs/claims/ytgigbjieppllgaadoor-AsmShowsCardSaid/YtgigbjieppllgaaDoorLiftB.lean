/- The interpreter: of a loaded function's code, frame and known memory it makes a statement in the words of LiftA. -/
import Derived.Test.YtgigbjieppllgaaDoorLiftA
namespace Go.Lift

def binI (op : BinOp) (k : IntKind) (a b : Int) (κ : V → Prop) : Prop :=
  match op with
  | .add => κ (.int k (k.wrap (a + b)))
  | .sub => κ (.int k (k.wrap (a - b)))
  | .mul => κ (.int k (k.wrap (a * b)))
  | .quo => nz b (κ (.int k (k.wrap (a.tdiv b))))
  | .rem => nz b (κ (.int k (a.tmod b)))
  | .and => κ (.int k (ibits .and k a b))
  | .or => κ (.int k (ibits .or k a b))
  | .xor => κ (.int k (ibits .xor k a b))
  | .andNot => κ (.int k (ibits .andNot k a b))
  | .eql => κ (.bool (a == b))
  | .neq => κ (.bool (a != b))
  | .lss => κ (.bool (decide (a < b)))
  | .leq => κ (.bool (decide (a ≤ b)))
  | .gtr => κ (.bool (decide (a > b)))
  | .geq => κ (.bool (decide (a ≥ b)))
  | _ => False

def binS (op : BinOp) (a b : List UInt8) (κ : V → Prop) : Prop :=
  match op with
  | .add => catS a b (fun s => κ (.str s))
  | .eql => κ (.bool (a == b))
  | .neq => κ (.bool !(a == b))
  | .lss => κ (.bool (bytesLess a b))
  | .leq => κ (.bool (bytesLess a b || a == b))
  | .gtr => κ (.bool !(bytesLess a b || a == b))
  | .geq => κ (.bool !(bytesLess a b))
  | _ => False

def isConstO : Operand → Bool
  | .const _ => true
  | _ => false

def eqD (d : TD) (x y : V) (κ : Bool → Prop) : Prop :=
  match d, x, y with
  | .leaf (.int _), .int k a, .int k' b => if k = k' then κ (a == b) else False
  | .leaf .bool, .bool a, .bool b => κ (a == b)
  | .leaf .str, .str a, .str b => κ (a == b)
  | _, _, _ => False

def TD.plain : TD → Bool
  | .leaf (.int _) => true
  | .leaf .bool => true
  | .leaf .str => true
  | _ => false

/-- Structs are compared field by field: numbers, bools, strings. -/
def eqFs (E : Env) : List (Nat × Nat) → List V → List V → (List Bool → Prop) → Prop
  | [], _, _, κ => κ []
  | (o, t) :: fs, xs, ys, κ => withTI E t fun i =>
      match xs[o]?, ys[o]? with
      | some x, some y => eqD i.d x y (fun b => eqFs E fs xs ys (fun c => κ (b :: c)))
      | _, _ => False

/-- And structs in structs. -/
def eqFs1 (E : Env) : List (Nat × Nat) → List V → List V → (List Bool → Prop) → Prop
  | [], _, _, κ => κ []
  | (o, t) :: fs, xs, ys, κ => withTI E t fun i =>
      match i.d with
      | .struct gs => bif i.eq then eqFs E gs ((xs.drop o).take i.size) ((ys.drop o).take i.size) (fun bs => eqFs1 E fs xs ys (fun c => κ (eqL bs :: c))) else False
      | d => match xs[o]?, ys[o]? with
        | some x, some y => eqD d x y (fun b => eqFs1 E fs xs ys (fun c => κ (b :: c)))
        | _, _ => False

/-- x == y, y first: nil is mostly there. -/
def eqPT (E : Env) (t : Nat) (x y : V) (yc : Bool) (κ : Bool → Prop) (h : Heap) : Prop :=
  withTI E t fun i =>
  match i.d with
  | .ptr e => withTI E e fun j => match x, y with
    | .ptr q, .ptr q' => bif Nat.beq j.size 0 then False else eqP q q' κ h
    | _, _ => False
  | .iface => match y with
    | .nilif => bif yc then isNil x κ else False
    | _ => False
  | .func => match y with
    | .nilfn => isNilF x κ
    | _ => False
  | .slice _ => match x, y with
    | .sl s, .sl ⟨none, _, _⟩ => κ s.p.isNone
    | _, _ => False
  | .map _ _ => match x, y with
    | .map r, .map none => κ r.isNone
    | _, _ => False
  | .leaf .bool => eqD i.d x y κ
  | .struct fs => match x, y with
    | .agg xs, .agg ys => bif i.eq then eqFs1 E fs xs ys (fun bs => κ (eqL bs)) else False
    | .ago xs, .ago ys => match i.eqd with
      | some d => eqAgo d.leaves xs ys κ
      | none => False
    | _, _ => False
  | _ => False

def isNilV : V → Bool
  | .nilif => true
  | .nilfn => true
  | _ => false

def binP0 (E : Env) (op : BinOp) (t : Nat) (x y : V) (yc : Bool) (κ : V → Prop) (h : Heap) : Prop :=
  match op, x, y with
  | .shl, .int k a, .int _ b => nneg b (κ (.int k (shlI k a b)))
  | .shr, .int k a, .int _ b => nneg b (κ (.int k (shrI k a b)))
  | op, .int k a, .int k' b => if k = k' then binI op k a b κ else False
  | op, .str a, .str b => binS op a b κ
  | .eql, x, y => eqPT E t x y yc (fun b => κ (.bool b)) h
  | .neq, x, y => eqPT E t x y yc (fun b => κ (.bool !b)) h
  | _, _, _ => False

def binPT (E : Env) (op : BinOp) (t : Nat) (x y : V) (yc : Bool) (κ : V → Prop) (h : Heap) : Prop :=
  bif isNilV y then
    match op with
    | .eql => eqPT E t x y yc (fun b => κ (.bool b)) h
    | .neq => eqPT E t x y yc (fun b => κ (.bool !b)) h
    | _ => False
  else binP0 E op t x y yc κ h

def unPT (op : UnOp) (x : V) (κ : V → Prop) : Prop :=
  match op, x with
  | .neg, .int k a => κ (.int k (k.wrap (0 - a)))
  | .xor, .int k a => κ (.int k (ibits .xor k (if k.signed then -1 else k.max) a))
  | .not, .bool b => κ (.bool !b)
  | _, _ => False

def convPT (E : Env) (s d : Nat) (x : V) (κ : V → Heap → Prop) (h : Heap) : Prop :=
  withTI E s fun i' => withTI E d fun i =>
  match i.d, x with
  | .leaf (.int k), .int _ a => κ (.int k (k.wrap a)) h
  | .leaf .str, .str a => κ (.str a) h
  | .slice e, .str a => withTI E e fun j => match j.d with
    | .leaf (.int .u8) => ofStr a (fun s h => κ (.sl s) h) h
    | _ => False
  | .leaf .str, .sl sl => match i'.d with
    | .slice e => withTI E e fun j => match j.d with
      | .leaf (.int .u8) => cellsS 1 sl (fun cs => bytesOf cs (fun b => κ (.str b) h)) h
      | _ => False
    | _ => False
  | _, _ => False

def fieldOf (E : Env) (t f : Nat) (κ : Nat → TI → Prop) : Prop :=
  withTI E t fun i => match i.d with
  | .struct fs => match fs[f]? with
    | some (off, ft) => withTI E ft fun j => κ off j
    | none => False
  | _ => False

def slBounds (lo hi mx : Option V) (len cap : Nat) (κ : Nat → Nat → Nat → Prop) : Prop :=
  (match mx with
    | some (.int _ m) => sb m cap
    | none => fun k => k cap
    | _ => fun _ => False) fun m =>
  (match hi, mx with
    | some (.int _ x), _ => sb x m
    | none, none => fun k => k len
    | _, _ => fun _ => False) fun hh =>
  (match lo with
    | some (.int _ x) => sb x hh
    | none => fun k => k 0
    | _ => fun _ => False) fun l => κ l hh m

def evO (E : Env) (ρ : Fr) : Option Operand → (Option V → Prop) → Prop
  | none, κ => κ none
  | some x, κ => ev1 E ρ x (fun v => κ (some v))

def slicePT (E : Env) (t : Nat) (x : V) (lo hi mx : Option V) (κ : V → Prop) : Prop :=
  withTI E t fun i => match i.d, x with
  | .leaf .str, .str s => match mx with
    | none => slBounds lo hi none s.length s.length fun l hh _ => κ (.str ((s.drop l).take (hh - l)))
    | some _ => False
  | .slice e, .sl s => withTI E e fun j => slBounds lo hi mx s.len s.cap fun l hh m => κ (.sl ⟨slp s.p (l * j.size) l m, hh - l, m - l⟩)
  | .array n e, .ptr (some p) => withTI E e fun j => slBounds lo hi mx n n fun l hh m => κ (.sl ⟨slp (some p) (l * j.size) l m, hh - l, m - l⟩)
  | _, _ => False

def fillPT (E : Env) (place : Nat → Option (Nat × TI)) (ρ : Fr) : List (Nat × Operand) → List V → (List V → Prop) → Prop
  | [], cs, κ => κ cs
  | (i, x) :: ps, cs, κ => ev1 E ρ x fun v => match place i with
    | some (off, ti) => chk (Nat.ble (off + ti.size) cs.length) (cellsT ti v fun vs => fillPT E place ρ ps (putCells cs off vs) κ)
    | none => False

def fieldTIs (E : Env) : List (Nat × Nat) → (List (Nat × TI) → Prop) → Prop
  | [], κ => κ []
  | (o, t) :: fs, κ => withTI E t fun i => fieldTIs E fs fun r => κ ((o, i) :: r)

def small (n : Nat) : Bool := Nat.ble n 16

def buildPT (E : Env) (t : Nat) (parts : List (Nat × Operand)) (ρ : Fr) (κ : V → Prop) : Prop :=
  withTI E t fun i =>
  let fin := fun cs => κ (bif small i.size then .agg cs else .ago cs)
  match i.d with
  | .struct fs => fieldTIs E fs fun ps => fillPT E (fun j => ps[j]?) ρ parts i.zero fin
  | .array _ e => withTI E e fun j => fillPT E (fun m => some (m * j.size, j)) ρ parts i.zero fin
  | _ => False

def lenPT (E : Env) (t : Nat) (x : V) (κ : V → Prop) (h : Heap) : Prop :=
  withTI E t fun i => match i.d, x with
  | .leaf .str, .str s => κ (.int .i64 s.length)
  | .array n _, _ => κ (.int .i64 n)
  | .ptr a, _ => withTI E a fun j => match j.d with
    | .array n _ => κ (.int .i64 n)
    | _ => False
  | .slice _, .sl s => κ (.int .i64 s.len)
  | .map _ _, .map r => mapLen r (fun n => κ (.int .i64 n)) h
  | .leaf .chan, .chan r => chLen r (fun n => κ (.int .i64 n)) h
  | _, _ => False

def builtinPT (E : Env) (b : Builtin) (ts : List Nat) (vs : List V) (κ : V → Heap → Prop) (h : Heap) : Prop :=
  match b, ts, vs with
  | .len, t :: _, [x] => lenPT E t x (fun v => κ v h) h
  | .cap, t :: _, [x] => withTI E t fun i => match i.d, x with
    | .slice _, .sl s => κ (.int .i64 s.cap) h
    | _, _ => False
  | .append, [t, u], [.sl s, x] => withTI E t fun i => match i.d with
    | .slice e => withTI E e fun j => withTI E u fun iu => chk (Nat.blt 0 j.size) <| match iu.d, x with
      | .slice _, .sl x => cellsS j.size x (fun new => appS j.size j.bytes j.zero s new x.len (fun s h => κ (.sl s) h) h) h
      | .leaf .str, .str x => appS j.size j.bytes j.zero s (strCells x) x.length (fun s h => κ (.sl s) h) h
      | .leaf (.int _), .int _ n => appZ j.size j.bytes j.zero s n (fun s h => κ (.sl s) h) h
      | _, _ => False
    | _ => False
  | .copy, t :: _, [.sl d, x] => withTI E t fun i => match i.d with
    | .slice e => withTI E e fun j => match x with
      | .sl x => cellsS j.size x (fun cs => copyS j.size d cs x.len (fun n h => κ (.int .i64 n) h) h) h
      | .str x => chk (Nat.beq j.size 1) (copyS j.size d (strCells x) x.length (fun n h => κ (.int .i64 n) h) h)
      | _ => False
    | _ => False
  | .delete, t :: _, [x, y] => withTI E t fun i => match i.d, x with
    | .map kt _, .map m => withTI E kt fun ik => match ik.d with
      | .leaf ks => chk (keyIs ks y) (mapDel ks m y (fun h => κ (.tup []) h) h)
      | _ => False
    | _, _ => False
  | .min, _, [.int k a, .int _ b] => κ (.int k (minI a b)) h
  | .max, _, [.int k a, .int _ b] => κ (.int k (maxI a b)) h
  | .clear, t :: _, [x] => withTI E t fun i => match i.d, x with
    | .slice e, .sl s => withTI E e fun j => chk (Nat.blt 0 j.size) (clearS j.zero s (fun h => κ (.tup []) h) h)
    | _, _ => False
  | _, _, _ => False

def callPT (E : Env) (c : Call) (ρ : Fr) (κ : V → Heap → Prop) (h : Heap) : Prop :=
  match c.callee with
  | .value (.func f) => match E.fnc f with
    | some g => evL E ρ c.args.toList fun vs => E.call g vs κ h
    | none => False
  | .value x => ev1 E ρ x fun v => evL E ρ c.args.toList fun vs => bif E.isUnk x then E.callV v vs κ h else match v with
    | .fn g caps => chk (caps.all V.wfb) (E.call g (vs ++ caps) κ h)
    | _ => False
  | .invoke r m => ev1 E ρ r fun v => evL E ρ c.args.toList fun vs => E.inv v m vs κ h
  | .builtin b => evL E ρ c.args.toList fun vs => builtinPT E b c.argTypes.toList vs κ h

def mapPutPT (E : Env) (t : Nat) (v u r : V) (κ : Heap → Prop) (h : Heap) : Prop :=
  withTI E t fun i => match i.d, v with
    | .map kt _, .map m => withTI E kt fun ik => match ik.d with
      | .leaf ks => chk (keyIs ks u) (chk r.nt (mapPut ks m u r κ h))
      | _ => False
    | _, _ => False

def mapEntPT (E : Env) (t : Nat) (v u : V) (κ : V → Heap → Prop) (h : Heap) : Prop :=
  withTI E t fun i => match i.d, v with
    | .map kt et, .map m => withTI E kt fun ik => withTI E et fun ie => match ik.d with
      | .leaf ks => chk (keyIs ks u) (mapEnt ks m u ie.zv (fun r b h => asR (rsOf ie.d.sh ie.leaves) r fun r => κ (.tup [r, .int .i64 b]) h) h)
      | _ => False
    | _, _ => False

def entPutPT (v s r : V) (κ : Heap → Prop) (h : Heap) : Prop :=
  match v, s with
  | .map m, .int _ b => chk r.nt (entPut m b r κ h)
  | _, _ => False

def opPT (E : Env) (op : Op) (ρ : Fr) (κ : V → Heap → Prop) (h : Heap) : Prop :=
  match op with
  | .move x => ev1 E ρ x fun v => κ v h
  | .assign x => ev1 E ρ x fun v => κ v h
  | .pick c a b => ev1 E ρ c fun x => match x with
    | .bool true => ev1 E ρ a fun v => κ v h
    | .bool false => ev1 E ρ b fun v => κ v h
    | _ => False
  | .alloc t => withTI E t fun i => al i.zero (fun b h => κ (.ptr (some ⟨b, 0⟩)) h) h
  | .box t x => ev1 E ρ x fun v => withTI E t fun i => cellsT i v fun cs => al cs (fun b h => κ (.ptr (some ⟨b, 0⟩)) h) h
  | .build t parts => buildPT E t parts.toList ρ (fun v => κ v h)
  | .buildSlice t len parts => withTI E t fun i => match i.d with
    | .slice e => withTI E e fun j => chk (Nat.ble (len * j.size) 16777216 && Nat.blt 0 j.size) (fillPT E (fun m => some (m * j.size, j)) ρ parts.toList (flatRep len j.zero) (fun cs => al cs (fun b h => κ (.sl ⟨some ⟨b, 0⟩, len, len⟩) h) h))
    | _ => False
  | .load t a => ev1 E ρ a fun v => withTI E t fun i => match v with
    | .ptr (some p) => rdT i p (fun v => κ v h) h
    | _ => False
  | .store t a x => ev1 E ρ a fun v => ev1 E ρ x fun u => withTI E t fun i => match v with
    | .ptr (some p) => match i.d.sh with
      | some _ => chk u.one (wr p u (fun h => κ (.tup []) h) h)
      | none => cellsT i u fun cs => wrL cs p 0 (fun h => κ (.tup []) h) h
    | _ => False
  | .nilCheck x => ev1 E ρ x fun v => nilCU E.ifc v fun v => κ v h
  | .binOp op t x y _ => ev1 E ρ x fun a => ev1 E ρ y fun b => binPT E op t a b (isConstO y) (fun v => κ v h) h
  | .unOp op _ x => ev1 E ρ x fun a => unPT op a fun v => κ v h
  | .convert s d x => ev1 E ρ x fun a => convPT E s d a κ h
  | .makeInterface t x => ev1 E ρ x fun v => withTI E t fun i => match i.d, E.tyc t with
    | .iface, _ => False
    | _, some u => κ (.iface u v) h
    | _, none => False
  | .makeFunc (.func f) first caps => match first.toList, E.fnc f with
    | [], some g => evL E ρ caps.toList fun vs => κ (.fn g vs) h
    | _, _ => False
  | .makeFunc (.method m) first caps => match first.toList, caps.toList with
    | [x], [] => ev1 E ρ x fun v => mthC m v fun v => κ v h
    | _, _ => False
  | .makeSlice t l c => ev1 E ρ l fun a => ev1 E ρ c fun b => withTI E t fun i => match i.d, a, b with
    | .slice e, .int _ len, .int _ cap => withTI E e fun j => bif Nat.beq j.size 0 then False else mkSl j.bytes j.zero len cap (fun s h => κ (.sl s) h) h
    | _, _, _ => False
  | .slice t x lo hi mx => ev1 E ρ x fun v => evO E ρ lo fun lo => evO E ρ hi fun hi => evO E ρ mx fun mx => slicePT E t v lo hi mx fun v => κ v h
  | .fieldAddr s x f => ev1 E ρ x fun v => match v with
    | .ptr (some p) => fieldOf E s f fun off j => bif Nat.beq j.size 0 then False else κ (.ptr (some (p.add off))) h
    | _ => False
  | .field t x f => ev1 E ρ x fun v => fieldOf E t f fun off j => partT j v off fun v => κ v h
  | .indexAddr t x i => ev1 E ρ x fun v => ev1 E ρ i fun w => withTI E t fun ti => match ti.d, v, w with
    | .slice e, .sl s, .int _ i => withTI E e fun j => ix i s.len fun n => der s.p fun p => κ (.ptr (some (p.add (n * j.size)))) h
    | .array len e, .ptr (some p), .int _ i => withTI E e fun j => ix i len fun n => κ (.ptr (some (p.add (n * j.size)))) h
    | _, _, _ => False
  | .index t x i => ev1 E ρ x fun v => ev1 E ρ i fun w => withTI E t fun ti => match ti.d, v, w with
    | .leaf .str, .str s, .int _ i => ix i s.length fun n => κ (.int .u8 (s.getD n 0).toNat) h
    | .array len e, v, .int _ i => withTI E e fun j => ix i len fun n => partT j v.ofAg (n * j.size) fun v => κ v h
    | _, _, _ => False
  | .extract x i => ev1 E ρ x fun v => match v with
    | .tup vs => match vs[i]? with
      | some v => κ v h
      | none => False
    | _ => False
  | .call c => callPT E c ρ κ h
  | .makeMap t none => withTI E t fun i => match i.d with
    | .map kt _ => withTI E kt fun ik => match ik.d with
      | .leaf ks => alM ks (fun b h => κ (.map (some b)) h) h
      | _ => False
    | _ => False
  | .makeChan t x => ev1 E ρ x fun v => withTI E t fun i => match i.d, v with
    | .leaf .chan, .int .i64 n => chk (decide (0 ≤ n) && decide (n ≤ 65536)) (alC n.toNat (fun b h => κ (.chan (some b)) h) h)
    | _, _ => False
  | .lookup t x y c => ev1 E ρ x fun v => ev1 E ρ y fun u => withTI E t fun i => match i.d, v with
    | .map kt et, .map m => withTI E kt fun ik => withTI E et fun ie => match ik.d with
      | .leaf ks => chk (keyIs ks u) (mapGet ks m u (fun o => asR (rsOf ie.d.sh ie.leaves) (o.getD ie.zv) fun r => κ (bif c then .tup [r, .bool o.isSome] else r) h) h)
      | _ => False
    | _, _ => False
  | .range t x => ev1 E ρ x fun v => withTI E t fun i => match i.d, v with
    | .map _ _, .map m => rangeM m (fun b h => κ (.ptr (some ⟨b, 0⟩)) h) h
    | .leaf .str, .str s => rangeS s (fun b h => κ (.ptr (some ⟨b, 0⟩)) h) h
    | _, _ => False
  | .next x false => ev1 E ρ x fun v => match v with
    | .ptr (some p) => p.o = 0 ∧ nextM p.b (fun h => κ (.tup [.bool false]) h) (fun k u h => κ (.tup [.bool true, k, u]) h) h
    | _ => False
  | .next x true => ev1 E ρ x fun v => match v with
    | .ptr (some p) => p.o = 0 ∧ nextS p.b (fun h => κ (.tup [.bool false]) h) (fun i c h => κ (.tup [.bool true, .int .i64 i, .int .i32 c]) h) h
    | _ => False
  | .entry x => ev1 E ρ x fun v => match v with
    | .ptr (some p) => p.o = 0 ∧ entryM p.b (fun k u => κ (.tup [k, u]) h) h
    | _ => False
  | .mapUpdate t x y z => ev1 E ρ x fun v => ev1 E ρ y fun u => ev1 E ρ z fun r => mapPutPT E t v u r (fun h => κ (.tup []) h) h
  | .mapEntry t x y => ev1 E ρ x fun v => ev1 E ρ y fun u => mapEntPT E t v u κ h
  | .entryStore _ x s y => ev1 E ρ x fun v => ev1 E ρ s fun b => ev1 E ρ y fun r => entPutPT v b r (fun h => κ (.tup []) h) h
  | .insert t x y z => ev1 E ρ x fun v => ev1 E ρ y fun u => ev1 E ρ z fun r => mapPutPT E t v u r (fun h => κ (.tup []) h) h
  | _ => False

def putF (E : Env) (dst : Option Tmp) (v : Option V) (ρ : Fr) (κ : Fr → Prop) : Prop :=
  match dst with
  | none => κ ρ
  | some d => bif Nat.blt d E.n then κ ((d, v) :: ρ) else False

/-- Is an operation performed? -/
def guardG (E : Env) (all : List Oper) (o : Oper) (run skip : Fr → Prop) (ρ : Fr) : Prop :=
  match o.guard with
  | none => run ρ
  | some (j, want) => match (all[j]?).bind (·.dst) with
    | none => False
    | some d => bif Nat.blt d E.n then match look ρ d with
      | some (.bool x) => br x
          (bif want then run ((d, some (V.bool true)) :: ρ) else skip ((d, some (V.bool true)) :: ρ))
          (bif want then skip ((d, some (V.bool false)) :: ρ) else run ((d, some (V.bool false)) :: ρ))
      | some (.tup _) => skip ρ
      | _ => False
      else False

/-- One operation of a region, guard and all. -/
def stepPT (E : Env) (all : List Oper) (o : Oper) (κ : Fr → Heap → Prop) (ρ : Fr) (h : Heap) : Prop :=
  guardG E all o (fun ρ => opPT E o.op ρ (fun v h => asO E o v fun v => putF E o.dst (some v) ρ fun ρ => κ ρ h) h) (fun ρ => putF E o.dst (some (.tup [])) ρ fun ρ => κ ρ h) ρ

def ptOps (E : Env) (all : List Oper) : List Oper → (Fr → Heap → Prop) → Fr → Heap → Prop
  | [], κ, ρ, h => κ ρ h
  | o :: os, κ, ρ, h => stepPT E all o (fun ρ h => ptOps E all os κ ρ h) ρ h

/-! ### regions whose order is open -/

def edgeM : List Edge → Nat → Nat
  | [], m => m
  | e :: es, m => edgeM es (bif Region.binds .any e then m ||| (1 <<< e.on) else m)

def upM (ops : Array Oper) : Nat → Nat → Nat
  | 0, m => m
  | k + 1, m => upM ops k (bif m.testBit k then match ops[k]? with
    | some o => edgeM o.after.toList m
    | none => m else m)

/-- Must j be done ahead of i? Bits of a number tell what must. -/
def anc (ops : Array Oper) (n j i : Nat) : Bool :=
  match ops[i]? with
  | some o => (upM ops n (edgeM o.after.toList 0)).testBit j
  | none => false

def TD.isMap : TD → Bool
  | .map _ _ => true
  | .leaf .chan => true
  | _ => false

def TD.isInt : TD → Bool
  | .leaf (.int _) => true
  | _ => false

def withB (E : Env) (t : Nat) (p : TI → Bool) : Bool :=
  match E.ti t with
  | some i => p i
  | none => false

/-- Operations that only reckon. -/
def quietOp (E : Env) : Op → Bool
  | .move _ => true
  | .assign _ => true
  | .pick _ _ _ => true
  | .fieldAddr _ _ _ => true
  | .field _ _ _ => true
  | .indexAddr _ _ _ => true
  | .index _ _ _ => true
  | .unOp _ _ _ => true
  | .extract _ _ => true
  | .nilCheck _ => true
  | .slice _ _ _ _ _ => true
  | .binOp _ t _ _ _ => withB E t fun i => i.d.plain
  | .convert s d _ => withB E d fun i => withB E s fun i' => i.d.isInt && i'.d.isInt
  | .call c => match c.callee with
    | .builtin .len => match c.argTypes.toList with
      | t :: _ => withB E t fun i => !i.d.isMap
      | [] => false
    | _ => false
  | _ => false

def loadOp : Op → Bool
  | .load _ _ => true
  | _ => false

def hoists (E : Env) (ops : Array Oper) (listed : Array Bool) (i : Nat) : Bool :=
  match ops[i]? with
  | some o => (quietOp E o.op || loadOp o.op) && Region.free .any ops listed i
  | none => false

def allPT : List Nat → (Nat → Prop) → Prop
  | [], _ => True
  | [i], p => p i
  | i :: is, p => p i ∧ allPT is p

def ptD (E : Env) (ops : Array Oper) : Nat → Array Bool → List (Nat × (Heap → Prop)) → (Fr → Heap → Prop) → Fr → Heap → Prop
  | 0, _, _, _, _, _ => False
  | n + 1, listed, F, κ, ρ, h =>
    match Region.ready .any ops listed with
    | [] => κ ρ h
    | r :: rs => match (r :: rs).find? (hoists E ops listed) with
      | some i => match ops[i]? with
        | none => False
        | some o => match o.op with
          | .load t x => guardG E ops.toList o
              (fun ρ => ev1 E ρ x fun v => withTI E t fun ti => match v with
                | .ptr (some p) => rdT ti p (fun v => putF E o.dst (some v) ρ fun ρ => ptD E ops n (listed.setIfInBounds i true) ((i, fun h => ck p v.cells 0 h) :: F) κ ρ h) h
                | _ => False)
              (fun ρ => putF E o.dst (some (.tup [])) ρ fun ρ => ptD E ops n (listed.setIfInBounds i true) F κ ρ h) ρ
          | _ => stepPT E ops.toList o (fun ρ h => ptD E ops n (listed.setIfInBounds i true) F κ ρ h) ρ h
      | none => allPT (r :: rs) fun i => match ops[i]? with
        | none => False
        | some o =>
          let F' := F.filter fun p => !anc ops ops.size p.1 i
          stepPT E ops.toList o (fun ρ h => chkF F' h (ptD E ops n (listed.setIfInBounds i true) F' κ ρ h)) ρ h

def retL (E : Env) (ρ : Fr) (h : Heap) : List ResultVar → (List V → Prop) → Prop
  | [], κ => κ []
  | .tmp t :: rs, κ => match look ρ t with
    | some v => chk v.nt (retL E ρ h rs fun vs => κ (v :: vs))
    | none => False
  | .cell ad t :: rs, κ => match look ρ ad with
    | some (.ptr (some p)) => withTI E t fun i => rdT i p (fun v => chk v.nt (retL E ρ h rs fun vs => κ (v :: vs))) h
    | _ => False

def atRet (E : Env) (ρ : Fr) (h : Heap) : Prop :=
  retL E ρ h E.rets fun vs => match vs with
    | [v] => E.ret v h
    | vs => E.ret (.tup vs) h

def picks (ρ : Fr) : List Nat → (List V → Prop) → Prop
  | [], κ => κ []
  | t :: ts, κ => match look ρ t with
    | some v => picks ρ ts fun vs => κ (v :: vs)
    | none => False

def lit (c : Operand) (b : Bool) (ρ : Fr) : Fr :=
  match c with
  | .tmp d => (d, some (.bool b)) :: ρ
  | _ => ρ

/-- select of one case, with a default. -/
def selPT (E : Env) (cs : List SelectCase) (b : Bool) (ρ : Fr) (κ : V → Heap → Prop) (h : Heap) : Prop :=
  match cs, b with
  | [c], false => match c.send with
    | some x => ev1 E ρ c.chan fun v => ev1 E ρ x fun u => withTI E c.elem fun _ => match v with
      | .chan r => chk u.nt (chSend r u (fun k h => κ (.tup [.int .i64 k, .bool false]) h) h)
      | _ => False
    | none => ev1 E ρ c.chan fun v => withTI E c.elem fun ie => match v with
      | .chan r => chRecv r ie.zv (fun k ok x h => asR (rsOf ie.d.sh ie.leaves) x fun x => κ (.tup [.int .i64 k, .bool ok, x]) h) h
      | _ => False
  | _, _ => False

/-- A region in its own order; a select may stand first in it. -/
def ptR (E : Env) (ops : List Oper) (κ : Fr → Heap → Prop) (ρ : Fr) (h : Heap) : Prop :=
  match ops with
  | o :: os => match o.op, o.guard with
    | .select cs b, none => selPT E cs.toList b ρ (fun v h => putF E o.dst (some v) ρ fun ρ => ptOps E ops os κ ρ h) h
    | _, _ => ptOps E ops ops κ ρ h
  | [] => ptOps E ops ops κ ρ h

def pts (E : Env) : Nat → Bool → List Item → Fr → Heap → Prop
  | 0, _, _, _, _ => False
  | n + 1, first, todo, ρ, h => match todo with
    | [] => atRet E ρ h
    | .code c :: k => match c with
      | .skip => pts E n first k ρ h
      | .label _ => pts E n first k ρ h
      | .seq a b => pts E n first (.code a :: .code b :: k) ρ h
      | .cond c t e => match ev E ρ c with
        | some (.bool x) => br x (pts E n first (.code t :: k) (lit c true ρ) h) (pts E n first (.code e :: k) (lit c false ρ) h)
        | _ => False
      | .block id b => pts E n first (.code b :: .inBlock id :: k) ρ h
      | .loop b => pts E n first (.code b :: .inLoop b :: k) ρ h
      | .scope b => pts E n first (.code b :: .inScope b :: k) ρ h
      | .exit id => match exitTo id k with
        | some k' => pts E n first k' ρ h
        | none => False
      | .ret => atRet E ρ h
      | .region id ops draw => match (bif first then none else E.cut id) with
        | some (L, κ) => picks ρ L fun vs => κ vs h
        | none => bif draw then chk (Region.noSelect ops) (ptD E ops (ops.size + 1) (Array.replicate ops.size false) [] (fun ρ h => pts E n false k ρ h) ρ h) else ptR E ops.toList (fun ρ h => pts E n false k ρ h) ρ h
      | _ => False
    | .inBlock _ :: k => pts E n first k ρ h
    | .inScope _ :: k => pts E n first k ρ h
    | .inLoop b :: k => pts E n first (.code b :: .inLoop b :: k) ρ h
    | _ => False

/-! ### where regions stand in the code -/

def posC : Code → List Item → List (Nat × List Item)
  | .region id ops d, k => [(id, .code (.region id ops d) :: k)]
  | .seq a b, k => posC a (.code b :: k) ++ posC b k
  | .cond _ t e, k => posC t k ++ posC e k
  | .block id c, k => posC c (.inBlock id :: k)
  | .loop c, k => posC c (.inLoop c :: k)
  | .scope c, k => posC c (.inScope c :: k)
  | _, _ => []

def atPos (pos : List (Nat × List Item)) (id : Nat) : List Item :=
  match pos with
  | [] => []
  | (j, t) :: ps => bif Nat.beq j id then t else atPos ps id

/-- Frames with so many slots written. -/
def frOf : Nat → List V → Fr
  | _, [] => []
  | i, v :: vs => (i, some v) :: frOf (i + 1) vs

def frAt : List Nat → List V → Fr
  | t :: ts, v :: vs => (t, some v) :: frAt ts vs
  | _, _ => []

end Go.Lift
