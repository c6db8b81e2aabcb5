/- What a shallow value, a shallow memory and a shallow frame say of the machine's; the operations one by one. -/
import Derived.Test.YtgigbjieppllgaaDoorLiftB
import Derived.WalkKit
import Derived.Laws.IdiomCopy
import Derived.Laws.AppendOwn
import Derived.MapKept
namespace Go.Lift
open Go.RowKit

structure Seat where
  P : Program
  fn : Nat → Nat
  ty : Nat → Nat

/-- All pairs of numbers, in a row. -/
def pairN : Nat → Nat × Nat
  | 0 => (0, 0)
  | n + 1 => match pairN n with
    | (0, y) => (y + 1, 0)
    | (x + 1, y) => (x, y + 1)

theorem pairN_all : ∀ s y : Nat, y ≤ s → ∃ n, pairN n = (s - y, y)
  | 0, 0, _ => ⟨0, rfl⟩
  | 0, y + 1, h => absurd h (by omega)
  | s + 1, 0, _ => by
    obtain ⟨n, hn⟩ := pairN_all s s (Nat.le_refl _)
    refine ⟨n + 1, ?_⟩
    simp only [pairN, hn, Nat.sub_self, Nat.sub_zero]
  | s + 1, y + 1, h => by
    obtain ⟨n, hn⟩ := pairN_all (s + 1) y (by omega)
    refine ⟨n + 1, ?_⟩
    have e : s + 1 - y = (s + 1 - (y + 1)) + 1 := by omega
    simp only [pairN, hn]
    rw [e]

theorem pairN_is (x y : Nat) : ∃ n, pairN n = (x, y) := by
  obtain ⟨n, hn⟩ := pairN_all (x + y) y (by omega)
  exact ⟨n, by rw [hn]; simp⟩

/-- The block 2 k is the machine's block k; the odd ones stand for addresses with a mark, whose blocks are not looked at. -/
def Ptr.addr (p : Ptr) : Addr :=
  if p.b % 2 = 0 then ⟨p.b / 2, p.o, none⟩
  else if p.o = 0 then ⟨(pairN (p.b / 2)).1, (pairN (pairN (p.b / 2)).2).1, some (pairN (pairN (p.b / 2)).2).2⟩
  else ⟨(pairN (p.b / 2)).1, (pairN (pairN (p.b / 2)).2).1 + p.o, none⟩

theorem addr_vb (k o : Nat) : Ptr.addr ⟨2 * k, o⟩ = ⟨k, o, none⟩ := by
  unfold Ptr.addr
  rw [if_pos (Nat.mul_mod_right 2 k)]
  simp

theorem addr_of {p : Ptr} {k : Nat} (h : p.b = 2 * k) : p.addr = ⟨k, p.o, none⟩ := by
  obtain ⟨b, o⟩ := p
  subst h
  exact addr_vb k o

/-- A pointer for any address. -/
theorem addr_all (a : Addr) : ∃ p : Ptr, p.addr = a := by
  obtain ⟨b, o, s⟩ := a
  cases s with
  | none => exact ⟨⟨2 * b, o⟩, addr_vb b o⟩
  | some s =>
    obtain ⟨m, hm⟩ := pairN_is o s
    obtain ⟨n, hn⟩ := pairN_is b m
    refine ⟨⟨2 * n + 1, 0⟩, ?_⟩
    unfold Ptr.addr
    have h1 : (2 * n + 1) % 2 = 1 := by omega
    have h2 : (2 * n + 1) / 2 = n := by omega
    simp [h1, h2, hn, hm]

noncomputable def Addr.ptr (a : Addr) : Ptr :=
  match a.spot with
  | none => ⟨2 * a.block, a.off⟩
  | some _ => Classical.choose (addr_all a)

theorem ptr_addr (a : Addr) : (Addr.ptr a).addr = a := by
  obtain ⟨b, o, s⟩ := a
  cases s with
  | none => exact addr_vb b o
  | some s => exact Classical.choose_spec (addr_all ⟨b, o, some s⟩)

theorem ptr_none (b o : Nat) : Addr.ptr ⟨b, o, none⟩ = ⟨2 * b, o⟩ := rfl

def mref (r : Option Nat) : Option Nat := r.map (· / 2)
theorem mref_vb (k : Nat) : mref (some (2 * k)) = some k := by simp [mref]
theorem mref_none : mref none = none := rfl
theorem mref_isNone (r : Option Nat) : (mref r).isNone = r.isNone := by cases r <;> rfl

mutual
def V.val (σ : Seat) : V → Value
  | .int k n => .int k n
  | .bool b => .bool b
  | .str s => .string ⟨s.toArray⟩
  | .ptr p => .pointer (p.map Ptr.addr)
  | .sl s => .slice (s.p.map Ptr.addr) s.len s.cap
  | .map r => .map (mref r)
  | .chan r => .chan (mref r)
  | .fn f caps => .func (.func (σ.fn f)) #[] (V.vals σ caps).toArray
  | .nilfn => .nilFunc
  | .mth m v => .func (.method m) #[V.val σ v] #[]
  | .iface t v => .iface (σ.ty t) (V.val σ v)
  | .nilif => .nilIface
  | .agg cs => .agg (V.vals σ cs).toArray
  | .ago cs => .agg (V.vals σ cs).toArray
  | .tup vs => .tuple (V.vals σ vs).toArray
def V.vals (σ : Seat) : List V → List Value
  | [] => []
  | v :: vs => V.val σ v :: V.vals σ vs
end

theorem vals_map (σ : Seat) (l : List V) : V.vals σ l = l.map (V.val σ) := by
  induction l with
  | nil => rfl
  | cons v vs ih => simp [V.vals, ih]

def V.wf1 (v : V) : Prop := ∀ u ∈ v.cells, u.one = true

/-- A value as the machine's slots hold them. -/
def V.wf : V → Prop
  | .tup vs => ∀ v ∈ vs, v.wf1
  | v => v.wf1

theorem V.wf_nt {v : V} (hn : v.nt = true) (hw : v.wf) : v.wf1 := by
  cases v <;> first | exact hw | exact absurd hn Bool.false_ne_true

theorem V.wf1_wf {v : V} (hw : v.wf1) : v.wf := by
  cases v <;> first | exact hw | exact absurd (hw _ (List.mem_singleton.2 rfl)) Bool.false_ne_true

theorem V.one_val {σ : Seat} {v : V} (h1 : v.one = true) : (v.val σ).oneCell' = true := by
  cases v <;> first | rfl | exact absurd h1 Bool.false_ne_true

theorem V.wf_one {v : V} (h1 : v.one = true) : v.wf := by
  cases v <;> first | exact absurd h1 Bool.false_ne_true | (intro u hu; simp [V.cells] at hu; subst hu; rfl)

theorem V.one_cells {v : V} (h1 : v.one = true) : v.cells = [v] := by
  cases v <;> first | exact absurd h1 Bool.false_ne_true | rfl

theorem vals_cells (σ : Seat) (v : V) : (v.val σ).cells.toList = V.vals σ v.cells := by
  cases v <;> simp [V.val, Value.cells, V.cells, V.vals]

def shD : Sh → TypeDesc
  | .int k => .int k
  | .bool => .bool
  | _ => .string

def simO (σ : Seat) : HO → Obj → Prop
  | .cells l mk, .cells c _ fz => c.toList = V.vals σ l ∧ (∀ v ∈ l, v.one = true) ∧ (if mk then l.length ≤ fz.1 else fz = (0, 0))
  | .ro f, .cells c _ _ => ∀ i v, f i = some v → c[i]? = some (v.val σ) ∧ v.one = true
  | .map ks es bs cl, .map c clock => c.toList.map (fun e => (e.key, e.val)) = es.map (fun p => (p.1.val σ, p.2.val σ)) ∧ (∀ p ∈ es, keyIs ks p.1 = true ∧ p.2.wf1) ∧ MapKept.Stamped c clock ∧ c.toList.map (·.born) = bs ∧ clock = cl
  | .iter m since seen last, .mapIter m' since' seen' last' => m' = mref m ∧ since' = since ∧ seen'.toList = seen ∧ last' = last
  | .siter s pos, .stringIter s' pos' => s' = ⟨s.toArray⟩ ∧ pos' = pos
  | .chan cap q, .chan cap' buf closed _ _ tm => cap' = cap ∧ buf.toList = V.vals σ q ∧ (∀ v ∈ q, v.wf1) ∧ closed = false ∧ tm = false
  | _, _ => False

def HO.isRo : HO → Bool
  | .ro _ => true
  | _ => false

structure Sim (σ : Seat) (W0 : World) (h : Heap) (w : World) : Prop where
  os : w.os = W0.os
  output : w.output = W0.output
  tape : w.tape = W0.tape
  size : W0.heap.size ≤ w.heap.size
  known : ∀ (b : Nat) x, h.obj b = some x → ∃ k o, b = 2 * k ∧ w.heap[k]? = some o ∧ simO σ x o
  old : ∀ b : Nat, b < W0.heap.size → w.heap[b]? = W0.heap[b]?
  own : ∀ (b : Nat) x, h.obj b = some x → x.isRo = false → 2 * W0.heap.size ≤ b

structure SimF (σ : Seat) (n : Nat) (ρ : Fr) (a : Act) : Prop where
  size : a.tmps.size = n
  defers : a.defers = []
  vals : ∀ t v, look ρ t = some v → a.tmps.getD t Go.undef = v.val σ ∧ v.wf

section
variable {σ : Seat} {W0 : World} {h : Heap} {w : World}

theorem Sim.drew (s : Sim σ W0 h w) : Sim σ W0 h w.drew := ⟨s.os, s.output, s.tape, s.size, s.known, s.old, s.own⟩

theorem Sim.getW (s : Sim σ W0 h w) {p : Ptr} {v : V} (hg : h.getW p.b p.o = some v) : w.cell? p.addr = some (v.val σ) ∧ w.frozen? p.addr = false ∧ v.one = true := by
  unfold Heap.getW at hg
  cases hb : h.obj p.b with
  | none => rw [hb] at hg; cases hg
  | some x =>
    rw [hb] at hg
    cases x with
    | map ks es bs cl => cases hg
    | iter m a b c => cases hg
    | siter a b => cases hg
    | chan a b => cases hg
    | ro f => cases hg
    | cells l mk =>
      simp only at hg
      obtain ⟨kb, o, ek, ho, hs⟩ := s.known _ _ hb
      cases o <;> simp only [simO] at hs
      rename_i c e fz
      obtain ⟨hc, h1, hf⟩ := hs
      rw [addr_of ek]
      have hlt : p.o < l.length := by
        rcases Nat.lt_or_ge p.o l.length with h | h
        · exact h
        · rw [List.getElem?_eq_none h] at hg; cases hg
      refine ⟨?_, ?_, h1 v (List.mem_of_getElem? hg)⟩
      · simp only [World.cell?, ho]
        have : c[p.o]? = c.toList[p.o]? := by simp
        rw [this, hc, vals_map, List.getElem?_map, hg]; simp
      · simp only [World.frozen?, ho]
        cases mk
        · simp only [Bool.false_eq_true, if_false] at hf; subst hf; simp
        · simp only [if_true] at hf
          have : ¬ fz.1 ≤ p.o := by omega
          simp [this]

theorem Sim.get (s : Sim σ W0 h w) {p : Ptr} {v : V} (hg : h.get p.b p.o = some v) : w.cell? p.addr = some (v.val σ) ∧ True ∧ v.one = true := by
  unfold Heap.get at hg
  cases hb : h.obj p.b with
  | none => rw [hb] at hg; cases hg
  | some x =>
    cases x with
    | map ks es bs cl => rw [hb] at hg; cases hg
    | iter m a b c => rw [hb] at hg; cases hg
    | siter a b => rw [hb] at hg; cases hg
    | chan a b => rw [hb] at hg; cases hg
    | ro f =>
      rw [hb] at hg
      obtain ⟨kb, o, ek, ho, hs⟩ := s.known _ _ hb
      cases o <;> simp only [simO] at hs
      obtain ⟨h1, h2⟩ := hs _ _ hg
      rw [addr_of ek]
      exact ⟨by simp only [World.cell?, ho]; simpa using h1, trivial, h2⟩
    | cells l mk =>
      rw [hb] at hg
      have := s.getW (p := p) (v := v) (by unfold Heap.getW; rw [hb]; exact hg)
      exact ⟨this.1, trivial, this.2.2⟩

theorem Heap.get_lt {b o : Nat} {v : V} (hg : h.getW b o = some v) : ∃ l mk, h.obj b = some (.cells l mk) ∧ l[o]? = some v ∧ o < l.length := by
  unfold Heap.getW at hg
  cases hb : h.obj b with
  | none => rw [hb] at hg; cases hg
  | some x =>
    rw [hb] at hg
    cases x with
    | map ks es bs cl => cases hg
    | iter m a b c => cases hg
    | siter a b => cases hg
    | chan a b => cases hg
    | ro f => cases hg
    | cells l mk =>
      refine ⟨l, mk, rfl, hg, ?_⟩
      rcases Nat.lt_or_ge o l.length with h | h
      · exact h
      · simp only at hg; rw [List.getElem?_eq_none h] at hg; cases hg

theorem Sim.set (s : Sim σ W0 h w) {p : Ptr} {u v : V} (hg : h.getW p.b p.o = some u) (hv : v.one = true) : Sim σ W0 (h.set p.b p.o v) (w.setCell p.addr (v.val σ)) := by
  obtain ⟨l, mk, hb, hl, hlt⟩ := Heap.get_lt hg
  obtain ⟨kb, o, ek, ho, hs⟩ := s.known _ _ hb
  cases o <;> simp only [simO] at hs
  rename_i c e fz
  obtain ⟨hc, h1, hf⟩ := hs
  have hheap : ∀ b : Nat, (w.setCell p.addr (v.val σ)).heap[b]? = if b = kb then some (.cells (c.setIfInBounds p.o (v.val σ)) e fz) else w.heap[b]? := by
    intro b
    simp only [World.setCell, addr_of ek, Array.getElem?_modify]
    by_cases hbe : b = kb
    · subst hbe; simp [ho]
    · have : ¬ kb = b := fun h => hbe h.symm
      simp [hbe, this]
  refine ⟨s.os, s.output, s.tape, by simp [World.setCell]; exact s.size, ?_, ?_, ?_⟩
  · intro b x hx
    by_cases hbe : b = p.b
    · subst hbe
      simp only [Heap.set, if_true, hb, Option.map_some, HO.set] at hx
      cases hx
      refine ⟨kb, .cells (c.setIfInBounds p.o (v.val σ)) e fz, ek, by rw [hheap, if_pos rfl], ?_, ?_, ?_⟩
      · simp [hc, vals_map, List.map_set]
      · intro z hz
        rcases List.mem_or_eq_of_mem_set hz with hz | rfl
        · exact h1 z hz
        · exact hv
      · cases mk <;> simpa using hf
    · simp only [Heap.set, hbe, if_false] at hx
      obtain ⟨k', o', ek', ho', hs'⟩ := s.known b x hx
      exact ⟨k', o', ek', by rw [hheap, if_neg (by omega)]; exact ho', hs'⟩
  · intro b hb'
    have : b ≠ kb := by have := s.own _ _ hb rfl; omega
    rw [hheap, if_neg this]
    exact s.old b hb'
  · intro b x hx hr
    simp only [Heap.set] at hx
    by_cases hbe : b = p.b
    · subst hbe; exact s.own _ _ hb rfl
    · rw [if_neg hbe] at hx; exact s.own b x hx hr

theorem Sim.size_none (s : Sim σ W0 h w) : h.obj (2 * w.heap.size) = none := by
  cases hb : h.obj (2 * w.heap.size) with
  | none => rfl
  | some x =>
    obtain ⟨k, o, ek, ho, _⟩ := s.known _ _ hb
    obtain rfl : w.heap.size = k := by omega
    simp at ho

theorem Sim.new (s : Sim σ W0 h w) {x : HO} {o : Obj} (hx : simO σ x o) : Sim σ W0 (h.new (2 * w.heap.size) x) (w.alloc o) := by
  refine ⟨s.os, s.output, s.tape, by show _ ≤ (w.heap.push o).size; simp; have := s.size; omega, ?_, ?_, ?_⟩
  · intro b y hy
    show ∃ k' o', b = 2 * k' ∧ (w.heap.push o)[k']? = _ ∧ _
    simp only [Heap.new] at hy
    by_cases hb : b = 2 * w.heap.size
    · subst hb; rw [if_pos rfl] at hy; cases hy
      exact ⟨_, o, rfl, by simp, hx⟩
    · rw [if_neg hb] at hy
      obtain ⟨k', o', ek', ho', hs⟩ := s.known b y hy
      refine ⟨k', o', ek', ?_, hs⟩
      rw [Array.getElem?_push, if_neg (by omega)]; exact ho'
  · intro b hb
    have hlt := s.size
    have hne : b ≠ w.heap.size := by omega
    show (w.heap.push o)[b]? = _
    rw [Array.getElem?_push, if_neg hne]; exact s.old b hb
  · intro b y hy hr
    simp only [Heap.new] at hy
    by_cases hb : b = 2 * w.heap.size
    · have := s.size; omega
    · rw [if_neg hb] at hy; exact s.own b y hy hr

theorem Sim.newCells (s : Sim σ W0 h w) {l : List V} {c : Array Value} {e : TypeId} (hc : c.toList = V.vals σ l) (h1 : ∀ v ∈ l, v.one = true) : Sim σ W0 (h.new (2 * w.heap.size) (.cells l false)) (w.alloc (.cells c e)) :=
  s.new ⟨hc, h1, rfl⟩

end

/-! ## types -/

def TDok (P : Program) (t : Nat) : TD → Prop
  | .leaf (.int k) => P.underlying t = some (.int k)
  | .leaf .bool => P.underlying t = some .bool
  | .leaf .str => P.underlying t = some .string
  | .leaf .chan => ∃ d e info, P.underlying t = some (.chan d e) ∧ P.info? e = some info ∧ info.bytes ≤ 65536
  | .leaf _ => False
  | .ptr e => P.underlying t = some (.pointer e)
  | .iface => ∃ ms, P.underlying t = some (.interface ms)
  | .func => ∃ a b c, P.underlying t = some (.func a b c)
  | .slice e => P.underlying t = some (.slice e)
  | .array n e => P.underlying t = some (.array n e)
  | .struct fs => ∃ fields : Array Field, P.underlying t = some (.struct fields) ∧ fields.toList.map (fun f => (f.offset, f.type)) = fs
  | .map k e => P.underlying t = some (.map k e)

def Value.isAgg' : Value → Bool
  | .agg _ => true
  | _ => false

def TD.one : TD → Bool
  | .array _ _ => false
  | .struct _ => false
  | _ => true

mutual
def EQ.depth : EQ → Nat
  | .leaf _ => 0
  | .arr _ _ e => e.depth + 1
  | .struct fs => fs.depth + 1
def EQL.depth : EQL → Nat
  | .nil => 0
  | .cons _ _ d fs => max d.depth fs.depth
end

mutual
def eqOK (P : Program) : EQ → Nat → Bool
  | .leaf (.int k), t => match P.underlying t with | some (.int k') => decide (k' = k) | _ => false
  | .leaf .bool, t => match P.underlying t with | some .bool => true | _ => false
  | .leaf .str, t => match P.underlying t with | some .string => true | _ => false
  | .leaf _, _ => false
  | .arr n sz e, t => match P.underlying t with | some (.array m u) => Nat.beq m n && Nat.beq (P.cellsOf u) sz && Nat.beq e.leaves.length sz && (P.info? u).isSome && eqOK P e u | _ => false
  | .struct fs, t => match P.underlying t with | some (.struct fields) => !P.stoodInHeld t && eqlOK P fs fields.toList 0 | _ => false
def eqlOK (P : Program) : EQL → List Field → Nat → Bool
  | .nil, [], _ => true
  | .cons o sz d fs, f :: l, i => Nat.beq o i && Nat.beq f.offset o && f.name != "_" && Nat.beq (P.cellsOf f.type) sz && Nat.beq d.leaves.length sz && (P.info? f.type).isSome && eqOK P d f.type && eqlOK P fs l (i + sz)
  | _, _, _ => false
end

structure TIok (P : Program) (t : Nat) (i : TI) : Prop where
  info : ∃ info, P.info? t = some info ∧ info.size = i.size ∧ info.bytes = i.bytes ∧ ∃ z, info.zero = some z ∧ ∀ σ, z.cells.toList = V.vals σ i.zero
  d : TDok P t i.d
  one : i.d.one = true → i.size = 1
  leaves : ∀ ls, i.leaves = some ls → ls.length = i.size
  eq : i.eq = true → P.stoodInHeld t = false ∧ P.eqGuardType P.depth t = false ∧ ∀ fields, P.underlying t = some (.struct fields) → ∀ f ∈ fields.toList, f.name ≠ "_"
  zlen : i.zero.length = i.size
  zag : ∀ info z, P.info? t = some info → info.zero = some z → Value.isAgg' z = i.d.sh.isNone
  zone : ∀ v ∈ i.zero, v.one = true
  eqd : ∀ d, i.eqd = some d → P.eqGuardType P.depth t = false ∧ eqOK P d t = true ∧ d.depth < 10000

end Go.Lift
