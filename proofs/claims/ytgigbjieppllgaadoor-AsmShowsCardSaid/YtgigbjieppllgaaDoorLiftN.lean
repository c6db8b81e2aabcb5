/- From the printed functions to the machine's calls: what is alike for every function. -/
import Derived.Test.YtgigbjieppllgaaDoorLiftK
namespace Go.Lift
open Go.RowKit

/-! ## the table of types -/

def V.same : V → V → Bool
  | .int k a, .int k' b => decide (k = k') && (a == b)
  | .bool a, .bool b => a == b
  | .str a, .str b => a == b
  | .ptr none, .ptr none => true
  | .sl ⟨none, 0, 0⟩, .sl ⟨none, 0, 0⟩ => true
  | .map none, .map none => true
  | .chan none, .chan none => true
  | .nilfn, .nilfn => true
  | .nilif, .nilif => true
  | _, _ => false

theorem V.same_eq {a b : V} (h : V.same a b = true) : a = b := by
  unfold V.same at h
  split at h <;> first | rfl | cases h | skip
  · simp at h; obtain ⟨rfl, rfl⟩ := h; rfl
  · simp at h; subst h; rfl
  · simp at h; subst h; rfl

def sameL : List V → List V → Bool
  | [], [] => true
  | a :: as, b :: bs => V.same a b && sameL as bs
  | _, _ => false

theorem sameL_eq : ∀ {a b : List V}, sameL a b = true → a = b
  | [], [], _ => rfl
  | [], _ :: _, h => by cases h
  | _ :: _, [], h => by cases h
  | a :: as, b :: bs, h => by
    simp only [sameL, Bool.and_eq_true] at h
    rw [V.same_eq h.1, sameL_eq h.2]

def sameFs : List Field → List (Nat × Nat) → Bool
  | [], [] => true
  | f :: fs, (o, t) :: ps => Nat.beq f.offset o && Nat.beq f.type t && sameFs fs ps
  | _, _ => false

theorem sameFs_eq : ∀ {fs : List Field} {ps : List (Nat × Nat)}, sameFs fs ps = true → fs.map (fun f => (f.offset, f.type)) = ps
  | [], [], _ => rfl
  | [], _ :: _, h => by cases h
  | _ :: _, [], h => by cases h
  | f :: fs, (o, t) :: ps, h => by
    simp only [sameFs, Bool.and_eq_true] at h
    simp [Nat.eq_of_beq_eq_true h.1.1, Nat.eq_of_beq_eq_true h.1.2, sameFs_eq h.2]

def descOK (P : Program) : TypeDesc → TD → Bool
  | .int k, .leaf (.int k') => decide (k = k')
  | .bool, .leaf .bool => true
  | .string, .leaf .str => true
  | .chan _ e, .leaf .chan => match P.info? e with
    | some info => Nat.ble info.bytes 65536
    | none => false
  | .pointer e, .ptr e' => Nat.beq e e'
  | .interface _, .iface => true
  | .func _ _ _, .func => true
  | .slice e, .slice e' => Nat.beq e e'
  | .array n e, .array n' e' => Nat.beq n n' && Nat.beq e e'
  | .struct fields, .struct fs => sameFs fields.toList fs
  | .map k e, .map k' e' => Nat.beq k k' && Nat.beq e e'
  | _, _ => false

theorem descOK_ok {P : Program} {t : Nat} {d : TypeDesc} {td : TD} (hd : P.underlying t = some d) (h : descOK P d td = true) : TDok P t td := by
  unfold descOK at h
  split at h <;> first | cases h | skip
  all_goals try simp only [decide_eq_true_eq, Bool.and_eq_true] at h
  · subst h; exact hd
  · exact hd
  · exact hd
  · split at h
    · rename_i info hi
      exact ⟨_, _, info, hd, hi, Nat.le_of_ble_eq_true h⟩
    · cases h
  · rw [Nat.eq_of_beq_eq_true h] at hd; exact hd
  · exact ⟨_, hd⟩
  · exact ⟨_, _, _, hd⟩
  · rw [Nat.eq_of_beq_eq_true h] at hd; exact hd
  · rw [Nat.eq_of_beq_eq_true h.1, Nat.eq_of_beq_eq_true h.2] at hd; exact hd
  · exact ⟨_, hd, sameFs_eq h⟩
  · rw [Nat.eq_of_beq_eq_true h.1, Nat.eq_of_beq_eq_true h.2] at hd; exact hd

def zeroOK (z : Option Value) (l : List V) : Bool :=
  match z with
  | some z => match ofLeaves z.cells.toList with
    | some l' => sameL l' l
    | none => false
  | none => false

def noBlank : TypeDesc → Bool
  | .struct fs => fs.toList.all fun f => f.name != "_"
  | _ => true

def tiOK (P : Program) (t : Nat) (i : TI) : Bool :=
  match P.info? t, P.underlying t with
  | some info, some d => Nat.beq info.size i.size && Nat.beq info.bytes i.bytes && zeroOK info.zero i.zero && descOK P d i.d &&
      (!i.d.one || Nat.beq i.size 1) && (match i.leaves with | some ls => Nat.beq ls.length i.size | none => true) && Nat.beq i.zero.length i.size && (match info.zero with | some z => Value.isAgg' z == i.d.sh.isNone | none => false) &&
      (!i.eq || (!P.stoodInHeld t && !P.eqGuardType P.depth t && noBlank d)) && (match i.eqd with | some d => !P.eqGuardType P.depth t && eqOK P d t && Nat.blt d.depth 10000 | none => true)
  | _, _ => false

theorem tiOK_ok {P : Program} {t : Nat} {i : TI} (h : tiOK P t i = true) : TIok P t i := by
  unfold tiOK at h
  split at h
  · rename_i info d hi hd
    simp only [Bool.and_eq_true, Bool.or_eq_true, Bool.not_eq_true'] at h
    obtain ⟨⟨⟨⟨⟨⟨⟨⟨⟨h1, h2⟩, h3⟩, h4⟩, h5⟩, h6⟩, h7⟩, h9⟩, h8⟩, h10⟩ := h
    unfold zeroOK at h3
    split at h3
    · rename_i z hz
      split at h3
      · rename_i l' hl
        have hl' := sameL_eq h3
        subst hl'
        refine ⟨⟨info, hi, Nat.eq_of_beq_eq_true h1, Nat.eq_of_beq_eq_true h2, z, hz, fun σ => (ofLeaves_vals (σ := σ) hl).1.symm⟩, descOK_ok hd h4, ?_, ?_, ?_, Nat.eq_of_beq_eq_true h7, fun info' z' hi' hz' => by rw [hi] at hi'; cases hi'; rw [hz'] at h9; exact eq_of_beq h9, (ofLeaves_vals (σ := ⟨P, id, id⟩) hl).2, fun d hd => by rw [hd] at h10; simp only [Bool.and_eq_true, Bool.not_eq_true'] at h10; exact ⟨h10.1.1, h10.1.2, by simpa using h10.2⟩⟩
        · intro ho
          rcases h5 with h5 | h5
          · rw [ho] at h5; cases h5
          · exact Nat.eq_of_beq_eq_true h5
        · intro ls hls
          rw [hls] at h6
          exact Nat.eq_of_beq_eq_true h6
        · intro he
          rcases h8 with h8 | h8
          · rw [he] at h8; cases h8
          · refine ⟨h8.1.1, h8.1.2, ?_⟩
            intro fields hu f hf
            rw [hd] at hu
            cases hu
            have := List.all_eq_true.1 h8.2 f hf
            simpa using this
      · cases h3
    · cases h3
  · cases h

def tisOK (P : Program) : List (Nat × TI) → Bool
  | [] => true
  | (t, i) :: l => tiOK P t i && tisOK P l

theorem looks_ti {P : Program} : ∀ {l : List (Nat × TI)}, tisOK P l = true → ∀ {t : Nat} {i : TI}, looks l t = some i → TIok P t i
  | [], _, t, i, h => by cases h
  | (t', i') :: l, hl, t, i, h => by
    simp only [tisOK, Bool.and_eq_true] at hl
    simp only [looks] at h
    cases hb : Nat.beq t' t with
    | true =>
      rw [hb] at h
      have := Nat.eq_of_beq_eq_true hb
      subst this
      cases h
      exact tiOK_ok hl.1
    | false => rw [hb] at h; exact looks_ti hl.2 h

theorem looks_mem {α : Type} : ∀ {l : List (Nat × α)} {t : Nat} {x : α}, looks l t = some x → (t, x) ∈ l
  | [], t, x, h => by cases h
  | (t', x') :: l, t, x, h => by
    simp only [looks] at h
    cases hb : Nat.beq t' t with
    | true =>
      rw [hb] at h
      have := Nat.eq_of_beq_eq_true hb
      subst this
      cases h
      simp
    | false => rw [hb] at h; exact List.mem_cons_of_mem _ (looks_mem h)

/-! ## functions -/

/-- What is proved of each function: what its shallow function says, its call does. -/
def FnS (σ : Seat) (W0 : World) (g : Nat) (C : List V → (V → Heap → Prop) → Heap → Prop) : Prop :=
  ∀ vs κ h, (∀ v ∈ vs, v.wf) → C vs κ h → ∀ w, Sim σ W0 h w → CallsVal σ.P (.func (.func (σ.fn g)) #[] #[]) (V.vals σ vs).toArray w (Post σ W0 κ)

def pairsOK (g : Nat → Nat) : List (Nat × Nat) → Bool
  | [] => true
  | (a, b) :: l => Nat.beq (g b) a && pairsOK g l

/-- The same, where the numbers are a block's. -/
def pairsOK2 (g : Nat → Nat) : List (Nat × Nat) → Bool
  | [] => true
  | (a, b) :: l => Nat.beq (g b) (2 * a) && pairsOK2 g l

theorem looks_pair2 {g : Nat → Nat} : ∀ {l : List (Nat × Nat)}, pairsOK2 g l = true → ∀ {a b : Nat}, looks l a = some b → g b = 2 * a
  | [], _, a, b, h => by cases h
  | (a', b') :: l, hl, a, b, h => by
    simp only [pairsOK2, Bool.and_eq_true] at hl
    simp only [looks] at h
    cases hb : Nat.beq a' a with
    | true =>
      rw [hb] at h
      have := Nat.eq_of_beq_eq_true hb
      subst this
      cases h
      exact Nat.eq_of_beq_eq_true hl.1
    | false => rw [hb] at h; exact looks_pair2 hl.2 h

theorem looks_pair {g : Nat → Nat} : ∀ {l : List (Nat × Nat)}, pairsOK g l = true → ∀ {a b : Nat}, looks l a = some b → g b = a
  | [], _, a, b, h => by cases h
  | (a', b') :: l, hl, a, b, h => by
    simp only [pairsOK, Bool.and_eq_true] at hl
    simp only [looks] at h
    cases hb : Nat.beq a' a with
    | true =>
      rw [hb] at h
      have := Nat.eq_of_beq_eq_true hb
      subst this
      cases h
      exact Nat.eq_of_beq_eq_true hl.1
    | false => rw [hb] at h; exact looks_pair hl.2 h

structure IfcOK (σ : Seat) (W0 : World) (gls : List (Nat × Nat)) (I : Ifc) : Prop where
  gl : pairsOK2 I.glob gls = true
  callV : ∀ v vs κ h, v.wf → (∀ v ∈ vs, v.wf) → I.callV v vs κ h → ∀ w, Sim σ W0 h w → CallsVal σ.P (V.val σ v) (V.vals σ vs).toArray w (Post σ W0 κ)
  ahead : ∀ v m, I.ahead v m = true → ∃ t u, v = .iface t u ∧ ∀ w, (nilAhead (σ.P.types.size + Made.depth) (σ.ty t) (V.val σ u) m).run σ.P w = .ok (some false) w
  inv : ∀ v m vs κ h, v.wf → (∀ v ∈ vs, v.wf) → I.inv v m vs κ h → ∀ w, Sim σ W0 h w → CallsInv σ.P (V.val σ v) m (V.vals σ vs).toArray w (Post σ W0 κ)
  tabs : ∀ c l, (c, l) ∈ I.tabs → ∃ el fz, W0.heap[I.glob c / 2]? = some (.cells (V.vals σ l).toArray el fz)

theorem noIfc_ok {σ : Seat} {W0 : World} : IfcOK σ W0 [] noIfc := ⟨rfl, fun _ _ _ _ _ _ h => h.elim, fun _ _ h => absurd h Bool.false_ne_true, fun _ _ _ _ _ _ _ h => h.elim, fun _ _ h => (by cases h)⟩

/-- The seat's tables. -/
structure SeatOK (σ : Seat) (tis : List (Nat × TI)) (fns tys : List (Nat × Nat)) : Prop where
  mixed : σ.P.follows .mixedOrders = true
  tis : tisOK σ.P tis = true
  fns : pairsOK σ.fn fns = true
  tys : pairsOK σ.ty tys = true

def CallsOK (σ : Seat) (W0 : World) : List (Nat × (List V → (V → Heap → Prop) → Heap → Prop)) → Prop
  | [] => True
  | (g, C) :: l => FnS σ W0 g C ∧ CallsOK σ W0 l

theorem callsOK_looks {σ : Seat} {W0 : World} : ∀ {l : List (Nat × (List V → (V → Heap → Prop) → Heap → Prop))}, CallsOK σ W0 l → ∀ {g C}, looks l g = some C → FnS σ W0 g C
  | [], _, g, C, h => by cases h
  | (g', C') :: l, hl, g, C, h => by
    simp only [looks] at h
    cases hb : Nat.beq g' g with
    | true =>
      rw [hb] at h
      have := Nat.eq_of_beq_eq_true hb
      subst this
      cases h
      exact hl.1
    | false => rw [hb] at h; exact callsOK_looks hl.2 h

section
variable {σ : Seat} {W0 : World} {E : Env}

theorem envOK (so : SeatOK σ E.tis E.fns E.tys) (hc : CallsOK σ W0 E.calls) (hi : IfcOK σ W0 E.gls E.ifc) : EnvOK σ W0 E := by
  refine ⟨fun t i h => looks_ti so.tis h, fun f g h => looks_pair so.fns h, fun t u h => looks_pair so.tys h, fun g c h => looks_pair2 hi.gl h, ?_, hi.callV, hi.ahead, hi.inv⟩
  intro g vs κ h wv hx w s
  unfold Env.call at hx
  split at hx
  · rename_i C hC
    exact callsOK_looks hc hC vs κ h wv hx w s
  · exact hx.elim

/-- One cut is as it should be. -/
def CutOK (σ : Seat) (W0 : World) (n : Nat) (b : Frame) (R : Ending → World → Prop) (pos : List (Nat × List Item)) (J : Nat) (L : List Nat) (κ : List V → Heap → Prop) : Prop :=
  ∀ todo, (J, todo) ∈ pos → ∀ ρ h a w, Sim σ W0 h w → SimF σ n ρ a → picks ρ L (fun vs => κ vs h) → GoR σ.P b todo a w R

def CutL (σ : Seat) (W0 : World) (n : Nat) (b : Frame) (R : Ending → World → Prop) (pos : List (Nat × List Item)) : List (Nat × (List Nat × (List V → Heap → Prop))) → Prop
  | [] => True
  | (J, L, κ) :: l => CutOK σ W0 n b R pos J L κ ∧ CutL σ W0 n b R pos l

theorem cutL_ok {b : Frame} {R : Ending → World → Prop} {pos : List (Nat × List Item)} (h : CutL σ W0 E.n b R pos E.cuts) : CutsOK σ W0 E b R pos := by
  intro id L κ hcut
  unfold Env.cut at hcut
  generalize E.cuts = l at h hcut
  induction l with
  | nil => cases hcut
  | cons c l ih =>
    obtain ⟨J, L', κ'⟩ := c
    simp only [looks] at hcut
    cases hb : Nat.beq J id with
    | true =>
      rw [hb] at hcut
      have := Nat.eq_of_beq_eq_true hb
      subst this
      cases hcut
      exact h.1
    | false => rw [hb] at hcut; exact ih h.2 hcut

theorem inPos_of {pos : List (Nat × List Item)} : ∀ (c : Code) (k : List Item), (∀ p ∈ posC c k, p ∈ pos) → InPos pos k → ∀ p ∈ posC c k, InPos pos p.2 := by
  intro c
  induction c with
  | region id ops d =>
    intro k h hk p hp
    simp only [posC, List.mem_singleton] at hp
    subst hp
    exact ⟨h, hk⟩
  | seq a b iha ihb =>
    intro k h hk p hp
    simp only [posC, List.mem_append] at h hp
    rcases hp with hp | hp
    · exact iha _ (fun q hq => h q (.inl hq)) ⟨fun q hq => h q (.inr hq), hk⟩ p hp
    · exact ihb _ (fun q hq => h q (.inr hq)) hk p hp
  | cond c t e iht ihe =>
    intro k h hk p hp
    simp only [posC, List.mem_append] at h hp
    rcases hp with hp | hp
    · exact iht _ (fun q hq => h q (.inl hq)) hk p hp
    · exact ihe _ (fun q hq => h q (.inr hq)) hk p hp
  | block id c ih => intro k h hk p hp; exact ih _ h hk p hp
  | loop c ih => intro k h hk p hp; exact ih _ h ⟨h, hk⟩ p hp
  | scope c ih => intro k h hk p hp; exact ih _ h hk p hp
  | _ => intro k h hk p hp; cases hp

theorem inPos_at {code : Code} {J : Nat} {todo : List Item} (h : (J, todo) ∈ posC code []) : InPos (posC code []) todo :=
  inPos_of code [] (fun _ h => h) trivial _ h

theorem filter_one {pos : List (Nat × List Item)} {J : Nat} {T : List Item} (h : pos.filter (fun p => Nat.beq p.1 J) = [(J, T)]) {todo : List Item} (hm : (J, todo) ∈ pos) : todo = T := by
  have : (J, todo) ∈ pos.filter (fun p => Nat.beq p.1 J) := by simp [hm]
  rw [h] at this
  simpa using this

/-- A piece of a function, from a cut on. -/
theorem piece {b : Frame} {R : Ending → World → Prop} (ok : EnvOK σ W0 E) (fk : FnOK σ W0 E b R) {code : Code} (hc : CutL σ W0 E.n b R (posC code []) E.cuts) {J : Nat} {T : List Item} (h1 : (posC code []).filter (fun p => Nat.beq p.1 J) = [(J, T)])
    {L : List Nat} {vs : List V} {fuel : Nat} {h : Heap} (hx : pts E fuel true T (frAt L vs) h) {todo : List Item} (hm : (J, todo) ∈ posC code []) {ρ : Fr} {a : Act} {w : World} (s : Sim σ W0 h w) (f : SimF σ E.n ρ a)
    (hp : ∀ (j t : Nat), L[j]? = some t → ∃ v, look ρ t = some v ∧ vs[j]? = some v) : GoR σ.P b todo a w R := by
  have := filter_one h1 hm
  subst this
  exact pts_sound ok fk (cutL_ok hc) fuel true todo (inPos_at hm) s (f.picks hp) hx

/-- What a loop's head stands for, said of values. -/
def Head (σ : Seat) (W0 : World) (n : Nat) (b : Frame) (R : Ending → World → Prop) (pos : List (Nat × List Item)) (J : Nat) (L : List Nat) (vs : List V) (h : Heap) : Prop :=
  ∀ todo, (J, todo) ∈ pos → ∀ ρ a w, Sim σ W0 h w → SimF σ n ρ a → (∀ (j t : Nat), L[j]? = some t → ∃ v, look ρ t = some v ∧ vs[j]? = some v) → GoR σ.P b todo a w R

theorem cutOK_head {n : Nat} {b : Frame} {R : Ending → World → Prop} {pos : List (Nat × List Item)} {J : Nat} {L : List Nat} {κ : List V → Heap → Prop} (h : ∀ vs h, κ vs h → Head σ W0 n b R pos J L vs h) : CutOK σ W0 n b R pos J L κ := by
  intro todo hm ρ hp a w s f hx
  obtain ⟨vs, hvs, _, hk⟩ := picks_sound hx
  exact h vs hp hk todo hm ρ a w s f hvs

theorem postImp {ret : V → Heap → Prop} {κ : V → Heap → Prop} (hi : ∀ v h, ret v h → κ v h) {v : Value} {args : Array Value} {w : World} (h : CallsVal σ.P v args w (Post σ W0 ret)) : CallsVal σ.P v args w (Post σ W0 κ) :=
  callsVal_mono h fun _ _ ⟨r, h', he, hw, hs, hk⟩ => ⟨r, h', he, hw, hs, hi r h' hk⟩

theorem mkFun {P : Program} {f : FuncId} {fn : Func} {n : Nat} {rets : List ResultVar} (h1 : P.funcs[f]? = some fn) (h2 : fn.body.isSome = true) (h3 : fn.ntmps = n) (h4 : fn.results.toList = rets) (h5 : (fn.name == "runtime.NumGoroutine") = false) : Fun P f n rets (fn.body.getD .skip) := by
  refine ⟨fn, h1, ?_, h3, h4, h5⟩
  cases hb : fn.body with
  | none => rw [hb] at h2; cases h2
  | some c => rfl

theorem fnOK (so : SeatOK σ E.tis E.fns E.tys) {f : FuncId} {code : Code} (hf : Fun σ.P f E.n E.rets code) : FnOK σ W0 E (entered f) (Post σ W0 E.ret) := by
  obtain ⟨fn, hfn, hb, hnt, hres, hname⟩ := hf.ex
  exact ⟨so.mixed, rfl, ⟨fn, hfn, hres⟩, fun v h w wv s hk => ⟨v, h, rfl, wv, s, hk⟩⟩

end
end Go.Lift
