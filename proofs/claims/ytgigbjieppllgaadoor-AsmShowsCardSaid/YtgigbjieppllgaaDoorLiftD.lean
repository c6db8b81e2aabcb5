/- The operations of the interpreter are the machine's. -/
import Derived.Test.YtgigbjieppllgaaDoorLiftC
namespace Go.Lift
open Go.RowKit

/-- A value is called. -/
def CallsVal (P : Program) (v : Value) (args : Array Value) (w : World) (R : Ending → World → Prop) : Prop :=
  ∃ f as, (do let d ← Deferred.ofValue v args; invoke d.target d.args : Sem Next).run P w = .ok (.enter f as) w ∧ Calls P f as w R

def CallsInv (P : Program) (v : Value) (m : String) (args : Array Value) (w : World) (R : Ending → World → Prop) : Prop :=
  ∃ f as, (invoke (.fn (.method m) #[]) (#[v] ++ args) : Sem Next).run P w = .ok (.enter f as) w ∧ Calls P f as w R

def Post (σ : Seat) (W0 : World) (κ : V → Heap → Prop) (e : Ending) (w' : World) : Prop :=
  ∃ r h', e = .returned (V.val σ r) ∧ r.wf ∧ Sim σ W0 h' w' ∧ κ r h'

structure EnvOK (σ : Seat) (W0 : World) (E : Env) : Prop where
  ti : ∀ t i, E.ti t = some i → TIok σ.P t i
  fnc : ∀ f g, E.fnc f = some g → σ.fn g = f
  tyc : ∀ t u, E.tyc t = some u → σ.ty u = t
  gl : ∀ g c, looks E.gls g = some c → E.ifc.glob c = 2 * g
  call : ∀ g vs κ h, (∀ v ∈ vs, v.wf) → E.call g vs κ h → ∀ w, Sim σ W0 h w → CallsVal σ.P (.func (.func (σ.fn g)) #[] #[]) (V.vals σ vs).toArray w (Post σ W0 κ)
  callV : ∀ v vs κ h, v.wf → (∀ v ∈ vs, v.wf) → E.callV v vs κ h → ∀ w, Sim σ W0 h w → CallsVal σ.P (V.val σ v) (V.vals σ vs).toArray w (Post σ W0 κ)
  ahead : ∀ v m, E.ifc.ahead v m = true → ∃ t u, v = .iface t u ∧ ∀ w, (nilAhead (σ.P.types.size + Made.depth) (σ.ty t) (V.val σ u) m).run σ.P w = .ok (some false) w
  inv : ∀ v m vs κ h, v.wf → (∀ v ∈ vs, v.wf) → E.inv v m vs κ h → ∀ w, Sim σ W0 h w → CallsInv σ.P (V.val σ v) m (V.vals σ vs).toArray w (Post σ W0 κ)

section
variable {σ : Seat} {W0 : World} {h : Heap} {w : World} {E : Env} {ρ : Fr} {a : Act}

theorem ofLeaf_val {c : Value} {v : V} (hc : ofLeaf c = some v) : v.val σ = c ∧ v.one = true := by
  unfold ofLeaf at hc
  split at hc <;> cases hc <;> simp [V.val, V.one, mref_none]

theorem ofLeaves_vals : ∀ {cs : List Value} {vs : List V}, ofLeaves cs = some vs → V.vals σ vs = cs ∧ ∀ v ∈ vs, v.one = true := by
  intro cs
  induction cs with
  | nil => intro vs hv; cases hv; exact ⟨rfl, by simp⟩
  | cons c cs ih =>
    intro vs hv
    unfold ofLeaves at hv
    split at hv
    · rename_i x hx
      split at hv
      · rename_i xs hxs
        cases hv
        have h1 := ofLeaf_val (σ := σ) hx
        have h2 := ih hxs
        exact ⟨by simp [V.vals, h1.1, h2.1], by simp [h1.2]; exact h2.2⟩
      · cases hv
    · cases hv

theorem ofConst_val {c : Value} {v : V} (hc : ofConst c = some v) : v.val σ = c ∧ v.wf := by
  unfold ofConst at hc
  split at hc
  · rename_i cs
    cases hl : ofLeaves cs.toList with
    | none => rw [hl] at hc; cases hc
    | some vs =>
      rw [hl] at hc; cases hc
      have := ofLeaves_vals (σ := σ) hl
      exact ⟨by simp [V.val, this.1], this.2⟩
  · exact ⟨(ofLeaf_val hc).1, V.wf_one (ofLeaf_val (σ := σ) hc).2⟩

theorem ev_val (ok : EnvOK σ W0 E) (f : SimF σ E.n ρ a) {x : Operand} {v : V} (hx : ev E ρ x = some v) : a.eval x = v.val σ ∧ v.wf := by
  cases x with
  | tmp t => exact f.vals t v hx
  | const c => exact ⟨(ofConst_val hx).1.symm, (ofConst_val (σ := σ) hx).2⟩
  | global g =>
    simp only [ev] at hx
    split at hx
    · rename_i c hc
      cases hx
      refine ⟨?_, V.wf_one rfl⟩
      simp only [V.val, Option.map_some, ok.gl g c hc, addr_vb]
      rfl
    · cases hx
  | func g =>
    simp only [ev] at hx
    split at hx
    · rename_i c hc
      cases hx
      refine ⟨?_, V.wf_one rfl⟩
      simp only [V.val, V.vals, ok.fnc g c hc]
      rfl
    · cases hx

theorem ev1_val (ok : EnvOK σ W0 E) (f : SimF σ E.n ρ a) {x : Operand} {κ : V → Prop} (hx : ev1 E ρ x κ) : ∃ v, a.eval x = v.val σ ∧ v.wf ∧ κ v := by
  unfold ev1 at hx
  split at hx
  · rename_i v hv; exact ⟨v, (ev_val ok f hv).1, (ev_val ok f hv).2, hx⟩
  · exact hx.elim

theorem evL_vals (ok : EnvOK σ W0 E) (f : SimF σ E.n ρ a) : ∀ {xs : List Operand} {κ : List V → Prop}, evL E ρ xs κ → ∃ vs, xs.map a.eval = V.vals σ vs ∧ (∀ v ∈ vs, v.wf) ∧ κ vs := by
  intro xs
  induction xs with
  | nil => intro κ hx; exact ⟨[], rfl, by simp, hx⟩
  | cons x xs ih =>
    intro κ hx
    obtain ⟨v, hv, wv, hx⟩ := ev1_val ok f hx
    obtain ⟨vs, hvs, wvs, hx⟩ := ih hx
    exact ⟨v :: vs, by simp [V.vals, hv, hvs], by simp; exact ⟨wv, wvs⟩, hx⟩

theorem withTI_ok (ok : EnvOK σ W0 E) {t : Nat} {κ : TI → Prop} (hx : withTI E t κ) : ∃ i, TIok σ.P t i ∧ κ i := by
  unfold withTI at hx
  split at hx
  · rename_i i hi; exact ⟨i, ok.ti t i hi, hx⟩
  · exact hx.elim

theorem TIok.size {P : Program} {t : Nat} {i : TI} (k : TIok P t i) (w : World) : (sizeOf t).run P w = .ok i.size w := by
  obtain ⟨info, hi, hs, _⟩ := k.info
  simp [sizeOf, typeInfo, hi, hs]

theorem TIok.tinfo {P : Program} {t : Nat} {i : TI} (k : TIok P t i) (w : World) : ∃ info, (typeInfo t).run P w = .ok info w ∧ info.size = i.size ∧ info.bytes = i.bytes ∧ ∃ z, info.zero = some z ∧ ∀ σ, z.cells.toList = V.vals σ i.zero := by
  obtain ⟨info, hi, hs⟩ := k.info
  exact ⟨info, by simp [typeInfo, hi], hs⟩

theorem TIok.zero {P : Program} {t : Nat} {i : TI} (k : TIok P t i) (w : World) : ∃ z, (zeroValue t).run P w = .ok z w ∧ ∀ σ, z.cells.toList = V.vals σ i.zero := by
  obtain ⟨info, hi, _, _, z, hz, hc⟩ := k.info
  exact ⟨z, by simp [zeroValue, typeInfo, hi, hz], hc⟩

theorem run_under {P : Program} {t : Nat} {d : TypeDesc} (hd : P.underlying t = some d) (w : World) : (underlying t).run P w = .ok d w := by
  simp [underlying, hd]

theorem TIok.under {P : Program} {t : Nat} {i : TI} (k : TIok P t i) : ∃ d, P.underlying t = some d ∧ (i.d.one = true → (match d with | .struct _ | .array _ _ => true | _ => false) = false) ∧ (i.d.one = false → (match d with | .struct _ | .array _ _ => true | _ => false) = true) := by
  have hd := k.d
  cases hi : i.d with
  | leaf s =>
    rw [hi] at hd
    cases s <;> simp only [TDok] at hd <;> first
      | exact hd.elim
      | exact ⟨_, hd, by simp, by simp [TD.one]⟩
      | (obtain ⟨d, e, info, hd, _⟩ := hd; exact ⟨_, hd, by simp, by simp [TD.one]⟩)
  | ptr e => rw [hi] at hd; exact ⟨_, hd, by simp, by simp [TD.one]⟩
  | iface => rw [hi] at hd; obtain ⟨ms, hd⟩ := hd; exact ⟨_, hd, by simp, by simp [TD.one]⟩
  | func => rw [hi] at hd; obtain ⟨x, y, z, hd⟩ := hd; exact ⟨_, hd, by simp, by simp [TD.one]⟩
  | slice e => rw [hi] at hd; exact ⟨_, hd, by simp, by simp [TD.one]⟩
  | array n e => rw [hi] at hd; exact ⟨_, hd, by simp [TD.one], by simp⟩
  | struct fs => rw [hi] at hd; obtain ⟨x, hd, _⟩ := hd; exact ⟨_, hd, by simp [TD.one], by simp⟩
  | map x y => rw [hi] at hd; exact ⟨_, hd, by simp, by simp [TD.one]⟩

theorem TIok.isAgg {P : Program} {t : Nat} {i : TI} (k : TIok P t i) (w : World) : (isAgg t).run P w = .ok (!i.d.one) w := by
  obtain ⟨d, hd, h1, h2⟩ := k.under
  cases ho : i.d.one with
  | true =>
    have := h1 ho
    cases d <;> simp_all [Go.isAgg, run_under hd]
  | false =>
    have := h2 ho
    cases d <;> simp_all [Go.isAgg, run_under hd]

/-! ### loads -/

theorem addr_add (p : Ptr) (n : Nat) : p.addr.add n = (p.add n).addr := by
  unfold Addr.add Ptr.add
  by_cases hn : n = 0
  · simp [hn]
  · rw [if_neg hn]
    unfold Ptr.addr
    have h1 : ¬ p.o + n = 0 := by omega
    by_cases hb : p.b % 2 = 0
    · simp only [hb, if_true]
    · by_cases ho : p.o = 0
      · simp only [hb, if_false, ho, if_true]
        simp [hn]
      · simp only [hb, if_false, ho, h1, Nat.add_assoc]

theorem run_load_cell {P : Program} {w : World} {a : Addr} {v : Value} (hc : w.cell? a = some v) : (load a).run P w = .ok v w := by
  simp [hc]

theorem rdSh_get {s : Sh} {p : Ptr} {κ : V → Prop} (hx : rdSh s p κ h) : ∃ v, h.get p.b p.o = some v ∧ κ v := by
  cases s <;> (obtain ⟨x, hx, hk⟩ := hx; exact ⟨_, hx, hk⟩)

theorem rdL_get : ∀ {ss : List Sh} {p : Ptr} {i : Nat} {κ : List V → Prop}, rdL ss p i κ h → ∃ vs : List V, vs.length = ss.length ∧ (∀ j v, vs[j]? = some v → h.get p.b (p.o + (i + j)) = some v) ∧ κ vs := by
  intro ss
  induction ss with
  | nil => intro p i κ hx; exact ⟨[], rfl, by simp, hx⟩
  | cons s ss ih =>
    intro p i κ hx
    obtain ⟨v, hv, hx⟩ := rdSh_get hx
    obtain ⟨vs, hl, hvs, hk⟩ := ih hx
    refine ⟨v :: vs, by simp [hl], ?_, hk⟩
    intro j u hj
    cases j with
    | zero => simp at hj; subst hj; simpa [Ptr.add] using hv
    | succ j =>
      have := hvs j u (by simpa using hj)
      rw [← this]; congr 1; omega

theorem run_loadCells_get (s : Sim σ W0 h w) {p : Ptr} {vs : List V} (hg : ∀ j v, vs[j]? = some v → h.get p.b (p.o + j) = some v) : (loadCells p.addr vs.length).run σ.P w = .ok (V.vals σ vs).toArray w := by
  have := run_loadCells_list (P := σ.P) (w := w) p.addr (V.vals σ vs) (by
    intro j v hj
    rw [vals_map, List.getElem?_map] at hj
    cases hv : vs[j]? with
    | none => rw [hv] at hj; cases hj
    | some u =>
      rw [hv] at hj; simp at hj; subst hj
      rw [addr_add]
      exact (s.get (p := p.add j) (hg j u hv)).1)
  simpa [vals_map] using this

theorem run_loadVar_one {P : Program} {t : Nat} {i : TI} (k : TIok P t i) (ho : i.d.one = true) {w : World} {a : Addr} {v : Value} (hc : w.cell? a = some v) : (loadVar t a).run P w = .ok v w := by
  simp [loadVar, k.isAgg, ho, hc]

theorem run_loadVar_agg (s : Sim σ W0 h w) {t : Nat} {i : TI} (k : TIok σ.P t i) (ho : i.d.one = false) {p : Ptr} {vs : List V} (hl : vs.length = i.size) (hg : ∀ j v, vs[j]? = some v → h.get p.b (p.o + j) = some v) : (loadVar t p.addr).run σ.P w = .ok (.agg (V.vals σ vs).toArray) w := by
  have := run_loadCells_get s hg
  simp [loadVar, k.isAgg, ho, k.size, ← hl, this]

theorem rdT_sound (s : Sim σ W0 h w) {t : Nat} {i : TI} (k : TIok σ.P t i) {p : Ptr} {κ : V → Prop} (hx : rdT i p κ h) : ∃ v, (loadVar t p.addr).run σ.P w = .ok (v.val σ) w ∧ v.wf ∧ κ v := by
  have one : ∀ v, i.d.one = true → h.get p.b p.o = some v → κ v → ∃ v, (loadVar t p.addr).run σ.P w = .ok (v.val σ) w ∧ v.wf ∧ κ v :=
    fun v ho hg hk => ⟨v, run_loadVar_one k ho (s.get hg).1, V.wf_one (s.get hg).2.2, hk⟩
  have agg : i.d.one = false → (match i.leaves with
    | some ls => rdL ls p 0 (fun vs => κ (.agg vs)) h
    | none => rdN i.size p (fun vs => κ (.ago vs)) h) → ∃ v, (loadVar t p.addr).run σ.P w = .ok (v.val σ) w ∧ v.wf ∧ κ v := by
    have wfl : ∀ vs : List V, (∀ j v, vs[j]? = some v → h.get p.b (p.o + j) = some v) → ∀ u ∈ vs, u.one = true := by
      intro vs hg u hu
      obtain ⟨j, hj⟩ := List.mem_iff_getElem?.1 hu
      exact (s.get (p := p.add j) (hg j u hj)).2.2
    intro ho hx
    split at hx
    · rename_i ls hls
      obtain ⟨vs, hl, hg, hk⟩ := rdL_get hx
      have hg' : ∀ j v, vs[j]? = some v → h.get p.b (p.o + j) = some v := fun j v hj => by simpa using hg j v hj
      exact ⟨.agg vs, run_loadVar_agg s k ho (by rw [hl, k.leaves ls hls]) hg', wfl vs hg', hk⟩
    · obtain ⟨cs, hl, hg, hk⟩ := hx
      have hg' : ∀ j v, cs[j]? = some v → h.get p.b (p.o + j) = some v := ?_
      · exact ⟨.ago cs, run_loadVar_agg s k ho hl hg', wfl cs hg', hk⟩
      intro j v hj
      have hlt : j < cs.length := by
        rcases Nat.lt_or_ge j cs.length with h | h
        · exact h
        · rw [List.getElem?_eq_none h] at hj; cases hj
      rw [hg j (by omega), hj]
  unfold rdT at hx
  split at hx <;> rename_i hd
  · obtain ⟨v, hv, hk⟩ := rdSh_get hx; exact one v (by rw [hd]; rfl) hv hk
  · obtain ⟨v, hv, hk⟩ := hx; exact one _ (by rw [hd]; rfl) hv hk
  · obtain ⟨v, hv, hk⟩ := hx; exact one _ (by rw [hd]; rfl) hv hk
  · obtain ⟨v, hv, hk⟩ := hx; exact one _ (by rw [hd]; rfl) hv hk
  · obtain ⟨v, hv, hk⟩ := hx; exact one _ (by rw [hd]; rfl) hv hk
  · obtain ⟨v, hv, hk⟩ := hx; exact one _ (by rw [hd]; rfl) hv hk
  · refine agg ?_ hx
    cases hi : i.d <;> simp_all [TD.one]
end
end Go.Lift
