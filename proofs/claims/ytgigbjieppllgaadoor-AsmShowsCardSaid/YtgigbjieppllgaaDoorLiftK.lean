/- Regions, and the code as a whole. -/
import Derived.Test.YtgigbjieppllgaaDoorLiftM
import Derived.Conc.LoneSelect
namespace Go.Lift
open Go.RowKit

/-- From this point on the frame comes to its end, with R. -/
def GoR (P : Program) (b : Frame) (todo : List Item) (a : Act) (w : World) (R : Ending → World → Prop) : Prop :=
  ∀ cs, ∃ e w' fr, R e w' ∧ Comes P (lone (b.at a todo) cs w) (lone fr cs w') e ∧ fr.fn = b.fn ∧ fr.leaving P w' e

section
variable {σ : Seat} {W0 : World} {E : Env} {R : Ending → World → Prop} {b : Frame}

theorem GoR.step {P : Program} {todo todo' : List Item} {a a' : Act} {w w' : World} (hs : ∀ cs, step P (lone (b.at a todo) cs w) = .next (lone (b.at a' todo') cs w')) (h : GoR P b todo' a' w' R) : GoR P b todo a w R := by
  intro cs
  obtain ⟨e, w1, fr, hr, hc, hf, hl⟩ := h cs
  exact ⟨e, w1, fr, hr, .of_steps (.one (hs cs)) hc, hf, hl⟩

theorem GoR.steps {P : Program} {todo todo' : List Item} {a a' : Act} {w w' : World} (hs : ∀ cs, Steps P (lone (b.at a todo) cs w) (lone (b.at a' todo') cs w')) (h : GoR P b todo' a' w' R) : GoR P b todo a w R := by
  intro cs
  obtain ⟨e, w1, fr, hr, hc, hf, hl⟩ := h cs
  exact ⟨e, w1, fr, hr, .of_steps (hs cs) hc, hf, hl⟩

theorem region_sound (ok : EnvOK σ W0 E) {id : Nat} {ops : Array Oper} {k : List Item} {κ : Fr → Heap → Prop} {ρ : Fr} {a : Act} {h : Heap} {w : World} (s : Sim σ W0 h w) (f : SimF σ E.n ρ a)
    (hK : KOK σ W0 E κ (fun a w => GoR σ.P b k a w R)) (hx : ptOps E ops.toList ops.toList κ ρ h) : GoR σ.P b (.code (.region id ops false) :: k) a w R := by
  refine GoR.step (fun cs => step_region) ?_
  have := ptOps_sound ok hK ops.toList 0 (by intro j; simp) s f hx
  rw [Array.length_toList] at this
  have hr : List.range ops.size = List.range' 0 ops.size := List.range_eq_range'
  rw [hr]
  intro cs
  obtain ⟨e, a', w', ⟨rfl, hg⟩, harr⟩ := wp_ops _ _ _ this b k cs
  obtain ⟨e, w1, fr, hR, hc, hf, hl⟩ := hg cs
  exact ⟨e, w1, fr, hR, .of_steps harr hc, hf, hl⟩

theorem selPT_sound (ok : EnvOK σ W0 E) (hb : b.kind ≠ .early) {ops : Array Oper} {o : Oper} {is : List Nat} (h0 : ops[0]? = some o) {sc : Array SelectCase} {bl : Bool} (ho : o.op = .select sc bl) (hg : o.guard = none) {k : List Item} {ρ : Fr} {a : Act} {h : Heap} {w : World} (s : Sim σ W0 h w) (f : SimF σ E.n ρ a)
    {κ : V → Heap → Prop} (hx : selPT E sc.toList bl ρ κ h) :
    ∃ v h' w', v.wf ∧ Sim σ W0 h' w' ∧ κ v h' ∧ ∀ cs, step σ.P (lone (b.at a (.inRegion ops (0 :: is) :: k)) cs w) = .next (lone (b.at (a.put o.dst (V.val σ v)) (.inRegion ops is :: k)) cs w') := by
  have hw : Region.wanted o (yielded ops a.tmps) = true := by simp [Region.wanted, hg]
  have hfin : ∀ v, (b.at a (.inRegion ops (0 :: is) :: k)).finish v = b.at (a.put o.dst v) (.inRegion ops is :: k) := by
    intro v; rw [Frame.finish_at, h0]; rfl
  unfold selPT at hx
  split at hx
  · rename_i c hsc
    have hsc : sc = #[c] := by apply Array.ext'; simpa using hsc
    subst hsc
    split at hx
    · rename_i x hs
      replace hx := ev1_val ok f hx; obtain ⟨v, hv, wv, hx⟩ := hx
      replace hx := ev1_val ok f hx; obtain ⟨u, hu, wu, hx⟩ := hx
      replace hx := withTI_ok ok hx; obtain ⟨ie, ke, hx⟩ := hx
      obtain ⟨hz, _⟩ := run_zv (σ := σ) ke
      split at hx
      · rename_i r
        obtain ⟨hn, hx⟩ := chk_true hx
        cases r with
        | none => exact hx.elim
        | some r =>
          obtain ⟨cap, q, hr, hx⟩ := hx
          obtain ⟨kb, n, m, rfl, hc, hq⟩ := s.chan hr
          have hv' : a.eval c.chan = .chan (some kb) := by rw [hv]; simp [V.val, mref_vb]
          have hcm : ∀ cs, stepG σ.P true (Conc.G (b.at a (.inRegion ops (0 :: is) :: k)) cs) w = .comm (Conc.G (b.at a (.inRegion ops (0 :: is) :: k)) cs) #[Conc.scase kb (V.val σ u) (V.val σ ie.zv)] false .select w (Conc.listed σ.P b.fn a o w) := by
            intro cs
            refine Conc.stepG_comm h0 hw hb ?_
            simp [execOp, ho, hs, hv', hu, hz, Conc.scase]
          split at hx
          · rename_i hlt
            have hs' := s.setO rfl (y := .chan cap (q ++ [u])) (o := .chan cap ((V.vals σ q).toArray.push (V.val σ u)) false (n + 1) m false) hr rfl ⟨rfl, by simp [vals_map], fun v hv => by
              rcases List.mem_append.1 hv with hv | hv
              · exact hq v hv
              · obtain rfl := List.mem_singleton.1 hv; exact V.wf_nt hn wu, rfl, rfl⟩
            refine ⟨_, _, _, ?_, hs', hx, fun cs => ?_⟩
            · intro z hz'
              simp only [List.mem_cons, List.not_mem_nil, or_false] at hz'
              rcases hz' with rfl | rfl
              · exact V.wf_one (v := .int .i64 0) rfl
              · exact V.wf_one (v := .bool false) rfl
            · have h1 := Conc.step_lone_select_send_room (hcm cs) hc (by simpa [vals_map] using hlt)
              rw [hfin] at h1
              exact h1
          · rename_i hlt
            refine ⟨_, _, _, ?_, s, hx, fun cs => ?_⟩
            · intro z hz'
              simp only [List.mem_cons, List.not_mem_nil, or_false] at hz'
              rcases hz' with rfl | rfl
              · exact V.wf_one (v := .int .i64 (-1)) rfl
              · exact V.wf_one (v := .bool false) rfl
            · have h1 := Conc.step_lone_select_send_full (hcm cs) hc (by simp [vals_map]; omega)
              rw [hfin] at h1
              exact h1
      · exact hx.elim
    · rename_i hs
      replace hx := ev1_val ok f hx; obtain ⟨v, hv, wv, hx⟩ := hx
      replace hx := withTI_ok ok hx; obtain ⟨ie, ke, hx⟩ := hx
      obtain ⟨hz, hzw⟩ := run_zv (σ := σ) ke
      split at hx
      · rename_i r
        cases r with
        | none => exact hx.elim
        | some r =>
          obtain ⟨cap, q, hr, hx⟩ := hx
          obtain ⟨kb, n, m, rfl, hc, hq⟩ := s.chan hr
          have hv' : a.eval c.chan = .chan (some kb) := by rw [hv]; simp [V.val, mref_vb]
          have hcm : ∀ cs, stepG σ.P true (Conc.G (b.at a (.inRegion ops (0 :: is) :: k)) cs) w = .comm (Conc.G (b.at a (.inRegion ops (0 :: is) :: k)) cs) #[Conc.rcase kb (V.val σ ie.zv)] false .select w (Conc.listed σ.P b.fn a o w) := by
            intro cs
            refine Conc.stepG_comm h0 hw hb ?_
            simp [execOp, ho, hs, hv', hz, Conc.rcase]
          have wtup : ∀ (i : Int) (t : Bool) (x : V), x.wf1 → V.wf (.tup [.int .i64 i, .bool t, x]) := by
            intro i t x hw z hz'
            simp only [List.mem_cons, List.not_mem_nil, or_false] at hz'
            rcases hz' with rfl | rfl | rfl
            · exact V.wf_one (v := .int .i64 i) rfl
            · exact V.wf_one (v := .bool t) rfl
            · exact hw
          split at hx
          · replace hx := asR_sound hx
            refine ⟨_, _, _, wtup _ _ _ hzw, s, hx, fun cs => ?_⟩
            have h1 := Conc.step_lone_select_default (hcm cs) hc
            rw [hfin] at h1
            exact h1
          · rename_i x q
            replace hx := asR_sound hx
            have hs' := s.setO rfl (y := .chan cap q) (o := .chan cap ((V.vals σ (x :: q)).toArray.extract 1 (V.vals σ (x :: q)).toArray.size) false n (m + 1) false) hr rfl ⟨rfl, by simp [V.vals], fun v hv => hq v (List.mem_cons_of_mem _ hv), rfl, rfl⟩
            refine ⟨_, _, _, wtup _ _ _ (hq x (List.mem_cons_self)), hs', hx, fun cs => ?_⟩
            have h1 := Conc.step_lone_select_recv_buf (hcm cs) hc (by simp [V.vals])
            rw [hfin] at h1
            exact h1
      · exact hx.elim
  · exact hx.elim

theorem regionR_sound (ok : EnvOK σ W0 E) (hb : b.kind ≠ .early) {id : Nat} {ops : Array Oper} {k : List Item} {κ : Fr → Heap → Prop} {ρ : Fr} {a : Act} {h : Heap} {w : World} (s : Sim σ W0 h w) (f : SimF σ E.n ρ a)
    (hK : KOK σ W0 E κ (fun a w => GoR σ.P b k a w R)) (hx : ptR E ops.toList κ ρ h) : GoR σ.P b (.code (.region id ops false) :: k) a w R := by
  unfold ptR at hx
  split at hx
  · rename_i o os hl
    split at hx
    · rename_i sc bl ho hg
      have h0 : ops[0]? = some o := by
        have : ops.toList[0]? = some o := by rw [hl]; rfl
        simpa using this
      have hsz : ops.size = os.length + 1 := by rw [← Array.length_toList, hl]; rfl
      refine GoR.step (fun cs => step_region) ?_
      have hr : List.range ops.size = 0 :: List.range' 1 os.length := by rw [List.range_eq_range', hsz, List.range'_succ]
      rw [hr]
      obtain ⟨v, h', w', wv, s', hk, hst⟩ := selPT_sound (b := b) (is := List.range' 1 os.length) (k := k) ok hb h0 ho hg s f hx
      refine GoR.step hst ?_
      obtain ⟨ρ', f', hk⟩ := putF_sound f wv hk
      have := ptOps_sound (ops := ops) ok hK os 1 (by
        intro j
        have : ops.toList[1 + j]? = os[j]? := by rw [hl, Nat.add_comm]; rfl
        rw [← this]; simp) s' f' hk
      intro cs
      obtain ⟨e, a', w', ⟨rfl, hg⟩, harr⟩ := wp_ops _ _ _ this b k cs
      obtain ⟨e, w1, fr, hR, hc, hf, hl⟩ := hg cs
      exact ⟨e, w1, fr, hR, .of_steps harr hc, hf, hl⟩
    · exact region_sound ok s f hK hx
  · exact region_sound ok s f hK hx

theorem regionD_sound (ok : EnvOK σ W0 E) (hm : σ.P.follows .mixedOrders = true) {id : Nat} {ops : Array Oper} {k : List Item} {κ : Fr → Heap → Prop} {ρ : Fr} {a : Act} {h : Heap} {w : World} (s : Sim σ W0 h w) (f : SimF σ E.n ρ a)
    (hK : KOK σ W0 E κ (fun a w => GoR σ.P b k a w R)) (hx : chk (Region.noSelect ops) (ptD E ops (ops.size + 1) (Array.replicate ops.size false) [] κ ρ h)) : GoR σ.P b (.code (.region id ops true) :: k) a w R := by
  obtain ⟨hns, hx⟩ := chk_true hx
  have hun : un ops (Array.replicate ops.size false) ≤ ops.size := by
    unfold un
    exact Nat.le_trans (List.length_filter_le _ _) (by simp)
  have hc : Closed ops (Array.replicate ops.size false) := by
    intro i o _ hl
    exfalso
    rw [Array.getD_eq_getD_getElem?, Array.getElem?_replicate] at hl
    split at hl <;> cases hl
  have h1 := ptD_sound ok hns hK ops.size (Fw := []) hun s.drew f hc (by simp) (by intro q hq; cases hq) hx
  have h2 := wp_region_any (id := id) hm (wpAnyF_any _ h1)
  intro cs
  obtain ⟨e, a', w', ⟨rfl, hg⟩, harr⟩ := h2 b k cs
  obtain ⟨e, w1, fr, hR, hc, hf, hl⟩ := hg cs
  exact ⟨e, w1, fr, hR, .of_steps harr hc, hf, hl⟩

/-- The function's end. -/
structure FnOK (σ : Seat) (W0 : World) (E : Env) (b : Frame) (R : Ending → World → Prop) : Prop where
  mixed : σ.P.follows .mixedOrders = true
  kind : b.kind = .normal
  fn : ∃ fn, σ.P.funcs[b.fn]? = some fn ∧ fn.results.toList = E.rets
  ret : ∀ v h w, v.wf → Sim σ W0 h w → E.ret v h → R (.returned (V.val σ v)) w

theorem retL_sound (ok : EnvOK σ W0 E) {ρ : Fr} {a : Act} {h : Heap} {w : World} (s : Sim σ W0 h w) (f : SimF σ E.n ρ a) : ∀ {rs : List ResultVar} {κ : List V → Prop}, retL E ρ h rs κ → ∃ vs : List V, (rs.mapM (fun r => match r with
    | ResultVar.tmp t => pure (a.tmps.getD t Go.undef)
    | .cell ad t => do loadVar t (← asAddr (a.tmps.getD ad Go.undef)) : ResultVar → Sem Value)).run σ.P w = .ok (V.vals σ vs) w ∧ (∀ v ∈ vs, v.wf1) ∧ κ vs := by
  intro rs
  induction rs with
  | nil => intro κ hx; exact ⟨[], rfl, by simp, hx⟩
  | cons r rs ih =>
    intro κ hx
    cases r with
    | cell ad t =>
      simp only [retL] at hx
      split at hx
      · rename_i p hp
        obtain ⟨i, k, hx⟩ := withTI_ok ok hx
        obtain ⟨v, hr, wv, hx⟩ := rdT_sound s k hx
        replace hx := chk_true hx; obtain ⟨hn, hx⟩ := hx
        obtain ⟨vs, hrs, wvs, hk⟩ := ih hx
        refine ⟨v :: vs, ?_, by simp; exact ⟨V.wf_nt hn wv, wvs⟩, hk⟩
        have h1 := (f.vals ad _ hp).1
        have h2 : a.tmps.getD ad Go.undef = .pointer (some p.addr) := by rw [h1]; rfl
        have h3 : (do loadVar t (← asAddr (a.tmps.getD ad Go.undef)) : Sem Value).run σ.P w = .ok (v.val σ) w := by
          rw [h2]
          show (loadVar t p.addr).run σ.P w = _
          exact hr
        simp only [List.mapM_cons, Sem.run_bind, Sem.run_pure]
        rw [Sem.run_bind] at h3
        rw [h3]
        simp only [Result.andThen_ok, hrs, V.vals]
      · exact hx.elim
    | tmp t =>
      simp only [retL] at hx
      split at hx
      · rename_i v hv
        replace hx := chk_true hx; obtain ⟨hn, hx⟩ := hx
        obtain ⟨vs, hr, wvs, hk⟩ := ih hx
        refine ⟨v :: vs, ?_, by simp; exact ⟨V.wf_nt hn (f.vals t v hv).2, wvs⟩, hk⟩
        have h1 := (f.vals t v hv).1
        simp only [List.mapM_cons, Sem.run_bind, Sem.run_pure, Result.andThen_ok, h1, hr, V.vals]
      · exact hx.elim

theorem atRet_sound (ok : EnvOK σ W0 E) (fk : FnOK σ W0 E b R) {ρ : Fr} {a : Act} {h : Heap} {w : World} (s : Sim σ W0 h w) (f : SimF σ E.n ρ a) {todo : List Item} (hs : ∀ cs, step σ.P (lone (b.at a todo) cs w) = .next (lone { b.at a todo with mode := .returning } cs w)) (hx : atRet E ρ h) :
    GoR σ.P b todo a w R := by
  obtain ⟨fn, hfn, hres⟩ := fk.fn
  unfold atRet at hx
  replace hx := retL_sound ok s f hx; obtain ⟨vs, hr, wvs, hk⟩ := hx
  have key : ∃ v : V, v.wf ∧ E.ret v h ∧ (results fn a.tmps).run σ.P w = .ok (V.val σ v) w := by
    have hm : (fn.results.mapM (fun r => match r with
      | ResultVar.tmp t => pure (a.tmps.getD t Go.undef)
      | .cell ad t => do loadVar t (← asAddr (a.tmps.getD ad Go.undef)) : ResultVar → Sem Value)).run σ.P w = .ok (V.vals σ vs).toArray w := by
      rw [← Array.toArray_toList (xs := fn.results), hres, List.mapM_toArray, Sem.run_map, hr]
      rfl
    have hrun : (results fn a.tmps).run σ.P w = .ok (if h : (V.vals σ vs).toArray.size = 1 then (V.vals σ vs).toArray[0] else .tuple (V.vals σ vs).toArray) w := by
      unfold results
      rw [Sem.run_bind]
      exact congrArg (fun (r : Result (Array Value)) => r.andThen fun a w' => (pure (if h : a.size = 1 then a[0] else Value.tuple a) : Sem Value).run σ.P w') hm
    rw [hrun]
    split at hk
    · rename_i v
      refine ⟨v, V.wf1_wf (wvs v (by simp)), hk, ?_⟩
      simp [V.vals]
    · rename_i hne
      refine ⟨.tup vs, wvs, hk, ?_⟩
      have : ¬ (V.vals σ vs).toArray.size = 1 := by
        intro h1
        simp only [vals_map, List.size_toArray, List.length_map] at h1
        obtain ⟨v, rfl⟩ := List.length_eq_one_iff.1 h1
        exact hne v rfl
      simp only [dif_neg this, V.val]
  obtain ⟨v, wv, hret, hrun⟩ := key
  intro cs
  refine ⟨.returned (V.val σ v), w, { b.at a todo with mode := .returning }, fk.ret v h w wv s hret, .one (hs cs), rfl, ?_⟩
  exact ⟨rfl, f.defers, fk.kind, fn, hfn, hrun⟩

/-- All regions that may come up are among 'pos'. -/
def InPos (pos : List (Nat × List Item)) : List Item → Prop
  | [] => True
  | .code c :: k => (∀ p ∈ posC c k, p ∈ pos) ∧ InPos pos k
  | .inLoop c :: k => (∀ p ∈ posC c (.inLoop c :: k), p ∈ pos) ∧ InPos pos k
  | _ :: k => InPos pos k

theorem inPos_tail {pos : List (Nat × List Item)} {it : Item} {k : List Item} (h : InPos pos (it :: k)) : InPos pos k := by
  cases it <;> first | exact h.2 | exact h

theorem inPos_exit {pos : List (Nat × List Item)} {id : Nat} : ∀ {k k' : List Item}, exitTo id k = some k' → InPos pos k → InPos pos k'
  | [], k', he, _ => by simp [exitTo] at he
  | it :: k, k', he, h => by
    cases it with
    | inBlock id' =>
      simp only [exitTo] at he
      split at he
      · cases he; exact inPos_tail h
      · exact inPos_exit he (inPos_tail h)
    | _ => exact inPos_exit (by simpa [exitTo] using he) (inPos_tail h)

/-- What a cut stands for: from the point where region 'id' begins the frame comes to its end. -/
def CutsOK (σ : Seat) (W0 : World) (E : Env) (b : Frame) (R : Ending → World → Prop) (pos : List (Nat × List Item)) : Prop :=
  ∀ id L κ, E.cut id = some (L, κ) → ∀ todo, (id, todo) ∈ pos → ∀ ρ h a w, Sim σ W0 h w → SimF σ E.n ρ a → picks ρ L (fun vs => κ vs h) → GoR σ.P b todo a w R

theorem lit_known (ok : EnvOK σ W0 E) {ρ : Fr} {a : Act} (f : SimF σ E.n ρ a) {c : Operand} {x : Bool} (hv : ev E ρ c = some (.bool x)) : SimF σ E.n (lit c x ρ) a := by
  cases c with
  | tmp d => exact f.known hv
  | _ => exact f

theorem pts_sound (ok : EnvOK σ W0 E) (fk : FnOK σ W0 E b R) {pos : List (Nat × List Item)} (ck : CutsOK σ W0 E b R pos) :
    ∀ (n : Nat) (first : Bool) (todo : List Item) {ρ : Fr} {a : Act} {h : Heap} {w : World}, InPos pos todo → Sim σ W0 h w → SimF σ E.n ρ a → pts E n first todo ρ h → GoR σ.P b todo a w R := by
  intro n
  induction n with
  | zero => intro first todo ρ a h w _ _ _ hx; exact hx.elim
  | succ n ih =>
    intro first todo ρ a h w hp s f hx
    cases todo with
    | nil => exact atRet_sound ok fk s f (fun cs => step_end) hx
    | cons it k =>
      have hk := inPos_tail hp
      cases it with
      | code c =>
        have hc := hp.1
        cases c with
        | skip => exact GoR.step (fun cs => step_skip) (ih first k hk s f hx)
        | label l => exact GoR.step (fun cs => step_label) (ih first k hk s f hx)
        | seq x y => exact GoR.step (fun cs => step_seq) (ih first _ ⟨fun p hp' => hc p (by simp [posC, hp']), fun p hp' => hc p (by simp [posC, hp']), hk⟩ s f hx)
        | cond c t e =>
          simp only [pts] at hx
          split at hx
          · rename_i x hv
            have he := (ev_val ok f hv).1
            rcases br_sound hx with ⟨rfl, hx⟩ | ⟨rfl, hx⟩
            · exact GoR.step (fun cs => step_cond he) (ih first _ ⟨fun p hp' => hc p (by simp [posC]; exact .inl hp'), hk⟩ s (lit_known ok f hv) hx)
            · exact GoR.step (fun cs => step_cond he) (ih first _ ⟨fun p hp' => hc p (by simp [posC]; exact .inr hp'), hk⟩ s (lit_known ok f hv) hx)
          · exact hx.elim
        | block id c => exact GoR.step (fun cs => step_block) (ih first _ ⟨hc, hk⟩ s f hx)
        | loop c => exact GoR.step (fun cs => step_loop) (ih first _ ⟨hc, hc, hk⟩ s f hx)
        | scope c => exact GoR.step (todo' := .code c :: .inScope c :: k) (a' := a) (w' := w) (fun cs => step_lone_go (by simp [Go.stepG, Go.stepG.exec, Frame.at])) (ih first _ ⟨hc, hk⟩ s f hx)
        | exit id =>
          simp only [pts] at hx
          split at hx
          · rename_i k' hk'
            exact GoR.step (fun cs => step_exit hk') (ih first _ (inPos_exit hk' hk) s f hx)
          · exact hx.elim
        | ret => exact atRet_sound ok fk s f (fun cs => step_ret) hx
        | region id ops draw =>
          simp only [pts] at hx
          split at hx
          · rename_i L κ hcut
            have hcut : E.cut id = some (L, κ) := by
              cases first
              · exact hcut
              · cases hcut
            exact ck id L κ hcut _ (hc _ (by simp [posC])) ρ h a w s f hx
          · cases draw with
            | true => exact regionD_sound ok fk.mixed s f (fun ρ' h' a' w' f' s' hx => ih false k hk s' f' hx) hx
            | false => exact regionR_sound ok (by rw [fk.kind]; decide) s f (fun ρ' h' a' w' f' s' hx => ih false k hk s' f' hx) hx
        | _ => exact hx.elim
      | inBlock id => exact GoR.step (fun cs => step_inBlock) (ih first k hk s f hx)
      | inScope c => exact GoR.step (fun cs => step_lone_go (by simp [Go.stepG, Go.stepG.exec, Frame.at])) (ih first k hk s f hx)
      | inLoop c => exact GoR.step (fun cs => step_inLoop) (ih first _ ⟨hp.1, hp⟩ s f hx)
      | _ => exact hx.elim

/-! ## functions -/

theorem look_frOf : ∀ {vs : List V} {i t : Nat} {v : V}, look (frOf i vs) t = some v → ∃ j : Nat, t = i + j ∧ vs[j]? = some v := by
  intro vs
  induction vs with
  | nil => intro i t v h; cases h
  | cons u vs ih =>
    intro i t v h
    simp only [frOf, look] at h
    cases hb : Nat.beq i t with
    | true =>
      rw [hb] at h
      have := Nat.eq_of_beq_eq_true hb
      exact ⟨0, by omega, by simpa using h⟩
    | false =>
      rw [hb] at h
      obtain ⟨j, hj, hv⟩ := ih h
      exact ⟨j + 1, by omega, by simpa using hv⟩

theorem look_frAt : ∀ {L : List Nat} {vs : List V} {t : Nat} {v : V}, look (frAt L vs) t = some v → ∃ j : Nat, L[j]? = some t ∧ vs[j]? = some v := by
  intro L
  induction L with
  | nil => intro vs t v h; cases vs <;> cases h
  | cons l L ih =>
    intro vs t v h
    cases vs with
    | nil => cases h
    | cons u vs =>
      simp only [frAt, look] at h
      cases hb : Nat.beq l t with
      | true =>
        rw [hb] at h
        exact ⟨0, by simp [Nat.eq_of_beq_eq_true hb], by simpa using h⟩
      | false =>
        rw [hb] at h
        obtain ⟨j, hj, hv⟩ := ih h
        exact ⟨j + 1, by simpa using hj, by simpa using hv⟩

theorem picks_sound {ρ : Fr} : ∀ {L : List Nat} {κ : List V → Prop}, picks ρ L κ → ∃ vs : List V, (∀ (j t : Nat), L[j]? = some t → ∃ v, look ρ t = some v ∧ vs[j]? = some v) ∧ vs.length = L.length ∧ κ vs := by
  intro L
  induction L with
  | nil => intro κ h; exact ⟨[], by simp, rfl, h⟩
  | cons t L ih =>
    intro κ h
    simp only [picks] at h
    split at h
    · rename_i v hv
      obtain ⟨vs, hvs, hl, hk⟩ := ih h
      refine ⟨v :: vs, ?_, by simp [hl], hk⟩
      intro j t' hj
      cases j with
      | zero => simp at hj; subst hj; exact ⟨v, hv, by simp⟩
      | succ j => simpa using hvs j t' (by simpa using hj)
    · exact h.elim

/-- The small frame that a cut keeps. -/
theorem SimF.picks {n : Nat} {ρ : Fr} {a : Act} (f : SimF σ n ρ a) {L : List Nat} {vs : List V} (hvs : ∀ (j t : Nat), L[j]? = some t → ∃ v, look ρ t = some v ∧ vs[j]? = some v) : SimF σ n (frAt L vs) a := by
  refine ⟨f.size, f.defers, ?_⟩
  intro t v ht
  obtain ⟨j, hj, hv⟩ := look_frAt ht
  obtain ⟨u, hu, hju⟩ := hvs j t hj
  rw [hv] at hju
  cases hju
  exact f.vals t _ hu

/-- A function's frame, as it is entered. -/
def entered (f : FuncId) : Frame := { fn := f, tmps := #[], todo := [], defers := [], mode := .run, kind := .normal }

theorem calls_of_goR {P : Program} {f : FuncId} {fn : Func} {code : Code} {args : Array Value} {w : World} {R : Ending → World → Prop} (hf : P.funcs[f]? = some fn) (hb : fn.body = some code)
    (h : GoR P (entered f) [.code code] ⟨args ++ Array.replicate (fn.ntmps - args.size) Go.undef, []⟩ w R) : Calls P f args w R := by
  intro cs
  obtain ⟨e, w', fr, hR, hc, hfn, hl⟩ := h cs
  refine ⟨e, w', fr, hR, ?_, hfn, hl⟩
  have : Frame.enter P f args .normal = (entered f).at ⟨args ++ Array.replicate (fn.ntmps - args.size) Go.undef, []⟩ [.code code] := by
    simp [Frame.enter, Frame.at, entered, hf, hb]
  rw [this]
  exact hc

/-- A function that is entered. -/
structure Fun (P : Program) (f : FuncId) (n : Nat) (rets : List ResultVar) (code : Code) : Prop where
  ex : ∃ fn, P.funcs[f]? = some fn ∧ fn.body = some code ∧ fn.ntmps = n ∧ fn.results.toList = rets ∧ (fn.name == "runtime.NumGoroutine") = false

theorem simF_args {vs : List V} {n : Nat} (hn : vs.length ≤ n) (wvs : ∀ v ∈ vs, v.wf) : SimF σ n (frOf 0 vs) ⟨(V.vals σ vs).toArray ++ Array.replicate (n - (V.vals σ vs).toArray.size) Go.undef, []⟩ := by
  refine ⟨?_, rfl, ?_⟩
  · simp [vals_map]; omega
  · intro t v ht
    obtain ⟨j, rfl, hj⟩ := look_frOf ht
    refine ⟨?_, wvs v (List.mem_of_getElem? hj)⟩
    simp only [Nat.zero_add]
    have hlt : j < vs.length := by
      rcases Nat.lt_or_ge j vs.length with h | h
      · exact h
      · rw [List.getElem?_eq_none h] at hj; cases hj
    rw [Array.getD_eq_getD_getElem?, Array.getElem?_append_left (by simp [vals_map, hlt])]
    simp [vals_map, hj]

/-- The main step: what the interpreter says of a function's code, the machine does. -/
theorem calls_of_pts (ok : EnvOK σ W0 E) (hm : σ.P.follows .mixedOrders = true) {f : FuncId} {code : Code} (hf : Fun σ.P f E.n E.rets code) {vs : List V} (hn : vs.length ≤ E.n) (wvs : ∀ v ∈ vs, v.wf)
    (ck : CutsOK σ W0 E (entered f) (Post σ W0 E.ret) (posC code [])) {h : Heap} {w : World} (s : Sim σ W0 h w) {fuel : Nat} (hx : pts E fuel true [.code code] (frOf 0 vs) h) :
    CallsVal σ.P (.func (.func f) #[] #[]) (V.vals σ vs).toArray w (Post σ W0 E.ret) := by
  obtain ⟨fn, hfn, hb, hnt, hres, hname⟩ := hf.ex
  refine ⟨f, (V.vals σ vs).toArray, ?_, ?_⟩
  · have : (callFunc f (V.vals σ vs).toArray).run σ.P w = .ok (.enter f (V.vals σ vs).toArray) w := by
      unfold callFunc
      simp only [Sem.run_bind, run_program, Result.andThen_ok, hfn, hname, hb]
      rfl
    simpa [Deferred.ofValue, invoke] using this
  · refine calls_of_goR hfn hb ?_
    rw [hnt]
    refine pts_sound ok ⟨hm, rfl, ⟨fn, hfn, hres⟩, ?_⟩ ck fuel true _ ⟨fun p hp => hp, trivial⟩ s (simF_args hn wvs) hx
    intro v h w wv s hk
    exact ⟨v, h, rfl, wv, s, hk⟩

end
end Go.Lift
