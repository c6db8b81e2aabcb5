/- Slots; an operation with its guard; operations that only reckon, in any world; regions whose order is open. -/
import Derived.Test.YtgigbjieppllgaaDoorLiftL
namespace Go.Lift
open Go.RowKit

section
variable {σ : Seat} {W0 : World} {E : Env}

/-- Continuations that the machine's sides follow. -/
def KOK (σ : Seat) (W0 : World) (E : Env) (κ : Fr → Heap → Prop) (K : Act → World → Prop) : Prop :=
  ∀ ρ h a w, SimF σ E.n ρ a → Sim σ W0 h w → κ ρ h → K a w

theorem SimF.put {ρ : Fr} {a : Act} (f : SimF σ E.n ρ a) {d : Nat} {v : V} (wv : v.wf) (hd : d < E.n) : SimF σ E.n ((d, some v) :: ρ) (a.put (some d) (V.val σ v)) := by
  refine ⟨by simp [Act.put, f.size], f.defers, ?_⟩
  intro t u hu
  simp only [look] at hu
  simp only [Act.put]
  cases ht : Nat.beq d t with
  | true =>
    rw [ht] at hu
    have := Nat.eq_of_beq_eq_true ht
    subst this
    simp at hu
    subst hu
    exact ⟨by simp [Array.getD_eq_getD_getElem?, f.size, hd], wv⟩
  | false =>
    rw [ht] at hu
    have hne : d ≠ t := by intro h; subst h; simp at ht
    have := f.vals t u hu
    rw [← this.1]
    exact ⟨by simp [Array.getD_eq_getD_getElem?, Array.getElem?_setIfInBounds_ne hne], this.2⟩

theorem SimF.forget {ρ : Fr} {a : Act} (f : SimF σ E.n ρ a) (d : Nat) (x : Value) : SimF σ E.n ((d, none) :: ρ) (a.put (some d) x) := by
  refine ⟨by simp [Act.put, f.size], f.defers, ?_⟩
  intro t u hu
  simp only [look] at hu
  simp only [Act.put]
  cases ht : Nat.beq d t with
  | true => rw [ht] at hu; cases hu
  | false =>
    rw [ht] at hu
    have hne : d ≠ t := by intro h; subst h; simp at ht
    have := f.vals t u hu
    rw [← this.1]
    exact ⟨by simp [Array.getD_eq_getD_getElem?, Array.getElem?_setIfInBounds_ne hne], this.2⟩

/-- A slot that holds this already. -/
theorem SimF.known {ρ : Fr} {a : Act} (f : SimF σ E.n ρ a) {d : Nat} {v : V} (hv : look ρ d = some v) : SimF σ E.n ((d, some v) :: ρ) a := by
  refine ⟨f.size, f.defers, ?_⟩
  intro t u hu
  simp only [look] at hu
  cases ht : Nat.beq d t with
  | true =>
    rw [ht] at hu
    have := Nat.eq_of_beq_eq_true ht
    subst this
    simp at hu
    subst hu
    exact f.vals d _ hv
  | false => rw [ht] at hu; exact f.vals t u hu

theorem putF_sound {ρ : Fr} {a : Act} (f : SimF σ E.n ρ a) {dst : Option Tmp} {v : V} (wv : v.wf) {κ : Fr → Prop} (hx : putF E dst (some v) ρ κ) : ∃ ρ', SimF σ E.n ρ' (a.put dst (V.val σ v)) ∧ κ ρ' := by
  cases dst with
  | none => exact ⟨ρ, f, hx⟩
  | some d =>
    simp only [putF] at hx
    cases hd : Nat.blt d E.n with
    | false => rw [hd] at hx; exact hx.elim
    | true => rw [hd] at hx; exact ⟨_, f.put wv (by simpa using hd), hx⟩

theorem putF_skip {ρ : Fr} {a : Act} (f : SimF σ E.n ρ a) {dst : Option Tmp} {κ : Fr → Prop} (hx : putF E dst (some (.tup [])) ρ κ) : ∃ ρ', SimF σ E.n ρ' (a.put dst Go.undef) ∧ κ ρ' :=
  putF_sound f (v := .tup []) (by intro v hv; cases hv) hx

theorem br_sound {x : Bool} {A B : Prop} (hx : br x A B) : (x = true ∧ A) ∨ (x = false ∧ B) := by
  cases x
  · exact .inr ⟨rfl, hx⟩
  · exact .inl ⟨rfl, hx⟩

theorem asRs_sound : ∀ {rs : List RS} {vs : List V} {κ : List V → Prop}, asRs rs vs κ → κ vs
  | [], vs, κ, hx => by
    simp only [asRs, asNil] at hx
    split at hx
    · exact hx
    · exact hx.elim
  | r :: rs, vs, κ, hx => by
    simp only [asRs, asCons] at hx
    split at hx
    · have h2 := asR_sound hx; have h3 := asRs_sound h2; exact h3
    · exact hx.elim

theorem asT_sound {t : RT} {v : V} {κ : V → Prop} (hx : asT t v κ) : κ v := by
  cases t with
  | single r => exact asR_sound hx
  | multi rs =>
    simp only [asT, asTupV] at hx
    split at hx
    · exact asRs_sound hx
    · exact hx.elim

theorem asO_sound {o : Oper} {v : V} {κ : V → Prop} (hx : asO E o v κ) : κ v := by
  unfold asO at hx
  split at hx
  · split at hx
    · exact hx
    · exact hx
    · split at hx
      · exact asT_sound hx
      · exact hx
  · unfold asNext at hx
    split at hx
    · split at hx
      · have h1 := asR_sound hx
        have h2 := asR_sound h1
        exact h2
      · exact hx
    · exact hx
  · exact hx

/-- An operation that is performed, then the rest. -/
theorem opPut_sound (ok : EnvOK σ W0 E) {ρ : Fr} {a : Act} {h : Heap} {w : World} (s : Sim σ W0 h w) (f : SimF σ E.n ρ a) {o : Oper} {κ : Fr → Heap → Prop} {K : Act → World → Prop} {Q : Exit → Act → World → Prop} (hK : KOK σ W0 E κ K)
    (hx : opPT E o.op ρ (fun v h => asO E o v fun v => putF E o.dst (some v) ρ fun ρ => κ ρ h) h) : o.wp σ.P a w K Q := by
  refine Oper.wp_mono (K := Nx σ W0 (fun v h => asO E o v fun v => putF E o.dst (some v) ρ fun ρ => κ ρ h) a o.dst) ?_ (opPT_sound ok s f hx)
  rintro a' w' ⟨v, h', rfl, wv, hs, hk⟩
  replace hk := asO_sound hk
  obtain ⟨ρ', f', hk⟩ := putF_sound f wv hk
  exact hK ρ' h' _ w' f' hs hk

/-- The yielded value of a guard's slot. -/
theorem yielded_of {ρ : Fr} {a : Act} (f : SimF σ E.n ρ a) {ops : Array Oper} {j d : Nat} (hd : (ops[j]?).bind (·.dst) = some d) {x : Bool} (hv : look ρ d = some (.bool x)) (hlt : d < E.n) : yielded ops a.tmps j = some x := by
  have h1 := (f.vals d _ hv).1
  unfold yielded
  rw [hd]
  have hsz : d < a.tmps.size := by rw [f.size]; exact hlt
  have : a.tmps[d]? = some (.bool x) := by
    rw [Array.getD_eq_getD_getElem?] at h1
    rw [getElem?_pos a.tmps d hsz] at h1 ⊢
    simpa [V.val] using h1
  simp [this]

/-- A guard's slot that was passed over. -/
theorem yielded_tup {ρ : Fr} {a : Act} (f : SimF σ E.n ρ a) {ops : Array Oper} {j d : Nat} (hd : (ops[j]?).bind (·.dst) = some d) {vs : List V} (hv : look ρ d = some (.tup vs)) (hlt : d < E.n) : yielded ops a.tmps j = none := by
  have h1 := (f.vals d _ hv).1
  unfold yielded
  rw [hd]
  have hsz : d < a.tmps.size := by rw [f.size]; exact hlt
  have : a.tmps[d]? = some (V.val σ (.tup vs)) := by
    rw [Array.getD_eq_getD_getElem?] at h1
    rw [getElem?_pos a.tmps d hsz] at h1 ⊢
    simpa using h1
  simp [this, V.val]

theorem guardG_sound {ρ : Fr} {a : Act} (f : SimF σ E.n ρ a) {ops : Array Oper} {o : Oper} {run skip : Fr → Prop} (hx : guardG E ops.toList o run skip ρ) :
    (Region.wanted o (yielded ops a.tmps) = true ∧ ∃ ρ', SimF σ E.n ρ' a ∧ run ρ') ∨ (Region.wanted o (yielded ops a.tmps) = false ∧ ∃ ρ', SimF σ E.n ρ' a ∧ skip ρ') := by
  unfold guardG at hx
  split at hx
  · rename_i hg
    exact .inl ⟨by simp [Region.wanted, hg], ρ, f, hx⟩
  · rename_i j want hg
    split at hx
    · exact hx.elim
    · rename_i d hd
      cases hlt : Nat.blt d E.n with
      | false => rw [hlt] at hx; exact hx.elim
      | true =>
        rw [hlt] at hx
        have hlt : d < E.n := by simpa using hlt
        replace hx : (match look ρ d with
          | some (.bool x) => br x
              (bif want then run ((d, some (V.bool true)) :: ρ) else skip ((d, some (V.bool true)) :: ρ))
              (bif want then skip ((d, some (V.bool false)) :: ρ) else run ((d, some (V.bool false)) :: ρ))
          | some (.tup _) => skip ρ
          | _ => False) := hx
        split at hx
        · rename_i x hv
          have hd' : (ops[j]?).bind (·.dst) = some d := by simpa using hd
          have hy := yielded_of f hd' hv hlt
          have hw : Region.wanted o (yielded ops a.tmps) = (x == want) := by
            simp only [Region.wanted, hg, hy]
            cases x <;> cases want <;> rfl
          rw [hw]
          rcases br_sound hx with ⟨rfl, hx⟩ | ⟨rfl, hx⟩
          · cases want
            · exact .inr ⟨rfl, _, f.known hv, hx⟩
            · exact .inl ⟨rfl, _, f.known hv, hx⟩
          · cases want
            · exact .inl ⟨rfl, _, f.known hv, hx⟩
            · exact .inr ⟨rfl, _, f.known hv, hx⟩
        · rename_i vs hv
          have hd' : (ops[j]?).bind (·.dst) = some d := by simpa using hd
          have hy := yielded_tup f hd' hv hlt
          exact .inr ⟨by simp [Region.wanted, hg, hy], ρ, f, hx⟩
        · exact hx.elim

theorem stepPT_sound (ok : EnvOK σ W0 E) {ρ : Fr} {a : Act} {h : Heap} {w : World} (s : Sim σ W0 h w) (f : SimF σ E.n ρ a) {ops : Array Oper} {i : Nat} {o : Oper} (ho : ops[i]? = some o) {κ : Fr → Heap → Prop} {K : Act → World → Prop} {Q : Exit → Act → World → Prop} (hK : KOK σ W0 E κ K)
    (hx : stepPT E ops.toList o κ ρ h) : wpOp σ.P ops Q i K a w := by
  unfold wpOp
  rw [ho]
  simp only
  rcases guardG_sound f hx with ⟨hw, ρ', f', hx⟩ | ⟨hw, ρ', f', hx⟩
  · rw [if_pos hw]
    exact .inl (opPut_sound ok s f' hK hx)
  · rw [if_neg (by rw [hw]; exact Bool.false_ne_true)]
    obtain ⟨ρ'', f'', hk⟩ := putF_skip f' hx
    exact hK ρ'' h _ w f'' s hk

theorem ptOps_sound (ok : EnvOK σ W0 E) {ops : Array Oper} {κ : Fr → Heap → Prop} {K : Act → World → Prop} (hK : KOK σ W0 E κ K) :
    ∀ (os : List Oper) (i : Nat), (∀ j, os[j]? = ops[i + j]?) → ∀ {ρ : Fr} {a : Act} {h : Heap} {w : World}, Sim σ W0 h w → SimF σ E.n ρ a → ptOps E ops.toList os κ ρ h →
    wpOps σ.P ops (fun e a w => e = .normal ∧ K a w) (List.range' i os.length) a w := by
  intro os
  induction os with
  | nil => intro i _ ρ a h w s f hx; exact ⟨rfl, hK ρ h a w f s hx⟩
  | cons o os ih =>
    intro i hi ρ a h w s f hx
    rw [List.length_cons, List.range'_succ, wpOps_cons]
    have ho : ops[i]? = some o := by have := hi 0; simpa using this.symm
    refine stepPT_sound ok s f ho (κ := fun ρ h => ptOps E ops.toList os κ ρ h) ?_ hx
    intro ρ' h' a' w' f' s' hk
    refine ih (i + 1) ?_ s' f' hk
    intro j
    have := hi (j + 1)
    rw [show i + 1 + j = i + (j + 1) from by omega]
    simpa using this

/-! ### what only reckons -/

theorem eqD_all {x y : V} {t : Nat} {i : TI} (k : TIok σ.P t i) (n : Nat) {κ : Bool → Prop} (hx : eqD i.d x y κ) : ∃ b, (∀ w, (Op.equalIn (n + 1) t (x.val σ) (y.val σ)).run σ.P w = .ok b w) ∧ κ b := by
  have hd := k.d
  unfold eqD at hx
  split at hx
  · rename_i hi
    rw [hi] at hd
    split at hx
    · rename_i hk; subst hk
      exact ⟨_, fun w => run_equalIn_int w n t _ _ _ _ hd, hx⟩
    · exact hx.elim
  · rename_i hi; rw [hi] at hd
    exact ⟨_, fun w => run_equalIn_bool' w n t _ _ hd, hx⟩
  · rename_i p q hi; rw [hi] at hd
    refine ⟨_, fun w => run_equalIn_string w n t _ _ hd, ?_⟩
    rw [ba_toList, ba_toList]; exact hx
  · exact hx.elim

theorem binP0_all (ok : EnvOK σ W0 E) {op : BinOp} {t : Nat} {x y : V} {xo yo : Operand} {h : Heap} {κ : V → Prop} (hq : withB E t (fun i => i.d.plain) = true) (hx : binP0 E op t x y (isConstO yo) κ h) :
    ∃ v, (∀ w, (do eqGuard op t xo yo (x.val σ) (y.val σ); binOp op t (x.val σ) (y.val σ) : Sem Value).run σ.P w = .ok (V.val σ v) w) ∧ v.wf ∧ κ v := by
  have eqcase : ∀ {κ : Bool → Prop}, eqPT E t x y (isConstO yo) κ h → ∃ p q b, x = .bool p ∧ y = .bool q ∧ (∀ w, (Op.equal t (x.val σ) (y.val σ)).run σ.P w = .ok b w) ∧ κ b := by
    intro κ hx
    unfold withB at hq
    unfold eqPT withTI at hx
    cases hi : E.ti t with
    | none => rw [hi] at hq; cases hq
    | some i =>
      rw [hi] at hq hx
      simp only at hq hx
      have k := ok.ti t i hi
      cases hd : i.d with
      | leaf sh =>
        rw [hd] at hq hx
        cases sh <;> first | exact hx.elim | cases hq | skip
        have hx0 : eqD i.d x y κ := by rw [hd]; exact hx
        obtain ⟨b, hr, hk⟩ := eqD_all k 9999 hx0
        have sh : ∃ p q, x = .bool p ∧ y = .bool q := by
          cases x <;> first | exact hx.elim | skip
          cases y <;> first | exact hx.elim | exact ⟨_, _, rfl, rfl⟩
        obtain ⟨p, q, hp, hq⟩ := sh
        exact ⟨p, q, b, hp, hq, hr, hk⟩
      | _ => rw [hd] at hq; cases hq
  unfold binP0 at hx
  split at hx
  · rename_i k m k' n
    obtain ⟨h0, hk⟩ := hx
    refine ⟨_, fun w => ?_, wf_int _ _, hk⟩
    have : ¬ n < 0 := by omega
    simp [eqGuard, V.val, binOp, Op.shift, this, shlI]
  · rename_i k m k' n
    obtain ⟨h0, hk⟩ := hx
    refine ⟨_, fun w => ?_, wf_int _ _, hk⟩
    have : ¬ n < 0 := by omega
    simp [eqGuard, V.val, binOp, Op.shift, this, shrI]
  · split at hx
    · rename_i hk; subst hk
      obtain ⟨v, hr, hw, hk⟩ := binI_sound (σ := σ) (t := t) hx
      exact ⟨v, fun w => by simp [V.val, eqGuard_plain, hr], hw, hk⟩
    · exact hx.elim
  · obtain ⟨v, hr, hw, hk⟩ := binS_sound (σ := σ) (t := t) hx
    refine ⟨v, fun w => ?_, hw, hk⟩
    simp only [V.val] at hr ⊢
    simp [eqGuard_plain, hr]
  · obtain ⟨p, q, b, rfl, rfl, hr, hk⟩ := eqcase hx
    refine ⟨.bool b, fun w => ?_, wf_bool _, hk⟩
    have e1 : binOp .eql t (V.val σ (.bool p)) (V.val σ (.bool q)) = (do pure (.bool (← Op.equal t (V.val σ (.bool p)) (V.val σ (.bool q))))) := rfl
    rw [e1]
    simp only [V.val] at hr ⊢
    simp [eqGuard_plain, hr]
  · obtain ⟨p, q, b, rfl, rfl, hr, hk⟩ := eqcase hx
    refine ⟨.bool !b, fun w => ?_, wf_bool _, hk⟩
    have e1 : binOp .neq t (V.val σ (.bool p)) (V.val σ (.bool q)) = (do pure (.bool (!(← Op.equal t (V.val σ (.bool p)) (V.val σ (.bool q)))))) := rfl
    rw [e1]
    simp only [V.val] at hr ⊢
    simp [eqGuard_plain, hr]
  · exact hx.elim

theorem binPT_all (ok : EnvOK σ W0 E) {op : BinOp} {t : Nat} {x y : V} {xo yo : Operand} {h : Heap} {κ : V → Prop} (hq : withB E t (fun i => i.d.plain) = true) (hx : binPT E op t x y (isConstO yo) κ h) :
    ∃ v, (∀ w, (do eqGuard op t xo yo (x.val σ) (y.val σ); binOp op t (x.val σ) (y.val σ) : Sem Value).run σ.P w = .ok (V.val σ v) w) ∧ v.wf ∧ κ v := by
  have eqcase : ∀ {κ : Bool → Prop}, eqPT E t x y (isConstO yo) κ h → ∃ p q b, x = .bool p ∧ y = .bool q ∧ (∀ w, (Op.equal t (x.val σ) (y.val σ)).run σ.P w = .ok b w) ∧ κ b := by
    intro κ hx
    unfold withB at hq
    unfold eqPT withTI at hx
    cases hi : E.ti t with
    | none => rw [hi] at hq; cases hq
    | some i =>
      rw [hi] at hq hx
      simp only at hq hx
      have k := ok.ti t i hi
      cases hd : i.d with
      | leaf sh =>
        rw [hd] at hq hx
        cases sh <;> first | exact hx.elim | cases hq | skip
        have hx0 : eqD i.d x y κ := by rw [hd]; exact hx
        obtain ⟨b, hr, hk⟩ := eqD_all k 9999 hx0
        have sh : ∃ p q, x = .bool p ∧ y = .bool q := by
          cases x <;> first | exact hx.elim | skip
          cases y <;> first | exact hx.elim | exact ⟨_, _, rfl, rfl⟩
        obtain ⟨p, q, hp, hq⟩ := sh
        exact ⟨p, q, b, hp, hq, hr, hk⟩
      | _ => rw [hd] at hq; cases hq
  unfold binPT at hx
  cases hn : isNilV y with
  | false => rw [hn] at hx; exact binP0_all ok hq hx
  | true =>
    rw [hn] at hx
    simp only [cond_true] at hx
    split at hx
    · obtain ⟨p, q, b, rfl, rfl, _, _⟩ := eqcase hx; cases hn
    · obtain ⟨p, q, b, rfl, rfl, _, _⟩ := eqcase hx; cases hn
    · exact hx.elim

theorem lenPT_all (ok : EnvOK σ W0 E) {h : Heap} {t : Nat} {ts : List Nat} {ty : Nat} {x : V} {κ : V → Prop} (hq : withB E t (fun i => !i.d.isMap) = true) (hx : lenPT E t x κ h) :
    ∃ n : Int, (∀ w, (Builtin.len_ (t :: ts).toArray ty #[x.val σ]).run σ.P w = .ok (.int .i64 n) w) ∧ κ (.int .i64 n) := by
  unfold withB at hq
  unfold lenPT withTI at hx
  cases hi : E.ti t with
  | none => rw [hi] at hq; cases hq
  | some i =>
    rw [hi] at hq hx
    simp only at hq hx
    have k := ok.ti t i hi
    have hd := k.d
    split at hx
    · rename_i st hi
      rw [hi] at hd
      have hd : σ.P.underlying t = some .string := hd
      exact ⟨_, fun w => by simp [Builtin.len_, run_under hd, V.val, goInt, ba_size], hx⟩
    · rename_i n e hi
      rw [hi] at hd
      have hd : σ.P.underlying t = some (.array n e) := hd
      exact ⟨_, fun w => by simp [Builtin.len_, run_under hd, goInt], hx⟩
    · rename_i e hi
      rw [hi] at hd
      have hd : σ.P.underlying t = some (.pointer e) := hd
      replace hx := withTI_ok ok hx; obtain ⟨j, kj, hx⟩ := hx
      have hdj := kj.d
      split at hx
      · rename_i n e' hj
        rw [hj] at hdj
        have hdj : σ.P.underlying e = some (.array n e') := hdj
        exact ⟨_, fun w => by simp [Builtin.len_, run_under hd, run_under hdj, goInt], hx⟩
      · exact hx.elim
    · rename_i e sl hi
      rw [hi] at hd
      have hd : σ.P.underlying t = some (.slice e) := hd
      exact ⟨_, fun w => by simp [Builtin.len_, run_under hd, V.val, goInt], hx⟩
    · rename_i hi
      rw [hi] at hq; cases hq
    · rename_i hi
      rw [hi] at hq; cases hq
    · exact hx.elim

theorem quiet_sound (ok : EnvOK σ W0 E) {ρ : Fr} {a : Act} {h : Heap} (f : SimF σ E.n ρ a) {o : Oper} {κ : V → Heap → Prop} (hq : quietOp E o.op = true) (hx : opPT E o.op ρ κ h) :
    ∃ v, (∀ w, (execOp a.eval o).run σ.P w = .ok (.value (V.val σ v)) w) ∧ v.wf ∧ κ v h := by
  obtain ⟨dst, op, ty, pos, after, guard⟩ := o
  simp only at hx hq
  cases op with
  | move x =>
    obtain ⟨v, hv, wv, hk⟩ := ev1_val ok f hx
    exact ⟨v, fun w => by simp [execOp, hv], wv, hk⟩
  | assign x =>
    obtain ⟨v, hv, wv, hk⟩ := ev1_val ok f hx
    exact ⟨v, fun w => by simp [execOp, hv], wv, hk⟩
  | pick c x y =>
    replace hx := ev1_val ok f hx; obtain ⟨v, hv, wv, hx⟩ := hx
    split at hx
    · obtain ⟨u, hu, wu, hk⟩ := ev1_val ok f hx
      exact ⟨u, fun w => by simp [execOp, hv, V.val, asBool, hu], wu, hk⟩
    · obtain ⟨u, hu, wu, hk⟩ := ev1_val ok f hx
      exact ⟨u, fun w => by simp [execOp, hv, V.val, asBool, hu], wu, hk⟩
    · exact hx.elim
  | nilCheck x =>
    replace hx := ev1_val ok f hx; obtain ⟨v, hv, wv, hx⟩ := hx
    unfold nilCU at hx
    split at hx
    · rename_i m u
      obtain ⟨ha, hk⟩ := chk_true hx
      obtain ⟨t', u', rfl, hr⟩ := ok.ahead _ _ ha
      exact ⟨.mth m (.iface t' u'), fun w => by simp [execOp, hv, V.val, hr], wv, hk⟩
    unfold nilC at hx
    split at hx
    · obtain ⟨p, rfl, hk⟩ := der_sound hx
      exact ⟨.ptr (some p), fun w => by simp [execOp, hv, V.val], wf_ptr _, hk⟩
    · exact ⟨_, fun w => by simp [execOp, hv, V.val], wv, hx⟩
    · exact ⟨_, fun w => by simp [execOp, hv, V.val], wv, hx⟩
    · exact ⟨_, fun w => by simp [execOp, hv, V.val], wv, hx⟩
    · exact ⟨_, fun w => by simp [execOp, hv, V.val], wv, hx⟩
    · exact hx.elim
  | binOp op t x y yt =>
    replace hx := ev1_val ok f hx; obtain ⟨v, hv, wv, hx⟩ := hx
    replace hx := ev1_val ok f hx; obtain ⟨u, hu, wu, hx⟩ := hx
    obtain ⟨r, hr, wr, hk⟩ := binPT_all (xo := x) ok hq hx
    exact ⟨r, fun w => by have hr := hr w; rw [← hv, ← hu] at hr; simp only [execOp]; simp only [Sem.run_bind] at hr ⊢; rw [hr]; rfl, wr, hk⟩
  | unOp op t x =>
    replace hx := ev1_val ok f hx; obtain ⟨v, hv, wv, hx⟩ := hx
    unfold unPT at hx
    split at hx
    · exact ⟨_, fun w => by simp [execOp, hv, V.val, Op.unary, Op.intArith], wf_int _ _, hx⟩
    · exact ⟨_, fun w => by simp only [execOp, hv, V.val, Op.unary, Op.intBits, Sem.run_bind, Sem.run_pure, Result.andThen_ok]; rfl, wf_int _ _, hx⟩
    · exact ⟨_, fun w => by simp [execOp, hv, V.val, Op.unary], wf_bool _, hx⟩
    · exact hx.elim
  | convert sT dT x =>
    replace hx := ev1_val ok f hx; obtain ⟨v, hv, wv, hx⟩ := hx
    unfold convPT withTI at hx
    simp only [quietOp, withB] at hq
    cases hs : E.ti sT with
    | none => rw [hs] at hx; exact hx.elim
    | some i' =>
      cases hd : E.ti dT with
      | none => rw [hs, hd] at hx; exact hx.elim
      | some i =>
        rw [hs, hd] at hx
        rw [hd, hs] at hq
        simp only [Bool.and_eq_true] at hq hx
        have k' := ok.ti _ _ hs
        have k := ok.ti _ _ hd
        obtain ⟨u, hu, _⟩ := k'.under
        have hdd := k.d
        cases hid : i.d with
        | leaf sh =>
          rw [hid] at hx hq hdd
          cases sh <;> first | cases hq.1 | skip
          rename_i kd
          have hdd : σ.P.underlying dT = some (.int kd) := hdd
          cases v <;> first | exact hx.elim | skip
          rename_i k1 n
          exact ⟨.int kd (kd.wrap n), fun w => by simp [execOp, hv, convert, run_under hu, run_under hdd, V.val, Conv.intToInt], wf_int _ _, hx⟩
        | _ => rw [hid] at hq; cases hq.1
  | slice t x lo hi mx =>
    replace hx := ev1_val ok f hx; obtain ⟨v, hv, wv, hx⟩ := hx
    replace hx := evO_val ok f hx; obtain ⟨lo', hlo, hx⟩ := hx
    replace hx := evO_val ok f hx; obtain ⟨hi', hhi, hx⟩ := hx
    replace hx := evO_val ok f hx; obtain ⟨mx', hmx, hx⟩ := hx
    obtain ⟨r, hr, wr, hk⟩ := slicePT_sound ok hx
    exact ⟨r, fun w => by simp [execOp, hv, hlo, hhi, hmx, hr], wr, hk⟩
  | fieldAddr t x fi =>
    replace hx := ev1_val ok f hx; obtain ⟨v, hv, wv, hx⟩ := hx
    split at hx
    · rename_i p
      replace hx := fieldOf_sound ok hx; obtain ⟨fields, fd, j, hu, hfd, kj, hx⟩ := hx
      cases hz : Nat.beq j.size 0 with
      | true => rw [hz] at hx; exact hx.elim
      | false =>
        rw [hz] at hx
        have h0 : ¬ j.size = 0 := by intro h; rw [h] at hz; cases hz
        exact ⟨.ptr (some (p.add fd.offset)), fun w => by simp [execOp, hv, V.val, Instr.fieldAt, run_under hu, hfd, Instr.sureAddr, fieldPlace, kj.size, h0, addr_add], wf_ptr _, hx⟩
    · exact hx.elim
  | field t x fi =>
    replace hx := ev1_val ok f hx; obtain ⟨v, hv, wv, hx⟩ := hx
    replace hx := fieldOf_sound ok hx; obtain ⟨fields, fd, j, hu, hfd, kj, hx⟩ := hx
    obtain ⟨cs, u, hcs, hr, wu, hk⟩ := partT_sound kj wv hx
    exact ⟨u, fun w => by simp [execOp, hv, hcs, Instr.field, run_under hu, hfd, asAgg, hr], wu, hk⟩
  | indexAddr t x y =>
    replace hx := ev1_val ok f hx; obtain ⟨v, hv, wv, hx⟩ := hx
    replace hx := ev1_val ok f hx; obtain ⟨u, hu, wu, hx⟩ := hx
    replace hx := withTI_ok ok hx; obtain ⟨i, k, hx⟩ := hx
    have hd := k.d
    split at hx
    · rename_i e sl kk n hi
      rw [hi] at hd
      have hd : σ.P.underlying t = some (.slice e) := hd
      replace hx := withTI_ok ok hx; obtain ⟨j, kj, hx⟩ := hx
      obtain ⟨h0, h1, hx⟩ := hx
      replace hx := der_sound hx; obtain ⟨p, hp, hk⟩ := hx
      exact ⟨.ptr (some (p.add (n.toNat * j.size))), fun w => by simp [execOp, hv, hu, V.val, Instr.indexAt, asIntOf, run_under hd, hp, h0, h1, kj.size, addr_add], wf_ptr _, hk⟩
    · rename_i len e p kk n hi
      rw [hi] at hd
      have hd : σ.P.underlying t = some (.array len e) := hd
      replace hx := withTI_ok ok hx; obtain ⟨j, kj, hx⟩ := hx
      obtain ⟨h0, h1, hk⟩ := hx
      exact ⟨.ptr (some (p.add (n.toNat * j.size))), fun w => by simp [execOp, hv, hu, V.val, Instr.indexAt, asIntOf, run_under hd, Instr.sureAddr, h0, h1, kj.size, addr_add], wf_ptr _, hk⟩
    · exact hx.elim
  | index t x y =>
    replace hx := ev1_val ok f hx; obtain ⟨v, hv, wv, hx⟩ := hx
    replace hx := ev1_val ok f hx; obtain ⟨u, hu, wu, hx⟩ := hx
    replace hx := withTI_ok ok hx; obtain ⟨i, k, hx⟩ := hx
    have hd := k.d
    split at hx
    · rename_i st kk n hi
      rw [hi] at hd
      have hd : σ.P.underlying t = some .string := hd
      obtain ⟨h0, h1, hk⟩ := hx
      refine ⟨.int .u8 (st.getD n.toNat 0).toNat, fun w => ?_, wf_int _ _, hk⟩
      have hlt : n.toNat < st.length := by omega
      have hb : (ByteArray.mk st.toArray)[n.toNat]? = some st[n.toNat] := by
        rw [getElem?_pos _ _ (by rw [ba_size]; exact hlt)]
        rfl
      simp [execOp, hv, hu, V.val, Instr.index, asIntOf, run_under hd, h0, hb, hlt]
    · rename_i len e kk n hi
      rw [hi] at hd
      have hd : σ.P.underlying t = some (.array len e) := hd
      replace hx := withTI_ok ok hx; obtain ⟨j, kj, hx⟩ := hx
      obtain ⟨h0, h1, hx⟩ := hx
      obtain ⟨cs, r, hcs, hr, wr, hk⟩ := partT_sound kj (ofAg_wf wv) hx
      rw [ofAg_val] at hcs
      exact ⟨r, fun w => by simp [execOp, hv, hu, hcs, V.val, Instr.index, asIntOf, run_under hd, h0, h1, kj.size, hr], wr, hk⟩
    · exact hx.elim
  | extract x n =>
    replace hx := ev1_val ok f hx; obtain ⟨v, hv, wv, hx⟩ := hx
    split at hx
    · rename_i vs
      split at hx
      · rename_i u hu
        exact ⟨u, fun w => by simp [execOp, hv, V.val, Instr.extract, vals_map, hu], V.wf1_wf (wv u (List.mem_of_getElem? hu)), hx⟩
      · exact hx.elim
    · exact hx.elim
  | call c =>
    obtain ⟨callee, args, argTypes⟩ := c
    cases callee with
    | builtin b =>
      cases b <;> first | cases hq | skip
      simp only [quietOp] at hq
      split at hq
      · rename_i t ts hts
        simp only [opPT, callPT] at hx
        replace hx := evL_vals ok f hx; obtain ⟨vs, hvs, wvs, hx⟩ := hx
        have hargs : args.map a.eval = (V.vals σ vs).toArray := by apply Array.ext'; simp [← hvs]
        simp only [hts] at hx
        have hat : argTypes = (t :: ts).toArray := by rw [← hts]
        cases vs with
        | nil => exact hx.elim
        | cons x vs =>
          cases vs with
          | cons y vs => exact hx.elim
          | nil =>
            have hx : lenPT E t x (fun v => κ v h) h := hx
            obtain ⟨n, hr, hk⟩ := lenPT_all (ts := ts) (ty := ty) ok hq hx
            refine ⟨.int .i64 n, fun w => ?_, wf_int _ _, hk⟩
            have e : execOp a.eval ⟨dst, .call ⟨.builtin .len, args, argTypes⟩, ty, pos, after, guard⟩ = (do pure (.value (← Builtin.len_ argTypes ty (args.map a.eval)))) := rfl
            rw [e, hargs, hat]
            have hr := hr w
            simp only [V.vals]
            simp [hr, V.val]
      · cases hq
    | _ => cases hq
  | _ => cases hq

/-! ### regions whose order is open -/

theorem rdT_ck {h : Heap} {w : World} (s : Sim σ W0 h w) {t : Nat} {i : TI} (k : TIok σ.P t i) {p : Ptr} {κ : V → Prop} (hx : rdT i p κ h) :
    ∃ v, v.wf ∧ κ v ∧ ck p v.cells 0 h ∧ ∀ h' w', Sim σ W0 h' w' → ck p v.cells 0 h' → (loadVar t p.addr).run σ.P w' = .ok (v.val σ) w' := by
  have ckg : ∀ (vs : List V) (j : Nat) (h : Heap), ck p vs j h ↔ ∀ m v, vs[m]? = some v → h.get p.b (p.o + (j + m)) = some v := by
    intro vs
    induction vs with
    | nil => intro j h; simp [ck]
    | cons v vs ih =>
      intro j h
      simp only [ck, ih]
      constructor
      · rintro ⟨h1, h2⟩ m u hm
        cases m with
        | zero => simp at hm; subst hm; exact h1
        | succ m => rw [show j + (m + 1) = j + 1 + m from by omega]; exact h2 m u (by simpa using hm)
      · intro hall
        refine ⟨hall 0 v rfl, fun m u hm => ?_⟩
        rw [show j + 1 + m = j + (m + 1) from by omega]
        exact hall (m + 1) u (by simpa using hm)
  have one : ∀ v, i.d.one = true → h.get p.b p.o = some v → κ v → ∃ v, v.wf ∧ κ v ∧ ck p v.cells 0 h ∧ ∀ h' w', Sim σ W0 h' w' → ck p v.cells 0 h' → (loadVar t p.addr).run σ.P w' = .ok (v.val σ) w' := by
    intro v ho hg hk
    have h1 := (s.get hg).2.2
    have hc := V.one_cells h1
    refine ⟨v, V.wf_one h1, hk, by rw [hc]; exact ⟨hg, trivial⟩, ?_⟩
    intro h' w' s' hck
    rw [hc] at hck
    exact run_loadVar_one k ho (s'.get hck.1).1
  have aggc : ∀ (vs : List V) (v : V), v.cells = vs → v.val σ = .agg (V.vals σ vs).toArray → (v.wf ↔ ∀ u ∈ vs, u.one = true) → i.d.one = false → vs.length = i.size → (∀ j u, vs[j]? = some u → h.get p.b (p.o + j) = some u) → κ v →
      ∃ v, v.wf ∧ κ v ∧ ck p v.cells 0 h ∧ ∀ h' w', Sim σ W0 h' w' → ck p v.cells 0 h' → (loadVar t p.addr).run σ.P w' = .ok (v.val σ) w' := by
    intro vs v hc hv hw ho hl hg hk
    refine ⟨v, hw.2 ?_, hk, ?_, ?_⟩
    · intro u hu
      obtain ⟨j, hj⟩ := List.mem_iff_getElem?.1 hu
      exact (s.get (p := p.add j) (hg j u hj)).2.2
    · rw [hc, ckg]; intro m u hm; simpa using hg m u hm
    · intro h' w' s' hck
      rw [hc, ckg] at hck
      rw [hv]
      exact run_loadVar_agg s' k ho hl (fun j u hj => by simpa using hck j u hj)
  have agg : i.d.one = false → (match i.leaves with
    | some ls => rdL ls p 0 (fun vs => κ (.agg vs)) h
    | none => rdN i.size p (fun vs => κ (.ago vs)) h) → ∃ v, v.wf ∧ κ v ∧ ck p v.cells 0 h ∧ ∀ h' w', Sim σ W0 h' w' → ck p v.cells 0 h' → (loadVar t p.addr).run σ.P w' = .ok (v.val σ) w' := by
    intro ho hx
    split at hx
    · rename_i ls hls
      obtain ⟨vs, hl, hg, hk⟩ := rdL_get hx
      exact aggc vs (.agg vs) rfl rfl Iff.rfl ho (by rw [hl, k.leaves ls hls]) (fun j v hj => by simpa using hg j v hj) hk
    · obtain ⟨cs, hl, hg, hk⟩ := hx
      refine aggc cs (.ago cs) rfl rfl Iff.rfl ho hl ?_ hk
      intro j v hj
      have hlt : j < cs.length := by
        rcases Nat.lt_or_ge j cs.length with h | h
        · exact h
        · rw [List.getElem?_eq_none h] at hj; cases hj
      rw [hg j (by omega), hj]
  unfold rdT at hx
  split at hx <;> rename_i hd
  · obtain ⟨v, hv, hk⟩ := rdSh_get hx; exact one v (by rw [hd]; rfl) hv hk
  · obtain ⟨v, hv, hk⟩ := hx; exact one _ (by rw [hd]; rfl) hv hk
  · obtain ⟨v, hv, hk⟩ := hx; exact one _ (by rw [hd]; rfl) hv hk
  · obtain ⟨v, hv, hk⟩ := hx; exact one _ (by rw [hd]; rfl) hv hk
  · obtain ⟨v, hv, hk⟩ := hx; exact one _ (by rw [hd]; rfl) hv hk
  · obtain ⟨v, hv, hk⟩ := hx; exact one _ (by rw [hd]; rfl) hv hk
  · refine agg ?_ hx
    cases hi : i.d <;> simp_all [TD.one]

theorem chkF_iff {F : List (Nat × (Heap → Prop))} {h : Heap} {A : Prop} : chkF F h A ↔ (∀ p ∈ F, p.2 h) ∧ A := by
  induction F with
  | nil => simp [chkF]
  | cons p F ih => obtain ⟨n, c⟩ := p; simp [chkF, ih, and_assoc]

theorem allPT_mem : ∀ {l : List Nat} {p : Nat → Prop}, allPT l p → ∀ i ∈ l, p i
  | [], _, _, i, hi => by cases hi
  | [j], p, h, i, hi => by simp at hi; subst hi; exact h
  | j :: k :: l, p, h, i, hi => by
    rcases List.mem_cons.1 hi with rfl | hi
    · exact h.1
    · exact allPT_mem (l := k :: l) h.2 i hi

/-- The checks of the two sides. -/
def FRel (σ : Seat) (W0 : World) (Fh : List (Nat × (Heap → Prop))) (Fw : List (Nat × (World → Prop))) : Prop :=
  ∀ q ∈ Fw, (∀ w, q.2 w) ∨ ∃ p ∈ Fh, p.1 = q.1 ∧ ∀ h w, Sim σ W0 h w → p.2 h → q.2 w

def un (ops : Array Oper) (listed : Array Bool) : Nat := ((List.range ops.size).filter fun i => !listed.getD i true).length

theorem un_set {ops : Array Oper} {listed : Array Bool} {i : Nat} (hr : i ∈ ready ops listed) : un ops (listed.setIfInBounds i true) + 1 ≤ un ops listed := by
  obtain ⟨hi, o, ho, _⟩ := mem_ready.1 hr
  have hlt : i < ops.size := (Array.getElem?_eq_some_iff.1 ho).1
  have hmem : i ∈ (List.range ops.size).filter fun i => !listed.getD i true := by
    simp only [List.mem_filter, List.mem_range]
    exact ⟨hlt, by rw [hi]; rfl⟩
  have hsz : i < listed.size := by
    rcases Nat.lt_or_ge i listed.size with h | h
    · exact h
    · rw [Array.getD_eq_getD_getElem?, Array.getElem?_eq_none h] at hi; cases hi
  have he : ((List.range ops.size).filter fun j => !(listed.setIfInBounds i true).getD j true) = ((List.range ops.size).filter fun j => !listed.getD j true).filter fun j => !(j == i) := by
    rw [List.filter_filter]
    apply List.filter_congr
    intro j _
    by_cases hji : j = i
    · subst hji; simp [hsz]
    · rw [getD_set_ne true (Ne.symm hji)]
      simp [hji]
  unfold un
  rw [he]
  have := List.length_filter_lt_length_iff_exists (p := fun j => !(j == i)) (l := (List.range ops.size).filter fun j => !listed.getD j true)
  have h2 := this.2 ⟨i, hmem, by simp⟩
  omega

theorem ready_un {ops : Array Oper} {listed : Array Bool} (h0 : un ops listed = 0) : ready ops listed = [] := by
  have hnil : ((List.range ops.size).filter fun i => !listed.getD i true) = [] := List.length_eq_zero_iff.1 h0
  cases hr : ready ops listed with
  | nil => rfl
  | cons r rs =>
    have hm : r ∈ ready ops listed := by rw [hr]; simp
    obtain ⟨hi, o, ho, _⟩ := mem_ready.1 hm
    have hlt : r < ops.size := (Array.getElem?_eq_some_iff.1 ho).1
    have : r ∈ (List.range ops.size).filter fun i => !listed.getD i true := by
      simp only [List.mem_filter, List.mem_range]
      exact ⟨hlt, by rw [hi]; rfl⟩
    rw [hnil] at this
    cases this

theorem FRel.filter {Fh : List (Nat × (Heap → Prop))} {Fw : List (Nat × (World → Prop))} (hR : FRel σ W0 Fh Fw) (g : Nat → Bool) : FRel σ W0 (Fh.filter fun p => g p.1) (Fw.filter fun p => g p.1) := by
  intro q hq
  simp only [List.mem_filter] at hq
  rcases hR q hq.1 with h1 | ⟨p, hp, he, h2⟩
  · exact .inl h1
  · exact .inr ⟨p, by simp only [List.mem_filter]; exact ⟨hp, by rw [he]; exact hq.2⟩, he, h2⟩

theorem ptD_sound (ok : EnvOK σ W0 E) {ops : Array Oper} (hns : Region.noSelect ops = true) {κ : Fr → Heap → Prop} {K : Act → World → Prop} (hK : KOK σ W0 E κ K) :
    ∀ (n : Nat) {listed : Array Bool} {Fh : List (Nat × (Heap → Prop))} {Fw : List (Nat × (World → Prop))} {ρ : Fr} {a : Act} {h : Heap} {w : World}, un ops listed ≤ n → Sim σ W0 h w → SimF σ E.n ρ a → Closed ops listed →
      (∀ p ∈ Fh, p.2 h) → FRel σ W0 Fh Fw → ptD E ops (n + 1) listed Fh κ ρ h → wpAnyF σ.P ops (fun e a w => e = .normal ∧ K a w) n listed Fw a w := by
  have hQ : ∀ (d : Option Tmp) (v : Value) (c : List PanicEntry) (a : Act) (w : World), (Exit.panic c = Exit.normal ∧ K (a.put d v) w) → (Exit.panic c = Exit.normal ∧ K a w) := by
    intro d v c a w h; cases h.1
  intro n
  induction n with
  | zero =>
    intro listed Fh Fw ρ a h w hun s f hc hF hR hx
    have hFw : ∀ q ∈ Fw, q.2 w := by
      intro q hq
      rcases hR q hq with h1 | ⟨p, hp, _, h2⟩
      · exact h1 w
      · exact h2 h w s (hF p hp)
    have hr := ready_un (Nat.le_zero.1 hun)
    unfold ptD at hx
    have hr' : Region.ready .any ops listed = [] := hr
    rw [hr'] at hx
    exact ⟨hFw, hr, rfl, hK ρ h a w f s hx⟩
  | succ n ih =>
    intro listed Fh Fw ρ a h w hun s f hc hF hR hx
    have hFw : ∀ q ∈ Fw, q.2 w := by
      intro q hq
      rcases hR q hq with h1 | ⟨p, hp, _, h2⟩
      · exact h1 w
      · exact h2 h w s (hF p hp)
    unfold ptD at hx
    split at hx
    · rename_i hr
      have hr' : ready ops listed = [] := hr
      exact ⟨hFw, fun _ => ⟨rfl, hK ρ h a w f s hx⟩, fun i hi => by rw [hr'] at hi; cases hi⟩
    · rename_i r rs hr
      have hr' : ready ops listed = r :: rs := hr
      split at hx
      · rename_i i hfind
        have himem : i ∈ ready ops listed := by rw [hr']; exact List.mem_of_find?_eq_some hfind
        have hh := List.find?_some hfind
        have hun' : un ops (listed.setIfInBounds i true) ≤ n := by have := un_set himem; omega
        split at hx
        · exact hx.elim
        · rename_i o ho
          unfold hoists at hh
          rw [ho] at hh
          simp only [Bool.and_eq_true] at hh
          have hfree := Region.free_spec (md := .any) ho hh.2
          have first : ∀ {v : Value} {C : World → Prop}, YC σ.P ops C o v a → wpAnyF σ.P ops (fun e a w => e = .normal ∧ K a w) n (listed.setIfInBounds i true) ((i, C) :: Fw) (a.put o.dst v) w → wpAnyF σ.P ops (fun e a w => e = .normal ∧ K a w) (n + 1) listed Fw a w :=
            fun hy H => wpAnyF_first ho (Region.noSelect_spec hns) (fun c a w => hQ _ _ c a w) n listed Fw a w hc hfree himem hy H
          have trivR : FRel σ W0 Fh ((i, fun _ => True) :: Fw) := by
            intro q hq
            rcases List.mem_cons.1 hq with rfl | hq
            · exact .inl fun _ => trivial
            · exact hR q hq
          have skipc : ∀ {ρ' : Fr}, SimF σ E.n ρ' a → Region.wanted o (yielded ops a.tmps) = false → (putF E o.dst (some (.tup [])) ρ' fun ρ => ptD E ops (n + 1) (listed.setIfInBounds i true) Fh κ ρ h) → wpAnyF σ.P ops (fun e a w => e = .normal ∧ K a w) (n + 1) listed Fw a w := by
            intro ρ' f' hw hx
            obtain ⟨ρ'', f'', hk⟩ := putF_skip f' hx
            exact first (v := Go.undef) (C := fun _ => True) (.inr ⟨hw, rfl⟩) (ih hun' s f'' (closed_set hc himem) hF trivR hk)
          split at hx
          · rename_i t x hop
            rcases guardG_sound f hx with ⟨hw, ρ', f', hx⟩ | ⟨hw, ρ', f', hx⟩
            · replace hx := ev1_val ok f' hx; obtain ⟨v, hv, wv, hx⟩ := hx
              replace hx := withTI_ok ok hx; obtain ⟨ti, kt, hx⟩ := hx
              split at hx
              · rename_i p
                obtain ⟨u, wu, hk, hck, hall⟩ := rdT_ck s kt hx
                obtain ⟨ρ'', f'', hk⟩ := putF_sound f' wu hk
                refine first (v := V.val σ u) (C := fun w => (loadVar t p.addr).run σ.P w = .ok (V.val σ u) w) (.inl ⟨hw, ?_⟩) (ih hun' s f'' (closed_set hc himem) ?_ ?_ hk)
                · intro w' hw'
                  simp [execOp, hop, hv, V.val, Instr.loadAt, Instr.sureAddr, hw']
                · intro q hq
                  rcases List.mem_cons.1 hq with rfl | hq
                  · exact hck
                  · exact hF q hq
                · intro q hq
                  rcases List.mem_cons.1 hq with rfl | hq
                  · exact .inr ⟨(i, fun h => ck p u.cells 0 h), by simp, rfl, fun h' w' s' hc' => hall h' w' s' hc'⟩
                  · rcases hR q hq with h1 | ⟨p', hp', he, h2⟩
                    · exact .inl h1
                    · exact .inr ⟨p', by simp [hp'], he, h2⟩
              · exact hx.elim
            · exact skipc f' hw hx
          · rename_i hnl
            have hq : quietOp E o.op = true := by
              rcases Bool.or_eq_true_iff.1 hh.1 with hq | hl
              · exact hq
              · unfold loadOp at hl
                split at hl
                · rename_i t x hop; exact absurd hop (hnl t x)
                · cases hl
            rcases guardG_sound f hx with ⟨hw, ρ', f', hx⟩ | ⟨hw, ρ', f', hx⟩
            · obtain ⟨v, hr, wv, hk⟩ := quiet_sound ok f' hq hx
              obtain ⟨ρ'', f'', hk⟩ := putF_sound f' wv (asO_sound hk)
              exact first (v := V.val σ v) (C := fun _ => True) (.inl ⟨hw, fun w' _ => hr w'⟩) (ih hun' s f'' (closed_set hc himem) hF trivR hk)
            · exact skipc f' hw hx
      · rw [← hr'] at hx
        refine ⟨hFw, (fun h0 => by rw [hr'] at h0; cases h0), fun i hi => ?_⟩
        replace hx := allPT_mem hx i hi
        have hun' : un ops (listed.setIfInBounds i true) ≤ n := by have := un_set hi; omega
        split at hx
        · exact hx.elim
        · rename_i o ho
          refine stepPT_sound ok s f ho (κ := fun ρ h => chkF (Fh.filter fun p => !anc ops ops.size p.1 i) h (ptD E ops (n + 1) (listed.setIfInBounds i true) (Fh.filter fun p => !anc ops ops.size p.1 i) κ ρ h)) ?_ hx
          intro ρ' h' a' w' f' s' hk
          obtain ⟨hF', hk⟩ := chkF_iff.1 hk
          exact ih hun' s' f' (closed_set hc hi) hF' (hR.filter fun j => !anc ops ops.size j i) hk

end
end Go.Lift
