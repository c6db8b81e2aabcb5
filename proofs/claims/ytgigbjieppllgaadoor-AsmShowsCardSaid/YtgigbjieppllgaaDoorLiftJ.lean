/- The operation as a whole. -/
import Derived.Test.YtgigbjieppllgaaDoorLiftP
namespace Go.Lift
open Go.RowKit

section
variable {σ : Seat} {W0 : World} {h : Heap} {w : World} {E : Env} {ρ : Fr} {a : Act}

/-- What an operation's value leads to. -/
def Nx (σ : Seat) (W0 : World) (κ : V → Heap → Prop) (a : Act) (dst : Option Tmp) (a' : Act) (w' : World) : Prop :=
  ∃ v h', a' = a.put dst (V.val σ v) ∧ v.wf ∧ Sim σ W0 h' w' ∧ κ v h'

theorem wp_val {o : Oper} {κ : V → Heap → Prop} {Q : Exit → Act → World → Prop} {v : V} {h' : Heap} {w' : World} (hr : (execOp a.eval o).run σ.P w = .ok (.value (V.val σ v)) w') (hv : v.wf) (hs : Sim σ W0 h' w') (hk : κ v h') :
    Oper.wp σ.P o a w (Nx σ W0 κ a o.dst) Q := by
  unfold Oper.wp
  rw [hr, Oper.upon_value]
  exact ⟨v, h', rfl, hv, hs, hk⟩

theorem wp_skip' {o : Oper} {κ : V → Heap → Prop} {Q : Exit → Act → World → Prop} {h' : Heap} {w' : World} (hr : (execOp a.eval o).run σ.P w = .ok .skip w') (hs : Sim σ W0 h' w') (hk : κ (.tup []) h') :
    Oper.wp σ.P o a w (Nx σ W0 κ a o.dst) Q := by
  unfold Oper.wp
  rw [hr, Oper.upon_skip]
  exact ⟨.tup [], h', rfl, by intro v hv; simp at hv, hs, hk⟩

theorem wp_calls {o : Oper} {κ : V → Heap → Prop} {Q : Exit → Act → World → Prop} {f : FuncId} {as : Array Value} (hr : (execOp a.eval o).run σ.P w = .ok (.enter f as) w) (hc : Calls σ.P f as w (Post σ W0 κ)) :
    Oper.wp σ.P o a w (Nx σ W0 κ a o.dst) Q := by
  unfold Oper.wp
  rw [hr, Oper.upon_enter]
  refine hc.mono ?_
  rintro e w' ⟨r, h', rfl, hw, hs, hk⟩
  exact ⟨r, h', rfl, hw, hs, hk⟩

theorem der_sound {q : Option Ptr} {κ : Ptr → Prop} (hx : der q κ) : ∃ p, q = some p ∧ κ p := by
  cases q
  · exact hx.elim
  · exact ⟨_, rfl, hx⟩

theorem notNil_sound {v : V} {κ : Prop} (hx : notNil v κ) : ((∃ t u, v = .iface t u) ∨ (∃ f c, v = .fn f c)) ∧ κ := by
  unfold notNil at hx
  split at hx
  · exact ⟨.inl ⟨_, _, rfl⟩, hx⟩
  · exact ⟨.inr ⟨_, _, rfl⟩, hx⟩
  · exact hx.elim

theorem fieldOf_sound (ok : EnvOK σ W0 E) {t f : Nat} {κ : Nat → TI → Prop} (hx : fieldOf E t f κ) : ∃ fields fd i, σ.P.underlying t = some (.struct fields) ∧ fields[f]? = some fd ∧ TIok σ.P fd.type i ∧ κ fd.offset i := by
  replace hx := withTI_ok ok hx; obtain ⟨i, k, hx⟩ := hx
  have hd := k.d
  split at hx
  · rename_i fs hi
    rw [hi] at hd
    obtain ⟨fields, hu, hf⟩ := hd
    split at hx
    · rename_i off ft hfs
      replace hx := withTI_ok ok hx; obtain ⟨j, kj, hx⟩ := hx
      rw [← hf, List.getElem?_map] at hfs
      cases hfd : fields.toList[f]? with
      | none => rw [hfd] at hfs; cases hfs
      | some fd =>
        rw [hfd] at hfs
        simp at hfs
        obtain ⟨rfl, rfl⟩ := hfs
        exact ⟨fields, fd, j, hu, by simpa using hfd, kj, hx⟩
    · exact hx.elim
  · exact hx.elim

theorem evO_val (ok : EnvOK σ W0 E) (f : SimF σ E.n ρ a) {x : Option Operand} {κ : Option V → Prop} (hx : evO E ρ x κ) : ∃ v, x.map a.eval = v.map (V.val σ) ∧ κ v := by
  cases x with
  | none => exact ⟨none, rfl, hx⟩
  | some x =>
    obtain ⟨v, hv, _, hk⟩ := ev1_val ok f hx
    exact ⟨some v, by simp [hv], hk⟩

theorem slicePT_sound (ok : EnvOK σ W0 E) {t : Nat} {x : V} {lo hi mx : Option V} {κ : V → Prop} (hx : slicePT E t x lo hi mx κ) :
    ∃ v, (∀ w, (Instr.sliceAt t (x.val σ) (lo.map (V.val σ)) (hi.map (V.val σ)) (mx.map (V.val σ))).run σ.P w = .ok (V.val σ v) w) ∧ v.wf ∧ κ v := by
  replace hx := withTI_ok ok hx; obtain ⟨i, k, hx⟩ := hx
  have hd := k.d
  split at hx
  · rename_i st hi'
    rw [hi'] at hd
    have hd : σ.P.underlying t = some .string := hd
    split at hx
    · replace hx := slBounds_sound (σ := σ) false hx; obtain ⟨l, hh, m, hr, hk⟩ := hx
      refine ⟨.str ((st.drop l).take (hh - l)), fun w => ?_, wf_str _, hk⟩
      have he : (ByteArray.mk st.toArray).extract l hh = ⟨((st.drop l).take (hh - l)).toArray⟩ := by
        apply ByteArray.ext
        simp
      simp only [Option.map_none] at hr ⊢
      simp [Instr.sliceAt, run_under hd, Instr.slice, V.val, ba_size, hr, he]
    · exact hx.elim
  · rename_i e sl hi'
    rw [hi'] at hd
    have hd : σ.P.underlying t = some (.slice e) := hd
    replace hx := withTI_ok ok hx; obtain ⟨j, kj, hx⟩ := hx
    replace hx := slBounds_sound (σ := σ) true hx; obtain ⟨l, hh, m, hr, hk⟩ := hx
    refine ⟨_, fun w => ?_, wf_sl _, hk⟩
    have := slp_val sl.p (l * j.size) l m
    simp [Instr.sliceAt, run_under hd, Instr.slice, V.val, hr, kj.size, ← this]
  · rename_i n e p hi'
    rw [hi'] at hd
    have hd : σ.P.underlying t = some (.array n e) := hd
    replace hx := withTI_ok ok hx; obtain ⟨j, kj, hx⟩ := hx
    replace hx := slBounds_sound (σ := σ) false hx; obtain ⟨l, hh, m, hr, hk⟩ := hx
    refine ⟨_, fun w => ?_, wf_sl _, hk⟩
    have := slp_val (some p) (l * j.size) l m
    have e2 : (if m = l then some p.addr else some (p.addr.add (l * j.size))) = (slp (some p) (l * j.size) l m).map Ptr.addr := by
      rw [← this]; by_cases h : m = l <;> simp [h]
    simp only [V.val, ← e2]
    simp [Instr.sliceAt, run_under hd, Instr.sureAddr, hr, kj.size]
    split <;> rfl
  · exact hx.elim

theorem lenPT_sound (ok : EnvOK σ W0 E) (s : Sim σ W0 h w) {t : Nat} {ts : List Nat} {ty : Nat} {x : V} {κ : V → Prop} (hx : lenPT E t x κ h) :
    ∃ n : Int, (Builtin.len_ (t :: ts).toArray ty #[x.val σ]).run σ.P w = .ok (.int .i64 n) w ∧ κ (.int .i64 n) := by
  replace hx := withTI_ok ok hx; obtain ⟨i, k, hx⟩ := hx
  have hd := k.d
  split at hx
  · rename_i st hi
    rw [hi] at hd
    have hd : σ.P.underlying t = some .string := hd
    exact ⟨_, by simp [Builtin.len_, run_under hd, V.val, goInt, ba_size], hx⟩
  · rename_i n e hi
    rw [hi] at hd
    have hd : σ.P.underlying t = some (.array n e) := hd
    exact ⟨_, by simp [Builtin.len_, run_under hd, goInt], hx⟩
  · rename_i e hi
    rw [hi] at hd
    have hd : σ.P.underlying t = some (.pointer e) := hd
    replace hx := withTI_ok ok hx; obtain ⟨j, kj, hx⟩ := hx
    have hdj := kj.d
    split at hx
    · rename_i n e' hj
      rw [hj] at hdj
      have hdj : σ.P.underlying e = some (.array n e') := hdj
      exact ⟨_, by simp [Builtin.len_, run_under hd, run_under hdj, goInt], hx⟩
    · exact hx.elim
  · rename_i e sl hi
    rw [hi] at hd
    have hd : σ.P.underlying t = some (.slice e) := hd
    exact ⟨_, by simp [Builtin.len_, run_under hd, V.val, goInt], hx⟩
  · rename_i k1 e1 r hi
    rw [hi] at hd
    have hd : σ.P.underlying t = some (.map k1 e1) := hd
    exact mapLen_sound s hd hx
  · rename_i r hi
    rw [hi] at hd
    obtain ⟨di, et, info, hd, _⟩ : ∃ d e info, σ.P.underlying t = some (.chan d e) ∧ σ.P.info? e = some info ∧ info.bytes ≤ 65536 := hd
    exact chLen_sound s hd hx
  · exact hx.elim

theorem clear_sound (s : Sim σ W0 h w) {t e ty : Nat} {j : TI} (ht : σ.P.underlying t = some (.slice e)) (kj : TIok σ.P e j) (hsz : 0 < j.size) {sl : Sl} {κ : Heap → Prop}
    (hx : clearS j.zero sl κ h) : ∃ h' w', (Builtin.clear_ #[t] ty #[V.val σ (.sl sl)]).run σ.P w = .ok (.tuple #[]) w' ∧ Sim σ W0 h' w' ∧ κ h' := by
  obtain ⟨z, hz, hzc⟩ := run_zero_cells kj
  unfold clearS at hx
  cases hp : sl.p with
  | none =>
    rw [hp] at hx
    refine ⟨h, w, ?_, s, hx⟩
    simp [Builtin.clear_, V.val, hp, run_under ht]
  | some p =>
    rw [hp] at hx
    obtain ⟨h', w', hr, hs, hk⟩ := wrL_sound s (one_flatRep kj.zone) hx
    have hzz := zeroCells_vals (σ := σ) (z := z) (zs := j.zero) (by rw [hzc]) (by rw [kj.zlen]; exact hsz) sl.len
    cases hl : sl.len with
    | zero =>
      rw [hl] at hr
      simp only [flatRep, List.replicate_zero, List.flatten_nil, V.vals, storeCells, Sem.run_pure] at hr
      injection hr with h1 h2
      subst h2
      refine ⟨h', w, ?_, hs, hk⟩
      simp [Builtin.clear_, V.val, hp, run_under ht, hl]
    | succ n =>
      rw [hl] at hr hzz
      refine ⟨h', w', ?_, hs, hk⟩
      simp [Builtin.clear_, V.val, hp, run_under ht, hl, hz, hzz, hr]

theorem builtinPT_sound (ok : EnvOK σ W0 E) (s : Sim σ W0 h w) {b : Builtin} {ts : List Nat} {vs : List V} (wvs : ∀ v ∈ vs, v.wf) {ty : Nat} {cs : Array Bool} {κ : V → Heap → Prop} (hx : builtinPT E b ts vs κ h) :
    ∃ v h' w', (builtin b ts.toArray ty cs (V.vals σ vs).toArray).run σ.P w = .ok (.value (V.val σ v)) w' ∧ v.wf ∧ Sim σ W0 h' w' ∧ κ v h' := by
  unfold builtinPT at hx
  split at hx
  · rename_i t ts x
    replace hx := lenPT_sound (ts := ts) (ty := ty) ok s hx; obtain ⟨n, hr, hk⟩ := hx
    exact ⟨_, h, w, by simp [builtin, V.vals, hr, V.val], wf_int _ _, s, hk⟩
  · rename_i t ts x
    replace hx := withTI_ok ok hx; obtain ⟨i, k, hx⟩ := hx
    have hd := k.d
    split at hx
    · rename_i e sl hi
      rw [hi] at hd
      have hd : σ.P.underlying t = some (.slice e) := hd
      exact ⟨_, h, w, by simp [builtin, Builtin.cap_, V.vals, V.val, run_under hd, goInt], wf_int _ _, s, hx⟩
    · exact hx.elim
  · rename_i t u sl x
    replace hx := withTI_ok ok hx; obtain ⟨i, k, hx⟩ := hx
    have hd := k.d
    split at hx
    · rename_i e hi
      rw [hi] at hd
      have hd : σ.P.underlying t = some (.slice e) := hd
      replace hx := withTI_ok ok hx; obtain ⟨j, kj, hx⟩ := hx
      replace hx := withTI_ok ok hx; obtain ⟨iu, ku, hx⟩ := hx
      have hdu := ku.d
      replace hx := chk_true hx; obtain ⟨hsz, hx⟩ := hx
      have hsz : 0 < j.size := by simpa using hsz
      split at hx
      · rename_i e' xs hiu
        rw [hiu] at hdu
        replace hx := cellsS_sound s hx; obtain ⟨new, hr, h1, hl, hx⟩ := hx
        obtain ⟨r, h', w', hr, hs, hk⟩ := append_sound (ty := ty) (xv := V.val σ (.sl xs)) s hd kj hsz (.inl ⟨_, hdu⟩) (by intro w; simp [V.val, Builtin.lenOf]) hr h1 hx
        exact ⟨_, h', w', by simp [builtin, V.vals, hr], wf_sl _, hs, hk⟩
      · rename_i xs hiu
        rw [hiu] at hdu
        have hfc : ∀ w, Sim σ W0 h w → (Builtin.firstCells j.size xs.length (V.val σ (.str xs))).run σ.P w = .ok (V.vals σ (strCells xs)).toArray w := by
          intro w _
          rw [strCells_vals]
          have : (ByteArray.mk xs.toArray).extract 0 xs.length = ⟨xs.toArray⟩ := by apply ByteArray.ext; simp
          simp [V.val, Builtin.firstCells, this]
        obtain ⟨r, h', w', hr, hs, hk⟩ := append_sound (ty := ty) (xv := V.val σ (.str xs)) s hd kj hsz (.inr hdu) (by intro w; simp [V.val, Builtin.lenOf, ba_size]) hfc (by intro v hv; simp [strCells] at hv; obtain ⟨b, _, rfl⟩ := hv; rfl) hx
        exact ⟨_, h', w', by simp [builtin, V.vals, hr], wf_sl _, hs, hk⟩
      · rename_i ku kn n hiu
        rw [hiu] at hdu
        obtain ⟨r, h', w', hr, hs, hk⟩ := appendZ_sound (ty := ty) (kn := kn) s hd kj hsz hdu hx
        exact ⟨_, h', w', by simp [builtin, V.vals, hr], wf_sl _, hs, hk⟩
      · exact hx.elim
    · exact hx.elim
  · rename_i t ts d x
    replace hx := withTI_ok ok hx; obtain ⟨i, k, hx⟩ := hx
    have hd := k.d
    split at hx
    · rename_i e hi
      rw [hi] at hd
      have hd : σ.P.underlying t = some (.slice e) := hd
      replace hx := withTI_ok ok hx; obtain ⟨j, kj, hx⟩ := hx
      have e1 : ∀ y, Builtin.copy_ (t :: ts).toArray ty #[V.val σ (.sl d), y] = Builtin.copy_ #[t, 0] ty #[V.val σ (.sl d), y] := by intro y; simp [Builtin.copy_]
      split at hx
      · rename_i xs
        replace hx := cellsS_sub s hx; obtain ⟨cs', hr, h1, hl, hx⟩ := hx
        obtain ⟨r, h', w', hr, hs, hk⟩ := copy_sound (u := 0) (ty := ty) (xv := V.val σ (.sl xs)) s hd kj (by intro w; simp [V.val, Builtin.lenOf]) hr h1 hx
        rw [← e1] at hr
        simp only [V.val] at hr
        exact ⟨.int .i64 r, h', w', by simp [builtin, V.vals, hr, V.val], wf_int _ _, hs, hk⟩
      · rename_i xs
        replace hx := chk_true hx; obtain ⟨h1, hx⟩ := hx
        have h1 := Nat.eq_of_beq_eq_true h1
        obtain ⟨r, h', w', hr, hs, hk⟩ := copy_sound (u := 0) (ty := ty) (xv := V.val σ (.str xs)) s hd kj (by intro w; simp [V.val, Builtin.lenOf, ba_size]) (by
          intro n hn
          rw [h1, Nat.mul_one, vals_map, List.map_take, ← vals_map, strCells_vals]
          have : (ByteArray.mk xs.toArray).extract 0 n = ⟨(xs.take n).toArray⟩ := by apply ByteArray.ext; simp
          simp [V.val, Builtin.firstCells, this]) (by intro v hv; simp [strCells] at hv; obtain ⟨b, _, rfl⟩ := hv; rfl) hx
        rw [← e1] at hr
        simp only [V.val] at hr
        exact ⟨.int .i64 r, h', w', by simp [builtin, V.vals, hr, V.val], wf_int _ _, hs, hk⟩
      · exact hx.elim
    · exact hx.elim
  · rename_i t ts x y
    replace hx := withTI_ok ok hx; obtain ⟨i, k, hx⟩ := hx
    have hd := k.d
    split at hx
    · rename_i kt et m hi
      rw [hi] at hd
      have hd : σ.P.underlying t = some (.map kt et) := hd
      replace hx := withTI_ok ok hx; obtain ⟨ik, kk, hx⟩ := hx
      have hdk := kk.d
      split at hx
      · rename_i ks hik
        rw [hik] at hdk
        obtain ⟨hku, hx⟩ := chk_true hx
        obtain ⟨h', w', hr, hs, hk⟩ := del_sound (ty := ty) (ts := ts) s hd hdk hku hx
        refine ⟨.tup [], h', w', ?_, by intro v hv; simp at hv, hs, hk⟩
        simp only [V.val] at hr
        simp [builtin, V.vals, hr, V.val]
      · exact hx.elim
    · exact hx.elim
  · rename_i ts k a k' b'
    exact ⟨.int k (minI a b'), _, w, by simp [builtin, V.vals, V.val, Builtin.min_, Builtin.min2, minI], wf_int _ _, s, hx⟩
  · rename_i ts k a k' b'
    exact ⟨.int k (maxI a b'), _, w, by simp [builtin, V.vals, V.val, Builtin.max_, Builtin.max2, maxI], wf_int _ _, s, hx⟩
  · rename_i t ts x
    replace hx := withTI_ok ok hx; obtain ⟨i, k, hx⟩ := hx
    have hd := k.d
    split at hx
    · rename_i e sl hi
      rw [hi] at hd
      have hd : σ.P.underlying t = some (.slice e) := hd
      replace hx := withTI_ok ok hx; obtain ⟨j, kj, hx⟩ := hx
      obtain ⟨hsz, hx⟩ := chk_true hx
      replace hx := clear_sound (ty := ty) s hd kj (by simpa using hsz) hx; obtain ⟨h', w', hr, hs, hk⟩ := hx
      refine ⟨.tup [], h', w', ?_, by intro v hv; simp at hv, hs, hk⟩
      have e1 : Builtin.clear_ (t :: ts).toArray ty #[V.val σ (.sl sl)] = Builtin.clear_ #[t] ty #[V.val σ (.sl sl)] := by simp [Builtin.clear_]
      rw [← e1] at hr
      simp only [V.val] at hr
      simp [builtin, V.vals, hr, V.val]
    · exact hx.elim
  · exact hx.elim

theorem run_ofValue {v : Value} {args : Array Value} {o : Oper} {x : Operand} {c : Call} (ho : o.op = .call c) (hc : c.callee = .value x) (hv : a.eval x = v) (hargs : c.args.map a.eval = args) :
    execOp a.eval o = (do let d ← Deferred.ofValue v args; invoke d.target d.args) := by
  obtain ⟨dst, op, ty, pos, after, guard⟩ := o
  simp only at ho
  subst ho
  simp [execOp, resolve, hc, hv, hargs]

theorem callsVal_mono {P : Program} {v : Value} {args : Array Value} {R R' : Ending → World → Prop} (hc : CallsVal P v args w R) (hr : ∀ e w', R e w' → R' e w') : CallsVal P v args w R' := by
  obtain ⟨f, as, h1, h2⟩ := hc
  exact ⟨f, as, h1, h2.mono hr⟩

theorem callPT_sound (ok : EnvOK σ W0 E) (s : Sim σ W0 h w) (f : SimF σ E.n ρ a) {c : Call} {dst : Option Tmp} {ty : Nat} {pos : String} {after : Array Edge} {guard : Option (Nat × Bool)} {κ : V → Heap → Prop} {Q : Exit → Act → World → Prop} (hx : callPT E c ρ κ h) :
    Oper.wp σ.P ⟨dst, .call c, ty, pos, after, guard⟩ a w (Nx σ W0 κ a dst) Q := by
  have viaVal : ∀ (x : Operand) (v : Value) (args : Array Value), c.callee = .value x → a.eval x = v → c.args.map a.eval = args → CallsVal σ.P v args w (Post σ W0 κ) → Oper.wp σ.P ⟨dst, .call c, ty, pos, after, guard⟩ a w (Nx σ W0 κ a dst) Q := by
    intro x v args hc hv hargs ⟨g, as, hr, hcall⟩
    refine wp_calls (f := g) (as := as) ?_ hcall
    rw [run_ofValue (o := ⟨dst, .call c, ty, pos, after, guard⟩) rfl hc hv hargs]
    exact hr
  have hargs : ∀ {vs : List V}, c.args.toList.map a.eval = V.vals σ vs → c.args.map a.eval = (V.vals σ vs).toArray := by
    intro vs hvs; apply Array.ext'; simp [← hvs]
  unfold callPT at hx
  split at hx
  · rename_i g hc
    split at hx
    · rename_i gg hg
      replace hx := evL_vals ok f hx; obtain ⟨vs, hvs, wvs, hk⟩ := hx
      refine viaVal (.func g) (.func (.func (σ.fn gg)) #[] #[]) _ hc ?_ (hargs hvs) (ok.call gg vs κ h wvs hk w s)
      rw [ok.fnc _ _ hg]; rfl
    · exact hx.elim
  · rename_i x hnf hc
    replace hx := ev1_val ok f hx; obtain ⟨v, hv, wv, hx⟩ := hx
    replace hx := evL_vals ok f hx; obtain ⟨vs, hvs, wvs, hk⟩ := hx
    cases hu : E.isUnk x with
    | true => rw [hu] at hk; exact viaVal x _ _ hc hv (hargs hvs) (ok.callV v vs κ h wv wvs hk w s)
    | false =>
    rw [hu] at hk
    simp only [cond_false] at hk
    split at hk
    · rename_i g caps
      obtain ⟨hcaps, hk⟩ := chk_true hk
      have wcaps : ∀ v ∈ vs ++ caps, v.wf := by
        intro v hv
        rcases List.mem_append.1 hv with hv | hv
        · exact wvs v hv
        · have := List.all_eq_true.1 hcaps v hv
          cases v <;> first | exact V.wf_one rfl | exact absurd this Bool.false_ne_true | exact List.all_eq_true.1 this
      obtain ⟨ff, as, hr, hcall⟩ := ok.call g (vs ++ caps) κ h wcaps hk w s
      refine viaVal x _ _ hc hv (hargs hvs) ⟨ff, as, ?_, hcall⟩
      rw [← hr]
      simp [V.val, Deferred.ofValue, invoke, vals_map]
    · exact hk.elim
  · rename_i r m hc
    replace hx := ev1_val ok f hx; obtain ⟨v, hv, wv, hx⟩ := hx
    replace hx := evL_vals ok f hx; obtain ⟨vs, hvs, wvs, hk⟩ := hx
    obtain ⟨g, as, hr, hcall⟩ := ok.inv v m vs κ h wv wvs hk w s
    refine wp_calls (f := g) (as := as) ?_ hcall
    simp only [execOp, resolve, hc, hv, hargs hvs]
    simpa using hr
  · rename_i b hc
    replace hx := evL_vals ok f hx; obtain ⟨vs, hvs, wvs, hk⟩ := hx
    replace hk := builtinPT_sound (ty := ty) (cs := c.args.map fun | .const _ => true | _ => false) ok s wvs hk; obtain ⟨v, h', w', hr, wv, hs, hk⟩ := hk
    refine wp_val ?_ wv hs hk
    have e : execOp a.eval ⟨dst, .call c, ty, pos, after, guard⟩ = builtin b c.argTypes ty (c.args.map fun | .const _ => true | _ => false) (c.args.map a.eval) := by
      simp only [execOp, resolve, hc]
      rfl
    rw [e, hargs hvs]
    exact hr

theorem mapPutPT_sound (ok : EnvOK σ W0 E) (s : Sim σ W0 h w) {t : Nat} {v u r : V} (wr : r.wf) {κ : Heap → Prop} (hx : mapPutPT E t v u r κ h) :
    ∃ m h' w', v = .map m ∧ (Instr.mapUpdate t (V.val σ (.map m)) (V.val σ u) (V.val σ r)).run σ.P w = .ok () w' ∧ Sim σ W0 h' w' ∧ κ h' := by
  replace hx := withTI_ok ok hx; obtain ⟨i, k, hx⟩ := hx
  have hd := k.d
  split at hx
  · rename_i kt et m hi
    rw [hi] at hd
    have hd : σ.P.underlying t = some (.map kt et) := hd
    replace hx := withTI_ok ok hx; obtain ⟨ik, kk, hx⟩ := hx
    have hdk := kk.d
    split at hx
    · rename_i ks hik
      rw [hik] at hdk
      obtain ⟨hku, hx⟩ := chk_true hx
      obtain ⟨hnt, hx⟩ := chk_true hx
      obtain ⟨h', w', hrun, hs, hk⟩ := put_sound s hd hdk hku (V.wf_nt hnt wr) hx
      exact ⟨m, h', w', rfl, hrun, hs, hk⟩
    · exact hx.elim
  · exact hx.elim

theorem mapEntPT_sound (ok : EnvOK σ W0 E) (s : Sim σ W0 h w) {t : Nat} {v u : V} {κ : V → Heap → Prop} (hx : mapEntPT E t v u κ h) :
    ∃ m r h' w', v = .map m ∧ r.wf ∧ (Instr.mapEntry t (V.val σ (.map m)) (V.val σ u)).run σ.P w = .ok (V.val σ r) w' ∧ Sim σ W0 h' w' ∧ κ r h' := by
  replace hx := withTI_ok ok hx; obtain ⟨i, k, hx⟩ := hx
  have hd := k.d
  split at hx
  · rename_i kt et m hi
    rw [hi] at hd
    have hd : σ.P.underlying t = some (.map kt et) := hd
    replace hx := withTI_ok ok hx; obtain ⟨ik, kk, hx⟩ := hx
    replace hx := withTI_ok ok hx; obtain ⟨ie, ke, hx⟩ := hx
    have hdk := kk.d
    split at hx
    · rename_i ks hik
      rw [hik] at hdk
      obtain ⟨hku, hx⟩ := chk_true hx
      obtain ⟨r, b, h', w', hrw, hrun, hs, hk⟩ := ent_sound s hd hdk ke hku hx
      replace hk := asR_sound hk
      refine ⟨m, _, h', w', rfl, ?_, hrun, hs, hk⟩
      intro z hz
      simp only [List.mem_cons, List.not_mem_nil, or_false] at hz
      rcases hz with rfl | rfl
      · exact hrw
      · exact V.wf_one (v := .int .i64 b) rfl
    · exact hx.elim
  · exact hx.elim

theorem entPutPT_sound (s : Sim σ W0 h w) {t : Nat} {v b r : V} (wr : r.wf) {κ : Heap → Prop} (hx : entPutPT v b r κ h) :
    ∃ h' w', (Instr.entryStore t (V.val σ v) (V.val σ b) (V.val σ r)).run σ.P w = .ok () w' ∧ Sim σ W0 h' w' ∧ κ h' := by
  unfold entPutPT at hx
  split at hx
  · obtain ⟨hnt, hx⟩ := chk_true hx
    exact entPut_sound s (V.wf_nt hnt wr) hx
  · exact hx.elim

/-- The operations that neither call nor look at many kinds. -/
theorem opPT_sound (ok : EnvOK σ W0 E) (s : Sim σ W0 h w) (f : SimF σ E.n ρ a) {o : Oper} {κ : V → Heap → Prop} {Q : Exit → Act → World → Prop} (hx : opPT E o.op ρ κ h) :
    Oper.wp σ.P o a w (Nx σ W0 κ a o.dst) Q := by
  obtain ⟨dst, op, ty, pos, after, guard⟩ := o
  simp only at hx
  cases op with
  | move x =>
    replace hx := ev1_val ok f hx; obtain ⟨v, hv, wv, hk⟩ := hx
    exact wp_val (by simp [execOp, hv]) wv s hk
  | assign x =>
    replace hx := ev1_val ok f hx; obtain ⟨v, hv, wv, hk⟩ := hx
    exact wp_val (by simp [execOp, hv]) wv s hk
  | pick c x y =>
    replace hx := ev1_val ok f hx; obtain ⟨v, hv, wv, hx⟩ := hx
    split at hx
    · replace hx := ev1_val ok f hx; obtain ⟨u, hu, wu, hk⟩ := hx
      exact wp_val (by simp [execOp, hv, V.val, asBool, hu]) wu s hk
    · replace hx := ev1_val ok f hx; obtain ⟨u, hu, wu, hk⟩ := hx
      exact wp_val (by simp [execOp, hv, V.val, asBool, hu]) wu s hk
    · exact hx.elim
  | alloc t =>
    replace hx := withTI_ok ok hx; obtain ⟨i, k, hx⟩ := hx
    obtain ⟨z, hz, hzc⟩ := run_zero_cells k
    obtain ⟨hs, hk⟩ := al_sound s (e := t) (c := z.cells) k.zone hx (by rw [hzc])
    exact wp_val (v := .ptr (some ⟨2 * w.heap.size, 0⟩)) (by simp [execOp, Instr.alloc, hz, run_newVar, V.val, addr_vb]) (wf_ptr _) hs hk
  | box t x =>
    replace hx := ev1_val ok f hx; obtain ⟨v, hv, wv, hx⟩ := hx
    replace hx := withTI_ok ok hx; obtain ⟨i, k, hx⟩ := hx
    replace hx := cellsT_sound k wv hx; obtain ⟨cs, hcs, h1, hl, hx⟩ := hx
    obtain ⟨hs, hk⟩ := al_sound s (e := t) (c := (V.val σ v).cells) h1 hx hcs
    exact wp_val (v := .ptr (some ⟨2 * w.heap.size, 0⟩)) (by simp [execOp, Instr.box, hv, run_newVar, V.val, addr_vb]) (wf_ptr _) hs hk
  | build t parts =>
    replace hx := buildPT_sound (w := w) (parts := parts) (κ := fun v => κ v h) ok f hx; obtain ⟨v, hr, wv, hk⟩ := hx
    exact wp_val (by simp [execOp]; simpa using congrArg (fun r => r.andThen fun a w' => Result.ok (Next.value a) w') hr) wv s hk
  | buildSlice t len parts =>
    replace hx := withTI_ok ok hx; obtain ⟨i, k, hx⟩ := hx
    have hd := k.d
    split at hx
    · rename_i e hi
      rw [hi] at hd
      replace hx := withTI_ok ok hx; obtain ⟨j, kj, hx⟩ := hx
      replace hx := chk_true hx; obtain ⟨hb, hx⟩ := hx
      simp only [Bool.and_eq_true] at hb
      replace hx := buildSlice_sound (parts := parts) (κ := fun s h => κ (.sl s) h) ok s f hd kj (Nat.le_of_ble_eq_true hb.1) (by simpa using hb.2) hx; obtain ⟨r, h', w', hr, hs, hk⟩ := hx
      exact wp_val (by simp [execOp]; simpa using congrArg (fun r => r.andThen fun a w' => Result.ok (Next.value a) w') hr) (wf_sl _) hs hk
    · exact hx.elim
  | load t x =>
    replace hx := ev1_val ok f hx; obtain ⟨v, hv, wv, hx⟩ := hx
    replace hx := withTI_ok ok hx; obtain ⟨i, k, hx⟩ := hx
    split at hx
    · rename_i p
      replace hx := rdT_sound s k hx; obtain ⟨u, hr, wu, hk⟩ := hx
      exact wp_val (by simp [execOp, hv, V.val, Instr.loadAt, Instr.sureAddr, hr]) wu s hk
    · exact hx.elim
  | store t x y =>
    replace hx := ev1_val ok f hx; obtain ⟨v, hv, wv, hx⟩ := hx
    replace hx := ev1_val ok f hx; obtain ⟨u, hu, wu, hx⟩ := hx
    replace hx := withTI_ok ok hx; obtain ⟨i, k, hx⟩ := hx
    split at hx
    · rename_i p
      have fin : u.wf1 → u.cells.length = i.size → wrL u.cells p 0 (fun h => κ (.tup []) h) h → Oper.wp σ.P ⟨dst, .store t x y, ty, pos, after, guard⟩ a w (Nx σ W0 κ a dst) Q := by
        intro w1 hl hx
        replace hx := storeVar_sound s k hl w1 hx; obtain ⟨h', w', hr, hs, hk⟩ := hx
        exact wp_skip' (by simp [execOp, hv, hu, V.val, Instr.storeAt, Instr.sureAddr, hr]) hs hk
      split at hx
      · rename_i sh hsh
        replace hx := chk_true hx; obtain ⟨h1, hx⟩ := hx
        have hc := V.one_cells h1
        refine fin (by intro z hz; rw [hc] at hz; simp at hz; subst hz; exact h1) (by rw [hc, k.one (by rw [TD.sh_one, hsh]; rfl)]; rfl) ?_
        rw [hc]
        exact hx
      · rename_i hsh
        simp only [cellsT, hsh] at hx
        · split at hx
          · replace hx := chk_true hx; obtain ⟨hn, hx⟩ := hx
            exact fin wu (Nat.eq_of_beq_eq_true hn) hx
          · exact fin wu hx.1 hx.2
          · exact hx.elim
    · exact hx.elim
  | nilCheck x =>
    replace hx := ev1_val ok f hx; obtain ⟨v, hv, wv, hx⟩ := hx
    unfold nilCU at hx
    split at hx
    · rename_i m u
      obtain ⟨ha, hk⟩ := chk_true hx
      obtain ⟨t', u', rfl, hr⟩ := ok.ahead _ _ ha
      exact wp_val (v := .mth m (.iface t' u')) (by simp [execOp, hv, V.val, hr]) wv s hk
    unfold nilC at hx
    split at hx
    · replace hx := der_sound hx; obtain ⟨p, rfl, hk⟩ := hx
      exact wp_val (v := .ptr (some p)) (by simp [execOp, hv, V.val]) (wf_ptr _) s hk
    · exact wp_val (by simp [execOp, hv, V.val]) wv s hx
    · exact wp_val (by simp [execOp, hv, V.val]) wv s hx
    · exact wp_val (by simp [execOp, hv, V.val]) wv s hx
    · exact wp_val (by simp [execOp, hv, V.val]) wv s hx
    · exact hx.elim
  | binOp op t x y yt =>
    replace hx := ev1_val ok f hx; obtain ⟨v, hv, wv, hx⟩ := hx
    replace hx := ev1_val ok f hx; obtain ⟨u, hu, wu, hx⟩ := hx
    replace hx := binPT_sound (xo := x) ok s hx; obtain ⟨r, hr, wr, hk⟩ := hx
    exact wp_val (by rw [← hv, ← hu] at hr; simp only [execOp]; simp only [Sem.run_bind] at hr ⊢; rw [hr]; rfl) wr s hk
  | unOp op t x =>
    replace hx := ev1_val ok f hx; obtain ⟨v, hv, wv, hx⟩ := hx
    unfold unPT at hx
    split at hx
    · exact wp_val (by simp [execOp, hv, V.val, Op.unary, Op.intArith]) (wf_int _ _) s hx
    · exact wp_val (by simp only [execOp, hv, V.val, Op.unary, Op.intBits, Sem.run_bind, Sem.run_pure, Result.andThen_ok]; rfl) (wf_int _ _) s hx
    · exact wp_val (by simp [execOp, hv, V.val, Op.unary]) (wf_bool _) s hx
    · exact hx.elim
  | convert sT dT x =>
    replace hx := ev1_val ok f hx; obtain ⟨v, hv, wv, hx⟩ := hx
    replace hx := convPT_sound ok s hx; obtain ⟨u, h', w', hr, wu, hs, hk⟩ := hx
    exact wp_val (by simp [execOp, hv, hr]) wu hs hk
  | makeInterface t x =>
    replace hx := ev1_val ok f hx; obtain ⟨v, hv, wv, hx⟩ := hx
    replace hx := withTI_ok ok hx; obtain ⟨i, k, hx⟩ := hx
    obtain ⟨d, hu, _⟩ := k.under
    have hd := k.d
    split at hx
    · exact hx.elim
    · rename_i u ht hne
      have hni : ∀ ms, d ≠ .interface ms := by
        intro ms hms
        subst hms
        cases hi : i.d with
        | iface => exact hne hi
        | leaf sh => rw [hi] at hd; cases sh <;> simp only [TDok, hu] at hd <;> first | exact hd.elim | (cases hd; done) | (obtain ⟨_, _, _, hd, _⟩ := hd; cases hd)
        | func => rw [hi] at hd; obtain ⟨_, _, _, hd⟩ := hd; rw [hu] at hd; cases hd
        | struct fs => rw [hi] at hd; obtain ⟨_, hd, _⟩ := hd; rw [hu] at hd; cases hd
        | _ => rw [hi] at hd; simp only [TDok, hu] at hd; cases hd
      refine wp_val (v := .iface u v) ?_ (V.wf_one rfl) s hx
      have : (Instr.makeInterface t (V.val σ v)).run σ.P w = .ok (.iface t (V.val σ v)) w := by
        unfold Instr.makeInterface
        simp only [Sem.run_bind, run_under hu, Result.andThen_ok]
        cases d <;> first | rfl | exact absurd rfl (hni _)
      simp [execOp, hv, V.val, ok.tyc _ _ ht, this]
    · exact hx.elim
  | makeFunc fn first caps =>
    cases fn with
    | func g =>
      simp only [opPT] at hx
      split at hx
      · rename_i gg hfirst hg
        replace hx := evL_vals ok f hx; obtain ⟨vs, hvs, wvs, hk⟩ := hx
        have h0 : first = #[] := by apply Array.ext'; simpa using hfirst
        have hc : caps.map a.eval = (V.vals σ vs).toArray := by apply Array.ext'; simp [← hvs]
        exact wp_val (v := .fn gg vs) (by simp [execOp, Instr.makeFunc, h0, hc, V.val, ok.fnc _ _ hg]) (V.wf_one rfl) s hk
      · exact hx.elim
    | method m =>
      simp only [opPT] at hx
      split at hx
      · rename_i x hfirst hcaps
        replace hx := ev1_val ok f hx; obtain ⟨v, hv, wv, hx⟩ := hx
        have h0 : first = #[x] := by apply Array.ext'; simpa using hfirst
        have hc : caps = #[] := by apply Array.ext'; simpa using hcaps
        unfold mthC at hx
        split at hx
        · rename_i tt uu
          exact wp_val (v := .mth m (.iface tt uu)) (by simp [execOp, Instr.makeFunc, h0, hc, V.val, hv]) (V.wf_one rfl) s hx
        · exact hx.elim
      · exact hx.elim
    | _ => exact hx.elim
  | makeSlice t x y =>
    replace hx := ev1_val ok f hx; obtain ⟨v, hv, wv, hx⟩ := hx
    replace hx := ev1_val ok f hx; obtain ⟨u, hu, wu, hx⟩ := hx
    replace hx := withTI_ok ok hx; obtain ⟨i, k, hx⟩ := hx
    have hd := k.d
    split at hx
    · rename_i e k1 len k2 cap hi
      rw [hi] at hd
      replace hx := withTI_ok ok hx; obtain ⟨j, kj, hx⟩ := hx
      cases hz : Nat.beq j.size 0 with
      | true => rw [hz] at hx; exact hx.elim
      | false =>
        rw [hz] at hx
        have h0 : 0 < j.size := by rcases Nat.eq_zero_or_pos j.size with h | h; (rw [h] at hz; cases hz); exact h
        replace hx := run_makeSlice (kl := k1) (kc := k2) (κ := fun s h => κ (.sl s) h) s hd kj h0 hx; obtain ⟨r, h', w', hr, hs, hk⟩ := hx
        exact wp_val (by simp [execOp, hv, hu, V.val, hr]) (wf_sl _) hs hk
    · exact hx.elim
  | slice t x lo hi mx =>
    replace hx := ev1_val ok f hx; obtain ⟨v, hv, wv, hx⟩ := hx
    replace hx := evO_val ok f hx; obtain ⟨lo', hlo, hx⟩ := hx
    replace hx := evO_val ok f hx; obtain ⟨hi', hhi, hx⟩ := hx
    replace hx := evO_val ok f hx; obtain ⟨mx', hmx, hx⟩ := hx
    replace hx := slicePT_sound ok hx; obtain ⟨r, hr, wr, hk⟩ := hx
    exact wp_val (by simp [execOp, hv, hlo, hhi, hmx, hr]) wr s hk
  | fieldAddr t x fi =>
    replace hx := ev1_val ok f hx; obtain ⟨v, hv, wv, hx⟩ := hx
    split at hx
    · rename_i p
      replace hx := fieldOf_sound ok hx; obtain ⟨fields, fd, j, hu, hfd, kj, hx⟩ := hx
      cases hz : Nat.beq j.size 0 with
      | true => rw [hz] at hx; exact hx.elim
      | false =>
        rw [hz] at hx
        have h0 : ¬ j.size = 0 := by intro h; rw [h] at hz; cases hz
        exact wp_val (v := .ptr (some (p.add fd.offset))) (by simp [execOp, hv, V.val, Instr.fieldAt, run_under hu, hfd, Instr.sureAddr, fieldPlace, kj.size, h0, addr_add]) (wf_ptr _) s hx
    · exact hx.elim
  | field t x fi =>
    replace hx := ev1_val ok f hx; obtain ⟨v, hv, wv, hx⟩ := hx
    replace hx := fieldOf_sound ok hx; obtain ⟨fields, fd, j, hu, hfd, kj, hx⟩ := hx
    replace hx := partT_sound kj wv hx; obtain ⟨cs, u, hcs, hr, wu, hk⟩ := hx
    exact wp_val (by simp [execOp, hv, hcs, Instr.field, run_under hu, hfd, asAgg, hr]) wu s hk
  | indexAddr t x y =>
    replace hx := ev1_val ok f hx; obtain ⟨v, hv, wv, hx⟩ := hx
    replace hx := ev1_val ok f hx; obtain ⟨u, hu, wu, hx⟩ := hx
    replace hx := withTI_ok ok hx; obtain ⟨i, k, hx⟩ := hx
    have hd := k.d
    split at hx
    · rename_i e sl kk n hi
      rw [hi] at hd
      have hd : σ.P.underlying t = some (.slice e) := hd
      replace hx := withTI_ok ok hx; obtain ⟨j, kj, hx⟩ := hx
      obtain ⟨h0, h1, hx⟩ := hx
      replace hx := der_sound hx; obtain ⟨p, hp, hk⟩ := hx
      exact wp_val (v := .ptr (some (p.add (n.toNat * j.size)))) (by simp [execOp, hv, hu, V.val, Instr.indexAt, asIntOf, run_under hd, hp, h0, h1, kj.size, addr_add]) (wf_ptr _) s hk
    · rename_i len e p kk n hi
      rw [hi] at hd
      have hd : σ.P.underlying t = some (.array len e) := hd
      replace hx := withTI_ok ok hx; obtain ⟨j, kj, hx⟩ := hx
      obtain ⟨h0, h1, hk⟩ := hx
      exact wp_val (v := .ptr (some (p.add (n.toNat * j.size)))) (by simp [execOp, hv, hu, V.val, Instr.indexAt, asIntOf, run_under hd, Instr.sureAddr, h0, h1, kj.size, addr_add]) (wf_ptr _) s hk
    · exact hx.elim
  | index t x y =>
    replace hx := ev1_val ok f hx; obtain ⟨v, hv, wv, hx⟩ := hx
    replace hx := ev1_val ok f hx; obtain ⟨u, hu, wu, hx⟩ := hx
    replace hx := withTI_ok ok hx; obtain ⟨i, k, hx⟩ := hx
    have hd := k.d
    split at hx
    · rename_i st kk n hi
      rw [hi] at hd
      have hd : σ.P.underlying t = some .string := hd
      obtain ⟨h0, h1, hk⟩ := hx
      refine wp_val (v := .int .u8 (st.getD n.toNat 0).toNat) ?_ (wf_int _ _) s hk
      have hlt : n.toNat < st.length := by omega
      have hb : (ByteArray.mk st.toArray)[n.toNat]? = some st[n.toNat] := by
        rw [getElem?_pos _ _ (by rw [ba_size]; exact hlt)]
        rfl
      simp [execOp, hv, hu, V.val, Instr.index, asIntOf, run_under hd, h0, hb, hlt]
    · rename_i len e kk n hi
      rw [hi] at hd
      have hd : σ.P.underlying t = some (.array len e) := hd
      replace hx := withTI_ok ok hx; obtain ⟨j, kj, hx⟩ := hx
      obtain ⟨h0, h1, hx⟩ := hx
      replace hx := partT_sound kj (ofAg_wf wv) hx; obtain ⟨cs, r, hcs, hr, wr, hk⟩ := hx
      rw [ofAg_val] at hcs
      exact wp_val (by simp [execOp, hv, hu, hcs, V.val, Instr.index, asIntOf, run_under hd, h0, h1, kj.size, hr]) wr s hk
    · exact hx.elim
  | extract x n =>
    replace hx := ev1_val ok f hx; obtain ⟨v, hv, wv, hx⟩ := hx
    split at hx
    · rename_i vs
      split at hx
      · rename_i u hu
        exact wp_val (v := u) (by simp [execOp, hv, V.val, Instr.extract, vals_map, hu]) (by
          have := wv u (List.mem_of_getElem? hu)
          cases u <;> first | exact this | skip
          rename_i us
          exact absurd (this (.tup us) (by simp [V.cells])) (by simp [V.one])) s hx
      · exact hx.elim
    · exact hx.elim
  | call c => exact callPT_sound ok s f hx
  | makeMap t r =>
    cases r with
    | some r => exact hx.elim
    | none =>
      replace hx := withTI_ok ok hx; obtain ⟨i, k, hx⟩ := hx
      split at hx
      · replace hx := withTI_ok ok hx; obtain ⟨ik, kk, hx⟩ := hx
        split at hx
        · obtain ⟨h', w', b, hr, hs, hk⟩ := makeMap_sound (t := t) (κ := fun b h => κ (.map (some b)) h) s hx
          exact wp_val (by simp [execOp, hr]) (V.wf_one rfl) hs hk
        · exact hx.elim
      · exact hx.elim
  | makeChan t x =>
    replace hx := ev1_val ok f hx; obtain ⟨v, hv, wv, hx⟩ := hx
    replace hx := withTI_ok ok hx; obtain ⟨i, k, hx⟩ := hx
    have hd := k.d
    split at hx
    · rename_i n hi
      rw [hi] at hd
      obtain ⟨di, et, info, hd, hif, hb⟩ : ∃ d e info, σ.P.underlying t = some (.chan d e) ∧ σ.P.info? e = some info ∧ info.bytes ≤ 65536 := hd
      obtain ⟨hn, hx⟩ := chk_true hx
      simp only [Bool.and_eq_true, decide_eq_true_eq] at hn
      obtain ⟨h', w', b, hr, hs, hk⟩ := alC_sound (t := t) (κ := fun b h => κ (.chan (some b)) h) s hd hif hb hn.1 hn.2 hx
      exact wp_val (by simp [execOp, hv]; rw [show V.val σ (.int .i64 n) = .int .i64 n from rfl, hr]; rfl) (V.wf_one rfl) hs hk
    · exact hx.elim
  | lookup t x y c =>
    replace hx := ev1_val ok f hx; obtain ⟨v, hv, wv, hx⟩ := hx
    replace hx := ev1_val ok f hx; obtain ⟨u, hu, wu, hx⟩ := hx
    replace hx := withTI_ok ok hx; obtain ⟨i, k, hx⟩ := hx
    have hd := k.d
    split at hx
    · rename_i kt et m hi
      rw [hi] at hd
      have hd : σ.P.underlying t = some (.map kt et) := hd
      replace hx := withTI_ok ok hx; obtain ⟨ik, kk, hx⟩ := hx
      replace hx := withTI_ok ok hx; obtain ⟨ie, ke, hx⟩ := hx
      have hdk := kk.d
      split at hx
      · rename_i ks hik
        rw [hik] at hdk
        obtain ⟨hku, hx⟩ := chk_true hx
        obtain ⟨o, hw, hr, hk⟩ := lookup_sound s hd hdk ke hku hx
        have hk := asR_sound hk
        refine wp_val (by simp [execOp, hv, hu, hr c]) ?_ s hk
        cases c
        · exact V.wf1_wf hw
        · intro z hz
          simp only [List.mem_cons, List.not_mem_nil, or_false] at hz
          rcases hz with rfl | rfl
          · exact hw
          · exact V.wf_one (v := .bool o.isSome) rfl
      · exact hx.elim
    · exact hx.elim
  | range t x =>
    replace hx := ev1_val ok f hx; obtain ⟨v, hv, wv, hx⟩ := hx
    replace hx := withTI_ok ok hx; obtain ⟨i, k, hx⟩ := hx
    have hd := k.d
    split at hx
    · rename_i kt et m hi
      rw [hi] at hd
      have hd : σ.P.underlying t = some (.map kt et) := hd
      obtain ⟨h', w', b, hr, hs, hk⟩ := range_sound s hd hx
      exact wp_val (by simp [execOp, hv, hr]) (wf_ptr _) hs hk
    · rename_i l hi
      rw [hi] at hd
      have hd : σ.P.underlying t = some .string := hd
      obtain ⟨h', w', b, hr, hs, hk⟩ := rangeS_sound s hd hx
      exact wp_val (by simp [execOp, hv, hr]) (wf_ptr _) hs hk
    · exact hx.elim
  | next x str =>
    cases str with
    | true =>
      replace hx := ev1_val ok f hx; obtain ⟨v, hv, wv, hx⟩ := hx
      split at hx
      · rename_i p
        obtain ⟨h0, hx⟩ := hx
        obtain ⟨b, o⟩ := p
        simp only at h0; subst h0
        obtain ⟨u, h', w', hr, wu, hs, hk⟩ := nextS_sound (ty := ty) s hx
        exact wp_val (by simp [execOp, hv, hr]) wu hs hk
      · exact hx.elim
    | false =>
      replace hx := ev1_val ok f hx; obtain ⟨v, hv, wv, hx⟩ := hx
      split at hx
      · rename_i p
        obtain ⟨h0, hx⟩ := hx
        obtain ⟨b, o⟩ := p
        simp only at h0; subst h0
        obtain ⟨u, h', w', hr, wu, hs, hk⟩ := next_sound (ty := ty) s hx
        exact wp_val (by simp [execOp, hv, hr]) wu hs hk
      · exact hx.elim
  | entry x =>
    replace hx := ev1_val ok f hx; obtain ⟨v, hv, wv, hx⟩ := hx
    split at hx
    · rename_i p
      obtain ⟨h0, hx⟩ := hx
      obtain ⟨b, o⟩ := p
      simp only at h0; subst h0
      obtain ⟨k, u, hr, wu, hk⟩ := entry_sound s hx
      exact wp_val (by simp [execOp, hv, hr]) wu s hk
    · exact hx.elim
  | mapUpdate t x y z =>
    replace hx := ev1_val ok f hx; obtain ⟨v, hv, wv, hx⟩ := hx
    replace hx := ev1_val ok f hx; obtain ⟨u, hu, wu, hx⟩ := hx
    replace hx := ev1_val ok f hx; obtain ⟨r, hr, wr, hx⟩ := hx
    obtain ⟨m, h', w', hvm, hrun, hs, hk⟩ := mapPutPT_sound ok s wr hx
    subst hvm
    exact wp_skip' (by simp [execOp, hv, hu, hr, hrun]) hs hk
  | mapEntry t x y =>
    replace hx := ev1_val ok f hx; obtain ⟨v, hv, wv, hx⟩ := hx
    replace hx := ev1_val ok f hx; obtain ⟨u, hu, wu, hx⟩ := hx
    obtain ⟨m, r, h', w', hvm, wr, hrun, hs, hk⟩ := mapEntPT_sound ok s hx
    subst hvm
    exact wp_val (by simp [execOp, hv, hu, hrun]) wr hs hk
  | entryStore t x b y =>
    replace hx := ev1_val ok f hx; obtain ⟨v, hv, wv, hx⟩ := hx
    replace hx := ev1_val ok f hx; obtain ⟨u, hu, wu, hx⟩ := hx
    replace hx := ev1_val ok f hx; obtain ⟨r, hr, wr, hx⟩ := hx
    obtain ⟨h', w', hrun, hs, hk⟩ := entPutPT_sound s (t := t) wr hx
    exact wp_skip' (by simp [execOp, hv, hu, hr, hrun]) hs hk
  | insert t x y z =>
    replace hx := ev1_val ok f hx; obtain ⟨v, hv, wv, hx⟩ := hx
    replace hx := ev1_val ok f hx; obtain ⟨u, hu, wu, hx⟩ := hx
    replace hx := ev1_val ok f hx; obtain ⟨r, hr, wr, hx⟩ := hx
    obtain ⟨m, h', w', hvm, hrun, hs, hk⟩ := mapPutPT_sound ok s wr hx
    subst hvm
    exact wp_skip' (by simp [execOp, hv, hu, hr, hrun]) hs hk
  | _ => exact hx.elim

end
end Go.Lift
