/- Building structs and slices, copying, conversions between strings and bytes. -/
import Derived.Test.YtgigbjieppllgaaDoorLiftG
namespace Go.Lift
open Go.RowKit

section
variable {σ : Seat} {W0 : World} {h : Heap} {w : World} {E : Env} {ρ : Fr} {a : Act}

theorem copy_sound (s : Sim σ W0 h w) {t u ty e : Nat} {j : TI} (ht : σ.P.underlying t = some (.slice e)) (kj : TIok σ.P e j)
    {d : Sl} {xv : Value} {m : Nat} {cs : List V} (hlen : ∀ w, (Builtin.lenOf xv).run σ.P w = .ok m w)
    (hnew : ∀ n, n ≤ m → (Builtin.firstCells j.size n xv).run σ.P w = .ok (V.vals σ (cs.take (n * j.size))).toArray w) (hone : ∀ v ∈ cs, v.one = true) {κ : Int → Heap → Prop}
    (hx : copyS j.size d cs m κ h) :
    ∃ r h' w', (Builtin.copy_ #[t, u] ty #[V.val σ (.sl d), xv]).run σ.P w = .ok (.int .i64 r) w' ∧ Sim σ W0 h' w' ∧ κ r h' := by
  unfold copyS at hx
  have hn := hnew (min m d.len) (Nat.min_le_left _ _)
  cases hp : d.p with
  | none =>
    rw [hp] at hx
    obtain ⟨h0, hk⟩ := hx
    refine ⟨0, h, w, ?_, s, hk⟩
    rw [h0] at hn
    simp only [Nat.min_zero] at hn
    simp [Builtin.copy_, V.val, hp, run_under ht, kj.size, hlen, h0, hn, goInt]
  | some p =>
    rw [hp] at hx
    obtain ⟨h', w', hr, hs, hk⟩ := wrL_sound s (fun v hv => hone v (List.mem_of_mem_take hv)) hx
    refine ⟨_, h', w', ?_, hs, hk⟩
    simp [Builtin.copy_, V.val, hp, run_under ht, kj.size, hlen, hn, goInt, hr]

theorem run_makeSlice (s : Sim σ W0 h w) {t e : Nat} {j : TI} (ht : σ.P.underlying t = some (.slice e)) (kj : TIok σ.P e j) (hsz : 0 < j.size) {kl kc : IntKind} {len cap : Int} {κ : Sl → Heap → Prop} (hx : mkSl j.bytes j.zero len cap κ h) :
    ∃ r h' w', (Instr.makeSlice t (.int kl len) (.int kc cap)).run σ.P w = .ok (V.val σ (.sl r)) w' ∧ Sim σ W0 h' w' ∧ κ r h' := by
  obtain ⟨h0, hlc, hmax, hby, hx⟩ := hx
  obtain ⟨info, hi, hisz, hiby, z, hiz, hzc⟩ := kj.info
  have hti : ∀ w, (typeInfo e).run σ.P w = .ok info w := by intro w'; simp [typeInfo, hi]
  have hzv : ∀ w, (zeroValue e).run σ.P w = .ok z w := by intro w'; simp [zeroValue, hti, hiz]
  have hzs : z.cells.size = j.size := by rw [← Array.length_toList, hzc σ, vals_map, List.length_map, kj.zlen]
  have w1 : IntKind.i64.wrap len = len := by simp [IntKind.wrap, IntKind.bits, IntKind.signed]; omega
  have w2 : IntKind.i64.wrap cap = cap := by simp [IntKind.wrap, IntKind.bits, IntKind.signed]; omega
  have hby' : ¬ (281474976710656 < (info.bytes : Int) * cap) := by rw [hiby]; omega
  have hc0 : ¬ cap < 0 := by omega
  have hl0 : ¬ len < 0 := by omega
  have hlc' : ¬ cap < len := by omega
  obtain ⟨hs, hk⟩ := al_sound s (e := e) (c := (Array.range (cap.toNat * j.size)).map fun i => (if cap.toNat * j.size = 0 then #[] else z.cells)[i % (if cap.toNat * j.size = 0 then #[] else z.cells).size]!) (one_flatRep kj.zone) hx (by
    by_cases hn : cap.toNat * j.size = 0
    · have : cap.toNat = 0 := by rcases Nat.mul_eq_zero.1 hn with h | h <;> omega
      simp [this, flatRep, V.vals]
    · simp only [hn, if_false]
      rw [← hzs, arr_range_mod _ (by omega), vals_flatRep, hzc σ])
  refine ⟨_, _, _, ?_, hs, hk⟩
  by_cases hn : cap.toNat * j.size = 0 <;>
    simp [Instr.makeSlice, run_under ht, asInt, asIntOf, hti, w1, w2, hby', hc0, hl0, hlc', kj.size, hzv, hn, newRow, V.val, addr_vb]

theorem cellsT_sound {t : Nat} {i : TI} (k : TIok σ.P t i) {v : V} (wv : v.wf) {κ : List V → Prop} (hx : cellsT i v κ) : ∃ cs, (v.val σ).cells.toList = V.vals σ cs ∧ (∀ u ∈ cs, u.one = true) ∧ cs.length = i.size ∧ κ cs := by
  have key : ∀ cs, v.cells = cs → (∀ u ∈ cs, u.one = true) → cs.length = i.size → κ cs → ∃ cs, (v.val σ).cells.toList = V.vals σ cs ∧ (∀ u ∈ cs, u.one = true) ∧ cs.length = i.size ∧ κ cs :=
    fun cs e h1 hl hk => ⟨cs, by rw [vals_cells, e], h1, hl, hk⟩
  unfold cellsT at hx
  split at hx
  · rename_i sh hs
    cases ho : v.one with
    | false => rw [ho] at hx; exact hx.elim
    | true =>
      rw [ho] at hx
      exact key [v] (V.one_cells ho) (by simpa using ho) (by simp [k.one (by rw [TD.sh_one, hs]; rfl)]) hx
  · split at hx
    · rename_i cs
      cases hn : Nat.beq cs.length i.size with
      | false => rw [hn] at hx; exact hx.elim
      | true => rw [hn] at hx; exact key cs rfl wv (Nat.eq_of_beq_eq_true hn) hx
    · rename_i cs
      exact key cs rfl wv hx.1 hx.2
    · exact hx.elim

theorem putCells_foldl (off : Nat) : ∀ (vs : List V) (k : Nat) (l : List V), ((V.vals σ vs).zipIdx k).foldl (fun (cs : Array Value) (p : Value × Nat) => cs.setIfInBounds (off + p.2) p.1) (V.vals σ l).toArray = (V.vals σ (putCells l (off + k) vs)).toArray := by
  intro vs
  induction vs with
  | nil => intro k l; rfl
  | cons v vs ih =>
    intro k l
    simp only [V.vals, List.zipIdx_cons, List.foldl_cons, putCells]
    have : (V.vals σ l).toArray.setIfInBounds (off + k) (V.val σ v) = (V.vals σ (l.set (off + k) v)).toArray := by
      apply Array.ext'
      simp [vals_map, List.map_set]
    rw [this, ih (k + 1)]
    rfl

theorem putCells_length : ∀ (vs : List V) (o : Nat) (l : List V), (putCells l o vs).length = l.length := by
  intro vs
  induction vs with
  | nil => intro o l; rfl
  | cons v vs ih => intro o l; simp [putCells, ih]

theorem putCells_one : ∀ (vs : List V) (o : Nat) (l : List V), (∀ u ∈ l, u.one = true) → (∀ u ∈ vs, u.one = true) → ∀ u ∈ putCells l o vs, u.one = true := by
  intro vs
  induction vs with
  | nil => intro o l h1 _; exact h1
  | cons v vs ih =>
    intro o l h1 h2
    refine ih _ _ ?_ (fun u hu => h2 u (by simp [hu]))
    intro u hu
    rcases List.mem_or_eq_of_mem_set hu with hu | rfl
    · exact h1 u hu
    · exact h2 _ (by simp)

theorem chk_true {b : Bool} {A : Prop} (hx : chk b A) : b = true ∧ A := by
  cases b
  · exact hx.elim
  · exact ⟨rfl, hx⟩

theorem fillPT_sound (ok : EnvOK σ W0 E) (f : SimF σ E.n ρ a) {place : Nat → Option (Nat × TI)} {mplace : Nat → Option (Nat × Nat)} (hpl : ∀ i off ti, place i = some (off, ti) → ∃ t, TIok σ.P t ti ∧ mplace i = some (off, ti.size)) :
    ∀ {ps : List (Nat × Operand)} {cs : List V} {κ : List V → Prop}, (∀ u ∈ cs, u.one = true) → fillPT E place ρ ps cs κ →
    ∃ cs', Instr.fill mplace (V.vals σ cs).toArray (ps.map fun (i, x) => (i, a.eval x)) = some (V.vals σ cs').toArray ∧ (∀ u ∈ cs', u.one = true) ∧ cs'.length = cs.length ∧ κ cs' := by
  intro ps
  induction ps with
  | nil => intro cs κ h1 hx; exact ⟨cs, rfl, h1, rfl, hx⟩
  | cons p ps ih =>
    intro cs κ h1 hx
    obtain ⟨i, x⟩ := p
    obtain ⟨v, hv, wv, hx⟩ := ev1_val ok f hx
    split at hx
    · rename_i off ti hp
      obtain ⟨t, kt, hm⟩ := hpl _ _ _ hp
      obtain ⟨hle, hx⟩ := chk_true hx
      obtain ⟨vs, hvs, h1', hl, hx⟩ := cellsT_sound kt wv hx
      obtain ⟨cs', hr, h1'', hl', hk⟩ := ih (putCells_one vs off cs h1 h1') hx
      refine ⟨cs', ?_, h1'', by rw [hl', putCells_length], hk⟩
      have hle := Nat.le_of_ble_eq_true hle
      have hcz : (a.eval x).cells.size = ti.size := by rw [hv, ← Array.length_toList, hvs, vals_map, List.length_map, hl]
      simp only [List.map_cons, Instr.fill, hm]
      rw [if_neg]
      · have hz : (a.eval x).cells.zipIdx.foldl (fun (cs : Array Value) (p : Value × Nat) => cs.setIfInBounds (off + p.2) p.1) (V.vals σ cs).toArray = (V.vals σ (putCells cs off vs)).toArray := by
          rw [← Array.foldl_toList, Array.toList_zipIdx, hv, hvs]
          exact putCells_foldl off vs 0 cs
        rw [← hr]
        exact congrArg (fun z => Instr.fill mplace z _) hz
      · rw [hcz]
        simp [vals_map]
        omega
    · exact hx.elim

theorem fieldTIs_sound (ok : EnvOK σ W0 E) : ∀ {fields : List Field} {fs : List (Nat × Nat)} {κ : List (Nat × TI) → Prop}, fields.map (fun f => (f.offset, f.type)) = fs → fieldTIs E fs κ →
    ∃ ps : List (Nat × TI), (∀ (j off : Nat) (ti : TI), ps[j]? = some (off, ti) → ∃ t, TIok σ.P t ti) ∧ (fields.mapM (fun f => Prod.mk f.offset <$> sizeOf f.type : Field → Sem (Nat × Nat))).run σ.P w = .ok (ps.map fun p => (p.1, p.2.size)) w ∧ κ ps := by
  intro fields
  induction fields with
  | nil => intro fs κ hf hx; simp at hf; subst hf; exact ⟨[], by simp, rfl, hx⟩
  | cons f fields ih =>
    intro fs κ hf hx
    simp at hf; subst hf
    obtain ⟨i, k, hx⟩ := withTI_ok ok hx
    obtain ⟨ps, hps, hr, hk⟩ := ih rfl hx
    refine ⟨(f.offset, i) :: ps, ?_, ?_, hk⟩
    · intro j off ti hj
      cases j with
      | zero => simp at hj; obtain ⟨rfl, rfl⟩ := hj; exact ⟨_, k⟩
      | succ j => exact hps j off ti (by simpa using hj)
    · simp [List.mapM_cons, k.size, hr]

theorem run_zero_cells {t : Nat} {i : TI} (k : TIok σ.P t i) : ∃ z, (∀ w, (zeroValue t).run σ.P w = .ok z w) ∧ z.cells = (V.vals σ i.zero).toArray := by
  obtain ⟨info, hi, _, _, z, hz, hc⟩ := k.info
  exact ⟨z, fun w => by simp [zeroValue, typeInfo, hi, hz], by rw [← hc σ]⟩

theorem buildPT_sound (ok : EnvOK σ W0 E) (f : SimF σ E.n ρ a) {t : Nat} {parts : Array (Nat × Operand)} {κ : V → Prop} (hx : buildPT E t parts.toList ρ κ) :
    ∃ v, (Instr.build t (parts.map fun (i, x) => (i, a.eval x))).run σ.P w = .ok (V.val σ v) w ∧ v.wf ∧ κ v := by
  obtain ⟨i, k, hx⟩ := withTI_ok ok hx
  have hd := k.d
  obtain ⟨z, hz, hzc⟩ := run_zero_cells k
  have fin : ∀ cs : List V, (∀ u ∈ cs, u.one = true) → κ (bif small i.size then .agg cs else .ago cs) → ∃ v : V, V.val σ v = .agg (V.vals σ cs).toArray ∧ v.wf ∧ κ v := by
    intro cs h1 hk
    cases hsm : small i.size <;> rw [hsm] at hk
    · exact ⟨.ago cs, rfl, h1, hk⟩
    · exact ⟨.agg cs, rfl, h1, hk⟩
  simp only at hx
  split at hx
  · rename_i fs hi
    rw [hi] at hd
    obtain ⟨fields, hu, hf⟩ := hd
    obtain ⟨ps, hps, hr, hx⟩ := fieldTIs_sound (w := w) ok hf hx
    obtain ⟨cs', hfill, h1, _, hk⟩ := fillPT_sound ok f (mplace := fun j => (ps.map fun p => (p.1, p.2.size))[j]?) (by
      intro j off ti hj
      obtain ⟨t', kt⟩ := hps j off ti hj
      exact ⟨t', kt, by simp [hj]⟩) k.zone hx
    obtain ⟨v, hv, wv, hk⟩ := fin cs' h1 hk
    refine ⟨v, ?_, wv, hk⟩
    have hr' : (fields.mapM (fun f => do pure (f.offset, ← sizeOf f.type) : Field → Sem (Nat × Nat))).run σ.P w = .ok (ps.map fun p => (p.1, p.2.size)).toArray w := by
      have e1 : (fun f => do pure (f.offset, ← sizeOf f.type) : Field → Sem (Nat × Nat)) = (fun f => Prod.mk f.offset <$> sizeOf f.type) := by funext f; simp
      rw [← Array.toArray_toList (xs := fields), List.mapM_toArray, e1, Sem.run_map, hr]
      rfl
    rw [hv]
    unfold Instr.build
    simp only [Sem.run_bind, hz, run_under hu, Result.andThen_ok, hr', hzc]
    have : (parts.map fun (i, x) => (i, a.eval x)).toList = parts.toList.map fun (i, x) => (i, a.eval x) := by simp
    rw [this]
    have hplace : (fun j : Nat => (ps.map fun p => (p.1, p.2.size)).toArray[j]?) = (fun j : Nat => (ps.map fun p => (p.1, p.2.size))[j]?) := by funext j; simp
    rw [show (fun x => ((ps.map fun p => (p.1, p.2.size)).toArray)[x]?) = _ from hplace, hfill]
    rfl
  · rename_i n e hi
    rw [hi] at hd
    have hu : σ.P.underlying t = some (.array n e) := hd
    obtain ⟨j, kj, hx⟩ := withTI_ok ok hx
    obtain ⟨cs', hfill, h1, _, hk⟩ := fillPT_sound ok f (mplace := fun i => some (i * j.size, j.size)) (by
      intro m off ti hj
      simp at hj
      obtain ⟨rfl, rfl⟩ := hj
      exact ⟨e, kj, rfl⟩) k.zone hx
    obtain ⟨v, hv, wv, hk⟩ := fin cs' h1 hk
    refine ⟨v, ?_, wv, hk⟩
    rw [hv]
    unfold Instr.build
    simp only [Sem.run_bind, hz, run_under hu, Result.andThen_ok, kj.size, hzc]
    have : (parts.map fun (i, x) => (i, a.eval x)).toList = parts.toList.map fun (i, x) => (i, a.eval x) := by simp
    rw [this, hfill]
    rfl
  · exact hx.elim

theorem buildSlice_sound (ok : EnvOK σ W0 E) (s : Sim σ W0 h w) (f : SimF σ E.n ρ a) {t e : Nat} {j : TI} (hu : σ.P.underlying t = some (.slice e)) (kj : TIok σ.P e j) {len : Nat} {parts : Array (Nat × Operand)} {κ : Sl → Heap → Prop}
    (hsz : len * j.size ≤ 16777216) (h0 : 0 < j.size)
    (hx : fillPT E (fun m => some (m * j.size, j)) ρ parts.toList (flatRep len j.zero) (fun cs => al cs (fun b h => κ ⟨some ⟨b, 0⟩, len, len⟩ h) h)) :
    ∃ r h' w', (Instr.buildSlice t len (parts.map fun (i, x) => (i, a.eval x))).run σ.P w = .ok (V.val σ (.sl r)) w' ∧ Sim σ W0 h' w' ∧ κ r h' := by
  obtain ⟨z, hz, hzc⟩ := run_zero_cells kj
  obtain ⟨cs', hfill, h1, hl, hx⟩ := fillPT_sound ok f (mplace := fun i => some (i * j.size, j.size)) (by
      intro m off ti hj
      simp at hj
      obtain ⟨rfl, rfl⟩ := hj
      exact ⟨e, kj, rfl⟩) (one_flatRep kj.zone) hx
  obtain ⟨hs, hk⟩ := al_sound s (e := e) (c := (V.vals σ cs').toArray) h1 hx (by simp)
  refine ⟨_, _, _, ?_, hs, hk⟩
  have hzs : z.cells.size = j.size := by rw [hzc]; simp [vals_map, kj.zlen]
  have hcells : ((Array.range (len * j.size)).map fun i => (if len * j.size = 0 then #[] else z.cells)[i % (if len * j.size = 0 then #[] else z.cells).size]!) = (V.vals σ (flatRep len j.zero)).toArray := by
    apply Array.ext'
    by_cases hn : len * j.size = 0
    · have : len = 0 := by rcases Nat.mul_eq_zero.1 hn with h | h <;> omega
      simp [this, flatRep, V.vals]
    · simp only [hn, if_false]
      rw [← hzs, arr_range_mod _ (by omega), vals_flatRep, hzc]
  have hp : (parts.map fun (i, x) => (i, a.eval x)).toList = parts.toList.map fun (i, x) => (i, a.eval x) := by simp
  have hle : ¬ (len * j.size > 2 ^ 24) := by omega
  unfold Instr.buildSlice
  by_cases hn : len * j.size = 0
  · simp only [hn, if_true] at hcells
    simp only [Sem.run_bind, run_under hu, Result.andThen_ok, kj.size, if_neg hle]
    rw [if_pos hn]
    simp only [pure_bind, hn, hcells, hp, hfill]
    simp [newRow, V.val, addr_vb]
  · simp only [hn, if_false] at hcells
    simp only [Sem.run_bind, run_under hu, Result.andThen_ok, kj.size, if_neg hle]
    rw [if_neg hn]
    simp only [Sem.run_bind, Sem.run_pure, hz, Result.andThen_ok, hcells, hp, hfill]
    simp [newRow, V.val, addr_vb]

end
end Go.Lift
