/- The operations of the interpreter are the machine's: stores, parts, numbers, slices. -/
import Derived.Test.YtgigbjieppllgaaDoorLiftD
namespace Go.Lift
open Go.RowKit

section
variable {σ : Seat} {W0 : World} {h : Heap} {w : World} {E : Env} {ρ : Fr} {a : Act}

/-! ### stores -/

theorem run_store_get (s : Sim σ W0 h w) {p : Ptr} {u v : V} (hg : h.getW p.b p.o = some u) (h1 : v.one = true) : (store p.addr (v.val σ)).run σ.P w = .ok () (w.setCell p.addr (v.val σ)) := by
  obtain ⟨hc, hf, _⟩ := s.getW hg
  simp [run_store _ _ _ _ _ (V.one_val h1), hc, hf]

theorem wrL_sound : ∀ {vs : List V} {p : Ptr} {i : Nat} {κ : Heap → Prop} {h : Heap} {w : World}, Sim σ W0 h w → (∀ v ∈ vs, v.one = true) → wrL vs p i κ h → ∃ h' w', (storeCells p.addr (V.vals σ vs) i).run σ.P w = .ok () w' ∧ Sim σ W0 h' w' ∧ κ h' := by
  intro vs
  induction vs with
  | nil => intro p i κ h w s _ hx; exact ⟨h, w, by simp [V.vals, storeCells], s, hx⟩
  | cons v vs ih =>
    intro p i κ h w s h1 hx
    obtain ⟨⟨u, hu⟩, hx⟩ := hx
    have hv := h1 v (by simp)
    obtain ⟨h', w', hr, hs, hk⟩ := ih (s.set hu hv) (fun z hz => h1 z (by simp [hz])) hx
    refine ⟨h', w', ?_, hs, hk⟩
    have hst := run_store_get s hu hv
    rw [V.vals, storeCells, addr_add]
    simp [hst, hr]

theorem storeVar_sound (s : Sim σ W0 h w) {t : Nat} {i : TI} (k : TIok σ.P t i) {p : Ptr} {v : V} {κ : Heap → Prop} (hl : v.cells.length = i.size) (h1 : v.wf1) (hx : wrL v.cells p 0 κ h) : ∃ h' w', (storeVar t p.addr (v.val σ)).run σ.P w = .ok () w' ∧ Sim σ W0 h' w' ∧ κ h' := by
  obtain ⟨h', w', hr, hs, hk⟩ := wrL_sound s h1 hx
  refine ⟨h', w', ?_, hs, hk⟩
  have hc := vals_cells σ v
  have hsz : (v.val σ).cells.size = i.size := by
    rw [← Array.length_toList, hc, vals_map, List.length_map, hl]
  unfold storeVar
  simp [k.size, hsz, hc, hr]

/-! ### parts -/

theorem asSh_get {s : Sh} {v : Option V} {κ : V → Prop} (hx : asSh s v κ) : ∃ u, v = some u ∧ κ u := by
  cases s <;> (obtain ⟨x, hx, hk⟩ := hx; exact ⟨_, hx, hk⟩)

theorem asL_get : ∀ {ss : List Sh} {l : List V} {i : Nat} {κ : List V → Prop}, asL ss l i κ → ∃ vs : List V, vs.length = ss.length ∧ (∀ j v, vs[j]? = some v → l[i + j]? = some v) ∧ κ vs := by
  intro ss
  induction ss with
  | nil => intro l i κ hx; exact ⟨[], rfl, by simp, hx⟩
  | cons s ss ih =>
    intro l i κ hx
    obtain ⟨v, hv, hx⟩ := asSh_get hx
    obtain ⟨vs, hl, hvs, hk⟩ := ih hx
    refine ⟨v :: vs, by simp [hl], ?_, hk⟩
    intro j u hj
    cases j with
    | zero => simp at hj; subst hj; simpa using hv
    | succ j =>
      have := hvs j u (by simpa using hj)
      rw [← this]; congr 1; omega

theorem list_eq_of_get {vs l : List V} (h1 : l.length ≤ vs.length) (hg : ∀ (j : Nat) (v : V), vs[j]? = some v → l[j]? = some v) : l = vs := by
  apply List.ext_getElem?
  intro j
  cases hv : vs[j]? with
  | some v => rw [hg j v hv]
  | none => rw [List.getElem?_eq_none_iff] at hv ⊢; omega

theorem run_part_one {P : Program} {t : Nat} {i : TI} (k : TIok P t i) (ho : i.d.one = true) {cs : Array Value} {off : Nat} {v : Value} (hc : cs[off]? = some v) : (part t cs off).run P w = .ok v w := by
  simp [part, k.isAgg, ho, hc]

theorem run_part_agg {P : Program} {t : Nat} {i : TI} (k : TIok P t i) (ho : i.d.one = false) (cs : Array Value) (off : Nat) : (part t cs off).run P w = .ok (.agg (cs.extract off (off + i.size))) w := by
  simp [part, k.isAgg, ho, k.size]

theorem TD.sh_one {d : TD} : d.one = d.sh.isSome := by cases d <;> rfl

theorem vals_extract (cs : List V) (off n : Nat) : (V.vals σ cs).toArray.extract off (off + n) = (V.vals σ ((cs.drop off).take n)).toArray := by
  apply Array.ext'
  simp [vals_map, List.map_take, List.map_drop]

theorem partT_sound {t : Nat} {i : TI} (k : TIok σ.P t i) {x : V} (wx : x.wf) {off : Nat} {κ : V → Prop} (hx : partT i x off κ) : ∃ cs v, x.val σ = .agg cs ∧ (∀ w, (part t cs off).run σ.P w = .ok (v.val σ) w) ∧ v.wf ∧ κ v := by
  unfold partT at hx
  split at hx
  · rename_i cs
    refine ⟨(V.vals σ cs).toArray, ?_⟩
    split at hx
    · rename_i s hs
      split at hx
      · rename_i u hu
        refine ⟨u, rfl, fun w => run_part_one k (by rw [TD.sh_one, hs]; rfl) ?_, V.wf_one (wx u (List.mem_of_getElem? hu)), hx⟩
        simp [vals_map, hu]
      · exact hx.elim
    · rename_i hs
      refine ⟨.agg ((cs.drop off).take i.size), rfl, fun w => ?_, fun u hu => wx u (List.mem_of_mem_drop (List.mem_of_mem_take hu)), hx⟩
      rw [run_part_agg k (by rw [TD.sh_one, hs]; rfl), vals_extract]; rfl
  · rename_i cs
    refine ⟨(V.vals σ cs).toArray, ?_⟩
    split at hx
    · rename_i s hs
      obtain ⟨u, hu, hk⟩ := asSh_get hx
      refine ⟨u, rfl, fun w => run_part_one k (by rw [TD.sh_one, hs]; rfl) ?_, V.wf_one (wx u (List.mem_of_getElem? hu)), hk⟩
      simp [vals_map, hu]
    · rename_i hs
      have wc : ∀ u ∈ (cs.drop off).take i.size, u.one = true := fun u hu => wx u (List.mem_of_mem_drop (List.mem_of_mem_take hu))
      split at hx
      · rename_i ls hls
        obtain ⟨vs, hl, hg, hk⟩ := asL_get hx
        have e : (cs.drop off).take i.size = vs := list_eq_of_get (by rw [hl, k.leaves ls hls]; simp; omega) (fun j v hj => by simpa using hg j v hj)
        refine ⟨.agg vs, rfl, fun w => ?_, by rw [← e]; exact wc, hk⟩
        rw [run_part_agg k (by rw [TD.sh_one, hs]; rfl), vals_extract, e]; rfl
      · refine ⟨.ago ((cs.drop off).take i.size), rfl, fun w => ?_, wc, hx⟩
        rw [run_part_agg k (by rw [TD.sh_one, hs]; rfl), vals_extract]; rfl
  · exact hx.elim

/-! ### numbers -/

theorem nz_iff {x : Int} {A : Prop} : nz x A ↔ x ≠ 0 ∧ A := Iff.rfl

theorem wf_int (k : IntKind) (n : Int) : (V.int k n).wf := V.wf_one rfl
theorem wf_bool (b : Bool) : (V.bool b).wf := V.wf_one rfl
theorem wf_str (s : List UInt8) : (V.str s).wf := V.wf_one rfl
theorem wf_ptr (p : Option Ptr) : (V.ptr p).wf := V.wf_one rfl
theorem wf_sl (s : Sl) : (V.sl s).wf := V.wf_one rfl

theorem binI_sound {op : BinOp} {t : Nat} {k : IntKind} {x y : Int} {κ : V → Prop} (hx : binI op k x y κ) : ∃ v, (∀ w, (binOp op t (.int k x) (.int k y)).run σ.P w = .ok (V.val σ v) w) ∧ v.wf ∧ κ v := by
  cases op <;> simp only [binI] at hx
  case quo => exact ⟨_, fun w => by simp [binOp, Op.intDiv, hx.1]; rfl, wf_int _ _, hx.2⟩
  case rem => exact ⟨_, fun w => by simp [binOp, Op.intDiv, hx.1]; rfl, wf_int _ _, hx.2⟩
  case eql => exact ⟨_, fun w => by simp [binOp, Op.intCmp]; rfl, wf_bool _, hx⟩
  case neq => exact ⟨_, fun w => by simp [binOp, Op.intCmp]; rfl, wf_bool _, hx⟩
  case lss => exact ⟨_, fun w => by simp [binOp, Op.intCmp]; rfl, wf_bool _, hx⟩
  case leq => exact ⟨_, fun w => by simp [binOp, Op.intCmp]; rfl, wf_bool _, hx⟩
  case gtr => exact ⟨_, fun w => by simp [binOp, Op.intCmp]; rfl, wf_bool _, hx⟩
  case geq => exact ⟨_, fun w => by simp [binOp, Op.intCmp]; rfl, wf_bool _, hx⟩
  all_goals exact ⟨_, fun w => by simp only [binOp, ne_eq, not_true, if_false, Op.intArith, Op.intBits, Sem.run_pure]; rfl, wf_int _ _, hx⟩

theorem ba_toList (s : List UInt8) : (ByteArray.mk s.toArray).toList = s := by
  rw [ByteArray.toList_eq]

theorem ba_size (s : List UInt8) : (ByteArray.mk s.toArray).size = s.length := by
  simp [ByteArray.size]

theorem binS_sound {op : BinOp} {t : Nat} {x y : List UInt8} {κ : V → Prop} (hx : binS op x y κ) : ∃ v, (∀ w, (binOp op t (V.val σ (.str x)) (V.val σ (.str y))).run σ.P w = .ok (V.val σ v) w) ∧ v.wf ∧ κ v := by
  cases op <;> simp only [binS] at hx
  case add =>
    refine ⟨.str (x ++ y), fun w => ?_, wf_str _, hx.2⟩
    have h1 := hx.1
    simp only [V.val, binOp, Op.stringOp, ba_size]
    rw [if_neg (by simp [IntKind.max, IntKind.bits, IntKind.signed]; omega)]
    simp only [Sem.run_pure]
    congr 2
  all_goals first
    | exact hx.elim
    | exact ⟨_, fun w => by simp only [V.val, binOp, Op.stringOp, ba_toList]; rfl, wf_bool _, hx⟩


theorem isNil_sound {v : V} {κ : Bool → Prop} (hx : isNil v κ) : (v = .nilif ∧ κ true) ∨ ((∃ t u, v = .iface t u) ∧ κ false) := by
  unfold isNil at hx
  split at hx
  · exact .inl ⟨rfl, hx⟩
  · exact .inr ⟨⟨_, _, rfl⟩, hx⟩
  · exact hx.elim

theorem isNilF_sound {v : V} {κ : Bool → Prop} (hx : isNilF v κ) : (v = .nilfn ∧ κ true) ∨ ((∃ f c, v = .fn f c) ∧ κ false) := by
  unfold isNilF at hx
  split at hx
  · exact .inl ⟨rfl, hx⟩
  · exact .inr ⟨⟨_, _, rfl⟩, hx⟩
  · exact hx.elim

theorem plainP_known (s : Sim σ W0 h w) {p : Ptr} (hp : plainP (some p) h) : ∃ k c e, p.b = 2 * k ∧ w.heap[k]? = some (.cells c e (0, 0)) := by
  obtain ⟨l, hl⟩ := hp p rfl
  obtain ⟨k, o, ek, ho, hs⟩ := s.known _ _ hl
  cases o <;> simp only [simO] at hs
  rename_i c e fz
  simp only [Bool.false_eq_true, if_false] at hs
  obtain ⟨_, _, rfl⟩ := hs
  exact ⟨k, c, e, ek, ho⟩

theorem run_sameAddr (s : Sim σ W0 h w) {p q : Ptr} (hp : plainP (some p) h) (hq : plainP (some q) h) : (sameAddr p.addr q.addr).run σ.P w = .ok (p == q) w := by
  obtain ⟨k, c, e, ek, hc⟩ := plainP_known s hp
  obtain ⟨k', c', e', ek', hc'⟩ := plainP_known s hq
  have fp : ∀ n, w.frozen? ⟨k, n, none⟩ = false := by intro n; simp [World.frozen?, hc]
  have fq : ∀ n, w.frozen? ⟨k', n, none⟩ = false := by intro n; simp [World.frozen?, hc']
  have sp : w.shape? k = some (e, c.size) := by simp [World.shape?, hc]
  have sq : w.shape? k' = some (e', c'.size) := by simp [World.shape?, hc']
  have gp := addr_of ek
  have gq := addr_of ek'
  unfold sameAddr
  by_cases hb : k = k'
  · have e1 : (p.addr.block == q.addr.block) = true := by simp [gp, gq, hb]
    rw [if_pos e1]
    have : (p.addr == q.addr) = (p == q) := by
      rw [gp, gq]
      obtain ⟨pb, po⟩ := p; obtain ⟨qb, qo⟩ := q
      simp only at ek ek'
      rw [Bool.eq_iff_iff]
      simp [ek, ek', hb]
    rw [this]; rfl
  · have e1 : (p.addr.block == q.addr.block) = false := by simp [gp, gq, hb]
    have e2 : (p == q) = false := by
      rw [beq_eq_false_iff_ne]; intro h; exact hb (by rw [h] at ek; omega)
    rw [e1, e2]
    simp [gp, gq, fp, fq, noView, viewAt, sp, sq, mayBeOne, stringish]

theorem TD.plain_one {d : TD} (hp : d.plain = true) : d.one = true := by
  cases d <;> first | rfl | exact absurd hp Bool.false_ne_true

theorem slBounds_sb {i : Int} {n : Nat} {κ : Nat → Prop} (hx : sb i n κ) (k : IntKind) (code : BoundsCode) : ∃ m : Nat, (∀ w, (Instr.sliceBound (.int k i) n code).run σ.P w = .ok m w) ∧ κ m := by
  obtain ⟨h0, h1, hk⟩ := hx
  exact ⟨i.toNat, fun w => by simp [Instr.sliceBound, asIntOf, h0, h1], hk⟩

theorem slBounds_sound {lo hi mx : Option V} {len cap : Nat} {κ : Nat → Nat → Nat → Prop} (isS : Bool) (hx : slBounds lo hi mx len cap κ) : ∃ l h m, (∀ w, (Instr.sliceBounds isS len cap (lo.map (V.val σ)) (hi.map (V.val σ)) (mx.map (V.val σ))).run σ.P w = .ok (l, h, m) w) ∧ κ l h m := by
  unfold slBounds at hx
  have low : ∀ (lo : Option V) (hh m : Nat) (code : BoundsCode), (match lo with
    | some (.int _ x) => sb x hh
    | none => fun k => k 0
    | _ => fun _ => False) (fun l => κ l hh m) → ∃ l, (∀ w, (match lo.map (V.val σ) with
      | some v => Instr.sliceBound v hh code
      | none => (pure 0 : Sem Nat)).run σ.P w = .ok l w) ∧ κ l hh m := by
    intro lo hh m code hx
    split at hx
    · rename_i k x
      obtain ⟨l, hr, hk⟩ := slBounds_sb (σ := σ) hx k code
      exact ⟨l, fun w => by simpa [V.val] using hr w, hk⟩
    · exact ⟨0, fun _ => rfl, hx⟩
    · exact hx.elim
  cases mx with
  | none =>
    simp only at hx
    cases hi with
    | none =>
      simp only at hx
      obtain ⟨l, hr, hk⟩ := low lo _ _ .sliceB hx
      refine ⟨l, len, cap, fun w => ?_, hk⟩
      cases lo <;> simp_all [Instr.sliceBounds]
    | some v =>
      cases v <;> first | exact hx.elim | skip
      rename_i k x
      obtain ⟨hh, hr', hx⟩ := slBounds_sb (σ := σ) hx k (if isS then .sliceAcap else .sliceAlen)
      obtain ⟨l, hr, hk⟩ := low lo _ _ .sliceB hx
      refine ⟨l, hh, cap, fun w => ?_, hk⟩
      cases lo <;> simp_all [Instr.sliceBounds, V.val]
  | some v =>
    cases v <;> first | exact hx.elim | skip
    rename_i k x
    obtain ⟨m, hrm, hx⟩ := slBounds_sb (σ := σ) hx k (if isS then .slice3Acap else .slice3Alen)
    cases hi with
    | none => exact hx.elim
    | some v =>
      cases v with
      | int k' x' =>
        obtain ⟨hh, hr', hx⟩ := slBounds_sb (σ := σ) hx k' .slice3B
        obtain ⟨l, hr, hk⟩ := low lo _ _ .slice3C hx
        refine ⟨l, hh, m, fun w => ?_, hk⟩
        cases lo <;> simp_all [Instr.sliceBounds, V.val]
      | _ => exact hx.elim

theorem slp_val (p : Option Ptr) (k l m : Nat) : (if m = l then p.map Ptr.addr else (p.map Ptr.addr).map (·.add k)) = (slp p k l m).map Ptr.addr := by
  unfold slp
  by_cases h : m = l
  · rw [if_pos h, if_pos h]
  · rw [if_neg h, if_neg h]
    cases p <;> simp [addr_add]

end
end Go.Lift
