/- Maps: what the machine's maps do, over lists of keys and values. -/
import Derived.Test.YtlnigofbpnehlaaLiftI
namespace Go.Lift
open Go.RowKit

section
variable {σ : Seat} {W0 : World} {h : Heap} {w : World} {E : Env} {ρ : Fr} {a : Act}

theorem asV_sound {s : Sh} {v : V} {κ : V → Prop} (hx : asV s v κ) : κ v := by
  cases s with
  | int k =>
    simp only [asV, asI] at hx
    split at hx
    · obtain ⟨hk, hx⟩ := chk_true hx
      have := of_decide_eq_true hk
      subst this
      exact hx
    · exact hx.elim
  | any => exact hx
  | _ =>
    simp only [asV, asB, asStr, asP, asSl, asM, asC] at hx
    split at hx
    · exact hx
    · exact hx.elim

theorem asVs_sound : ∀ {ss : List Sh} {vs : List V} {κ : List V → Prop}, asVs ss vs κ → κ vs
  | [], vs, κ, hx => by
    simp only [asVs, asNil] at hx
    split at hx
    · exact hx
    · exact hx.elim
  | s :: ss, vs, κ, hx => by
    simp only [asVs, asCons] at hx
    split at hx
    · have h2 := asV_sound hx; have h3 := asVs_sound h2; exact h3
    · exact hx.elim

theorem asR_sound {r : RS} {v : V} {κ : V → Prop} (hx : asR r v κ) : κ v := by
  cases r with
  | one s => exact asV_sound hx
  | agg ss =>
    simp only [asR, asAggV] at hx
    split at hx
    · exact asVs_sound hx
    · exact hx.elim
  | ago =>
    simp only [asR, asAgoV] at hx
    split at hx
    · exact hx
    · exact hx.elim


theorem ofAg_val (v : V) : V.val σ v.ofAg = V.val σ v := by cases v <;> rfl
theorem ofAg_wf {v : V} (h : v.wf) : v.ofAg.wf := by cases v <;> exact h

theorem key_same {ks : Sh} {k k' : V} (hk : keyIs ks k = true) (hk' : keyIs ks k' = true) :
    Instr.sameNow (shD ks) (V.val σ k) (V.val σ k') = some (keq k k') ∧ (keq k k' = true ↔ V.val σ k = V.val σ k') := by
  cases ks <;> cases k <;> simp only [keyIs] at hk <;> first | cases hk | skip
  all_goals cases k' <;> simp only [keyIs] at hk' <;> first | cases hk' | skip
  · have h1 := of_decide_eq_true hk; have h2 := of_decide_eq_true hk'
    subst h1; subst h2
    simp [shD, V.val, Instr.sameNow, keq]
  · simp [shD, V.val, Instr.sameNow, keq]
  · rename_i s s'
    have e : ((ByteArray.mk s.toArray == ByteArray.mk s'.toArray) = true) ↔ s = s' := by
      rw [MapKept.bytes_beq]
      constructor
      · intro h; injection h with h; simpa using congrArg Array.toList h
      · intro h; rw [h]
    refine ⟨?_, ?_⟩
    · simp only [shD, V.val, Instr.sameNow, keq]
      congr 1
      cases hb : (s == s') with
      | true => have := eq_of_beq hb; exact e.2 this
      | false =>
        cases hc : (ByteArray.mk s.toArray == ByteArray.mk s'.toArray) with
        | false => rfl
        | true => have := e.1 hc; rw [this] at hb; simp at hb
    · simp [V.val, keq]

theorem key_isKey {ks : Sh} {k : V} (hk : keyIs ks k = true) : MapKept.IsKey (shD ks) (V.val σ k) := by
  cases ks <;> cases k <;> simp only [keyIs] at hk <;> first | cases hk | skip
  · have h1 := of_decide_eq_true hk; subst h1; simp [shD, V.val, MapKept.IsKey]
  · simp [shD, V.val, MapKept.IsKey]
  · simp [shD, V.val, MapKept.IsKey]

theorem find_spec {ks : Sh} {k : V} (hk : keyIs ks k = true) : ∀ (c : List MapEntry) (es : List (V × V)) (i : Nat), c.map (fun e => (e.key, e.val)) = es.map (fun p => (p.1.val σ, p.2.val σ)) → (∀ p ∈ es, keyIs ks p.1 = true) →
    (Instr.findNow (shD ks) (V.val σ k) c i = some none ∧ mfind k es = none ∧ (∀ v, mput k v es = es ++ [(k, v)]) ∧ mdel k es = es ∧ ∀ x ∈ c, x.key ≠ V.val σ k) ∨
    ∃ j e p, Instr.findNow (shD ks) (V.val σ k) c i = some (some (i + j, e.val)) ∧ c[j]? = some e ∧ es[j]? = some p ∧ e.key = V.val σ k ∧ e.val = p.2.val σ ∧ mfind k es = some p.2 ∧ (∀ v, mput k v es = es.set j (k, v)) ∧ mdel k es = es.eraseIdx j
  | [], [], _, _, _ => .inl ⟨rfl, rfl, fun _ => rfl, rfl, by simp⟩
  | [], _ :: _, _, h, _ => by simp at h
  | _ :: _, [], _, h, _ => by simp at h
  | e :: c, (k', v') :: es, i, h, hks => by
    simp only [List.map_cons, List.cons.injEq, Prod.mk.injEq] at h
    obtain ⟨⟨h1, h2⟩, h⟩ := h
    obtain ⟨hs, hiff⟩ := key_same (σ := σ) hk (hks (k', v') (.head _))
    cases hq : keq k k' with
    | true =>
      rw [hq] at hs hiff
      exact .inr ⟨0, e, (k', v'), by simp [Instr.findNow, h1, hs], rfl, rfl, by rw [h1]; exact (hiff.1 rfl).symm, h2, by simp [mfind, hq], fun v => by simp [mput, hq], by simp [mdel, hq]⟩
    | false =>
      rw [hq] at hs hiff
      have hne : e.key ≠ V.val σ k := fun q => by rw [h1] at q; have := hiff.2 q.symm; cases this
      rcases find_spec hk c es (i + 1) h (fun p hp => hks p (.tail _ hp)) with ⟨g1, g2, g3, g4, g5⟩ | ⟨j, e', p, g1, g2, g3, g4, g5, g6, g7, g8⟩
      · exact .inl ⟨by simp [Instr.findNow, h1, hs, g1], by simp [mfind, hq, g2], fun v => by simp [mput, hq, g3], by simp [mdel, hq, g4], fun x hx => by
          cases hx with
          | head => exact hne
          | tail _ hx => exact g5 x hx⟩
      · exact .inr ⟨j + 1, e', p, by simp [Instr.findNow, h1, hs, g1]; omega, by simpa using g2, by simpa using g3, g4, g5, by simp [mfind, hq, g6], fun v => by simp [mput, hq, g7], by simp [mdel, hq, g8]⟩

theorem Sim.map (s : Sim σ W0 h w) {r : Nat} {ks : Sh} {es : List (V × V)} (hr : h.obj r = some (.map ks es)) :
    ∃ c clock, w.heap[r]? = some (.map c clock) ∧ c.toList.map (fun e => (e.key, e.val)) = es.map (fun p => (p.1.val σ, p.2.val σ)) ∧ (∀ p ∈ es, keyIs ks p.1 = true ∧ p.2.wf1) ∧ MapKept.Stamped c clock := by
  obtain ⟨o, ho, hs⟩ := s.known _ _ hr
  cases o <;> simp only [simO] at hs
  exact ⟨_, _, ho, hs⟩

theorem Sim.setO (s : Sim σ W0 h w) {r : Nat} {x y : HO} {o : Obj} (hr : h.obj r = some x) (hx : x.isRo = false) (hy : simO σ y o) : Sim σ W0 (h.setO r y) { w with heap := w.heap.setIfInBounds r o } := by
  obtain ⟨o', ho', _⟩ := s.known _ _ hr
  have hlt : r < w.heap.size := (Array.getElem?_eq_some_iff.1 ho').1
  have hh : ∀ b : Nat, (w.heap.setIfInBounds r o)[b]? = if b = r then some o else w.heap[b]? := by
    intro b
    by_cases hb : b = r
    · subst hb; simp [hlt]
    · rw [if_neg hb]; exact (MapKept.heap_set ho').2 b hb
  refine ⟨s.os, s.output, s.tape, by simp; exact s.size, ?_, ?_, ?_⟩
  · intro b z hz
    show ∃ o2, (w.heap.setIfInBounds r o)[b]? = _ ∧ _
    rw [hh]
    simp only [Heap.setO] at hz
    by_cases hb : b = r
    · rw [if_pos hb] at hz ⊢; cases hz; exact ⟨o, rfl, hy⟩
    · rw [if_neg hb] at hz ⊢; exact s.known b z hz
  · intro b hb
    show (w.heap.setIfInBounds r o)[b]? = _
    have := s.own _ _ hr hx
    rw [hh, if_neg (by omega)]
    exact s.old b hb
  · intro b z hz hro
    simp only [Heap.setO] at hz
    by_cases hb : b = r
    · subst hb; exact s.own _ _ hr hx
    · rw [if_neg hb] at hz; exact s.own b z hz hro

theorem TDok.key {P : Program} {kt : Nat} {ks : Sh} {k : V} (hk : keyIs ks k = true) (hd : TDok P kt (.leaf ks)) : P.underlying kt = some (shD ks) := by
  cases ks <;> cases k <;> simp only [keyIs] at hk <;> first | exact hd | cases hk

theorem run_zv {t : Nat} {i : TI} (k : TIok σ.P t i) : (∀ w, (zeroValue t).run σ.P w = .ok (V.val σ i.zv) w) ∧ i.zv.wf1 := by
  obtain ⟨info, hi, _, _, z, hz, hc⟩ := k.info
  have hg := k.zag info z hi hz
  have hzz : z = V.val σ i.zv ∧ i.zv.wf1 := by
    have h1 := k.zone
    have hl := k.zlen
    cases hsh : i.d.sh with
    | some sh =>
      have hag : ∀ cs, z ≠ .agg cs := by
        intro cs h; subst h; simp only [Value.isAgg'] at hg; rw [hsh] at hg; cases hg
      have hcell : z.cells = #[z] := by cases z <;> first | rfl | exact absurd rfl (hag _)
      have := hc σ
      rw [hcell] at this
      cases hzl : i.zero with
      | nil => rw [hzl] at this; simp [V.vals] at this
      | cons v vs =>
        rw [hzl] at this
        simp only [V.vals, List.cons.injEq] at this
        have e : i.zv = v := by simp [TI.zv, hsh, hzl]
        rw [e]
        exact ⟨this.1, by
          have h1 := h1 v (by rw [hzl]; simp)
          intro u hu; rw [V.one_cells h1] at hu; simp at hu; subst hu; exact h1⟩
    | none =>
      have : ∃ cs, z = .agg cs := by
        cases z <;> first | exact ⟨_, rfl⟩ | (simp only [Value.isAgg'] at hg; rw [hsh] at hg; cases hg)
      obtain ⟨cs, rfl⟩ := this
      have hcs : cs.toList = V.vals σ i.zero := hc σ
      cases hlv : i.leaves with
      | some ls =>
        have e : i.zv = .agg i.zero := by simp [TI.zv, hsh, hlv]
        rw [e]; exact ⟨by simp [V.val, ← hcs], h1⟩
      | none =>
        have e : i.zv = .ago i.zero := by simp [TI.zv, hsh, hlv]
        rw [e]; exact ⟨by simp [V.val, ← hcs], h1⟩
  exact ⟨fun w => by simp [zeroValue, typeInfo, hi, hz, hzz.1], hzz.2⟩

theorem lookup_sound (s : Sim σ W0 h w) {t kt et : Nat} {ks : Sh} {ie : TI} (ht : σ.P.underlying t = some (.map kt et)) (hkt : TDok σ.P kt (.leaf ks)) (ke : TIok σ.P et ie) {m : Option Nat} {u : V} (hu : keyIs ks u = true) {κ : Option V → Prop} (hx : mapGet ks m u κ h) :
    ∃ o : Option V, (o.getD ie.zv).wf1 ∧ (∀ c, (Instr.lookup t (V.val σ (.map m)) (V.val σ u) c).run σ.P w = .ok (V.val σ (bif c then .tup [o.getD ie.zv, .bool o.isSome] else o.getD ie.zv)) w) ∧ κ o := by
  obtain ⟨hz, hzw⟩ := run_zv (σ := σ) ke
  have hd := hkt.key hu
  have hik := key_isKey (σ := σ) hu
  cases m with
  | none =>
    refine ⟨none, hzw, fun c => ?_, hx⟩
    have hf : (Instr.findKey kt (V.val σ u) []).run σ.P w = .ok none w := MapKept.run_findKey hd rfl
    cases c <;> simp [Instr.lookup, run_under ht, V.val, MapKept.run_checkKey hd hik, hf, hz, V.vals]
  | some r =>
    obtain ⟨es, hr, hk⟩ := hx
    obtain ⟨c0, clock, hc, hm, hw, hst⟩ := s.map hr
    rcases find_spec (σ := σ) hu c0.toList es 0 hm (fun p hp => (hw p hp).1) with ⟨g1, g2, _, _, _⟩ | ⟨j, e, p, g1, g2, g3, g4, g5, g6, _, _⟩
    · rw [g2] at hk
      refine ⟨none, hzw, fun c => ?_, hk⟩
      have hf : (Instr.findKey kt (V.val σ u) c0.toList).run σ.P w = .ok none w := MapKept.run_findKey hd g1
      cases c <;> simp [Instr.lookup, run_under ht, V.val, MapKept.run_getObj_map hc, MapKept.run_checkKey hd hik, hf, hz, V.vals]
    · rw [g6] at hk
      refine ⟨some p.2, (hw p (List.mem_of_getElem? g3)).2, fun c => ?_, hk⟩
      have hf : (Instr.findKey kt (V.val σ u) c0.toList).run σ.P w = .ok (some (0 + j, e.val)) w := MapKept.run_findKey hd g1
      cases c <;> simp [Instr.lookup, run_under ht, V.val, MapKept.run_getObj_map hc, MapKept.run_checkKey hd hik, hf, V.vals, g5]

theorem put_sound (s : Sim σ W0 h w) {t kt et : Nat} {ks : Sh} (ht : σ.P.underlying t = some (.map kt et)) (hkt : TDok σ.P kt (.leaf ks)) {m : Option Nat} {u r : V} (hu : keyIs ks u = true) (hr : r.wf1) {κ : Heap → Prop} (hx : mapPut ks m u r κ h) :
    ∃ h' w', (Instr.mapUpdate t (V.val σ (.map m)) (V.val σ u) (V.val σ r)).run σ.P w = .ok () w' ∧ Sim σ W0 h' w' ∧ κ h' := by
  have hd := hkt.key hu
  have hik := key_isKey (σ := σ) hu
  cases m with
  | none => exact hx.elim
  | some b =>
    obtain ⟨es, hb, hk⟩ := hx
    obtain ⟨c0, clock, hc, hm, hw, hst⟩ := s.map hb
    rcases find_spec (σ := σ) hu c0.toList es 0 hm (fun p hp => (hw p hp).1) with ⟨g1, _, g3, _, g5⟩ | ⟨j, e, p, g1, g2, g3, g4, g5, _, g7, _⟩
    · have hf : (Instr.findKey kt (V.val σ u) c0.toList).run σ.P w = .ok none w := MapKept.run_findKey hd g1
      refine ⟨_, _, ?_, s.setO (y := .map ks (mput u r es)) (o := .map (c0.push { key := V.val σ u, val := V.val σ r, born := clock }) (clock + 1)) hb rfl ?_, hk⟩
      · simp [Instr.mapUpdate, run_under ht, V.val, MapKept.run_getObj_map hc, MapKept.run_checkKey hd hik, hf, MapKept.run_setObj_map _ hc]
      · refine ⟨by simp [g3, hm], ?_, MapKept.stamped_push hst g5⟩
        intro q hq
        rw [g3] at hq
        rcases List.mem_append.1 hq with hq | hq
        · exact hw q hq
        · simp at hq; subst hq; exact ⟨hu, hr⟩
    · have hf : (Instr.findKey kt (V.val σ u) c0.toList).run σ.P w = .ok (some (0 + j, e.val)) w := MapKept.run_findKey hd g1
      have hj : c0[j]? = some e := by simpa using g2
      refine ⟨_, _, ?_, s.setO (y := .map ks (mput u r es)) (o := .map (c0.modify j fun e => { e with key := V.val σ u, val := V.val σ r }) clock) hb rfl ?_, hk⟩
      · simp [Instr.mapUpdate, run_under ht, V.val, MapKept.run_getObj_map hc, MapKept.run_checkKey hd hik, hf, hj, g4, MapKept.run_keyThatStays hik, MapKept.run_setObj_map _ hc]
      · have hlt : j < c0.size := (Array.getElem?_eq_some_iff.1 hj).1
        refine ⟨?_, ?_, MapKept.stamped_modify hst _ _ (fun _ _ => rfl) (fun e' _ he' => by rw [hj] at he'; cases he'; exact g4.symm)⟩
        · rw [g7]
          apply List.ext_getElem?
          intro n
          have hmn : ∀ n : Nat, (c0.toList.map (fun e => (e.key, e.val)))[n]? = (es.map (fun p => (p.1.val σ, p.2.val σ)))[n]? := fun n => by rw [hm]
          have := hmn n
          simp only [List.getElem?_map, Array.getElem?_toList] at this
          simp only [List.getElem?_map, Array.getElem?_toList, Array.getElem?_modify, List.getElem?_set]
          by_cases hn : j = n
          · subst hn
            have : j < es.length := by
              rcases Nat.lt_or_ge j es.length with h | h
              · exact h
              · rw [List.getElem?_eq_none h] at g3; cases g3
            simp [hj, this]
          · simp [hn, this]
        · intro q hq
          rw [g7] at hq
          rcases List.mem_or_eq_of_mem_set hq with hq | rfl
          · exact hw q hq
          · exact ⟨hu, hr⟩

theorem del_sound (s : Sim σ W0 h w) {t kt et ty : Nat} {ts : List Nat} {ks : Sh} (ht : σ.P.underlying t = some (.map kt et)) (hkt : TDok σ.P kt (.leaf ks)) {m : Option Nat} {u : V} (hu : keyIs ks u = true) {κ : Heap → Prop} (hx : mapDel ks m u κ h) :
    ∃ h' w', (Builtin.delete_ (t :: ts).toArray ty #[V.val σ (.map m), V.val σ u]).run σ.P w = .ok (.tuple #[]) w' ∧ Sim σ W0 h' w' ∧ κ h' := by
  have hd := hkt.key hu
  have hik := key_isKey (σ := σ) hu
  cases m with
  | none =>
    exact ⟨h, w, by simp [Builtin.delete_, run_under ht, V.val, MapKept.run_checkKey hd hik], s, hx⟩
  | some b =>
    obtain ⟨es, hb, hk⟩ := hx
    obtain ⟨c0, clock, hc, hm, hw, hst⟩ := s.map hb
    rcases find_spec (σ := σ) hu c0.toList es 0 hm (fun p hp => (hw p hp).1) with ⟨g1, _, _, g4, g5⟩ | ⟨j, e, p, g1, g2, g3, g4, g5, _, _, g8⟩
    · have hf : (Instr.findKey kt (V.val σ u) c0.toList).run σ.P w = .ok none w := MapKept.run_findKey hd g1
      refine ⟨_, _, ?_, s.setO (y := .map ks (mdel u es)) (o := .map c0 clock) hb rfl ?_, hk⟩
      · simp [Builtin.delete_, run_under ht, V.val, MapKept.run_getObj_map hc, MapKept.run_checkKey hd hik, hf, MapKept.run_setObj_map _ hc]
      · rw [g4]; exact ⟨hm, hw, hst⟩
    · have hf : (Instr.findKey kt (V.val σ u) c0.toList).run σ.P w = .ok (some (0 + j, e.val)) w := MapKept.run_findKey hd g1
      have hj : c0[j]? = some e := by simpa using g2
      have hlt : j < c0.size := (Array.getElem?_eq_some_iff.1 hj).1
      refine ⟨_, _, ?_, s.setO (y := .map ks (mdel u es)) (o := .map (c0.eraseIdxIfInBounds j) clock) hb rfl ?_, hk⟩
      · simp [Builtin.delete_, run_under ht, V.val, MapKept.run_getObj_map hc, MapKept.run_checkKey hd hik, hf, MapKept.run_setObj_map _ hc]
      · refine ⟨?_, ?_, MapKept.stamped_erase hst _⟩
        · rw [g8]
          have : (c0.eraseIdxIfInBounds j).toList = c0.toList.eraseIdx j := by simp [Array.eraseIdxIfInBounds, hlt]
          rw [this, List.eraseIdx_eq_take_drop_succ, List.eraseIdx_eq_take_drop_succ, List.map_append, List.map_append, List.map_take, List.map_drop, List.map_take, List.map_drop, hm]
        · intro q hq
          rw [g8] at hq
          exact hw q (List.mem_of_mem_eraseIdx hq)

theorem makeMap_sound (s : Sim σ W0 h w) {t : Nat} {ks : Sh} {κ : Nat → Heap → Prop} (hx : alM ks κ h) :
    ∃ h' w' b, (Instr.makeMap t none).run σ.P w = .ok (V.val σ (.map (some b))) w' ∧ Sim σ W0 h' w' ∧ κ b h' := by
  refine ⟨_, _, w.heap.size, ?_, s.new (x := .map ks []) (o := .map #[] 0) ⟨rfl, by simp, MapKept.stamped_empty 0⟩, hx _ s.size_none⟩
  simp [Instr.makeMap, V.val]

theorem mapLen_sound (s : Sim σ W0 h w) {t kt et ty : Nat} {ts : List Nat} (ht : σ.P.underlying t = some (.map kt et)) {m : Option Nat} {κ : Int → Prop} (hx : mapLen m κ h) :
    ∃ n, (Builtin.len_ (t :: ts).toArray ty #[V.val σ (.map m)]).run σ.P w = .ok (.int .i64 n) w ∧ κ n := by
  cases m with
  | none => exact ⟨_, by simp [Builtin.len_, run_under ht, V.val, goInt], hx⟩
  | some r =>
    obtain ⟨ks, es, hr, hk⟩ := hx
    obtain ⟨c0, clock, hc, hm, hw, hst⟩ := s.map hr
    have hl : c0.size = es.length := by simpa using congrArg List.length hm
    exact ⟨_, by simp [Builtin.len_, run_under ht, V.val, MapKept.run_getObj_map hc, goInt, hl], hk⟩

end
end Go.Lift
