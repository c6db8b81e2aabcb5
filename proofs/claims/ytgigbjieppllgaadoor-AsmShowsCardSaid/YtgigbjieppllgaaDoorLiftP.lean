/- Maps: what the machine's maps do, over lists of keys and values. -/
import Derived.Test.YtgigbjieppllgaaDoorLiftI
import GoSem.Instr.Entry
set_option linter.unusedSimpArgs false
namespace Go.Lift
open Go.RowKit

section
variable {σ : Seat} {W0 : World} {h : Heap} {w : World} {E : Env} {ρ : Fr} {a : Act}

theorem asV_sound {s : Sh} {v : V} {κ : V → Prop} (hx : asV s v κ) : κ v := by
  cases s with
  | int k =>
    simp only [asV, asI] at hx
    split at hx
    · obtain ⟨hk, hx⟩ := chk_true hx
      have := of_decide_eq_true hk
      subst this
      exact hx
    · exact hx.elim
  | any => exact hx
  | _ =>
    simp only [asV, asB, asStr, asP, asSl, asM, asC] at hx
    split at hx
    · exact hx
    · exact hx.elim

theorem asVs_sound : ∀ {ss : List Sh} {vs : List V} {κ : List V → Prop}, asVs ss vs κ → κ vs
  | [], vs, κ, hx => by
    simp only [asVs, asNil] at hx
    split at hx
    · exact hx
    · exact hx.elim
  | s :: ss, vs, κ, hx => by
    simp only [asVs, asCons] at hx
    split at hx
    · have h2 := asV_sound hx; have h3 := asVs_sound h2; exact h3
    · exact hx.elim

theorem asR_sound {r : RS} {v : V} {κ : V → Prop} (hx : asR r v κ) : κ v := by
  cases r with
  | one s => exact asV_sound hx
  | agg ss =>
    simp only [asR, asAggV] at hx
    split at hx
    · exact asVs_sound hx
    · exact hx.elim
  | ago =>
    simp only [asR, asAgoV] at hx
    split at hx
    · exact hx
    · exact hx.elim


theorem ofAg_val (v : V) : V.val σ v.ofAg = V.val σ v := by cases v <;> rfl
theorem ofAg_wf {v : V} (h : v.wf) : v.ofAg.wf := by cases v <;> exact h

theorem key_same {ks : Sh} {k k' : V} (hk : keyIs ks k = true) (hk' : keyIs ks k' = true) :
    Instr.sameNow (shD ks) (V.val σ k) (V.val σ k') = some (keq k k') ∧ (keq k k' = true ↔ V.val σ k = V.val σ k') := by
  cases ks <;> cases k <;> simp only [keyIs] at hk <;> first | cases hk | skip
  all_goals cases k' <;> simp only [keyIs] at hk' <;> first | cases hk' | skip
  · have h1 := of_decide_eq_true hk; have h2 := of_decide_eq_true hk'
    subst h1; subst h2
    simp [shD, V.val, addr_vb, mref_vb, mref_none, Instr.sameNow, keq]
  · simp [shD, V.val, addr_vb, mref_vb, mref_none, Instr.sameNow, keq]
  · rename_i s s'
    have e : ((ByteArray.mk s.toArray == ByteArray.mk s'.toArray) = true) ↔ s = s' := by
      rw [MapKept.bytes_beq]
      constructor
      · intro h; injection h with h; simpa using congrArg Array.toList h
      · intro h; rw [h]
    refine ⟨?_, ?_⟩
    · simp only [shD, V.val, addr_vb, mref_vb, mref_none, Instr.sameNow, keq]
      congr 1
      cases hb : (s == s') with
      | true => have := eq_of_beq hb; exact e.2 this
      | false =>
        cases hc : (ByteArray.mk s.toArray == ByteArray.mk s'.toArray) with
        | false => rfl
        | true => have := e.1 hc; rw [this] at hb; simp at hb
    · simp [V.val, addr_vb, mref_vb, mref_none, keq]

theorem key_isKey {ks : Sh} {k : V} (hk : keyIs ks k = true) : MapKept.IsKey (shD ks) (V.val σ k) := by
  cases ks <;> cases k <;> simp only [keyIs] at hk <;> first | cases hk | skip
  · have h1 := of_decide_eq_true hk; subst h1; simp [shD, V.val, addr_vb, mref_vb, mref_none, MapKept.IsKey]
  · simp [shD, V.val, addr_vb, mref_vb, mref_none, MapKept.IsKey]
  · simp [shD, V.val, addr_vb, mref_vb, mref_none, MapKept.IsKey]

theorem find_spec {ks : Sh} {k : V} (hk : keyIs ks k = true) : ∀ (c : List MapEntry) (es : List (V × V)) (i : Nat), c.map (fun e => (e.key, e.val)) = es.map (fun p => (p.1.val σ, p.2.val σ)) → (∀ p ∈ es, keyIs ks p.1 = true) →
    (Instr.findNow (shD ks) (V.val σ k) c i = some none ∧ mfind k es = none ∧ (∀ v, mput k v es = es ++ [(k, v)]) ∧ (mdel k es = es ∧ ∀ bs : List Nat, bs.length = es.length → bdel k es bs = bs) ∧ ∀ x ∈ c, x.key ≠ V.val σ k) ∨
    ∃ j e p, Instr.findNow (shD ks) (V.val σ k) c i = some (some (i + j, e.val)) ∧ c[j]? = some e ∧ es[j]? = some p ∧ e.key = V.val σ k ∧ e.val = p.2.val σ ∧ mfind k es = some p.2 ∧ (∀ v, mput k v es = es.set j (k, v)) ∧ (mdel k es = es.eraseIdx j ∧ ∀ bs : List Nat, bs.length = es.length → bdel k es bs = bs.eraseIdx j) ∧ ∀ bs : List Nat, bs.length = es.length → bfind k es bs = bs[j]?
  | [], [], _, _, _ => .inl ⟨rfl, rfl, fun _ => rfl, ⟨rfl, fun bs _ => by cases bs <;> rfl⟩, by simp⟩
  | [], _ :: _, _, h, _ => by simp at h
  | _ :: _, [], _, h, _ => by simp at h
  | e :: c, (k', v') :: es, i, h, hks => by
    simp only [List.map_cons, List.cons.injEq, Prod.mk.injEq] at h
    obtain ⟨⟨h1, h2⟩, h⟩ := h
    obtain ⟨hs, hiff⟩ := key_same (σ := σ) hk (hks (k', v') (.head _))
    cases hq : keq k k' with
    | true =>
      rw [hq] at hs hiff
      exact .inr ⟨0, e, (k', v'), by simp [Instr.findNow, h1, hs], rfl, rfl, by rw [h1]; exact (hiff.1 rfl).symm, h2, by simp [mfind, hq], fun v => by simp [mput, hq], ⟨by simp [mdel, hq], fun bs hb => by cases bs with | nil => simp at hb | cons b bs => simp [bdel, hq]⟩, fun bs hb => by cases bs with | nil => simp at hb | cons b bs => simp [bfind, hq]⟩
    | false =>
      rw [hq] at hs hiff
      have hne : e.key ≠ V.val σ k := fun q => by rw [h1] at q; have := hiff.2 q.symm; cases this
      rcases find_spec hk c es (i + 1) h (fun p hp => hks p (.tail _ hp)) with ⟨g1, g2, g3, g4, g5⟩ | ⟨j, e', p, g1, g2, g3, g4, g5, g6, g7, g8⟩
      · exact .inl ⟨by simp [Instr.findNow, h1, hs, g1], by simp [mfind, hq, g2], fun v => by simp [mput, hq, g3], ⟨by simp [mdel, hq, g4.1], fun bs hb => by cases bs with | nil => simp at hb | cons b bs => simp [bdel, hq, g4.2 bs (by simpa using hb)]⟩, fun x hx => by
          cases hx with
          | head => exact hne
          | tail _ hx => exact g5 x hx⟩
      · exact .inr ⟨j + 1, e', p, by simp [Instr.findNow, h1, hs, g1]; omega, by simpa using g2, by simpa using g3, g4, g5, by simp [mfind, hq, g6], fun v => by simp [mput, hq, g7], ⟨by simp [mdel, hq, g8.1.1], fun bs hb => by cases bs with | nil => simp at hb | cons b bs => simp [bdel, hq, g8.1.2 bs (by simpa using hb)]⟩, fun bs hb => by cases bs with | nil => simp at hb | cons b bs => simp [bfind, hq, g8.2 bs (by simpa using hb)]⟩

theorem keq_self {ks : Sh} {k : V} (hk : keyIs ks k = true) : keq k k = true := by
  cases ks <;> cases k <;> simp_all [keyIs, keq]

theorem bfind_push {k : V} (hk : keq k k = true) {v : V} {n : Nat} : ∀ (es : List (V × V)) (bs : List Nat), bs.length = es.length → mfind k es = none → bfind k (es ++ [(k, v)]) (bs ++ [n]) = some n
  | [], [], _, _ => by simp [bfind, hk]
  | [], _ :: _, h, _ => by simp at h
  | _ :: _, [], h, _ => by simp at h
  | (k', v') :: es, b :: bs, h, hf => by
    cases hq : keq k k' with
    | true => simp [mfind, hq] at hf
    | false =>
      simp only [mfind, hq, cond_false] at hf
      simp only [List.cons_append, bfind, hq, cond_false]
      exact bfind_push hk es bs (by simpa using h) hf

theorem bfind_put {k : V} (hk : keq k k = true) {v : V} : ∀ (es : List (V × V)) (bs : List Nat) (u : V), mfind k es = some u → bfind k (mput k v es) bs = bfind k es bs
  | [], _, _, h => by simp [mfind] at h
  | (k', v') :: es, [], u, h => by
    cases hq : keq k k' with
    | true => simp [mput, hq, bfind]
    | false => simp [mput, hq, bfind]
  | (k', v') :: es, b :: bs, u, h => by
    cases hq : keq k k' with
    | true => simp [mput, hq, bfind, hk]
    | false =>
      simp only [mfind, hq, cond_false] at h
      simp only [mput, hq, cond_false, bfind]
      exact bfind_put hk es bs u h

theorem bfind_get {k v : V} : ∀ (es : List (V × V)) (bs : List Nat) (n : Nat), bfind k es bs = some n → ∃ j p, es[j]? = some p ∧ bs[j]? = some n ∧ mset k v es = es.set j (p.1, v)
  | [], [], _, h => by simp [bfind] at h
  | [], _ :: _, _, h => by simp [bfind] at h
  | _ :: _, [], _, h => by simp [bfind] at h
  | (k', v') :: es, b :: bs, n, h => by
    cases hq : keq k k' with
    | true =>
      simp only [bfind, hq, cond_true, Option.some.injEq] at h
      exact ⟨0, _, rfl, by simpa using h, by simp [mset, hq]⟩
    | false =>
      simp only [bfind, hq, cond_false] at h
      obtain ⟨j, p, h1, h2, h3⟩ := bfind_get (v := v) es bs n h
      exact ⟨j + 1, p, by simpa using h1, by simpa using h2, by simp [mset, hq, h3]⟩

theorem findIdx_born {l : List MapEntry} (hn : (l.map (·.born)).Nodup) {j : Nat} {e0 : MapEntry} (h : l[j]? = some e0) : l.findIdx? (fun e => (e.born : Int) == (e0.born : Int)) = some j := by
  induction l generalizing j with
  | nil => simp at h
  | cons a r ih =>
    simp only [List.map_cons, List.nodup_cons] at hn
    cases j with
    | zero =>
      simp only [List.getElem?_cons_zero, Option.some.injEq] at h
      subst h
      simp [List.findIdx?_cons]
    | succ j =>
      simp only [List.getElem?_cons_succ] at h
      have hne : a.born ≠ e0.born := fun e1 => hn.1 (List.mem_map.2 ⟨e0, List.mem_of_getElem? h, e1.symm⟩)
      have hb : ((a.born : Int) == (e0.born : Int)) = false := by
        simp only [beq_eq_false_iff_ne, ne_eq, Int.natCast_inj]
        exact hne
      rw [List.findIdx?_cons, hb]
      simp [ih hn.2 h]

theorem Sim.map (s : Sim σ W0 h w) {r : Nat} {ks : Sh} {es : List (V × V)} {bs : List Nat} {cl : Nat} (hr : h.obj r = some (.map ks es bs cl)) :
    ∃ k c, r = 2 * k ∧ w.heap[k]? = some (.map c cl) ∧ c.toList.map (fun e => (e.key, e.val)) = es.map (fun p => (p.1.val σ, p.2.val σ)) ∧ (∀ p ∈ es, keyIs ks p.1 = true ∧ p.2.wf1) ∧ MapKept.Stamped c cl ∧ c.toList.map (·.born) = bs := by
  obtain ⟨k, o, ek, ho, hs⟩ := s.known _ _ hr
  cases o <;> simp only [simO] at hs
  obtain ⟨h1, h2, h3, h4, rfl⟩ := hs
  exact ⟨k, _, ek, ho, h1, h2, h3, h4⟩

theorem Sim.setO (s : Sim σ W0 h w) {r k : Nat} (ek : r = 2 * k) {x y : HO} {o : Obj} (hr : h.obj r = some x) (hx : x.isRo = false) (hy : simO σ y o) : Sim σ W0 (h.setO r y) { w with heap := w.heap.setIfInBounds k o } := by
  obtain ⟨k', o', ek', ho', _⟩ := s.known _ _ hr
  obtain rfl : k = k' := by omega
  have hlt : k < w.heap.size := (Array.getElem?_eq_some_iff.1 ho').1
  have hh : ∀ b : Nat, (w.heap.setIfInBounds k o)[b]? = if b = k then some o else w.heap[b]? := by
    intro b
    by_cases hb : b = k
    · subst hb; simp [hlt]
    · rw [if_neg hb]; exact (MapKept.heap_set ho').2 b hb
  refine ⟨s.os, s.output, s.tape, by simp; exact s.size, ?_, ?_, ?_⟩
  · intro b z hz
    show ∃ k2 o2, b = 2 * k2 ∧ (w.heap.setIfInBounds k o)[k2]? = _ ∧ _
    simp only [Heap.setO] at hz
    by_cases hb : b = r
    · rw [if_pos hb] at hz; cases hz; exact ⟨k, o, by omega, by rw [hh, if_pos rfl], hy⟩
    · rw [if_neg hb] at hz
      obtain ⟨k2, o2, ek2, ho2, hs2⟩ := s.known b z hz
      exact ⟨k2, o2, ek2, by rw [hh, if_neg (by omega)]; exact ho2, hs2⟩
  · intro b hb
    show (w.heap.setIfInBounds k o)[b]? = _
    have := s.own _ _ hr hx
    rw [hh, if_neg (by omega)]
    exact s.old b hb
  · intro b z hz hro
    simp only [Heap.setO] at hz
    by_cases hb : b = r
    · subst hb; exact s.own _ _ hr hx
    · rw [if_neg hb] at hz; exact s.own b z hz hro

theorem TDok.key {P : Program} {kt : Nat} {ks : Sh} {k : V} (hk : keyIs ks k = true) (hd : TDok P kt (.leaf ks)) : P.underlying kt = some (shD ks) := by
  cases ks <;> cases k <;> simp only [keyIs] at hk <;> first | exact hd | cases hk

theorem run_zv {t : Nat} {i : TI} (k : TIok σ.P t i) : (∀ w, (zeroValue t).run σ.P w = .ok (V.val σ i.zv) w) ∧ i.zv.wf1 := by
  obtain ⟨info, hi, _, _, z, hz, hc⟩ := k.info
  have hg := k.zag info z hi hz
  have hzz : z = V.val σ i.zv ∧ i.zv.wf1 := by
    have h1 := k.zone
    have hl := k.zlen
    cases hsh : i.d.sh with
    | some sh =>
      have hag : ∀ cs, z ≠ .agg cs := by
        intro cs h; subst h; simp only [Value.isAgg'] at hg; rw [hsh] at hg; cases hg
      have hcell : z.cells = #[z] := by cases z <;> first | rfl | exact absurd rfl (hag _)
      have := hc σ
      rw [hcell] at this
      cases hzl : i.zero with
      | nil => rw [hzl] at this; simp [V.vals] at this
      | cons v vs =>
        rw [hzl] at this
        simp only [V.vals, List.cons.injEq] at this
        have e : i.zv = v := by simp [TI.zv, hsh, hzl]
        rw [e]
        exact ⟨this.1, by
          have h1 := h1 v (by rw [hzl]; simp)
          intro u hu; rw [V.one_cells h1] at hu; simp at hu; subst hu; exact h1⟩
    | none =>
      have : ∃ cs, z = .agg cs := by
        cases z <;> first | exact ⟨_, rfl⟩ | (simp only [Value.isAgg'] at hg; rw [hsh] at hg; cases hg)
      obtain ⟨cs, rfl⟩ := this
      have hcs : cs.toList = V.vals σ i.zero := hc σ
      cases hlv : i.leaves with
      | some ls =>
        have e : i.zv = .agg i.zero := by simp [TI.zv, hsh, hlv]
        rw [e]; exact ⟨by simp [V.val, addr_vb, mref_vb, mref_none, ← hcs], h1⟩
      | none =>
        have e : i.zv = .ago i.zero := by simp [TI.zv, hsh, hlv]
        rw [e]; exact ⟨by simp [V.val, addr_vb, mref_vb, mref_none, ← hcs], h1⟩
  exact ⟨fun w => by simp [zeroValue, typeInfo, hi, hz, hzz.1], hzz.2⟩

theorem lookup_sound (s : Sim σ W0 h w) {t kt et : Nat} {ks : Sh} {ie : TI} (ht : σ.P.underlying t = some (.map kt et)) (hkt : TDok σ.P kt (.leaf ks)) (ke : TIok σ.P et ie) {m : Option Nat} {u : V} (hu : keyIs ks u = true) {κ : Option V → Prop} (hx : mapGet ks m u κ h) :
    ∃ o : Option V, (o.getD ie.zv).wf1 ∧ (∀ c, (Instr.lookup t (V.val σ (.map m)) (V.val σ u) c).run σ.P w = .ok (V.val σ (bif c then .tup [o.getD ie.zv, .bool o.isSome] else o.getD ie.zv)) w) ∧ κ o := by
  obtain ⟨hz, hzw⟩ := run_zv (σ := σ) ke
  have hd := hkt.key hu
  have hik := key_isKey (σ := σ) hu
  cases m with
  | none =>
    refine ⟨none, hzw, fun c => ?_, hx⟩
    have hf : (Instr.findKey kt (V.val σ u) []).run σ.P w = .ok none w := MapKept.run_findKey hd rfl
    cases c <;> simp [Instr.lookup, run_under ht, V.val, addr_vb, mref_vb, mref_none, MapKept.run_checkKey hd hik, hf, hz, V.vals]
  | some r =>
    obtain ⟨es, bs, clock, hr, hk⟩ := hx
    obtain ⟨kb, c0, rfl, hc, hm, hw, hst, hbo⟩ := s.map hr
    rcases find_spec (σ := σ) hu c0.toList es 0 hm (fun p hp => (hw p hp).1) with ⟨g1, g2, _, _, _⟩ | ⟨j, e, p, g1, g2, g3, g4, g5, g6, _, _⟩
    · rw [g2] at hk
      refine ⟨none, hzw, fun c => ?_, hk⟩
      have hf : (Instr.findKey kt (V.val σ u) c0.toList).run σ.P w = .ok none w := MapKept.run_findKey hd g1
      cases c <;> simp [Instr.lookup, run_under ht, V.val, addr_vb, mref_vb, mref_none, MapKept.run_getObj_map hc, MapKept.run_checkKey hd hik, hf, hz, V.vals]
    · rw [g6] at hk
      refine ⟨some p.2, (hw p (List.mem_of_getElem? g3)).2, fun c => ?_, hk⟩
      have hf : (Instr.findKey kt (V.val σ u) c0.toList).run σ.P w = .ok (some (0 + j, e.val)) w := MapKept.run_findKey hd g1
      cases c <;> simp [Instr.lookup, run_under ht, V.val, addr_vb, mref_vb, mref_none, MapKept.run_getObj_map hc, MapKept.run_checkKey hd hik, hf, V.vals, g5]

theorem ent_sound (s : Sim σ W0 h w) {t kt et : Nat} {ks : Sh} {ie : TI} (ht : σ.P.underlying t = some (.map kt et)) (hkt : TDok σ.P kt (.leaf ks)) (ke : TIok σ.P et ie) {m : Option Nat} {u : V} (hu : keyIs ks u = true) {κ : V → Int → Heap → Prop} (hx : mapEnt ks m u ie.zv κ h) :
    ∃ (r : V) (b : Int) (h' : Heap) (w' : World), r.wf1 ∧ (Instr.mapEntry t (V.val σ (.map m)) (V.val σ u)).run σ.P w = .ok (V.val σ (.tup [r, .int .i64 b])) w' ∧ Sim σ W0 h' w' ∧ κ r b h' := by
  obtain ⟨hz, hzw⟩ := run_zv (σ := σ) ke
  have hd := hkt.key hu
  have hik := key_isKey (σ := σ) hu
  have hkk := keq_self hu
  cases m with
  | none => exact hx.elim
  | some r =>
    obtain ⟨es, bs, clock, hb, hk⟩ := hx
    obtain ⟨kb, c0, rfl, hc, hm, hw, hst, hbo⟩ := s.map hb
    have hlen : bs.length = es.length := by
      have h1 := congrArg List.length hm
      have h2 := congrArg List.length hbo
      simp at h1 h2; omega
    rcases find_spec (σ := σ) hu c0.toList es 0 hm (fun p hp => (hw p hp).1) with ⟨g1, g2, g3, _, g5⟩ | ⟨j, e, p, g1, g2, g3, g4, g5, g6, g7, _, g9⟩
    · have hf : (Instr.findKey kt (V.val σ u) c0.toList).run σ.P w = .ok none w := MapKept.run_findKey hd g1
      simp only [putO, g2, Option.getD_none] at hk
      have hborn := bfind_push hkk (v := ie.zv) (n := clock) es bs hlen g2
      rw [g3] at hk
      replace hk := hk clock hborn
      refine ⟨ie.zv, clock, _, _, hzw, ?_, s.setO rfl (y := .map ks (es ++ [(u, ie.zv)]) (bs ++ [clock]) (clock + 1)) (o := .map (c0.push { key := V.val σ u, val := V.val σ ie.zv, born := clock }) (clock + 1)) hb rfl ?_, hk⟩
      · simp [Instr.mapEntry, run_under ht, V.val, addr_vb, mref_vb, mref_none, V.vals, goInt, MapKept.run_getObj_map hc, MapKept.run_checkKey hd hik, hf, hz, MapKept.run_setObj_map _ hc]
      · refine ⟨by simp [hm], ?_, MapKept.stamped_push hst g5, by simp [hbo], rfl⟩
        intro q hq
        rcases List.mem_append.1 hq with hq | hq
        · exact hw q hq
        · simp at hq; subst hq; exact ⟨hu, hzw⟩
    · have hf : (Instr.findKey kt (V.val σ u) c0.toList).run σ.P w = .ok (some (0 + j, e.val)) w := MapKept.run_findKey hd g1
      have hj : c0[j]? = some e := by simpa using g2
      have hpw := (hw p (List.mem_of_getElem? g3)).2
      simp only [putO, g6, Option.getD_some] at hk
      have hbj : bs[j]? = some e.born := by rw [← hbo]; simp [hj]
      have hborn := (bfind_put hkk (v := p.2) es bs p.2 g6).trans ((g9 bs hlen).trans hbj)
      replace hk := hk e.born hborn
      refine ⟨p.2, e.born, _, _, hpw, ?_, s.setO rfl (y := .map ks (mput u p.2 es) bs clock) (o := .map (c0.modify j fun e => { e with key := V.val σ u }) clock) hb rfl ?_, hk⟩
      · simp [Instr.mapEntry, run_under ht, V.val, addr_vb, mref_vb, mref_none, V.vals, goInt, MapKept.run_getObj_map hc, MapKept.run_checkKey hd hik, hf, hj, g4, g5, MapKept.run_keyThatStays hik, MapKept.run_setObj_map _ hc]
      · have hlt : j < c0.size := (Array.getElem?_eq_some_iff.1 hj).1
        refine ⟨?_, ?_, MapKept.stamped_modify hst _ _ (fun _ _ => rfl) (fun e' _ he' => by rw [hj] at he'; cases he'; exact g4.symm), ?_, rfl⟩
        · rw [g7]
          apply List.ext_getElem?
          intro n
          have hmn : ∀ n : Nat, (c0.toList.map (fun e => (e.key, e.val)))[n]? = (es.map (fun p => (p.1.val σ, p.2.val σ)))[n]? := fun n => by rw [hm]
          have := hmn n
          simp only [List.getElem?_map, Array.getElem?_toList] at this
          simp only [List.getElem?_map, Array.getElem?_toList, Array.getElem?_modify, List.getElem?_set]
          by_cases hn : j = n
          · subst hn
            have : j < es.length := by
              rcases Nat.lt_or_ge j es.length with h | h
              · exact h
              · rw [List.getElem?_eq_none h] at g3; cases g3
            simp [hj, this, g5]
          · simp [hn, this]
        · intro q hq
          rw [g7] at hq
          rcases List.mem_or_eq_of_mem_set hq with hq | rfl
          · exact hw q hq
          · exact ⟨hu, hpw⟩
        · rw [← hbo]
          apply List.ext_getElem?
          intro n
          simp only [List.getElem?_map, Array.getElem?_toList, Array.getElem?_modify]
          by_cases hn : j = n
          · subst hn; simp [hj]
          · simp [hn]

theorem entPut_sound (s : Sim σ W0 h w) {t : Nat} {k0 : IntKind} {m : Option Nat} {b : Int} {r : V} (hr : r.wf1) {κ : Heap → Prop} (hx : entPut m b r κ h) :
    ∃ h' w', (Instr.entryStore t (V.val σ (.map m)) (V.val σ (.int k0 b)) (V.val σ r)).run σ.P w = .ok () w' ∧ Sim σ W0 h' w' ∧ κ h' := by
  cases m with
  | none => exact hx.elim
  | some a =>
    obtain ⟨ks, es, bs, clock, k, n, hb, hf, rfl, hk⟩ := hx
    obtain ⟨kb, c0, rfl, hc, hm, hw, hst, hbo⟩ := s.map hb
    obtain ⟨j, p, h1, h2, h3⟩ := bfind_get (v := r) es bs n hf
    obtain ⟨e, hj, rfl⟩ : ∃ e, c0[j]? = some e ∧ e.born = n := by
      rw [← hbo] at h2
      simp only [List.getElem?_map, Array.getElem?_toList] at h2
      cases hj : c0[j]? with
      | none => rw [hj] at h2; cases h2
      | some e => rw [hj] at h2; exact ⟨e, rfl, by simpa using h2⟩
    have hidx : c0.findIdx? (fun x => (x.born : Int) == (e.born : Int)) = some j := by
      have := findIdx_born hst.2.1 (j := j) (e0 := e) (by simpa using hj)
      rw [← this]
      cases c0
      simp
    refine ⟨_, _, ?_, s.setO rfl (y := .map ks (mset k r es) bs clock) (o := .map (c0.modify j fun e => { e with val := V.val σ r }) clock) hb rfl ?_, hk⟩
    · simp [Instr.entryStore, V.val, addr_vb, mref_vb, mref_none, MapKept.run_getObj_map hc, asInt, asIntOf, hidx, MapKept.run_setObj_map _ hc]
    · have hlt : j < es.length := by
        rcases Nat.lt_or_ge j es.length with h | h
        · exact h
        · rw [List.getElem?_eq_none h] at h1; cases h1
      refine ⟨?_, ?_, MapKept.stamped_modify hst _ _ (fun _ _ => rfl) (fun _ _ _ => rfl), ?_, rfl⟩
      · rw [h3]
        apply List.ext_getElem?
        intro n
        have hmn : ∀ n : Nat, (c0.toList.map (fun e => (e.key, e.val)))[n]? = (es.map (fun p => (p.1.val σ, p.2.val σ)))[n]? := fun n => by rw [hm]
        have := hmn n
        simp only [List.getElem?_map, Array.getElem?_toList] at this
        simp only [List.getElem?_map, Array.getElem?_toList, Array.getElem?_modify, List.getElem?_set]
        by_cases hn : j = n
        · subst hn
          rw [hj, h1] at this
          simp only [Option.map_some, Option.some.injEq, Prod.mk.injEq] at this
          simp [hj, hlt, this.1]
        · simp [hn, this]
      · intro q hq
        rw [h3] at hq
        rcases List.mem_or_eq_of_mem_set hq with hq | rfl
        · exact hw q hq
        · exact ⟨(hw p (List.mem_of_getElem? h1)).1, hr⟩
      · rw [← hbo]
        apply List.ext_getElem?
        intro n
        simp only [List.getElem?_map, Array.getElem?_toList, Array.getElem?_modify]
        by_cases hn : j = n
        · subst hn; simp [hj]
        · simp [hn]

theorem put_sound (s : Sim σ W0 h w) {t kt et : Nat} {ks : Sh} (ht : σ.P.underlying t = some (.map kt et)) (hkt : TDok σ.P kt (.leaf ks)) {m : Option Nat} {u r : V} (hu : keyIs ks u = true) (hr : r.wf1) {κ : Heap → Prop} (hx : mapPut ks m u r κ h) :
    ∃ h' w', (Instr.mapUpdate t (V.val σ (.map m)) (V.val σ u) (V.val σ r)).run σ.P w = .ok () w' ∧ Sim σ W0 h' w' ∧ κ h' := by
  have hd := hkt.key hu
  have hik := key_isKey (σ := σ) hu
  cases m with
  | none => exact hx.elim
  | some b =>
    obtain ⟨es, bs, clock, hb, hk⟩ := hx
    obtain ⟨kb, c0, rfl, hc, hm, hw, hst, hbo⟩ := s.map hb
    rcases find_spec (σ := σ) hu c0.toList es 0 hm (fun p hp => (hw p hp).1) with ⟨g1, g2, g3, _, g5⟩ | ⟨j, e, p, g1, g2, g3, g4, g5, g6, g7, _⟩
    · have hf : (Instr.findKey kt (V.val σ u) c0.toList).run σ.P w = .ok none w := MapKept.run_findKey hd g1
      refine ⟨_, _, ?_, s.setO rfl (y := .map ks (mput u r es) (bs ++ [clock]) (clock + 1)) (o := .map (c0.push { key := V.val σ u, val := V.val σ r, born := clock }) (clock + 1)) hb rfl ?_, by simpa only [putO, g2] using hk⟩
      · simp [Instr.mapUpdate, run_under ht, V.val, addr_vb, mref_vb, mref_none, MapKept.run_getObj_map hc, MapKept.run_checkKey hd hik, hf, MapKept.run_setObj_map _ hc]
      · refine ⟨by simp [g3, hm], ?_, MapKept.stamped_push hst g5, by simp [hbo], rfl⟩
        intro q hq
        rw [g3] at hq
        rcases List.mem_append.1 hq with hq | hq
        · exact hw q hq
        · simp at hq; subst hq; exact ⟨hu, hr⟩
    · have hf : (Instr.findKey kt (V.val σ u) c0.toList).run σ.P w = .ok (some (0 + j, e.val)) w := MapKept.run_findKey hd g1
      have hj : c0[j]? = some e := by simpa using g2
      refine ⟨_, _, ?_, s.setO rfl (y := .map ks (mput u r es) bs clock) (o := .map (c0.modify j fun e => { e with key := V.val σ u, val := V.val σ r }) clock) hb rfl ?_, by simpa only [putO, g6] using hk⟩
      · simp [Instr.mapUpdate, run_under ht, V.val, addr_vb, mref_vb, mref_none, MapKept.run_getObj_map hc, MapKept.run_checkKey hd hik, hf, hj, g4, MapKept.run_keyThatStays hik, MapKept.run_setObj_map _ hc]
      · have hlt : j < c0.size := (Array.getElem?_eq_some_iff.1 hj).1
        refine ⟨?_, ?_, MapKept.stamped_modify hst _ _ (fun _ _ => rfl) (fun e' _ he' => by rw [hj] at he'; cases he'; exact g4.symm), ?_, rfl⟩
        · rw [g7]
          apply List.ext_getElem?
          intro n
          have hmn : ∀ n : Nat, (c0.toList.map (fun e => (e.key, e.val)))[n]? = (es.map (fun p => (p.1.val σ, p.2.val σ)))[n]? := fun n => by rw [hm]
          have := hmn n
          simp only [List.getElem?_map, Array.getElem?_toList] at this
          simp only [List.getElem?_map, Array.getElem?_toList, Array.getElem?_modify, List.getElem?_set]
          by_cases hn : j = n
          · subst hn
            have : j < es.length := by
              rcases Nat.lt_or_ge j es.length with h | h
              · exact h
              · rw [List.getElem?_eq_none h] at g3; cases g3
            simp [hj, this]
          · simp [hn, this]
        · intro q hq
          rw [g7] at hq
          rcases List.mem_or_eq_of_mem_set hq with hq | rfl
          · exact hw q hq
          · exact ⟨hu, hr⟩
        · rw [← hbo]
          apply List.ext_getElem?
          intro n
          simp only [List.getElem?_map, Array.getElem?_toList, Array.getElem?_modify]
          by_cases hn : j = n
          · subst hn; simp [hj]
          · simp [hn]

theorem del_sound (s : Sim σ W0 h w) {t kt et ty : Nat} {ts : List Nat} {ks : Sh} (ht : σ.P.underlying t = some (.map kt et)) (hkt : TDok σ.P kt (.leaf ks)) {m : Option Nat} {u : V} (hu : keyIs ks u = true) {κ : Heap → Prop} (hx : mapDel ks m u κ h) :
    ∃ h' w', (Builtin.delete_ (t :: ts).toArray ty #[V.val σ (.map m), V.val σ u]).run σ.P w = .ok (.tuple #[]) w' ∧ Sim σ W0 h' w' ∧ κ h' := by
  have hd := hkt.key hu
  have hik := key_isKey (σ := σ) hu
  cases m with
  | none =>
    exact ⟨h, w, by simp [Builtin.delete_, run_under ht, V.val, addr_vb, mref_vb, mref_none, MapKept.run_checkKey hd hik], s, hx⟩
  | some b =>
    obtain ⟨es, bs, clock, hb, hk⟩ := hx
    obtain ⟨kb, c0, rfl, hc, hm, hw, hst, hbo⟩ := s.map hb
    have hbl : bs.length = es.length := by rw [← hbo, List.length_map]; simpa using congrArg List.length hm
    rcases find_spec (σ := σ) hu c0.toList es 0 hm (fun p hp => (hw p hp).1) with ⟨g1, _, _, g4, g5⟩ | ⟨j, e, p, g1, g2, g3, g4, g5, _, _, g8⟩
    · have hf : (Instr.findKey kt (V.val σ u) c0.toList).run σ.P w = .ok none w := MapKept.run_findKey hd g1
      refine ⟨_, _, ?_, s.setO rfl (y := .map ks (mdel u es) (bdel u es bs) clock) (o := .map c0 clock) hb rfl ?_, hk⟩
      · simp [Builtin.delete_, run_under ht, V.val, addr_vb, mref_vb, mref_none, MapKept.run_getObj_map hc, MapKept.run_checkKey hd hik, hf, MapKept.run_setObj_map _ hc]
      · rw [g4.1, g4.2 bs hbl]; exact ⟨hm, hw, hst, hbo, rfl⟩
    · have hf : (Instr.findKey kt (V.val σ u) c0.toList).run σ.P w = .ok (some (0 + j, e.val)) w := MapKept.run_findKey hd g1
      have hj : c0[j]? = some e := by simpa using g2
      have hlt : j < c0.size := (Array.getElem?_eq_some_iff.1 hj).1
      refine ⟨_, _, ?_, s.setO rfl (y := .map ks (mdel u es) (bdel u es bs) clock) (o := .map (c0.eraseIdxIfInBounds j) clock) hb rfl ?_, hk⟩
      · simp [Builtin.delete_, run_under ht, V.val, addr_vb, mref_vb, mref_none, MapKept.run_getObj_map hc, MapKept.run_checkKey hd hik, hf, MapKept.run_setObj_map _ hc]
      · have hte : (c0.eraseIdxIfInBounds j).toList = c0.toList.eraseIdx j := by simp [Array.eraseIdxIfInBounds, hlt]
        refine ⟨?_, ?_, MapKept.stamped_erase hst _, ?_, rfl⟩
        · rw [g8.1.1]
          rw [hte, List.eraseIdx_eq_take_drop_succ, List.eraseIdx_eq_take_drop_succ, List.map_append, List.map_append, List.map_take, List.map_drop, List.map_take, List.map_drop, hm]
        · intro q hq
          rw [g8.1.1] at hq
          exact hw q (List.mem_of_mem_eraseIdx hq)
        · rw [g8.1.2 bs hbl, hte, ← hbo, List.eraseIdx_eq_take_drop_succ, List.eraseIdx_eq_take_drop_succ, List.map_append, List.map_take, List.map_drop]

theorem makeMap_sound (s : Sim σ W0 h w) {t : Nat} {ks : Sh} {κ : Nat → Heap → Prop} (hx : alM ks κ h) :
    ∃ h' w' b, (Instr.makeMap t none).run σ.P w = .ok (V.val σ (.map (some b))) w' ∧ Sim σ W0 h' w' ∧ κ b h' := by
  refine ⟨_, _, 2 * w.heap.size, ?_, s.new (x := .map ks [] [] 0) (o := .map #[] 0) ⟨rfl, by simp, MapKept.stamped_empty 0, rfl, rfl⟩, hx _ s.size_none⟩
  simp [Instr.makeMap, V.val, addr_vb, mref_vb, mref_none]

theorem mapLen_sound (s : Sim σ W0 h w) {t kt et ty : Nat} {ts : List Nat} (ht : σ.P.underlying t = some (.map kt et)) {m : Option Nat} {κ : Int → Prop} (hx : mapLen m κ h) :
    ∃ n, (Builtin.len_ (t :: ts).toArray ty #[V.val σ (.map m)]).run σ.P w = .ok (.int .i64 n) w ∧ κ n := by
  cases m with
  | none => exact ⟨_, by simp [Builtin.len_, run_under ht, V.val, addr_vb, mref_vb, mref_none, goInt], hx⟩
  | some r =>
    obtain ⟨ks, es, bs, cl, hr, hk⟩ := hx
    obtain ⟨kb, c0, rfl, hc, hm, hw, hst, _⟩ := s.map hr
    have hl : c0.size = es.length := by simpa using congrArg List.length hm
    exact ⟨_, by simp [Builtin.len_, run_under ht, V.val, addr_vb, mref_vb, mref_none, MapKept.run_getObj_map hc, goInt, hl], hk⟩

theorem Sim.chan (s : Sim σ W0 h w) {b cap : Nat} {q : List V} (hb : h.obj b = some (.chan cap q)) :
    ∃ k n m, b = 2 * k ∧ w.heap[k]? = some (.chan cap (V.vals σ q).toArray false n m false) ∧ ∀ v ∈ q, v.wf1 := by
  obtain ⟨k, o, ek, ho, hs⟩ := s.known _ _ hb
  cases o <;> simp only [simO] at hs
  obtain ⟨rfl, hq, hw, rfl, rfl⟩ := hs
  exact ⟨k, _, _, ek, by rw [ho, ← hq], hw⟩

theorem run_getObj_ch {P : Program} {w : World} {r cap n m : Nat} {q : Array Value} {c t : Bool} (hb : w.heap[r]? = some (.chan cap q c n m t)) : (getObj r).run P w = .ok (.chan cap q c n m t) w := by
  simp [getObj, Sem.run, hb]

theorem chLen_sound (s : Sim σ W0 h w) {t et ty : Nat} {di : ChanDir} {ts : List Nat} (ht : σ.P.underlying t = some (.chan di et)) {m : Option Nat} {κ : Int → Prop} (hx : chLen m κ h) :
    ∃ n, (Builtin.len_ (t :: ts).toArray ty #[V.val σ (.chan m)]).run σ.P w = .ok (.int .i64 n) w ∧ κ n := by
  cases m with
  | none => exact ⟨_, by simp [Builtin.len_, run_under ht, V.val, mref_none, goInt], hx⟩
  | some r =>
    obtain ⟨cap, q, hr, hk⟩ := hx
    obtain ⟨kb, n, m, rfl, hc, _⟩ := s.chan hr
    exact ⟨_, by simp [Builtin.len_, run_under ht, V.val, mref_vb, run_getObj_ch hc, goInt, vals_map], hk⟩

theorem alC_sound (s : Sim σ W0 h w) {t et : Nat} {di : ChanDir} {info : TypeInfo} (ht : σ.P.underlying t = some (.chan di et)) (hi : σ.P.info? et = some info) (hb : info.bytes ≤ 65536) {n : Int} (h0 : 0 ≤ n) (h1 : n ≤ 65536) {κ : Nat → Heap → Prop} (hx : alC n.toNat κ h) :
    ∃ h' w' b, (Instr.makeChan t (.int .i64 n)).run σ.P w = .ok (V.val σ (.chan (some b))) w' ∧ Sim σ W0 h' w' ∧ κ b h' := by
  refine ⟨_, _, 2 * w.heap.size, ?_, s.new (x := .chan n.toNat []) (o := .chan n.toNat #[] false 0 0 false) ⟨rfl, rfl, by simp, rfl, rfl⟩, hx _ s.size_none⟩
  have hti : ∀ w, (typeInfo et).run σ.P w = .ok info w := by intro w'; simp [typeInfo, hi]
  have w1 : IntKind.i64.wrap n = n := by simp [IntKind.wrap, IntKind.bits, IntKind.signed]; omega
  have hby : ¬ (281474976710544 < (info.bytes : Int) * n) := by
    have h2 : (info.bytes : Int) * n ≤ 65536 * 65536 := Int.mul_le_mul (by omega) h1 h0 (by omega)
    omega
  have hmx : ¬ 9223372036854775807 < n := by omega
  have hn0 : ¬ n < 0 := by omega
  simp [Instr.makeChan, asInt, asIntOf, run_under ht, hti, hn0, hmx, hby, V.val, mref_vb]

theorem range_sound (s : Sim σ W0 h w) {t kt et : Nat} (ht : σ.P.underlying t = some (.map kt et)) {m : Option Nat} {κ : Nat → Heap → Prop} (hx : rangeM m κ h) :
    ∃ h' w' b, (Instr.range t (V.val σ (.map m))).run σ.P w = .ok (V.val σ (.ptr (some ⟨b, 0⟩))) w' ∧ Sim σ W0 h' w' ∧ κ b h' := by
  cases m with
  | none =>
    refine ⟨_, _, 2 * w.heap.size, ?_, s.new (x := .iter none 0 [] 0) (o := .mapIter none 0 #[] 0) ⟨rfl, rfl, rfl, rfl⟩, hx _ s.size_none⟩
    simp [Instr.range, run_under ht, V.val, addr_vb, mref_vb, mref_none]
  | some r =>
    obtain ⟨ks, es, bs, cl, hr, hk⟩ := hx
    obtain ⟨kb, c0, rfl, hc, _⟩ := s.map hr
    refine ⟨_, _, 2 * w.heap.size, ?_, s.new (x := .iter (some (2 * kb)) cl [] cl) (o := .mapIter (some kb) cl #[] cl) ⟨(mref_vb kb).symm, rfl, rfl, rfl⟩, hk _ s.size_none⟩
    simp [Instr.range, run_under ht, V.val, addr_vb, mref_vb, mref_none, MapKept.run_getObj_map hc]

theorem Sim.iter (s : Sim σ W0 h w) {b : Nat} {m : Option Nat} {since last : Nat} {seen : List Nat} (hb : h.obj b = some (.iter m since seen last)) :
    ∃ k, b = 2 * k ∧ w.heap[k]? = some (.mapIter (mref m) since seen.toArray last) := by
  obtain ⟨k, o, ek, ho, hs⟩ := s.known _ _ hb
  cases o <;> simp only [simO] at hs
  obtain ⟨rfl, rfl, rfl, rfl⟩ := hs
  exact ⟨k, ek, by simpa using ho⟩

theorem run_getObj_at {P : Program} {w : World} {r : Nat} {m : Option Nat} {since last : Nat} {seen : Array Nat} (hb : w.heap[r]? = some (.mapIter m since seen last)) : (getObj r).run P w = .ok (.mapIter m since seen last) w := by
  simp [getObj, Sem.run, hb]
theorem run_setObj_at {P : Program} {w : World} {r : Nat} {m : Option Nat} {since last : Nat} {seen : Array Nat} (o : Obj) (hb : w.heap[r]? = some (.mapIter m since seen last)) : (setObj r o).run P w = .ok () { w with heap := w.heap.setIfInBounds r o } := by
  simp [setObj, Sem.run, hb]

theorem rangeS_sound (s : Sim σ W0 h w) {t : Nat} (ht : σ.P.underlying t = some .string) {l : List UInt8} {κ : Nat → Heap → Prop} (hx : rangeS l κ h) :
    ∃ h' w' b, (Instr.range t (V.val σ (.str l))).run σ.P w = .ok (V.val σ (.ptr (some ⟨b, 0⟩))) w' ∧ Sim σ W0 h' w' ∧ κ b h' := by
  refine ⟨_, _, 2 * w.heap.size, ?_, s.new (x := .siter l 0) (o := .stringIter ⟨l.toArray⟩ 0) ⟨rfl, rfl⟩, hx _ s.size_none⟩
  simp [Instr.range, run_under ht, V.val, addr_vb, mref_vb, mref_none]

theorem Sim.siter (s : Sim σ W0 h w) {b : Nat} {l : List UInt8} {pos : Nat} (hb : h.obj b = some (.siter l pos)) :
    ∃ k, b = 2 * k ∧ w.heap[k]? = some (.stringIter ⟨l.toArray⟩ pos) := by
  obtain ⟨k, o, ek, ho, hs⟩ := s.known _ _ hb
  cases o <;> simp only [simO] at hs
  obtain ⟨rfl, rfl⟩ := hs
  exact ⟨k, ek, by simpa using ho⟩

theorem run_getObj_st {P : Program} {w : World} {r : Nat} {l : ByteArray} {pos : Nat} (hb : w.heap[r]? = some (.stringIter l pos)) : (getObj r).run P w = .ok (.stringIter l pos) w := by
  simp [getObj, Sem.run, hb]
theorem run_setObj_st {P : Program} {w : World} {r : Nat} {l : ByteArray} {pos : Nat} (o : Obj) (hb : w.heap[r]? = some (.stringIter l pos)) : (setObj r o).run P w = .ok () { w with heap := w.heap.setIfInBounds r o } := by
  simp [setObj, Sem.run, hb]

theorem nextS_sound (s : Sim σ W0 h w) {b ty : Nat} {κ : V → Heap → Prop} (hx : nextS b (fun h => κ (.tup [.bool false]) h) (fun i c h => κ (.tup [.bool true, .int .i64 i, .int .i32 c]) h) h) :
    ∃ v h' w', (Instr.next (V.val σ (.ptr (some ⟨b, 0⟩))) true ty).run σ.P w = .ok (V.val σ v) w' ∧ v.wf ∧ Sim σ W0 h' w' ∧ κ v h' := by
  obtain ⟨l, pos, hb, hx⟩ := hx
  obtain ⟨ki, rfl, hi⟩ := s.siter hb
  have wover : V.wf (.tup [.bool false]) := by intro v hv; simp at hv; subst hv; exact V.wf_one (v := .bool false) rfl
  by_cases hp : pos < l.length
  · rw [if_pos hp] at hx
    have hs' := s.setO rfl (y := .siter l (pos + (runeAt l pos).2)) (o := .stringIter ⟨l.toArray⟩ (pos + (runeAt l pos).2)) hb rfl ⟨rfl, rfl⟩
    refine ⟨_, _, _, ?_, ?_, hs', hx⟩
    · have hp' : pos < (⟨l.toArray⟩ : ByteArray).size := by simpa [ByteArray.size] using hp
      simp [Instr.next, V.val, addr_vb, mref_vb, mref_none, run_getObj_st hi, run_setObj_st _ hi, V.vals, hp', runeAt, goInt]
    · intro v hv
      simp at hv
      rcases hv with rfl | rfl | rfl
      · exact V.wf_one (v := .bool true) rfl
      · exact V.wf_one (v := .int .i64 _) rfl
      · exact V.wf_one (v := .int .i32 _) rfl
  · rw [if_neg hp] at hx
    refine ⟨_, h, w, ?_, wover, s, hx⟩
    have hp' : ¬ pos < (⟨l.toArray⟩ : ByteArray).size := by simpa [ByteArray.size] using hp
    simp [Instr.next, V.val, addr_vb, mref_vb, mref_none, run_getObj_st hi, V.vals, hp']

theorem key_one {ks : Sh} {k : V} (h : keyIs ks k = true) : k.one = true := by
  cases ks <;> cases k <;> first | rfl | cases h

theorem choose_next {P : Program} (w : World) {n : Nat} (hn : 0 < n) : ∃ j w1, j < n ∧ (choose (Question.mapNext n)).run P w = .ok j w1 ∧ (w1 = w ∨ w1 = w.drew) := by
  by_cases h1 : n ≤ 1
  · exact ⟨0, w, hn, by simp [Question.forced, h1], .inl rfl⟩
  · exact ⟨w.tape w.drawn (.mapNext n) % n, w.drew, Nat.mod_lt _ hn, by simp [Question.forced, Question.cut, h1], .inr rfl⟩

theorem next_sound (s : Sim σ W0 h w) {b ty : Nat} {κ : V → Heap → Prop} (hx : nextM b (fun h => κ (.tup [.bool false]) h) (fun k u h => κ (.tup [.bool true, k, u]) h) h) :
    ∃ v h' w', (Instr.next (V.val σ (.ptr (some ⟨b, 0⟩))) false ty).run σ.P w = .ok (V.val σ v) w' ∧ v.wf ∧ Sim σ W0 h' w' ∧ κ v h' := by
  obtain ⟨m, since, seen, last, hb, hx⟩ := hx
  obtain ⟨ki, rfl, hi⟩ := s.iter hb
  have wover : V.wf (.tup [.bool false]) := by intro v hv; simp at hv; subst hv; exact V.wf_one (v := .bool false) rfl
  cases m with
  | none =>
    refine ⟨_, h, w, ?_, wover, s, hx⟩
    simp [Instr.next, V.val, addr_vb, mref_vb, mref_none, run_getObj_at hi, V.vals]
  | some r =>
    obtain ⟨ks, es, bs, cl, hr, hno, hover, hstep⟩ := hx
    obtain ⟨kb, c0, rfl, hc, hm, hw, hst, hbo⟩ := s.map hr
    rw [mref_vb] at hi
    have hlen : c0.toList.length = es.length := by simpa using congrArg List.length hm
    have hborn : ∀ e ∈ c0.toList, e.born ∈ bs := by
      intro e he; rw [← hbo]; exact List.mem_map.2 ⟨e, he, rfl⟩
    have hnoB : (!seen.toArray.isEmpty && !c0.isEmpty && c0.all (fun e => decide (e.born ≥ last))) = false := by
      cases hB : (!seen.toArray.isEmpty && !c0.isEmpty && c0.all (fun e => decide (e.born ≥ last))) with
      | false => rfl
      | true =>
        exfalso
        simp only [Bool.and_eq_true, Bool.not_eq_true'] at hB
        obtain ⟨⟨h1, h2⟩, h3⟩ := hB
        apply hno
        refine ⟨fun e => by subst e; simp at h1, fun e => ?_, fun b hb' => ?_⟩
        · subst e
          have : c0.size = 0 := by simpa using hlen
          simp [Array.isEmpty, this] at h2
        · rw [← hbo] at hb'
          obtain ⟨e, he, rfl⟩ := List.mem_map.1 hb'
          rw [Array.all_eq_true'] at h3
          have := h3 e (by simpa using he)
          simpa using this
    let left := c0.filter fun e => !seen.toArray.contains e.born
    let old := left.filter (·.born < since)
    let new := left.filter (·.born ≥ since)
    let L : Array (Option MapEntry) := (if old.isEmpty then #[none] else #[]) ++ (old ++ new).map some
    have hL : 0 < L.size := by
      simp only [L]
      by_cases ho : old.isEmpty = true
      · rw [if_pos ho]; simp; omega
      · rw [if_neg ho]
        have : 0 < old.size := by
          rcases Nat.eq_zero_or_pos old.size with h | h
          · exact absurd (by simp [Array.isEmpty, h]) ho
          · exact h
        simp; omega
    obtain ⟨j, w1, hj, hch, hw1⟩ := choose_next (P := σ.P) w hL
    have s1 : Sim σ W0 h w1 := by rcases hw1 with rfl | rfl; exact s; exact s.drew
    have hh1 : w1.heap = w.heap := by rcases hw1 with rfl | rfl <;> rfl
    have hLj : L[j]? = some L[j] := Array.getElem?_eq_getElem hj
    have hrun : (Instr.next (V.val σ (.ptr (some ⟨2 * ki, 0⟩))) false ty).run σ.P w =
        (match L[j]? with
          | some (some e) => (do setObj ki (.mapIter (some kb) since (seen.toArray.push e.born) cl); pure (.tuple #[.bool true, e.key, e.val]) : Sem Value)
          | some none => pure (.tuple #[.bool false])
          | none => stuck "Next: no such candidate").run σ.P w1 := by
      unfold Instr.next
      simp only [V.val, addr_vb, mref_vb, mref_none, Option.map_some, Sem.run_bind, run_getObj_at hi, MapKept.run_getObj_map hc, Result.andThen_ok, hnoB, Bool.false_eq_true, if_false]
      have : (choose (Question.mapNext L.size)).run σ.P w = .ok j w1 := hch
      simp only [L, left, old, new] at this
      simp only [this, Result.andThen_ok, L, left, old, new]
      rfl
    cases hLe : L[j] with
    | none =>
      rw [hLe] at hLj
      refine ⟨_, h, w1, by rw [hrun, hLj]; simp [V.val, addr_vb, mref_vb, mref_none, V.vals], wover, s1, hover (fun b' hb' hns => ?_)⟩
      -- none is left that stood there at the start
      have hemp : old.isEmpty = true := by
        cases ho : old.isEmpty with
        | true => rfl
        | false =>
          have hmem : (none : Option MapEntry) ∈ L := by rw [← hLe]; exact Array.getElem_mem hj
          simp [L, ho] at hmem
      rcases Nat.lt_or_ge b' since with hlt | hge
      · rw [← hbo] at hb'
        obtain ⟨e, he, rfl⟩ := List.mem_map.1 hb'
        have hin : e ∈ old := by
          simp only [old, left, Array.mem_filter]
          refine ⟨⟨by simpa using he, by simpa using hns⟩, by simpa using hlt⟩
        have : old.size = 0 := by simpa [Array.isEmpty] using hemp
        have := Array.size_pos_of_mem hin
        omega
      · exact hge
    | some e =>
      rw [hLe] at hLj
      have hel : e ∈ left := by
        have hmem : some e ∈ L := by rw [← hLe]; exact Array.getElem_mem hj
        simp only [L, Array.mem_append, Array.mem_map] at hmem
        rcases hmem with hmem | ⟨x, hx, hxe⟩
        · split at hmem <;> simp at hmem
        · cases hxe
          rcases hx with hx | hx <;> simp only [old, new, Array.mem_filter] at hx <;> exact hx.1
      simp only [left, Array.mem_filter] at hel
      obtain ⟨hec, hes⟩ := hel
      obtain ⟨i, hi'⟩ := List.getElem?_of_mem (l := c0.toList) (by simpa using hec)
      have hm' : (c0.toList.map (fun e => (e.key, e.val)))[i]? = (es.map (fun p => (p.1.val σ, p.2.val σ)))[i]? := by rw [hm]
      rw [List.getElem?_map, hi', List.getElem?_map] at hm'
      cases hei : es[i]? with
      | none => rw [hei] at hm'; cases hm'
      | some p =>
        rw [hei] at hm'
        simp only [Option.map_some, Option.some.injEq, Prod.mk.injEq] at hm'
        have hbi : bs[i]? = some e.born := by rw [← hbo, List.getElem?_map, hi']; rfl
        have hns : e.born ∉ seen := by simpa using hes
        have hk := hstep i p.1 p.2 e.born hei hbi hns
        have hi1 : w1.heap[ki]? = some (.mapIter (some kb) since seen.toArray last) := by rw [hh1]; exact hi
        have hs' := s1.setO rfl (y := .iter (some (2 * kb)) since (seen ++ [e.born]) cl) (o := .mapIter (some kb) since (seen.toArray.push e.born) cl) hb rfl ⟨(mref_vb kb).symm, rfl, by simp, rfl⟩
        have hpw := hw p (List.mem_of_getElem? hei)
        refine ⟨.tup [.bool true, p.1, p.2], _, _, ?_, ?_, hs', hk⟩
        · rw [hrun, hLj]
          simp [run_setObj_at _ hi1, V.val, addr_vb, mref_vb, mref_none, V.vals, hm'.1, hm'.2]
        · intro v hv
          simp only [List.mem_cons, List.not_mem_nil, or_false] at hv
          rcases hv with rfl | rfl | rfl
          · exact V.wf_one (v := .bool true) rfl
          · have h1 := key_one hpw.1
            intro u hu
            rw [V.one_cells h1] at hu
            simp at hu; subst hu; exact h1
          · exact hpw.2

theorem find_born {b : Nat} : ∀ {l : List MapEntry} {i : Nat} {e : MapEntry}, (l.map (·.born)).Nodup → l[i]? = some e → e.born = b → l.find? (fun e => e.born == b) = some e
  | [], i, e, _, h, _ => by cases h
  | x :: l, 0, e, hn, h, hb => by cases h; simp [hb]
  | x :: l, i + 1, e, hn, h, hb => by
    simp only [List.map_cons, List.nodup_cons] at hn
    have hl : l[i]? = some e := by simpa using h
    have hne : (x.born == b) = false := by
      cases hq : x.born == b with
      | false => rfl
      | true =>
        have : x.born = b := by simpa using hq
        exact absurd (List.mem_map.2 ⟨e, List.mem_of_getElem? hl, by rw [hb, this]⟩) hn.1
    rw [List.find?_cons, hne]
    exact find_born hn.2 hl hb

theorem entry_sound (s : Sim σ W0 h w) {b : Nat} {κ : V → V → Prop} (hx : entryM b κ h) :
    ∃ k u, (Instr.entry (V.val σ (.ptr (some ⟨b, 0⟩)))).run σ.P w = .ok (V.val σ (.tup [k, u])) w ∧ (V.tup [k, u]).wf ∧ κ k u := by
  obtain ⟨r, since, seen, last, hb, ks, es, bs, hr, i, k, v, bn, hlast, hbi, hei, hk⟩ := hx
  obtain ⟨ki, rfl, hi⟩ := s.iter hb
  obtain ⟨kb, c0, rfl, hc, hm, hw, hst, hbo⟩ := s.map hr
  rw [mref_vb] at hi
  refine ⟨k, v, ?_, ?_, hk⟩
  · have hci : ∃ e, c0.toList[i]? = some e ∧ e.born = bn ∧ e.key = k.val σ ∧ e.val = v.val σ := by
      rw [← hbo, List.getElem?_map] at hbi
      cases he : c0.toList[i]? with
      | none => rw [he] at hbi; cases hbi
      | some e =>
        rw [he] at hbi
        have hm' : (c0.toList.map (fun e => (e.key, e.val)))[i]? = (es.map (fun p => (p.1.val σ, p.2.val σ)))[i]? := by rw [hm]
        rw [List.getElem?_map, he, List.getElem?_map, hei] at hm'
        simp only [Option.map_some, Option.some.injEq, Prod.mk.injEq] at hm' hbi
        exact ⟨e, rfl, hbi, hm'.1, hm'.2⟩
    obtain ⟨e, he, hbe, h1, h2⟩ := hci
    have hf : c0.find? (fun e => e.born == bn) = some e := by
      have := find_born hst.2.1 he hbe
      rw [← Array.find?_toList]; exact this
    have hbk : seen.toArray.back? = some bn := by simpa using hlast
    simp [Instr.entry, V.val, addr_vb, mref_vb, mref_none, V.vals, run_getObj_at hi, MapKept.run_getObj_map hc, hbk, hf, h1, h2]
  · have hpw := hw (k, v) (List.mem_of_getElem? hei)
    intro u hu
    simp only [List.mem_cons, List.not_mem_nil, or_false] at hu
    rcases hu with rfl | rfl
    · have h1 := key_one hpw.1
      intro z hz
      rw [V.one_cells h1] at hz
      simp at hz; subst hz; exact h1
    · exact hpw.2

end
end Go.Lift
