/- The operation as a whole; calls; the region. -/
import Derived.Test.YtcaeaolgijjjnaaGreatDoorLa
import Derived.Laws.BytesString
import Derived.Lib.ConvBytes
import GoSem.Instr.Entry
import Derived.Conc.LoneSelect
import Derived.Carry
import Derived.ChangeSame
import Derived.OpenShut
import Derived.Deep.Slices
import GoSem.Instr.Method
set_option linter.unusedSimpArgs false
set_option linter.unusedVariables false

namespace Go.Lift
open Go.RowKit

section
variable {σ : Seat} {W0 : World} {h : Heap} {w : World} {E : Env} {ρ : Fr} {a : Act}

theorem bytesOf_sound : ∀ {cs : List V} {κ : List UInt8 → Prop}, bytesOf cs κ → ∃ ns : List Int, V.vals σ cs = ns.map (Value.int .u8) ∧ κ (ns.map fun n => UInt8.ofNat n.toNat) := by
  intro cs
  induction cs with
  | nil => intro κ hx; exact ⟨[], rfl, hx⟩
  | cons v cs ih =>
    intro κ hx
    cases v with
    | int k n =>
      cases k <;> first | exact hx.elim | skip
      obtain ⟨ns, hv, hk⟩ := ih hx
      exact ⟨n :: ns, by simp [V.vals, V.val, hv], by simpa using hk⟩
    | _ => exact hx.elim

theorem foldl_push : ∀ (ns : List Int) (s : List UInt8), ns.foldl (fun (r : ByteArray) n => r.push (UInt8.ofNat n.toNat)) ⟨s.toArray⟩ = ⟨(s ++ ns.map fun n => UInt8.ofNat n.toNat).toArray⟩ := by
  intro ns
  induction ns with
  | nil => intro s; simp
  | cons n ns ih =>
    intro s
    simp only [List.foldl_cons]
    have : (ByteArray.mk s.toArray).push (UInt8.ofNat n.toNat) = ⟨(s ++ [UInt8.ofNat n.toNat]).toArray⟩ := by
      simp [ByteArray.push]
    rw [this, ih]
    simp

theorem Sim.grown (s : Sim σ W0 h w) {x : HO} {o : Obj} {w' : World} (hos : w'.os = w.os) (hout : w'.output = w.output) (htape : w'.tape = w.tape) (hsize : w'.heap.size = w.heap.size + 1)
    (hold : ∀ j, j < w.heap.size → w'.heap[j]? = w.heap[j]?) (hnew : w'.heap[w.heap.size]? = some o) (hx : simO σ x o) : Sim σ W0 (h.new (2 * w.heap.size) x) w' := by
  refine ⟨hos.trans s.os, hout.trans s.output, htape.trans s.tape, by have := s.size; omega, ?_, ?_, ?_⟩
  · intro b y hy
    simp only [Heap.new] at hy
    by_cases hb : b = 2 * w.heap.size
    · subst hb; rw [if_pos rfl] at hy; cases hy
      exact ⟨_, o, rfl, hnew, hx⟩
    · rw [if_neg hb] at hy
      obtain ⟨k', o', ek', ho', hs⟩ := s.known b y hy
      have hlt : k' < w.heap.size := by
        rcases Nat.lt_or_ge k' w.heap.size with h | h
        · exact h
        · rw [Array.getElem?_eq_none h] at ho'; cases ho'
      exact ⟨k', o', ek', by rw [hold k' hlt]; exact ho', hs⟩
  · intro b hb
    have hlt := s.size
    rw [hold b (by omega)]; exact s.old b hb
  · intro b y hy hr
    simp only [Heap.new] at hy
    by_cases hb : b = 2 * w.heap.size
    · have := s.size; omega
    · rw [if_neg hb] at hy; exact s.own b y hy hr

theorem strCells_vals (st : List UInt8) : V.vals σ (strCells st) = st.map fun b => Value.int .u8 b.toNat := by
  simp [strCells, vals_map, V.val]

theorem ofStr_sound (s : Sim σ W0 h w) {src dst e : Nat} (ht : σ.P.underlying dst = some (.slice e)) (he : σ.P.underlying e = some (.int .u8)) {st : List UInt8} {u : TypeDesc} (hs : σ.P.underlying src = some u) {κ : Sl → Heap → Prop} (hx : ofStr st κ h) :
    ∃ r h' w', (convert src dst (V.val σ (.str st))).run σ.P w = .ok (V.val σ (.sl r)) w' ∧ Sim σ W0 h' w' ∧ κ r h' := by
  have hz : (ByteArray.mk st.toArray).size = st.length := ba_size st
  have hge : st.length ≤ grownCap w (ByteArray.mk st.toArray).size 0 e := by rw [hz]; exact grownCap_ge _ _ _ _
  have hx1 := hx _ hge (2 * w.heap.size) s.size_none
  refine ⟨_, _, Lib.bytesWorld w e ⟨st.toArray⟩, ?_, ?_, hx1⟩
  · have := Lib.run_convert_string_bytes w src dst e ⟨st.toArray⟩ hs ht he
    rw [hz] at this
    simp only [V.val, hz, Option.map_some, addr_vb]
    exact this
  · refine s.grown rfl rfl rfl (Lib.bytesWorld_size _ _ _) (Lib.bytesWorld_at_old w e _) (Lib.bytesWorld_at_new w e _) ⟨?_, ?_, ?_⟩
    · simp only [Lib.bytesCells, hz]
      rw [vals_map, List.map_append, ← vals_map, strCells_vals]
      simp [V.val]
    · intro v hv
      simp only [List.mem_append, strCells, List.mem_map, List.mem_replicate] at hv
      rcases hv with ⟨b, _, rfl⟩ | ⟨_, rfl⟩ <;> rfl
    · simp only [if_true]
      simp [Lib.bytesCells, hz, strCells]

theorem convPT_sound (ok : EnvOK σ W0 E) (s : Sim σ W0 h w) {src dst : Nat} {x : V} {κ : V → Heap → Prop} (hx : convPT E src dst x κ h) :
    ∃ v h' w', (convert src dst (x.val σ)).run σ.P w = .ok (V.val σ v) w' ∧ v.wf ∧ Sim σ W0 h' w' ∧ κ v h' := by
  obtain ⟨i', k', hz⟩ := withTI_ok ok hx
  clear hx
  obtain ⟨i, k, hy⟩ := withTI_ok ok hz
  clear hz
  have hx := hy
  clear hy
  obtain ⟨u, hu, _⟩ := k'.under
  have hd := k.d
  split at hx
  · rename_i kd k' n hi
    rw [hi] at hd
    have hd : σ.P.underlying dst = some (.int kd) := hd
    exact ⟨_, h, w, by simp [convert, run_under hu, run_under hd, V.val, Conv.intToInt], wf_int _ _, s, hx⟩
  · rename_i st hi
    rw [hi] at hd
    have hd : σ.P.underlying dst = some .string := hd
    refine ⟨.str st, h, w, ?_, wf_str _, s, hx⟩
    simp [convert, run_under hu, run_under hd, V.val]
  · rename_i k1 n hi
    rw [hi] at hd
    have hd : σ.P.underlying dst = some .string := hd
    refine ⟨.str (runeStr n), h, w, ?_, wf_str _, s, hx⟩
    simp [convert, run_under hu, run_under hd, V.val, Conv.intToString, runeStr]
  · rename_i e st hi
    rw [hi] at hd
    have hd : σ.P.underlying dst = some (.slice e) := hd
    obtain ⟨j, kj, hx⟩ := withTI_ok ok hx
    split at hx
    · rename_i hj
      have hjd := kj.d
      rw [hj] at hjd
      obtain ⟨r, h', w', hr, hs, hk⟩ := ofStr_sound s hd hjd hu hx
      exact ⟨_, h', w', hr, wf_sl _, hs, hk⟩
    · exact hx.elim
  · rename_i sl hi
    rw [hi] at hd
    have hd : σ.P.underlying dst = some .string := hd
    split at hx
    · rename_i e hi'
      have hsd := k'.d
      rw [hi'] at hsd
      have hsd : σ.P.underlying src = some (.slice e) := hsd
      obtain ⟨j, kj, hx⟩ := withTI_ok ok hx
      split at hx
      · rename_i hj
        have hjd := kj.d
        rw [hj] at hjd
        have hjd : σ.P.underlying e = some (.int .u8) := hjd
        obtain ⟨cs, hr, h1, hl, hx⟩ := cellsS_sound s hx
        obtain ⟨ns, hv, hk⟩ := bytesOf_sound (σ := σ) hx
        refine ⟨.str (ns.map fun n => UInt8.ofNat n.toNat), h, w, ?_, wf_str _, s, hk⟩
        have hr := hr w s
        simp only [V.val]
        rw [run_convert_bytes_string w src dst e _ _ _ hsd hjd hd]
        cases hp : sl.p with
        | none =>
          simp only [V.val, hp, Option.map_none, Builtin.firstCells, Sem.run_pure] at hr
          have h0 : ns = [] := by
            have : V.vals σ cs = [] := by injection hr with h1; simpa using h1.symm
            rw [hv] at this; simpa using this
          subst h0
          rfl
        | some p =>
          simp only [V.val, hp, Option.map_some, Builtin.firstCells] at hr
          simp only [Option.map_some]
          rw [run_bytesToString w p.addr sl.len sl.cap ns (by rw [← hv]; simpa using hr)]
          have := foldl_push ns []
          simp only [List.nil_append] at this
          rw [show ByteArray.empty = ⟨([] : List UInt8).toArray⟩ from rfl, this]
      · exact hx.elim
    · exact hx.elim
  · exact hx.elim

end
end Go.Lift

set_option linter.unusedSimpArgs false
namespace Go.Lift
open Go.RowKit

section
variable {σ : Seat} {W0 : World} {h : Heap} {w : World} {E : Env} {ρ : Fr} {a : Act}

theorem asV_sound {s : Sh} {v : V} {κ : V → Prop} (hx : asV s v κ) : κ v := by
  cases s with
  | int k =>
    simp only [asV, asI] at hx
    split at hx
    · obtain ⟨hk, hx⟩ := chk_true hx
      have := of_decide_eq_true hk
      subst this
      exact hx
    · exact hx.elim
  | any => exact hx
  | _ =>
    simp only [asV, asB, asStr, asP, asSl, asM, asC] at hx
    split at hx
    · exact hx
    · exact hx.elim

theorem asVs_sound : ∀ {ss : List Sh} {vs : List V} {κ : List V → Prop}, asVs ss vs κ → κ vs
  | [], vs, κ, hx => by
    simp only [asVs, asNil] at hx
    split at hx
    · exact hx
    · exact hx.elim
  | s :: ss, vs, κ, hx => by
    simp only [asVs, asCons] at hx
    split at hx
    · have h2 := asV_sound hx; have h3 := asVs_sound h2; exact h3
    · exact hx.elim

theorem asR_sound {r : RS} {v : V} {κ : V → Prop} (hx : asR r v κ) : κ v := by
  cases r with
  | one s => exact asV_sound hx
  | agg ss =>
    simp only [asR, asAggV] at hx
    split at hx
    · exact asVs_sound hx
    · exact hx.elim
  | ago =>
    simp only [asR, asAgoV] at hx
    split at hx
    · exact hx
    · exact hx.elim


theorem ofAg_val (v : V) : V.val σ v.ofAg = V.val σ v := by cases v <;> rfl
theorem ofAg_wf {v : V} (h : v.wf) : v.ofAg.wf := by cases v <;> exact h

theorem key_same {ks : Sh} {k k' : V} (hk : keyIs ks k = true) (hk' : keyIs ks k' = true) :
    Instr.sameNow (shD ks) (V.val σ k) (V.val σ k') = some (keq k k') ∧ (keq k k' = true ↔ V.val σ k = V.val σ k') := by
  cases ks <;> cases k <;> simp only [keyIs] at hk <;> first | cases hk | skip
  all_goals cases k' <;> simp only [keyIs] at hk' <;> first | cases hk' | skip
  · have h1 := of_decide_eq_true hk; have h2 := of_decide_eq_true hk'
    subst h1; subst h2
    simp [shD, V.val, addr_vb, mref_vb, mref_none, Instr.sameNow, keq]
  · simp [shD, V.val, addr_vb, mref_vb, mref_none, Instr.sameNow, keq]
  · rename_i s s'
    have e : ((ByteArray.mk s.toArray == ByteArray.mk s'.toArray) = true) ↔ s = s' := by
      rw [MapKept.bytes_beq]
      constructor
      · intro h; injection h with h; simpa using congrArg Array.toList h
      · intro h; rw [h]
    refine ⟨?_, ?_⟩
    · simp only [shD, V.val, addr_vb, mref_vb, mref_none, Instr.sameNow, keq]
      congr 1
      cases hb : (s == s') with
      | true => have := eq_of_beq hb; exact e.2 this
      | false =>
        cases hc : (ByteArray.mk s.toArray == ByteArray.mk s'.toArray) with
        | false => rfl
        | true => have := e.1 hc; rw [this] at hb; simp at hb
    · simp [V.val, addr_vb, mref_vb, mref_none, keq]

theorem key_isKey {ks : Sh} {k : V} (hk : keyIs ks k = true) : MapKept.IsKey (shD ks) (V.val σ k) := by
  cases ks <;> cases k <;> simp only [keyIs] at hk <;> first | cases hk | skip
  · have h1 := of_decide_eq_true hk; subst h1; simp [shD, V.val, addr_vb, mref_vb, mref_none, MapKept.IsKey]
  · simp [shD, V.val, addr_vb, mref_vb, mref_none, MapKept.IsKey]
  · simp [shD, V.val, addr_vb, mref_vb, mref_none, MapKept.IsKey]

theorem find_spec {ks : Sh} {k : V} (hk : keyIs ks k = true) : ∀ (c : List MapEntry) (es : List (V × V)) (i : Nat), c.map (fun e => (e.key, e.val)) = es.map (fun p => (p.1.val σ, p.2.val σ)) → (∀ p ∈ es, keyIs ks p.1 = true) →
    (Instr.findNow (shD ks) (V.val σ k) c i = some none ∧ mfind k es = none ∧ (∀ v, mput k v es = es ++ [(k, v)]) ∧ (mdel k es = es ∧ ∀ bs : List Nat, bs.length = es.length → bdel k es bs = bs) ∧ ∀ x ∈ c, x.key ≠ V.val σ k) ∨
    ∃ j e p, Instr.findNow (shD ks) (V.val σ k) c i = some (some (i + j, e.val)) ∧ c[j]? = some e ∧ es[j]? = some p ∧ e.key = V.val σ k ∧ e.val = p.2.val σ ∧ mfind k es = some p.2 ∧ (∀ v, mput k v es = es.set j (k, v)) ∧ (mdel k es = es.eraseIdx j ∧ ∀ bs : List Nat, bs.length = es.length → bdel k es bs = bs.eraseIdx j) ∧ ∀ bs : List Nat, bs.length = es.length → bfind k es bs = bs[j]?
  | [], [], _, _, _ => .inl ⟨rfl, rfl, fun _ => rfl, ⟨rfl, fun bs _ => by cases bs <;> rfl⟩, by simp⟩
  | [], _ :: _, _, h, _ => by simp at h
  | _ :: _, [], _, h, _ => by simp at h
  | e :: c, (k', v') :: es, i, h, hks => by
    simp only [List.map_cons, List.cons.injEq, Prod.mk.injEq] at h
    obtain ⟨⟨h1, h2⟩, h⟩ := h
    obtain ⟨hs, hiff⟩ := key_same (σ := σ) hk (hks (k', v') (.head _))
    cases hq : keq k k' with
    | true =>
      rw [hq] at hs hiff
      exact .inr ⟨0, e, (k', v'), by simp [Instr.findNow, h1, hs], rfl, rfl, by rw [h1]; exact (hiff.1 rfl).symm, h2, by simp [mfind, hq], fun v => by simp [mput, hq], ⟨by simp [mdel, hq], fun bs hb => by cases bs with | nil => simp at hb | cons b bs => simp [bdel, hq]⟩, fun bs hb => by cases bs with | nil => simp at hb | cons b bs => simp [bfind, hq]⟩
    | false =>
      rw [hq] at hs hiff
      have hne : e.key ≠ V.val σ k := fun q => by rw [h1] at q; have := hiff.2 q.symm; cases this
      rcases find_spec hk c es (i + 1) h (fun p hp => hks p (.tail _ hp)) with ⟨g1, g2, g3, g4, g5⟩ | ⟨j, e', p, g1, g2, g3, g4, g5, g6, g7, g8⟩
      · exact .inl ⟨by simp [Instr.findNow, h1, hs, g1], by simp [mfind, hq, g2], fun v => by simp [mput, hq, g3], ⟨by simp [mdel, hq, g4.1], fun bs hb => by cases bs with | nil => simp at hb | cons b bs => simp [bdel, hq, g4.2 bs (by simpa using hb)]⟩, fun x hx => by
          cases hx with
          | head => exact hne
          | tail _ hx => exact g5 x hx⟩
      · exact .inr ⟨j + 1, e', p, by simp [Instr.findNow, h1, hs, g1]; omega, by simpa using g2, by simpa using g3, g4, g5, by simp [mfind, hq, g6], fun v => by simp [mput, hq, g7], ⟨by simp [mdel, hq, g8.1.1], fun bs hb => by cases bs with | nil => simp at hb | cons b bs => simp [bdel, hq, g8.1.2 bs (by simpa using hb)]⟩, fun bs hb => by cases bs with | nil => simp at hb | cons b bs => simp [bfind, hq, g8.2 bs (by simpa using hb)]⟩

theorem keq_self {ks : Sh} {k : V} (hk : keyIs ks k = true) : keq k k = true := by
  cases ks <;> cases k <;> simp_all [keyIs, keq]

theorem bfind_push {k : V} (hk : keq k k = true) {v : V} {n : Nat} : ∀ (es : List (V × V)) (bs : List Nat), bs.length = es.length → mfind k es = none → bfind k (es ++ [(k, v)]) (bs ++ [n]) = some n
  | [], [], _, _ => by simp [bfind, hk]
  | [], _ :: _, h, _ => by simp at h
  | _ :: _, [], h, _ => by simp at h
  | (k', v') :: es, b :: bs, h, hf => by
    cases hq : keq k k' with
    | true => simp [mfind, hq] at hf
    | false =>
      simp only [mfind, hq, cond_false] at hf
      simp only [List.cons_append, bfind, hq, cond_false]
      exact bfind_push hk es bs (by simpa using h) hf

theorem bfind_put {k : V} (hk : keq k k = true) {v : V} : ∀ (es : List (V × V)) (bs : List Nat) (u : V), mfind k es = some u → bfind k (mput k v es) bs = bfind k es bs
  | [], _, _, h => by simp [mfind] at h
  | (k', v') :: es, [], u, h => by
    cases hq : keq k k' with
    | true => simp [mput, hq, bfind]
    | false => simp [mput, hq, bfind]
  | (k', v') :: es, b :: bs, u, h => by
    cases hq : keq k k' with
    | true => simp [mput, hq, bfind, hk]
    | false =>
      simp only [mfind, hq, cond_false] at h
      simp only [mput, hq, cond_false, bfind]
      exact bfind_put hk es bs u h

theorem bfind_get {k v : V} : ∀ (es : List (V × V)) (bs : List Nat) (n : Nat), bfind k es bs = some n → ∃ j p, es[j]? = some p ∧ bs[j]? = some n ∧ mset k v es = es.set j (p.1, v)
  | [], [], _, h => by simp [bfind] at h
  | [], _ :: _, _, h => by simp [bfind] at h
  | _ :: _, [], _, h => by simp [bfind] at h
  | (k', v') :: es, b :: bs, n, h => by
    cases hq : keq k k' with
    | true =>
      simp only [bfind, hq, cond_true, Option.some.injEq] at h
      exact ⟨0, _, rfl, by simpa using h, by simp [mset, hq]⟩
    | false =>
      simp only [bfind, hq, cond_false] at h
      obtain ⟨j, p, h1, h2, h3⟩ := bfind_get (v := v) es bs n h
      exact ⟨j + 1, p, by simpa using h1, by simpa using h2, by simp [mset, hq, h3]⟩

theorem findIdx_born {l : List MapEntry} (hn : (l.map (·.born)).Nodup) {j : Nat} {e0 : MapEntry} (h : l[j]? = some e0) : l.findIdx? (fun e => (e.born : Int) == (e0.born : Int)) = some j := by
  induction l generalizing j with
  | nil => simp at h
  | cons a r ih =>
    simp only [List.map_cons, List.nodup_cons] at hn
    cases j with
    | zero =>
      simp only [List.getElem?_cons_zero, Option.some.injEq] at h
      subst h
      simp [List.findIdx?_cons]
    | succ j =>
      simp only [List.getElem?_cons_succ] at h
      have hne : a.born ≠ e0.born := fun e1 => hn.1 (List.mem_map.2 ⟨e0, List.mem_of_getElem? h, e1.symm⟩)
      have hb : ((a.born : Int) == (e0.born : Int)) = false := by
        simp only [beq_eq_false_iff_ne, ne_eq, Int.natCast_inj]
        exact hne
      rw [List.findIdx?_cons, hb]
      simp [ih hn.2 h]

theorem Sim.map (s : Sim σ W0 h w) {r : Nat} {ks : Sh} {es : List (V × V)} {bs : List Nat} {cl : Nat} (hr : h.obj r = some (.map ks es bs cl)) :
    ∃ k c, r = 2 * k ∧ w.heap[k]? = some (.map c cl) ∧ c.toList.map (fun e => (e.key, e.val)) = es.map (fun p => (p.1.val σ, p.2.val σ)) ∧ (∀ p ∈ es, keyIs ks p.1 = true ∧ p.2.wf1) ∧ MapKept.Stamped c cl ∧ c.toList.map (·.born) = bs := by
  obtain ⟨k, o, ek, ho, hs⟩ := s.known _ _ hr
  cases o <;> simp only [simO] at hs
  obtain ⟨h1, h2, h3, h4, rfl⟩ := hs
  exact ⟨k, _, ek, ho, h1, h2, h3, h4⟩

theorem Sim.setO (s : Sim σ W0 h w) {r k : Nat} (ek : r = 2 * k) {x y : HO} {o : Obj} (hr : h.obj r = some x) (hx : x.isRo = false) (hy : simO σ y o) : Sim σ W0 (h.setO r y) { w with heap := w.heap.setIfInBounds k o } := by
  obtain ⟨k', o', ek', ho', _⟩ := s.known _ _ hr
  obtain rfl : k = k' := by omega
  have hlt : k < w.heap.size := (Array.getElem?_eq_some_iff.1 ho').1
  have hh : ∀ b : Nat, (w.heap.setIfInBounds k o)[b]? = if b = k then some o else w.heap[b]? := by
    intro b
    by_cases hb : b = k
    · subst hb; simp [hlt]
    · rw [if_neg hb]; exact (MapKept.heap_set ho').2 b hb
  refine ⟨s.os, s.output, s.tape, by simp; exact s.size, ?_, ?_, ?_⟩
  · intro b z hz
    show ∃ k2 o2, b = 2 * k2 ∧ (w.heap.setIfInBounds k o)[k2]? = _ ∧ _
    simp only [Heap.setO] at hz
    by_cases hb : b = r
    · rw [if_pos hb] at hz; cases hz; exact ⟨k, o, by omega, by rw [hh, if_pos rfl], hy⟩
    · rw [if_neg hb] at hz
      obtain ⟨k2, o2, ek2, ho2, hs2⟩ := s.known b z hz
      exact ⟨k2, o2, ek2, by rw [hh, if_neg (by omega)]; exact ho2, hs2⟩
  · intro b hb
    show (w.heap.setIfInBounds k o)[b]? = _
    have := s.own _ _ hr hx
    rw [hh, if_neg (by omega)]
    exact s.old b hb
  · intro b z hz hro
    simp only [Heap.setO] at hz
    by_cases hb : b = r
    · subst hb; exact s.own _ _ hr hx
    · rw [if_neg hb] at hz; exact s.own b z hz hro

theorem TDok.key {P : Program} {kt : Nat} {ks : Sh} {k : V} (hk : keyIs ks k = true) (hd : TDok P kt (.leaf ks)) : P.underlying kt = some (shD ks) := by
  cases ks <;> cases k <;> simp only [keyIs] at hk <;> first | exact hd | cases hk

theorem run_zv {t : Nat} {i : TI} (k : TIok σ.P t i) : (∀ w, (zeroValue t).run σ.P w = .ok (V.val σ i.zv) w) ∧ i.zv.wf1 := by
  obtain ⟨info, hi, _, _, z, hz, hc⟩ := k.info
  have hg := k.zag info z hi hz
  have hzz : z = V.val σ i.zv ∧ i.zv.wf1 := by
    have h1 := k.zone
    have hl := k.zlen
    cases hsh : i.d.sh with
    | some sh =>
      have hag : ∀ cs, z ≠ .agg cs := by
        intro cs h; subst h; simp only [Value.isAgg'] at hg; rw [hsh] at hg; cases hg
      have hcell : z.cells = #[z] := by cases z <;> first | rfl | exact absurd rfl (hag _)
      have := hc σ
      rw [hcell] at this
      cases hzl : i.zero with
      | nil => rw [hzl] at this; simp [V.vals] at this
      | cons v vs =>
        rw [hzl] at this
        simp only [V.vals, List.cons.injEq] at this
        have e : i.zv = v := by simp [TI.zv, hsh, hzl]
        rw [e]
        exact ⟨this.1, by
          have h1 := h1 v (by rw [hzl]; simp)
          intro u hu; rw [V.one_cells h1] at hu; simp at hu; subst hu; exact h1⟩
    | none =>
      have : ∃ cs, z = .agg cs := by
        cases z <;> first | exact ⟨_, rfl⟩ | (simp only [Value.isAgg'] at hg; rw [hsh] at hg; cases hg)
      obtain ⟨cs, rfl⟩ := this
      have hcs : cs.toList = V.vals σ i.zero := hc σ
      cases hlv : i.leaves with
      | some ls =>
        have e : i.zv = .agg i.zero := by simp [TI.zv, hsh, hlv]
        rw [e]; exact ⟨by simp [V.val, addr_vb, mref_vb, mref_none, ← hcs], h1⟩
      | none =>
        have e : i.zv = .ago i.zero := by simp [TI.zv, hsh, hlv]
        rw [e]; exact ⟨by simp [V.val, addr_vb, mref_vb, mref_none, ← hcs], h1⟩
  exact ⟨fun w => by simp [zeroValue, typeInfo, hi, hz, hzz.1], hzz.2⟩

theorem lookup_sound (s : Sim σ W0 h w) {t kt et : Nat} {ks : Sh} {ie : TI} (ht : σ.P.underlying t = some (.map kt et)) (hkt : TDok σ.P kt (.leaf ks)) (ke : TIok σ.P et ie) {m : Option Nat} {u : V} (hu : keyIs ks u = true) {κ : Option V → Prop} (hx : mapGet ks m u κ h) :
    ∃ o : Option V, (o.getD ie.zv).wf1 ∧ (∀ c, (Instr.lookup t (V.val σ (.map m)) (V.val σ u) c).run σ.P w = .ok (V.val σ (bif c then .tup [o.getD ie.zv, .bool o.isSome] else o.getD ie.zv)) w) ∧ κ o := by
  obtain ⟨hz, hzw⟩ := run_zv (σ := σ) ke
  have hd := hkt.key hu
  have hik := key_isKey (σ := σ) hu
  cases m with
  | none =>
    refine ⟨none, hzw, fun c => ?_, hx⟩
    have hf : (Instr.findKey kt (V.val σ u) []).run σ.P w = .ok none w := MapKept.run_findKey hd rfl
    cases c <;> simp [Instr.lookup, run_under ht, V.val, addr_vb, mref_vb, mref_none, MapKept.run_checkKey hd hik, hf, hz, V.vals]
  | some r =>
    obtain ⟨es, bs, clock, hr, hk⟩ := hx
    obtain ⟨kb, c0, rfl, hc, hm, hw, hst, hbo⟩ := s.map hr
    rcases find_spec (σ := σ) hu c0.toList es 0 hm (fun p hp => (hw p hp).1) with ⟨g1, g2, _, _, _⟩ | ⟨j, e, p, g1, g2, g3, g4, g5, g6, _, _⟩
    · rw [g2] at hk
      refine ⟨none, hzw, fun c => ?_, hk⟩
      have hf : (Instr.findKey kt (V.val σ u) c0.toList).run σ.P w = .ok none w := MapKept.run_findKey hd g1
      cases c <;> simp [Instr.lookup, run_under ht, V.val, addr_vb, mref_vb, mref_none, MapKept.run_getObj_map hc, MapKept.run_checkKey hd hik, hf, hz, V.vals]
    · rw [g6] at hk
      refine ⟨some p.2, (hw p (List.mem_of_getElem? g3)).2, fun c => ?_, hk⟩
      have hf : (Instr.findKey kt (V.val σ u) c0.toList).run σ.P w = .ok (some (0 + j, e.val)) w := MapKept.run_findKey hd g1
      cases c <;> simp [Instr.lookup, run_under ht, V.val, addr_vb, mref_vb, mref_none, MapKept.run_getObj_map hc, MapKept.run_checkKey hd hik, hf, V.vals, g5]

theorem ent_sound (s : Sim σ W0 h w) {t kt et : Nat} {ks : Sh} {ie : TI} (ht : σ.P.underlying t = some (.map kt et)) (hkt : TDok σ.P kt (.leaf ks)) (ke : TIok σ.P et ie) {m : Option Nat} {u : V} (hu : keyIs ks u = true) {κ : V → Int → Heap → Prop} (hx : mapEnt ks m u ie.zv κ h) :
    ∃ (r : V) (b : Int) (h' : Heap) (w' : World), r.wf1 ∧ (Instr.mapEntry t (V.val σ (.map m)) (V.val σ u)).run σ.P w = .ok (V.val σ (.tup [r, .int .i64 b])) w' ∧ Sim σ W0 h' w' ∧ κ r b h' := by
  obtain ⟨hz, hzw⟩ := run_zv (σ := σ) ke
  have hd := hkt.key hu
  have hik := key_isKey (σ := σ) hu
  have hkk := keq_self hu
  cases m with
  | none => exact hx.elim
  | some r =>
    obtain ⟨es, bs, clock, hb, hk⟩ := hx
    obtain ⟨kb, c0, rfl, hc, hm, hw, hst, hbo⟩ := s.map hb
    have hlen : bs.length = es.length := by
      have h1 := congrArg List.length hm
      have h2 := congrArg List.length hbo
      simp at h1 h2; omega
    rcases find_spec (σ := σ) hu c0.toList es 0 hm (fun p hp => (hw p hp).1) with ⟨g1, g2, g3, _, g5⟩ | ⟨j, e, p, g1, g2, g3, g4, g5, g6, g7, _, g9⟩
    · have hf : (Instr.findKey kt (V.val σ u) c0.toList).run σ.P w = .ok none w := MapKept.run_findKey hd g1
      simp only [putO, g2, Option.getD_none] at hk
      have hborn := bfind_push hkk (v := ie.zv) (n := clock) es bs hlen g2
      rw [g3] at hk
      replace hk := hk clock hborn
      refine ⟨ie.zv, clock, _, _, hzw, ?_, s.setO rfl (y := .map ks (es ++ [(u, ie.zv)]) (bs ++ [clock]) (clock + 1)) (o := .map (c0.push { key := V.val σ u, val := V.val σ ie.zv, born := clock }) (clock + 1)) hb rfl ?_, hk⟩
      · simp [Instr.mapEntry, run_under ht, V.val, addr_vb, mref_vb, mref_none, V.vals, goInt, MapKept.run_getObj_map hc, MapKept.run_checkKey hd hik, hf, hz, MapKept.run_setObj_map _ hc]
      · refine ⟨by simp [hm], ?_, MapKept.stamped_push hst g5, by simp [hbo], rfl⟩
        intro q hq
        rcases List.mem_append.1 hq with hq | hq
        · exact hw q hq
        · simp at hq; subst hq; exact ⟨hu, hzw⟩
    · have hf : (Instr.findKey kt (V.val σ u) c0.toList).run σ.P w = .ok (some (0 + j, e.val)) w := MapKept.run_findKey hd g1
      have hj : c0[j]? = some e := by simpa using g2
      have hpw := (hw p (List.mem_of_getElem? g3)).2
      simp only [putO, g6, Option.getD_some] at hk
      have hbj : bs[j]? = some e.born := by rw [← hbo]; simp [hj]
      have hborn := (bfind_put hkk (v := p.2) es bs p.2 g6).trans ((g9 bs hlen).trans hbj)
      replace hk := hk e.born hborn
      refine ⟨p.2, e.born, _, _, hpw, ?_, s.setO rfl (y := .map ks (mput u p.2 es) bs clock) (o := .map (c0.modify j fun e => { e with key := V.val σ u }) clock) hb rfl ?_, hk⟩
      · simp [Instr.mapEntry, run_under ht, V.val, addr_vb, mref_vb, mref_none, V.vals, goInt, MapKept.run_getObj_map hc, MapKept.run_checkKey hd hik, hf, hj, g4, g5, MapKept.run_keyThatStays hik, MapKept.run_setObj_map _ hc]
      · have hlt : j < c0.size := (Array.getElem?_eq_some_iff.1 hj).1
        refine ⟨?_, ?_, MapKept.stamped_modify hst _ _ (fun _ _ => rfl) (fun e' _ he' => by rw [hj] at he'; cases he'; exact g4.symm), ?_, rfl⟩
        · rw [g7]
          apply List.ext_getElem?
          intro n
          have hmn : ∀ n : Nat, (c0.toList.map (fun e => (e.key, e.val)))[n]? = (es.map (fun p => (p.1.val σ, p.2.val σ)))[n]? := fun n => by rw [hm]
          have := hmn n
          simp only [List.getElem?_map, Array.getElem?_toList] at this
          simp only [List.getElem?_map, Array.getElem?_toList, Array.getElem?_modify, List.getElem?_set]
          by_cases hn : j = n
          · subst hn
            have : j < es.length := by
              rcases Nat.lt_or_ge j es.length with h | h
              · exact h
              · rw [List.getElem?_eq_none h] at g3; cases g3
            simp [hj, this, g5]
          · simp [hn, this]
        · intro q hq
          rw [g7] at hq
          rcases List.mem_or_eq_of_mem_set hq with hq | rfl
          · exact hw q hq
          · exact ⟨hu, hpw⟩
        · rw [← hbo]
          apply List.ext_getElem?
          intro n
          simp only [List.getElem?_map, Array.getElem?_toList, Array.getElem?_modify]
          by_cases hn : j = n
          · subst hn; simp [hj]
          · simp [hn]

theorem entPut_sound (s : Sim σ W0 h w) {t : Nat} {k0 : IntKind} {m : Option Nat} {b : Int} {r : V} (hr : r.wf1) {κ : Heap → Prop} (hx : entPut m b r κ h) :
    ∃ h' w', (Instr.entryStore t (V.val σ (.map m)) (V.val σ (.int k0 b)) (V.val σ r)).run σ.P w = .ok () w' ∧ Sim σ W0 h' w' ∧ κ h' := by
  cases m with
  | none => exact hx.elim
  | some a =>
    obtain ⟨ks, es, bs, clock, k, n, hb, hf, rfl, hk⟩ := hx
    obtain ⟨kb, c0, rfl, hc, hm, hw, hst, hbo⟩ := s.map hb
    obtain ⟨j, p, h1, h2, h3⟩ := bfind_get (v := r) es bs n hf
    obtain ⟨e, hj, rfl⟩ : ∃ e, c0[j]? = some e ∧ e.born = n := by
      rw [← hbo] at h2
      simp only [List.getElem?_map, Array.getElem?_toList] at h2
      cases hj : c0[j]? with
      | none => rw [hj] at h2; cases h2
      | some e => rw [hj] at h2; exact ⟨e, rfl, by simpa using h2⟩
    have hidx : c0.findIdx? (fun x => (x.born : Int) == (e.born : Int)) = some j := by
      have := findIdx_born hst.2.1 (j := j) (e0 := e) (by simpa using hj)
      rw [← this]
      cases c0
      simp
    refine ⟨_, _, ?_, s.setO rfl (y := .map ks (mset k r es) bs clock) (o := .map (c0.modify j fun e => { e with val := V.val σ r }) clock) hb rfl ?_, hk⟩
    · simp [Instr.entryStore, V.val, addr_vb, mref_vb, mref_none, MapKept.run_getObj_map hc, asInt, asIntOf, hidx, MapKept.run_setObj_map _ hc]
    · have hlt : j < es.length := by
        rcases Nat.lt_or_ge j es.length with h | h
        · exact h
        · rw [List.getElem?_eq_none h] at h1; cases h1
      refine ⟨?_, ?_, MapKept.stamped_modify hst _ _ (fun _ _ => rfl) (fun _ _ _ => rfl), ?_, rfl⟩
      · rw [h3]
        apply List.ext_getElem?
        intro n
        have hmn : ∀ n : Nat, (c0.toList.map (fun e => (e.key, e.val)))[n]? = (es.map (fun p => (p.1.val σ, p.2.val σ)))[n]? := fun n => by rw [hm]
        have := hmn n
        simp only [List.getElem?_map, Array.getElem?_toList] at this
        simp only [List.getElem?_map, Array.getElem?_toList, Array.getElem?_modify, List.getElem?_set]
        by_cases hn : j = n
        · subst hn
          rw [hj, h1] at this
          simp only [Option.map_some, Option.some.injEq, Prod.mk.injEq] at this
          simp [hj, hlt, this.1]
        · simp [hn, this]
      · intro q hq
        rw [h3] at hq
        rcases List.mem_or_eq_of_mem_set hq with hq | rfl
        · exact hw q hq
        · exact ⟨(hw p (List.mem_of_getElem? h1)).1, hr⟩
      · rw [← hbo]
        apply List.ext_getElem?
        intro n
        simp only [List.getElem?_map, Array.getElem?_toList, Array.getElem?_modify]
        by_cases hn : j = n
        · subst hn; simp [hj]
        · simp [hn]

theorem put_sound (s : Sim σ W0 h w) {t kt et : Nat} {ks : Sh} (ht : σ.P.underlying t = some (.map kt et)) (hkt : TDok σ.P kt (.leaf ks)) {m : Option Nat} {u r : V} (hu : keyIs ks u = true) (hr : r.wf1) {κ : Heap → Prop} (hx : mapPut ks m u r κ h) :
    ∃ h' w', (Instr.mapUpdate t (V.val σ (.map m)) (V.val σ u) (V.val σ r)).run σ.P w = .ok () w' ∧ Sim σ W0 h' w' ∧ κ h' := by
  have hd := hkt.key hu
  have hik := key_isKey (σ := σ) hu
  cases m with
  | none => exact hx.elim
  | some b =>
    obtain ⟨es, bs, clock, hb, hk⟩ := hx
    obtain ⟨kb, c0, rfl, hc, hm, hw, hst, hbo⟩ := s.map hb
    rcases find_spec (σ := σ) hu c0.toList es 0 hm (fun p hp => (hw p hp).1) with ⟨g1, g2, g3, _, g5⟩ | ⟨j, e, p, g1, g2, g3, g4, g5, g6, g7, _⟩
    · have hf : (Instr.findKey kt (V.val σ u) c0.toList).run σ.P w = .ok none w := MapKept.run_findKey hd g1
      refine ⟨_, _, ?_, s.setO rfl (y := .map ks (mput u r es) (bs ++ [clock]) (clock + 1)) (o := .map (c0.push { key := V.val σ u, val := V.val σ r, born := clock }) (clock + 1)) hb rfl ?_, by simpa only [putO, g2] using hk⟩
      · simp [Instr.mapUpdate, run_under ht, V.val, addr_vb, mref_vb, mref_none, MapKept.run_getObj_map hc, MapKept.run_checkKey hd hik, hf, MapKept.run_setObj_map _ hc]
      · refine ⟨by simp [g3, hm], ?_, MapKept.stamped_push hst g5, by simp [hbo], rfl⟩
        intro q hq
        rw [g3] at hq
        rcases List.mem_append.1 hq with hq | hq
        · exact hw q hq
        · simp at hq; subst hq; exact ⟨hu, hr⟩
    · have hf : (Instr.findKey kt (V.val σ u) c0.toList).run σ.P w = .ok (some (0 + j, e.val)) w := MapKept.run_findKey hd g1
      have hj : c0[j]? = some e := by simpa using g2
      refine ⟨_, _, ?_, s.setO rfl (y := .map ks (mput u r es) bs clock) (o := .map (c0.modify j fun e => { e with key := V.val σ u, val := V.val σ r }) clock) hb rfl ?_, by simpa only [putO, g6] using hk⟩
      · simp [Instr.mapUpdate, run_under ht, V.val, addr_vb, mref_vb, mref_none, MapKept.run_getObj_map hc, MapKept.run_checkKey hd hik, hf, hj, g4, MapKept.run_keyThatStays hik, MapKept.run_setObj_map _ hc]
      · have hlt : j < c0.size := (Array.getElem?_eq_some_iff.1 hj).1
        refine ⟨?_, ?_, MapKept.stamped_modify hst _ _ (fun _ _ => rfl) (fun e' _ he' => by rw [hj] at he'; cases he'; exact g4.symm), ?_, rfl⟩
        · rw [g7]
          apply List.ext_getElem?
          intro n
          have hmn : ∀ n : Nat, (c0.toList.map (fun e => (e.key, e.val)))[n]? = (es.map (fun p => (p.1.val σ, p.2.val σ)))[n]? := fun n => by rw [hm]
          have := hmn n
          simp only [List.getElem?_map, Array.getElem?_toList] at this
          simp only [List.getElem?_map, Array.getElem?_toList, Array.getElem?_modify, List.getElem?_set]
          by_cases hn : j = n
          · subst hn
            have : j < es.length := by
              rcases Nat.lt_or_ge j es.length with h | h
              · exact h
              · rw [List.getElem?_eq_none h] at g3; cases g3
            simp [hj, this]
          · simp [hn, this]
        · intro q hq
          rw [g7] at hq
          rcases List.mem_or_eq_of_mem_set hq with hq | rfl
          · exact hw q hq
          · exact ⟨hu, hr⟩
        · rw [← hbo]
          apply List.ext_getElem?
          intro n
          simp only [List.getElem?_map, Array.getElem?_toList, Array.getElem?_modify]
          by_cases hn : j = n
          · subst hn; simp [hj]
          · simp [hn]

theorem del_sound (s : Sim σ W0 h w) {t kt et ty : Nat} {ts : List Nat} {ks : Sh} (ht : σ.P.underlying t = some (.map kt et)) (hkt : TDok σ.P kt (.leaf ks)) {m : Option Nat} {u : V} (hu : keyIs ks u = true) {κ : Heap → Prop} (hx : mapDel ks m u κ h) :
    ∃ h' w', (Builtin.delete_ (t :: ts).toArray ty #[V.val σ (.map m), V.val σ u]).run σ.P w = .ok (.tuple #[]) w' ∧ Sim σ W0 h' w' ∧ κ h' := by
  have hd := hkt.key hu
  have hik := key_isKey (σ := σ) hu
  cases m with
  | none =>
    exact ⟨h, w, by simp [Builtin.delete_, run_under ht, V.val, addr_vb, mref_vb, mref_none, MapKept.run_checkKey hd hik], s, hx⟩
  | some b =>
    obtain ⟨es, bs, clock, hb, hk⟩ := hx
    obtain ⟨kb, c0, rfl, hc, hm, hw, hst, hbo⟩ := s.map hb
    have hbl : bs.length = es.length := by rw [← hbo, List.length_map]; simpa using congrArg List.length hm
    rcases find_spec (σ := σ) hu c0.toList es 0 hm (fun p hp => (hw p hp).1) with ⟨g1, _, _, g4, g5⟩ | ⟨j, e, p, g1, g2, g3, g4, g5, _, _, g8⟩
    · have hf : (Instr.findKey kt (V.val σ u) c0.toList).run σ.P w = .ok none w := MapKept.run_findKey hd g1
      refine ⟨_, _, ?_, s.setO rfl (y := .map ks (mdel u es) (bdel u es bs) clock) (o := .map c0 clock) hb rfl ?_, hk⟩
      · simp [Builtin.delete_, run_under ht, V.val, addr_vb, mref_vb, mref_none, MapKept.run_getObj_map hc, MapKept.run_checkKey hd hik, hf, MapKept.run_setObj_map _ hc]
      · rw [g4.1, g4.2 bs hbl]; exact ⟨hm, hw, hst, hbo, rfl⟩
    · have hf : (Instr.findKey kt (V.val σ u) c0.toList).run σ.P w = .ok (some (0 + j, e.val)) w := MapKept.run_findKey hd g1
      have hj : c0[j]? = some e := by simpa using g2
      have hlt : j < c0.size := (Array.getElem?_eq_some_iff.1 hj).1
      refine ⟨_, _, ?_, s.setO rfl (y := .map ks (mdel u es) (bdel u es bs) clock) (o := .map (c0.eraseIdxIfInBounds j) clock) hb rfl ?_, hk⟩
      · simp [Builtin.delete_, run_under ht, V.val, addr_vb, mref_vb, mref_none, MapKept.run_getObj_map hc, MapKept.run_checkKey hd hik, hf, MapKept.run_setObj_map _ hc]
      · have hte : (c0.eraseIdxIfInBounds j).toList = c0.toList.eraseIdx j := by simp [Array.eraseIdxIfInBounds, hlt]
        refine ⟨?_, ?_, MapKept.stamped_erase hst _, ?_, rfl⟩
        · rw [g8.1.1]
          rw [hte, List.eraseIdx_eq_take_drop_succ, List.eraseIdx_eq_take_drop_succ, List.map_append, List.map_append, List.map_take, List.map_drop, List.map_take, List.map_drop, hm]
        · intro q hq
          rw [g8.1.1] at hq
          exact hw q (List.mem_of_mem_eraseIdx hq)
        · rw [g8.1.2 bs hbl, hte, ← hbo, List.eraseIdx_eq_take_drop_succ, List.eraseIdx_eq_take_drop_succ, List.map_append, List.map_take, List.map_drop]

theorem makeMap_sound (s : Sim σ W0 h w) {t : Nat} {ks : Sh} {κ : Nat → Heap → Prop} (hx : alM ks κ h) :
    ∃ h' w' b, (Instr.makeMap t none).run σ.P w = .ok (V.val σ (.map (some b))) w' ∧ Sim σ W0 h' w' ∧ κ b h' := by
  refine ⟨_, _, 2 * w.heap.size, ?_, s.new (x := .map ks [] [] 0) (o := .map #[] 0) ⟨rfl, by simp, MapKept.stamped_empty 0, rfl, rfl⟩, hx _ s.size_none⟩
  simp [Instr.makeMap, V.val, addr_vb, mref_vb, mref_none]

theorem mapLen_sound (s : Sim σ W0 h w) {t kt et ty : Nat} {ts : List Nat} (ht : σ.P.underlying t = some (.map kt et)) {m : Option Nat} {κ : Int → Prop} (hx : mapLen m κ h) :
    ∃ n, (Builtin.len_ (t :: ts).toArray ty #[V.val σ (.map m)]).run σ.P w = .ok (.int .i64 n) w ∧ κ n := by
  cases m with
  | none => exact ⟨_, by simp [Builtin.len_, run_under ht, V.val, addr_vb, mref_vb, mref_none, goInt], hx⟩
  | some r =>
    obtain ⟨ks, es, bs, cl, hr, hk⟩ := hx
    obtain ⟨kb, c0, rfl, hc, hm, hw, hst, _⟩ := s.map hr
    have hl : c0.size = es.length := by simpa using congrArg List.length hm
    exact ⟨_, by simp [Builtin.len_, run_under ht, V.val, addr_vb, mref_vb, mref_none, MapKept.run_getObj_map hc, goInt, hl], hk⟩

theorem Sim.chan (s : Sim σ W0 h w) {b cap : Nat} {q : List V} (hb : h.obj b = some (.chan cap q)) :
    ∃ k n m, b = 2 * k ∧ w.heap[k]? = some (.chan cap (V.vals σ q).toArray false n m false) ∧ ∀ v ∈ q, v.wf1 := by
  obtain ⟨k, o, ek, ho, hs⟩ := s.known _ _ hb
  cases o <;> simp only [simO] at hs
  obtain ⟨rfl, hq, hw, rfl, rfl⟩ := hs
  exact ⟨k, _, _, ek, by rw [ho, ← hq], hw⟩

theorem run_getObj_ch {P : Program} {w : World} {r cap n m : Nat} {q : Array Value} {c t : Bool} (hb : w.heap[r]? = some (.chan cap q c n m t)) : (getObj r).run P w = .ok (.chan cap q c n m t) w := by
  simp [getObj, Sem.run, hb]

theorem chLen_sound (s : Sim σ W0 h w) {t et ty : Nat} {di : ChanDir} {ts : List Nat} (ht : σ.P.underlying t = some (.chan di et)) {m : Option Nat} {κ : Int → Prop} (hx : chLen m κ h) :
    ∃ n, (Builtin.len_ (t :: ts).toArray ty #[V.val σ (.chan m)]).run σ.P w = .ok (.int .i64 n) w ∧ κ n := by
  cases m with
  | none => exact ⟨_, by simp [Builtin.len_, run_under ht, V.val, mref_none, goInt], hx⟩
  | some r =>
    obtain ⟨cap, q, hr, hk⟩ := hx
    obtain ⟨kb, n, m, rfl, hc, _⟩ := s.chan hr
    exact ⟨_, by simp [Builtin.len_, run_under ht, V.val, mref_vb, run_getObj_ch hc, goInt, vals_map], hk⟩

theorem alC_sound (s : Sim σ W0 h w) {t et : Nat} {di : ChanDir} {info : TypeInfo} (ht : σ.P.underlying t = some (.chan di et)) (hi : σ.P.info? et = some info) (hb : info.bytes ≤ 65536) {n : Int} (h0 : 0 ≤ n) (h1 : n ≤ 65536) {κ : Nat → Heap → Prop} (hx : alC n.toNat κ h) :
    ∃ h' w' b, (Instr.makeChan t (.int .i64 n)).run σ.P w = .ok (V.val σ (.chan (some b))) w' ∧ Sim σ W0 h' w' ∧ κ b h' := by
  refine ⟨_, _, 2 * w.heap.size, ?_, s.new (x := .chan n.toNat []) (o := .chan n.toNat #[] false 0 0 false) ⟨rfl, rfl, by simp, rfl, rfl⟩, hx _ s.size_none⟩
  have hti : ∀ w, (typeInfo et).run σ.P w = .ok info w := by intro w'; simp [typeInfo, hi]
  have w1 : IntKind.i64.wrap n = n := by simp [IntKind.wrap, IntKind.bits, IntKind.signed]; omega
  have hby : ¬ (281474976710544 < (info.bytes : Int) * n) := by
    have h2 : (info.bytes : Int) * n ≤ 65536 * 65536 := Int.mul_le_mul (by omega) h1 h0 (by omega)
    omega
  have hmx : ¬ 9223372036854775807 < n := by omega
  have hn0 : ¬ n < 0 := by omega
  simp [Instr.makeChan, asInt, asIntOf, run_under ht, hti, hn0, hmx, hby, V.val, mref_vb]

theorem range_sound (s : Sim σ W0 h w) {t kt et : Nat} (ht : σ.P.underlying t = some (.map kt et)) {m : Option Nat} {κ : Nat → Heap → Prop} (hx : rangeM m κ h) :
    ∃ h' w' b, (Instr.range t (V.val σ (.map m))).run σ.P w = .ok (V.val σ (.ptr (some ⟨b, 0⟩))) w' ∧ Sim σ W0 h' w' ∧ κ b h' := by
  cases m with
  | none =>
    refine ⟨_, _, 2 * w.heap.size, ?_, s.new (x := .iter none 0 [] 0) (o := .mapIter none 0 #[] 0) ⟨rfl, rfl, rfl, rfl⟩, hx _ s.size_none⟩
    simp [Instr.range, run_under ht, V.val, addr_vb, mref_vb, mref_none]
  | some r =>
    obtain ⟨ks, es, bs, cl, hr, hk⟩ := hx
    obtain ⟨kb, c0, rfl, hc, _⟩ := s.map hr
    refine ⟨_, _, 2 * w.heap.size, ?_, s.new (x := .iter (some (2 * kb)) cl [] cl) (o := .mapIter (some kb) cl #[] cl) ⟨(mref_vb kb).symm, rfl, rfl, rfl⟩, hk _ s.size_none⟩
    simp [Instr.range, run_under ht, V.val, addr_vb, mref_vb, mref_none, MapKept.run_getObj_map hc]

theorem Sim.iter (s : Sim σ W0 h w) {b : Nat} {m : Option Nat} {since last : Nat} {seen : List Nat} (hb : h.obj b = some (.iter m since seen last)) :
    ∃ k, b = 2 * k ∧ w.heap[k]? = some (.mapIter (mref m) since seen.toArray last) := by
  obtain ⟨k, o, ek, ho, hs⟩ := s.known _ _ hb
  cases o <;> simp only [simO] at hs
  obtain ⟨rfl, rfl, rfl, rfl⟩ := hs
  exact ⟨k, ek, by simpa using ho⟩

theorem run_getObj_at {P : Program} {w : World} {r : Nat} {m : Option Nat} {since last : Nat} {seen : Array Nat} (hb : w.heap[r]? = some (.mapIter m since seen last)) : (getObj r).run P w = .ok (.mapIter m since seen last) w := by
  simp [getObj, Sem.run, hb]
theorem run_setObj_at {P : Program} {w : World} {r : Nat} {m : Option Nat} {since last : Nat} {seen : Array Nat} (o : Obj) (hb : w.heap[r]? = some (.mapIter m since seen last)) : (setObj r o).run P w = .ok () { w with heap := w.heap.setIfInBounds r o } := by
  simp [setObj, Sem.run, hb]

theorem rangeS_sound (s : Sim σ W0 h w) {t : Nat} (ht : σ.P.underlying t = some .string) {l : List UInt8} {κ : Nat → Heap → Prop} (hx : rangeS l κ h) :
    ∃ h' w' b, (Instr.range t (V.val σ (.str l))).run σ.P w = .ok (V.val σ (.ptr (some ⟨b, 0⟩))) w' ∧ Sim σ W0 h' w' ∧ κ b h' := by
  refine ⟨_, _, 2 * w.heap.size, ?_, s.new (x := .siter l 0) (o := .stringIter ⟨l.toArray⟩ 0) ⟨rfl, rfl⟩, hx _ s.size_none⟩
  simp [Instr.range, run_under ht, V.val, addr_vb, mref_vb, mref_none]

theorem Sim.siter (s : Sim σ W0 h w) {b : Nat} {l : List UInt8} {pos : Nat} (hb : h.obj b = some (.siter l pos)) :
    ∃ k, b = 2 * k ∧ w.heap[k]? = some (.stringIter ⟨l.toArray⟩ pos) := by
  obtain ⟨k, o, ek, ho, hs⟩ := s.known _ _ hb
  cases o <;> simp only [simO] at hs
  obtain ⟨rfl, rfl⟩ := hs
  exact ⟨k, ek, by simpa using ho⟩

theorem run_getObj_st {P : Program} {w : World} {r : Nat} {l : ByteArray} {pos : Nat} (hb : w.heap[r]? = some (.stringIter l pos)) : (getObj r).run P w = .ok (.stringIter l pos) w := by
  simp [getObj, Sem.run, hb]
theorem run_setObj_st {P : Program} {w : World} {r : Nat} {l : ByteArray} {pos : Nat} (o : Obj) (hb : w.heap[r]? = some (.stringIter l pos)) : (setObj r o).run P w = .ok () { w with heap := w.heap.setIfInBounds r o } := by
  simp [setObj, Sem.run, hb]

theorem nextS_sound (s : Sim σ W0 h w) {b ty : Nat} {κ : V → Heap → Prop} (hx : nextS b (fun h => κ (.tup [.bool false]) h) (fun i c h => κ (.tup [.bool true, .int .i64 i, .int .i32 c]) h) h) :
    ∃ v h' w', (Instr.next (V.val σ (.ptr (some ⟨b, 0⟩))) true ty).run σ.P w = .ok (V.val σ v) w' ∧ v.wf ∧ Sim σ W0 h' w' ∧ κ v h' := by
  obtain ⟨l, pos, hb, hx⟩ := hx
  obtain ⟨ki, rfl, hi⟩ := s.siter hb
  have wover : V.wf (.tup [.bool false]) := by intro v hv; simp at hv; subst hv; exact V.wf_one (v := .bool false) rfl
  by_cases hp : pos < l.length
  · rw [if_pos hp] at hx
    have hs' := s.setO rfl (y := .siter l (pos + (runeAt l pos).2)) (o := .stringIter ⟨l.toArray⟩ (pos + (runeAt l pos).2)) hb rfl ⟨rfl, rfl⟩
    refine ⟨_, _, _, ?_, ?_, hs', hx⟩
    · have hp' : pos < (⟨l.toArray⟩ : ByteArray).size := by simpa [ByteArray.size] using hp
      simp [Instr.next, V.val, addr_vb, mref_vb, mref_none, run_getObj_st hi, run_setObj_st _ hi, V.vals, hp', runeAt, goInt]
    · intro v hv
      simp at hv
      rcases hv with rfl | rfl | rfl
      · exact V.wf_one (v := .bool true) rfl
      · exact V.wf_one (v := .int .i64 _) rfl
      · exact V.wf_one (v := .int .i32 _) rfl
  · rw [if_neg hp] at hx
    refine ⟨_, h, w, ?_, wover, s, hx⟩
    have hp' : ¬ pos < (⟨l.toArray⟩ : ByteArray).size := by simpa [ByteArray.size] using hp
    simp [Instr.next, V.val, addr_vb, mref_vb, mref_none, run_getObj_st hi, V.vals, hp']

theorem key_one {ks : Sh} {k : V} (h : keyIs ks k = true) : k.one = true := by
  cases ks <;> cases k <;> first | rfl | cases h

theorem choose_next {P : Program} (w : World) {n : Nat} (hn : 0 < n) : ∃ j w1, j < n ∧ (choose (Question.mapNext n)).run P w = .ok j w1 ∧ (w1 = w ∨ w1 = w.drew) := by
  by_cases h1 : n ≤ 1
  · exact ⟨0, w, hn, by simp [Question.forced, h1], .inl rfl⟩
  · exact ⟨w.tape w.drawn (.mapNext n) % n, w.drew, Nat.mod_lt _ hn, by simp [Question.forced, Question.cut, h1], .inr rfl⟩

theorem next_sound (s : Sim σ W0 h w) {b ty : Nat} {κ : V → Heap → Prop} (hx : nextM b (fun h => κ (.tup [.bool false]) h) (fun k u h => κ (.tup [.bool true, k, u]) h) h) :
    ∃ v h' w', (Instr.next (V.val σ (.ptr (some ⟨b, 0⟩))) false ty).run σ.P w = .ok (V.val σ v) w' ∧ v.wf ∧ Sim σ W0 h' w' ∧ κ v h' := by
  obtain ⟨m, since, seen, last, hb, hx⟩ := hx
  obtain ⟨ki, rfl, hi⟩ := s.iter hb
  have wover : V.wf (.tup [.bool false]) := by intro v hv; simp at hv; subst hv; exact V.wf_one (v := .bool false) rfl
  cases m with
  | none =>
    refine ⟨_, h, w, ?_, wover, s, hx⟩
    simp [Instr.next, V.val, addr_vb, mref_vb, mref_none, run_getObj_at hi, V.vals]
  | some r =>
    obtain ⟨ks, es, bs, cl, hr, hno, hover, hstep⟩ := hx
    obtain ⟨kb, c0, rfl, hc, hm, hw, hst, hbo⟩ := s.map hr
    rw [mref_vb] at hi
    have hlen : c0.toList.length = es.length := by simpa using congrArg List.length hm
    have hborn : ∀ e ∈ c0.toList, e.born ∈ bs := by
      intro e he; rw [← hbo]; exact List.mem_map.2 ⟨e, he, rfl⟩
    have hnoB : (!seen.toArray.isEmpty && !c0.isEmpty && c0.all (fun e => decide (e.born ≥ last))) = false := by
      cases hB : (!seen.toArray.isEmpty && !c0.isEmpty && c0.all (fun e => decide (e.born ≥ last))) with
      | false => rfl
      | true =>
        exfalso
        simp only [Bool.and_eq_true, Bool.not_eq_true'] at hB
        obtain ⟨⟨h1, h2⟩, h3⟩ := hB
        apply hno
        refine ⟨fun e => by subst e; simp at h1, fun e => ?_, fun b hb' => ?_⟩
        · subst e
          have : c0.size = 0 := by simpa using hlen
          simp [Array.isEmpty, this] at h2
        · rw [← hbo] at hb'
          obtain ⟨e, he, rfl⟩ := List.mem_map.1 hb'
          rw [Array.all_eq_true'] at h3
          have := h3 e (by simpa using he)
          simpa using this
    let left := c0.filter fun e => !seen.toArray.contains e.born
    let old := left.filter (·.born < since)
    let new := left.filter (·.born ≥ since)
    let L : Array (Option MapEntry) := (if old.isEmpty then #[none] else #[]) ++ (old ++ new).map some
    have hL : 0 < L.size := by
      simp only [L]
      by_cases ho : old.isEmpty = true
      · rw [if_pos ho]; simp; omega
      · rw [if_neg ho]
        have : 0 < old.size := by
          rcases Nat.eq_zero_or_pos old.size with h | h
          · exact absurd (by simp [Array.isEmpty, h]) ho
          · exact h
        simp; omega
    obtain ⟨j, w1, hj, hch, hw1⟩ := choose_next (P := σ.P) w hL
    have s1 : Sim σ W0 h w1 := by rcases hw1 with rfl | rfl; exact s; exact s.drew
    have hh1 : w1.heap = w.heap := by rcases hw1 with rfl | rfl <;> rfl
    have hLj : L[j]? = some L[j] := Array.getElem?_eq_getElem hj
    have hrun : (Instr.next (V.val σ (.ptr (some ⟨2 * ki, 0⟩))) false ty).run σ.P w =
        (match L[j]? with
          | some (some e) => (do setObj ki (.mapIter (some kb) since (seen.toArray.push e.born) cl); pure (.tuple #[.bool true, e.key, e.val]) : Sem Value)
          | some none => pure (.tuple #[.bool false])
          | none => stuck "Next: no such candidate").run σ.P w1 := by
      unfold Instr.next
      simp only [V.val, addr_vb, mref_vb, mref_none, Option.map_some, Sem.run_bind, run_getObj_at hi, MapKept.run_getObj_map hc, Result.andThen_ok, hnoB, Bool.false_eq_true, if_false]
      have : (choose (Question.mapNext L.size)).run σ.P w = .ok j w1 := hch
      simp only [L, left, old, new] at this
      simp only [this, Result.andThen_ok, L, left, old, new]
      rfl
    cases hLe : L[j] with
    | none =>
      rw [hLe] at hLj
      refine ⟨_, h, w1, by rw [hrun, hLj]; simp [V.val, addr_vb, mref_vb, mref_none, V.vals], wover, s1, hover (fun b' hb' hns => ?_)⟩
      -- none is left that stood there at the start
      have hemp : old.isEmpty = true := by
        cases ho : old.isEmpty with
        | true => rfl
        | false =>
          have hmem : (none : Option MapEntry) ∈ L := by rw [← hLe]; exact Array.getElem_mem hj
          simp [L, ho] at hmem
      rcases Nat.lt_or_ge b' since with hlt | hge
      · rw [← hbo] at hb'
        obtain ⟨e, he, rfl⟩ := List.mem_map.1 hb'
        have hin : e ∈ old := by
          simp only [old, left, Array.mem_filter]
          refine ⟨⟨by simpa using he, by simpa using hns⟩, by simpa using hlt⟩
        have : old.size = 0 := by simpa [Array.isEmpty] using hemp
        have := Array.size_pos_of_mem hin
        omega
      · exact hge
    | some e =>
      rw [hLe] at hLj
      have hel : e ∈ left := by
        have hmem : some e ∈ L := by rw [← hLe]; exact Array.getElem_mem hj
        simp only [L, Array.mem_append, Array.mem_map] at hmem
        rcases hmem with hmem | ⟨x, hx, hxe⟩
        · split at hmem <;> simp at hmem
        · cases hxe
          rcases hx with hx | hx <;> simp only [old, new, Array.mem_filter] at hx <;> exact hx.1
      simp only [left, Array.mem_filter] at hel
      obtain ⟨hec, hes⟩ := hel
      obtain ⟨i, hi'⟩ := List.getElem?_of_mem (l := c0.toList) (by simpa using hec)
      have hm' : (c0.toList.map (fun e => (e.key, e.val)))[i]? = (es.map (fun p => (p.1.val σ, p.2.val σ)))[i]? := by rw [hm]
      rw [List.getElem?_map, hi', List.getElem?_map] at hm'
      cases hei : es[i]? with
      | none => rw [hei] at hm'; cases hm'
      | some p =>
        rw [hei] at hm'
        simp only [Option.map_some, Option.some.injEq, Prod.mk.injEq] at hm'
        have hbi : bs[i]? = some e.born := by rw [← hbo, List.getElem?_map, hi']; rfl
        have hns : e.born ∉ seen := by simpa using hes
        have hk := hstep i p.1 p.2 e.born hei hbi hns
        have hi1 : w1.heap[ki]? = some (.mapIter (some kb) since seen.toArray last) := by rw [hh1]; exact hi
        have hs' := s1.setO rfl (y := .iter (some (2 * kb)) since (seen ++ [e.born]) cl) (o := .mapIter (some kb) since (seen.toArray.push e.born) cl) hb rfl ⟨(mref_vb kb).symm, rfl, by simp, rfl⟩
        have hpw := hw p (List.mem_of_getElem? hei)
        refine ⟨.tup [.bool true, p.1, p.2], _, _, ?_, ?_, hs', hk⟩
        · rw [hrun, hLj]
          simp [run_setObj_at _ hi1, V.val, addr_vb, mref_vb, mref_none, V.vals, hm'.1, hm'.2]
        · intro v hv
          simp only [List.mem_cons, List.not_mem_nil, or_false] at hv
          rcases hv with rfl | rfl | rfl
          · exact V.wf_one (v := .bool true) rfl
          · have h1 := key_one hpw.1
            intro u hu
            rw [V.one_cells h1] at hu
            simp at hu; subst hu; exact h1
          · exact hpw.2

theorem find_born {b : Nat} : ∀ {l : List MapEntry} {i : Nat} {e : MapEntry}, (l.map (·.born)).Nodup → l[i]? = some e → e.born = b → l.find? (fun e => e.born == b) = some e
  | [], i, e, _, h, _ => by cases h
  | x :: l, 0, e, hn, h, hb => by cases h; simp [hb]
  | x :: l, i + 1, e, hn, h, hb => by
    simp only [List.map_cons, List.nodup_cons] at hn
    have hl : l[i]? = some e := by simpa using h
    have hne : (x.born == b) = false := by
      cases hq : x.born == b with
      | false => rfl
      | true =>
        have : x.born = b := by simpa using hq
        exact absurd (List.mem_map.2 ⟨e, List.mem_of_getElem? hl, by rw [hb, this]⟩) hn.1
    rw [List.find?_cons, hne]
    exact find_born hn.2 hl hb

theorem entry_sound (s : Sim σ W0 h w) {b : Nat} {κ : V → V → Prop} (hx : entryM b κ h) :
    ∃ k u, (Instr.entry (V.val σ (.ptr (some ⟨b, 0⟩)))).run σ.P w = .ok (V.val σ (.tup [k, u])) w ∧ (V.tup [k, u]).wf ∧ κ k u := by
  obtain ⟨r, since, seen, last, hb, ks, es, bs, hr, i, k, v, bn, hlast, hbi, hei, hk⟩ := hx
  obtain ⟨ki, rfl, hi⟩ := s.iter hb
  obtain ⟨kb, c0, rfl, hc, hm, hw, hst, hbo⟩ := s.map hr
  rw [mref_vb] at hi
  refine ⟨k, v, ?_, ?_, hk⟩
  · have hci : ∃ e, c0.toList[i]? = some e ∧ e.born = bn ∧ e.key = k.val σ ∧ e.val = v.val σ := by
      rw [← hbo, List.getElem?_map] at hbi
      cases he : c0.toList[i]? with
      | none => rw [he] at hbi; cases hbi
      | some e =>
        rw [he] at hbi
        have hm' : (c0.toList.map (fun e => (e.key, e.val)))[i]? = (es.map (fun p => (p.1.val σ, p.2.val σ)))[i]? := by rw [hm]
        rw [List.getElem?_map, he, List.getElem?_map, hei] at hm'
        simp only [Option.map_some, Option.some.injEq, Prod.mk.injEq] at hm' hbi
        exact ⟨e, rfl, hbi, hm'.1, hm'.2⟩
    obtain ⟨e, he, hbe, h1, h2⟩ := hci
    have hf : c0.find? (fun e => e.born == bn) = some e := by
      have := find_born hst.2.1 he hbe
      rw [← Array.find?_toList]; exact this
    have hbk : seen.toArray.back? = some bn := by simpa using hlast
    simp [Instr.entry, V.val, addr_vb, mref_vb, mref_none, V.vals, run_getObj_at hi, MapKept.run_getObj_map hc, hbk, hf, h1, h2]
  · have hpw := hw (k, v) (List.mem_of_getElem? hei)
    intro u hu
    simp only [List.mem_cons, List.not_mem_nil, or_false] at hu
    rcases hu with rfl | rfl
    · have h1 := key_one hpw.1
      intro z hz
      rw [V.one_cells h1] at hz
      simp at hz; subst hz; exact h1
    · exact hpw.2

end
end Go.Lift

namespace Go.Lift
open Go.RowKit

section
variable {σ : Seat} {W0 : World} {h : Heap} {w : World} {E : Env} {ρ : Fr} {a : Act}

/-- What an operation's value leads to. -/
def Nx (σ : Seat) (W0 : World) (κ : V → Heap → Prop) (a : Act) (dst : Option Tmp) (a' : Act) (w' : World) : Prop :=
  ∃ v h', a' = a.put dst (V.val σ v) ∧ v.wf ∧ Sim σ W0 h' w' ∧ κ v h'

theorem wp_val {o : Oper} {κ : V → Heap → Prop} {Q : Exit → Act → World → Prop} {v : V} {h' : Heap} {w' : World} (hr : (execOp a.eval o).run σ.P w = .ok (.value (V.val σ v)) w') (hv : v.wf) (hs : Sim σ W0 h' w') (hk : κ v h') :
    Oper.wp σ.P o a w (Nx σ W0 κ a o.dst) Q := by
  unfold Oper.wp
  rw [hr, Oper.upon_value]
  exact ⟨v, h', rfl, hv, hs, hk⟩

theorem wp_skip' {o : Oper} {κ : V → Heap → Prop} {Q : Exit → Act → World → Prop} {h' : Heap} {w' : World} (hr : (execOp a.eval o).run σ.P w = .ok .skip w') (hs : Sim σ W0 h' w') (hk : κ (.tup []) h') :
    Oper.wp σ.P o a w (Nx σ W0 κ a o.dst) Q := by
  unfold Oper.wp
  rw [hr, Oper.upon_skip]
  exact ⟨.tup [], h', rfl, by intro v hv; simp at hv, hs, hk⟩

theorem wp_calls {o : Oper} {κ : V → Heap → Prop} {Q : Exit → Act → World → Prop} {f : FuncId} {as : Array Value} (hr : (execOp a.eval o).run σ.P w = .ok (.enter f as) w) (hc : Calls σ.P f as w (Post σ W0 κ)) :
    Oper.wp σ.P o a w (Nx σ W0 κ a o.dst) Q := by
  unfold Oper.wp
  rw [hr, Oper.upon_enter]
  refine hc.mono ?_
  rintro e w' ⟨r, h', rfl, hw, hs, hk⟩
  exact ⟨r, h', rfl, hw, hs, hk⟩

theorem der_sound {q : Option Ptr} {κ : Ptr → Prop} (hx : der q κ) : ∃ p, q = some p ∧ κ p := by
  cases q
  · exact hx.elim
  · exact ⟨_, rfl, hx⟩

theorem fieldOf_sound (ok : EnvOK σ W0 E) {t f : Nat} {κ : Nat → TI → Prop} (hx : fieldOf E t f κ) : ∃ fields fd i, σ.P.underlying t = some (.struct fields) ∧ fields[f]? = some fd ∧ TIok σ.P fd.type i ∧ κ fd.offset i := by
  replace hx := withTI_ok ok hx; obtain ⟨i, k, hx⟩ := hx
  have hd := k.d
  split at hx
  · rename_i fs hi
    rw [hi] at hd
    obtain ⟨fields, hu, hf⟩ := hd
    split at hx
    · rename_i off ft hfs
      replace hx := withTI_ok ok hx; obtain ⟨j, kj, hx⟩ := hx
      rw [← hf, List.getElem?_map] at hfs
      cases hfd : fields.toList[f]? with
      | none => rw [hfd] at hfs; cases hfs
      | some fd =>
        rw [hfd] at hfs
        simp at hfs
        obtain ⟨rfl, rfl⟩ := hfs
        exact ⟨fields, fd, j, hu, by simpa using hfd, kj, hx⟩
    · exact hx.elim
  · exact hx.elim

theorem evO_val (ok : EnvOK σ W0 E) (f : SimF σ E.n ρ a) {x : Option Operand} {κ : Option V → Prop} (hx : evO E ρ x κ) : ∃ v, x.map a.eval = v.map (V.val σ) ∧ κ v := by
  cases x with
  | none => exact ⟨none, rfl, hx⟩
  | some x =>
    obtain ⟨v, hv, _, hk⟩ := ev1_val ok f hx
    exact ⟨some v, by simp [hv], hk⟩

theorem slicePT_sound (ok : EnvOK σ W0 E) {t : Nat} {x : V} {lo hi mx : Option V} {κ : V → Prop} (hx : slicePT E t x lo hi mx κ) :
    ∃ v, (∀ w, (Instr.sliceAt t (x.val σ) (lo.map (V.val σ)) (hi.map (V.val σ)) (mx.map (V.val σ))).run σ.P w = .ok (V.val σ v) w) ∧ v.wf ∧ κ v := by
  replace hx := withTI_ok ok hx; obtain ⟨i, k, hx⟩ := hx
  have hd := k.d
  split at hx
  · rename_i st hi'
    rw [hi'] at hd
    have hd : σ.P.underlying t = some .string := hd
    split at hx
    · replace hx := slBounds_sound (σ := σ) false hx; obtain ⟨l, hh, m, hr, hk⟩ := hx
      refine ⟨.str ((st.drop l).take (hh - l)), fun w => ?_, wf_str _, hk⟩
      have he : (ByteArray.mk st.toArray).extract l hh = ⟨((st.drop l).take (hh - l)).toArray⟩ := by
        apply ByteArray.ext
        simp
      simp only [Option.map_none] at hr ⊢
      simp [Instr.sliceAt, run_under hd, Instr.slice, V.val, ba_size, hr, he]
    · exact hx.elim
  · rename_i e sl hi'
    rw [hi'] at hd
    have hd : σ.P.underlying t = some (.slice e) := hd
    replace hx := withTI_ok ok hx; obtain ⟨j, kj, hx⟩ := hx
    replace hx := slBounds_sound (σ := σ) true hx; obtain ⟨l, hh, m, hr, hk⟩ := hx
    refine ⟨_, fun w => ?_, wf_sl _, hk⟩
    have := slp_val sl.p (l * j.size) l m
    simp [Instr.sliceAt, run_under hd, Instr.slice, V.val, hr, kj.size, ← this]
  · rename_i n e p hi'
    rw [hi'] at hd
    have hd : σ.P.underlying t = some (.array n e) := hd
    replace hx := withTI_ok ok hx; obtain ⟨j, kj, hx⟩ := hx
    replace hx := slBounds_sound (σ := σ) false hx; obtain ⟨l, hh, m, hr, hk⟩ := hx
    refine ⟨_, fun w => ?_, wf_sl _, hk⟩
    have := slp_val (some p) (l * j.size) l m
    have e2 : (if m = l then some p.addr else some (p.addr.add (l * j.size))) = (slp (some p) (l * j.size) l m).map Ptr.addr := by
      rw [← this]; by_cases h : m = l <;> simp [h]
    simp only [V.val, ← e2]
    simp [Instr.sliceAt, run_under hd, Instr.sureAddr, hr, kj.size]
    split <;> rfl
  · exact hx.elim

theorem lenPT_sound (ok : EnvOK σ W0 E) (s : Sim σ W0 h w) {t : Nat} {ts : List Nat} {ty : Nat} {x : V} {κ : V → Prop} (hx : lenPT E t x κ h) :
    ∃ n : Int, (Builtin.len_ (t :: ts).toArray ty #[x.val σ]).run σ.P w = .ok (.int .i64 n) w ∧ κ (.int .i64 n) := by
  replace hx := withTI_ok ok hx; obtain ⟨i, k, hx⟩ := hx
  have hd := k.d
  split at hx
  · rename_i st hi
    rw [hi] at hd
    have hd : σ.P.underlying t = some .string := hd
    exact ⟨_, by simp [Builtin.len_, run_under hd, V.val, goInt, ba_size], hx⟩
  · rename_i n e hi
    rw [hi] at hd
    have hd : σ.P.underlying t = some (.array n e) := hd
    exact ⟨_, by simp [Builtin.len_, run_under hd, goInt], hx⟩
  · rename_i e hi
    rw [hi] at hd
    have hd : σ.P.underlying t = some (.pointer e) := hd
    replace hx := withTI_ok ok hx; obtain ⟨j, kj, hx⟩ := hx
    have hdj := kj.d
    split at hx
    · rename_i n e' hj
      rw [hj] at hdj
      have hdj : σ.P.underlying e = some (.array n e') := hdj
      exact ⟨_, by simp [Builtin.len_, run_under hd, run_under hdj, goInt], hx⟩
    · exact hx.elim
  · rename_i e sl hi
    rw [hi] at hd
    have hd : σ.P.underlying t = some (.slice e) := hd
    exact ⟨_, by simp [Builtin.len_, run_under hd, V.val, goInt], hx⟩
  · rename_i k1 e1 r hi
    rw [hi] at hd
    have hd : σ.P.underlying t = some (.map k1 e1) := hd
    exact mapLen_sound s hd hx
  · rename_i r hi
    rw [hi] at hd
    obtain ⟨di, et, info, hd, _⟩ : ∃ d e info, σ.P.underlying t = some (.chan d e) ∧ σ.P.info? e = some info ∧ info.bytes ≤ 65536 := hd
    exact chLen_sound s hd hx
  · exact hx.elim

theorem clear_sound (s : Sim σ W0 h w) {t e ty : Nat} {j : TI} (ht : σ.P.underlying t = some (.slice e)) (kj : TIok σ.P e j) (hsz : 0 < j.size) {sl : Sl} {κ : Heap → Prop}
    (hx : clearS j.zero sl κ h) : ∃ h' w', (Builtin.clear_ #[t] ty #[V.val σ (.sl sl)]).run σ.P w = .ok (.tuple #[]) w' ∧ Sim σ W0 h' w' ∧ κ h' := by
  obtain ⟨z, hz, hzc⟩ := run_zero_cells kj
  unfold clearS at hx
  cases hp : sl.p with
  | none =>
    rw [hp] at hx
    refine ⟨h, w, ?_, s, hx⟩
    simp [Builtin.clear_, V.val, hp, run_under ht]
  | some p =>
    rw [hp] at hx
    obtain ⟨h', w', hr, hs, hk⟩ := wrL_sound s (one_flatRep kj.zone) hx
    have hzz := zeroCells_vals (σ := σ) (z := z) (zs := j.zero) (by rw [hzc]) (by rw [kj.zlen]; exact hsz) sl.len
    cases hl : sl.len with
    | zero =>
      rw [hl] at hr
      simp only [flatRep, List.replicate_zero, List.flatten_nil, V.vals, storeCells, Sem.run_pure] at hr
      injection hr with h1 h2
      subst h2
      refine ⟨h', w, ?_, hs, hk⟩
      simp [Builtin.clear_, V.val, hp, run_under ht, hl]
    | succ n =>
      rw [hl] at hr hzz
      refine ⟨h', w', ?_, hs, hk⟩
      simp [Builtin.clear_, V.val, hp, run_under ht, hl, hz, hzz, hr]

theorem builtinPT_sound (ok : EnvOK σ W0 E) (s : Sim σ W0 h w) {b : Builtin} {ts : List Nat} {vs : List V} (wvs : ∀ v ∈ vs, v.wf) {ty : Nat} {cs : Array Bool} {κ : V → Heap → Prop} (hx : builtinPT E b ts vs κ h) :
    ∃ v h' w', (builtin b ts.toArray ty cs (V.vals σ vs).toArray).run σ.P w = .ok (.value (V.val σ v)) w' ∧ v.wf ∧ Sim σ W0 h' w' ∧ κ v h' := by
  unfold builtinPT at hx
  split at hx
  · rename_i t ts x
    replace hx := lenPT_sound (ts := ts) (ty := ty) ok s hx; obtain ⟨n, hr, hk⟩ := hx
    exact ⟨_, h, w, by simp [builtin, V.vals, hr, V.val], wf_int _ _, s, hk⟩
  · rename_i t ts x
    replace hx := withTI_ok ok hx; obtain ⟨i, k, hx⟩ := hx
    have hd := k.d
    split at hx
    · rename_i e sl hi
      rw [hi] at hd
      have hd : σ.P.underlying t = some (.slice e) := hd
      exact ⟨_, h, w, by simp [builtin, Builtin.cap_, V.vals, V.val, run_under hd, goInt], wf_int _ _, s, hx⟩
    · exact hx.elim
  · rename_i t u sl x
    replace hx := withTI_ok ok hx; obtain ⟨i, k, hx⟩ := hx
    have hd := k.d
    split at hx
    · rename_i e hi
      rw [hi] at hd
      have hd : σ.P.underlying t = some (.slice e) := hd
      replace hx := withTI_ok ok hx; obtain ⟨j, kj, hx⟩ := hx
      replace hx := withTI_ok ok hx; obtain ⟨iu, ku, hx⟩ := hx
      have hdu := ku.d
      replace hx := chk_true hx; obtain ⟨hsz, hx⟩ := hx
      have hsz : 0 < j.size := by simpa using hsz
      split at hx
      · rename_i e' xs hiu
        rw [hiu] at hdu
        replace hx := cellsS_sound s hx; obtain ⟨new, hr, h1, hl, hx⟩ := hx
        obtain ⟨r, h', w', hr, hs, hk⟩ := append_sound (ty := ty) (xv := V.val σ (.sl xs)) s hd kj hsz (.inl ⟨_, hdu⟩) (by intro w; simp [V.val, Builtin.lenOf]) hr h1 hx
        exact ⟨_, h', w', by simp [builtin, V.vals, hr], wf_sl _, hs, hk⟩
      · rename_i xs hiu
        rw [hiu] at hdu
        have hfc : ∀ w, Sim σ W0 h w → (Builtin.firstCells j.size xs.length (V.val σ (.str xs))).run σ.P w = .ok (V.vals σ (strCells xs)).toArray w := by
          intro w _
          rw [strCells_vals]
          have : (ByteArray.mk xs.toArray).extract 0 xs.length = ⟨xs.toArray⟩ := by apply ByteArray.ext; simp
          simp [V.val, Builtin.firstCells, this]
        obtain ⟨r, h', w', hr, hs, hk⟩ := append_sound (ty := ty) (xv := V.val σ (.str xs)) s hd kj hsz (.inr hdu) (by intro w; simp [V.val, Builtin.lenOf, ba_size]) hfc (by intro v hv; simp [strCells] at hv; obtain ⟨b, _, rfl⟩ := hv; rfl) hx
        exact ⟨_, h', w', by simp [builtin, V.vals, hr], wf_sl _, hs, hk⟩
      · rename_i ku kn n hiu
        rw [hiu] at hdu
        obtain ⟨r, h', w', hr, hs, hk⟩ := appendZ_sound (ty := ty) (kn := kn) s hd kj hsz hdu hx
        exact ⟨_, h', w', by simp [builtin, V.vals, hr], wf_sl _, hs, hk⟩
      · exact hx.elim
    · exact hx.elim
  · rename_i t ts d x
    replace hx := withTI_ok ok hx; obtain ⟨i, k, hx⟩ := hx
    have hd := k.d
    split at hx
    · rename_i e hi
      rw [hi] at hd
      have hd : σ.P.underlying t = some (.slice e) := hd
      replace hx := withTI_ok ok hx; obtain ⟨j, kj, hx⟩ := hx
      have e1 : ∀ y, Builtin.copy_ (t :: ts).toArray ty #[V.val σ (.sl d), y] = Builtin.copy_ #[t, 0] ty #[V.val σ (.sl d), y] := by intro y; simp [Builtin.copy_]
      split at hx
      · rename_i xs
        replace hx := cellsS_sub s hx; obtain ⟨cs', hr, h1, hl, hx⟩ := hx
        obtain ⟨r, h', w', hr, hs, hk⟩ := copy_sound (u := 0) (ty := ty) (xv := V.val σ (.sl xs)) s hd kj (by intro w; simp [V.val, Builtin.lenOf]) hr h1 hx
        rw [← e1] at hr
        simp only [V.val] at hr
        exact ⟨.int .i64 r, h', w', by simp [builtin, V.vals, hr, V.val], wf_int _ _, hs, hk⟩
      · rename_i xs
        replace hx := chk_true hx; obtain ⟨h1, hx⟩ := hx
        have h1 := Nat.eq_of_beq_eq_true h1
        obtain ⟨r, h', w', hr, hs, hk⟩ := copy_sound (u := 0) (ty := ty) (xv := V.val σ (.str xs)) s hd kj (by intro w; simp [V.val, Builtin.lenOf, ba_size]) (by
          intro n hn
          rw [h1, Nat.mul_one, vals_map, List.map_take, ← vals_map, strCells_vals]
          have : (ByteArray.mk xs.toArray).extract 0 n = ⟨(xs.take n).toArray⟩ := by apply ByteArray.ext; simp
          simp [V.val, Builtin.firstCells, this]) (by intro v hv; simp [strCells] at hv; obtain ⟨b, _, rfl⟩ := hv; rfl) hx
        rw [← e1] at hr
        simp only [V.val] at hr
        exact ⟨.int .i64 r, h', w', by simp [builtin, V.vals, hr, V.val], wf_int _ _, hs, hk⟩
      · exact hx.elim
    · exact hx.elim
  · rename_i t ts x y
    replace hx := withTI_ok ok hx; obtain ⟨i, k, hx⟩ := hx
    have hd := k.d
    split at hx
    · rename_i kt et m hi
      rw [hi] at hd
      have hd : σ.P.underlying t = some (.map kt et) := hd
      replace hx := withTI_ok ok hx; obtain ⟨ik, kk, hx⟩ := hx
      have hdk := kk.d
      split at hx
      · rename_i ks hik
        rw [hik] at hdk
        obtain ⟨hku, hx⟩ := chk_true hx
        obtain ⟨h', w', hr, hs, hk⟩ := del_sound (ty := ty) (ts := ts) s hd hdk hku hx
        refine ⟨.tup [], h', w', ?_, by intro v hv; simp at hv, hs, hk⟩
        simp only [V.val] at hr
        simp [builtin, V.vals, hr, V.val]
      · exact hx.elim
    · exact hx.elim
  · rename_i ts k a k' b'
    exact ⟨.int k (minI a b'), _, w, by simp [builtin, V.vals, V.val, Builtin.min_, Builtin.min2, minI], wf_int _ _, s, hx⟩
  · rename_i ts k a k' b'
    exact ⟨.int k (maxI a b'), _, w, by simp [builtin, V.vals, V.val, Builtin.max_, Builtin.max2, maxI], wf_int _ _, s, hx⟩
  · rename_i t ts x
    replace hx := withTI_ok ok hx; obtain ⟨i, k, hx⟩ := hx
    have hd := k.d
    split at hx
    · rename_i e sl hi
      rw [hi] at hd
      have hd : σ.P.underlying t = some (.slice e) := hd
      replace hx := withTI_ok ok hx; obtain ⟨j, kj, hx⟩ := hx
      obtain ⟨hsz, hx⟩ := chk_true hx
      replace hx := clear_sound (ty := ty) s hd kj (by simpa using hsz) hx; obtain ⟨h', w', hr, hs, hk⟩ := hx
      refine ⟨.tup [], h', w', ?_, by intro v hv; simp at hv, hs, hk⟩
      have e1 : Builtin.clear_ (t :: ts).toArray ty #[V.val σ (.sl sl)] = Builtin.clear_ #[t] ty #[V.val σ (.sl sl)] := by simp [Builtin.clear_]
      rw [← e1] at hr
      simp only [V.val] at hr
      simp [builtin, V.vals, hr, V.val]
    · exact hx.elim
  · exact hx.elim

theorem run_ofValue {v : Value} {args : Array Value} {o : Oper} {x : Operand} {c : Call} (ho : o.op = .call c) (hc : c.callee = .value x) (hv : a.eval x = v) (hargs : c.args.map a.eval = args) :
    execOp a.eval o = (do let d ← Deferred.ofValue v args; invoke d.target d.args) := by
  obtain ⟨dst, op, ty, pos, after, guard⟩ := o
  simp only at ho
  subst ho
  simp [execOp, resolve, hc, hv, hargs]

theorem callsVal_mono {P : Program} {v : Value} {args : Array Value} {R R' : Ending → World → Prop} (hc : CallsVal P v args w R) (hr : ∀ e w', R e w' → R' e w') : CallsVal P v args w R' := by
  obtain ⟨f, as, h1, h2⟩ := hc
  exact ⟨f, as, h1, h2.mono hr⟩

theorem callPT_sound (ok : EnvOK σ W0 E) (s : Sim σ W0 h w) (f : SimF σ E.n ρ a) {c : Call} {dst : Option Tmp} {ty : Nat} {pos : String} {after : Array Edge} {guard : Option (Nat × Bool)} {κ : V → Heap → Prop} {Q : Exit → Act → World → Prop} (hx : callPT E c ρ κ h) :
    Oper.wp σ.P ⟨dst, .call c, ty, pos, after, guard⟩ a w (Nx σ W0 κ a dst) Q := by
  have viaVal : ∀ (x : Operand) (v : Value) (args : Array Value), c.callee = .value x → a.eval x = v → c.args.map a.eval = args → CallsVal σ.P v args w (Post σ W0 κ) → Oper.wp σ.P ⟨dst, .call c, ty, pos, after, guard⟩ a w (Nx σ W0 κ a dst) Q := by
    intro x v args hc hv hargs ⟨g, as, hr, hcall⟩
    refine wp_calls (f := g) (as := as) ?_ hcall
    rw [run_ofValue (o := ⟨dst, .call c, ty, pos, after, guard⟩) rfl hc hv hargs]
    exact hr
  have hargs : ∀ {vs : List V}, c.args.toList.map a.eval = V.vals σ vs → c.args.map a.eval = (V.vals σ vs).toArray := by
    intro vs hvs; apply Array.ext'; simp [← hvs]
  unfold callPT at hx
  split at hx
  · rename_i g hc
    split at hx
    · rename_i gg hg
      replace hx := evL_vals ok f hx; obtain ⟨vs, hvs, wvs, hk⟩ := hx
      refine viaVal (.func g) (.func (.func (σ.fn gg)) #[] #[]) _ hc ?_ (hargs hvs) (ok.call gg vs κ h wvs hk w s)
      rw [ok.fnc _ _ hg]; rfl
    · exact hx.elim
  · rename_i x hnf hc
    replace hx := ev1_val ok f hx; obtain ⟨v, hv, wv, hx⟩ := hx
    replace hx := evL_vals ok f hx; obtain ⟨vs, hvs, wvs, hk⟩ := hx
    cases hu : E.isUnk x with
    | true => rw [hu] at hk; exact viaVal x _ _ hc hv (hargs hvs) (ok.callV v vs κ h wv wvs hk w s)
    | false =>
    rw [hu] at hk
    simp only [cond_false] at hk
    split at hk
    · rename_i g caps
      obtain ⟨hcaps, hk⟩ := chk_true hk
      have wcaps : ∀ v ∈ vs ++ caps, v.wf := by
        intro v hv
        rcases List.mem_append.1 hv with hv | hv
        · exact wvs v hv
        · have := List.all_eq_true.1 hcaps v hv
          cases v <;> first | exact V.wf_one rfl | exact absurd this Bool.false_ne_true | exact List.all_eq_true.1 this
      obtain ⟨ff, as, hr, hcall⟩ := ok.call g (vs ++ caps) κ h wcaps hk w s
      refine viaVal x _ _ hc hv (hargs hvs) ⟨ff, as, ?_, hcall⟩
      rw [← hr]
      simp [V.val, Deferred.ofValue, invoke, vals_map]
    · exact hk.elim
  · rename_i r m hc
    replace hx := ev1_val ok f hx; obtain ⟨v, hv, wv, hx⟩ := hx
    replace hx := evL_vals ok f hx; obtain ⟨vs, hvs, wvs, hk⟩ := hx
    obtain ⟨g, as, hr, hcall⟩ := ok.inv v m vs κ h wv wvs hk w s
    refine wp_calls (f := g) (as := as) ?_ hcall
    simp only [execOp, resolve, hc, hv, hargs hvs]
    simpa using hr
  · rename_i b hc
    replace hx := evL_vals ok f hx; obtain ⟨vs, hvs, wvs, hk⟩ := hx
    replace hk := builtinPT_sound (ty := ty) (cs := c.args.map fun | .const _ => true | _ => false) ok s wvs hk; obtain ⟨v, h', w', hr, wv, hs, hk⟩ := hk
    refine wp_val ?_ wv hs hk
    have e : execOp a.eval ⟨dst, .call c, ty, pos, after, guard⟩ = builtin b c.argTypes ty (c.args.map fun | .const _ => true | _ => false) (c.args.map a.eval) := by
      simp only [execOp, resolve, hc]
      rfl
    rw [e, hargs hvs]
    exact hr

theorem mapPutPT_sound (ok : EnvOK σ W0 E) (s : Sim σ W0 h w) {t : Nat} {v u r : V} (wr : r.wf) {κ : Heap → Prop} (hx : mapPutPT E t v u r κ h) :
    ∃ m h' w', v = .map m ∧ (Instr.mapUpdate t (V.val σ (.map m)) (V.val σ u) (V.val σ r)).run σ.P w = .ok () w' ∧ Sim σ W0 h' w' ∧ κ h' := by
  replace hx := withTI_ok ok hx; obtain ⟨i, k, hx⟩ := hx
  have hd := k.d
  split at hx
  · rename_i kt et m hi
    rw [hi] at hd
    have hd : σ.P.underlying t = some (.map kt et) := hd
    replace hx := withTI_ok ok hx; obtain ⟨ik, kk, hx⟩ := hx
    have hdk := kk.d
    split at hx
    · rename_i ks hik
      rw [hik] at hdk
      obtain ⟨hku, hx⟩ := chk_true hx
      obtain ⟨hnt, hx⟩ := chk_true hx
      obtain ⟨h', w', hrun, hs, hk⟩ := put_sound s hd hdk hku (V.wf_nt hnt wr) hx
      exact ⟨m, h', w', rfl, hrun, hs, hk⟩
    · exact hx.elim
  · exact hx.elim

theorem mapEntPT_sound (ok : EnvOK σ W0 E) (s : Sim σ W0 h w) {t : Nat} {v u : V} {κ : V → Heap → Prop} (hx : mapEntPT E t v u κ h) :
    ∃ m r h' w', v = .map m ∧ r.wf ∧ (Instr.mapEntry t (V.val σ (.map m)) (V.val σ u)).run σ.P w = .ok (V.val σ r) w' ∧ Sim σ W0 h' w' ∧ κ r h' := by
  replace hx := withTI_ok ok hx; obtain ⟨i, k, hx⟩ := hx
  have hd := k.d
  split at hx
  · rename_i kt et m hi
    rw [hi] at hd
    have hd : σ.P.underlying t = some (.map kt et) := hd
    replace hx := withTI_ok ok hx; obtain ⟨ik, kk, hx⟩ := hx
    replace hx := withTI_ok ok hx; obtain ⟨ie, ke, hx⟩ := hx
    have hdk := kk.d
    split at hx
    · rename_i ks hik
      rw [hik] at hdk
      obtain ⟨hku, hx⟩ := chk_true hx
      obtain ⟨r, b, h', w', hrw, hrun, hs, hk⟩ := ent_sound s hd hdk ke hku hx
      replace hk := asR_sound hk
      refine ⟨m, _, h', w', rfl, ?_, hrun, hs, hk⟩
      intro z hz
      simp only [List.mem_cons, List.not_mem_nil, or_false] at hz
      rcases hz with rfl | rfl
      · exact hrw
      · exact V.wf_one (v := .int .i64 b) rfl
    · exact hx.elim
  · exact hx.elim

theorem entPutPT_sound (s : Sim σ W0 h w) {t : Nat} {v b r : V} (wr : r.wf) {κ : Heap → Prop} (hx : entPutPT v b r κ h) :
    ∃ h' w', (Instr.entryStore t (V.val σ v) (V.val σ b) (V.val σ r)).run σ.P w = .ok () w' ∧ Sim σ W0 h' w' ∧ κ h' := by
  unfold entPutPT at hx
  split at hx
  · obtain ⟨hnt, hx⟩ := chk_true hx
    exact entPut_sound s (V.wf_nt hnt wr) hx
  · exact hx.elim

/-- The operations that neither call nor look at many kinds. -/
theorem opPT_sound (ok : EnvOK σ W0 E) (s : Sim σ W0 h w) (f : SimF σ E.n ρ a) {o : Oper} {κ : V → Heap → Prop} {Q : Exit → Act → World → Prop} (hx : opPT E o.op ρ κ h) :
    Oper.wp σ.P o a w (Nx σ W0 κ a o.dst) Q := by
  obtain ⟨dst, op, ty, pos, after, guard⟩ := o
  simp only at hx
  cases op with
  | move x =>
    replace hx := ev1_val ok f hx; obtain ⟨v, hv, wv, hk⟩ := hx
    exact wp_val (by simp [execOp, hv]) wv s hk
  | assign x =>
    replace hx := ev1_val ok f hx; obtain ⟨v, hv, wv, hk⟩ := hx
    exact wp_val (by simp [execOp, hv]) wv s hk
  | pick c x y =>
    replace hx := ev1_val ok f hx; obtain ⟨v, hv, wv, hx⟩ := hx
    split at hx
    · replace hx := ev1_val ok f hx; obtain ⟨u, hu, wu, hk⟩ := hx
      exact wp_val (by simp [execOp, hv, V.val, asBool, hu]) wu s hk
    · replace hx := ev1_val ok f hx; obtain ⟨u, hu, wu, hk⟩ := hx
      exact wp_val (by simp [execOp, hv, V.val, asBool, hu]) wu s hk
    · exact hx.elim
  | alloc t =>
    replace hx := withTI_ok ok hx; obtain ⟨i, k, hx⟩ := hx
    obtain ⟨z, hz, hzc⟩ := run_zero_cells k
    obtain ⟨hs, hk⟩ := al_sound s (e := t) (c := z.cells) k.zone hx (by rw [hzc])
    exact wp_val (v := .ptr (some ⟨2 * w.heap.size, 0⟩)) (by simp [execOp, Instr.alloc, hz, run_newVar, V.val, addr_vb]) (wf_ptr _) hs hk
  | box t x =>
    replace hx := ev1_val ok f hx; obtain ⟨v, hv, wv, hx⟩ := hx
    replace hx := withTI_ok ok hx; obtain ⟨i, k, hx⟩ := hx
    replace hx := cellsT_sound k wv hx; obtain ⟨cs, hcs, h1, hl, hx⟩ := hx
    obtain ⟨hs, hk⟩ := al_sound s (e := t) (c := (V.val σ v).cells) h1 hx hcs
    exact wp_val (v := .ptr (some ⟨2 * w.heap.size, 0⟩)) (by simp [execOp, Instr.box, hv, run_newVar, V.val, addr_vb]) (wf_ptr _) hs hk
  | build t parts =>
    replace hx := buildPT_sound (w := w) (parts := parts) (κ := fun v => κ v h) ok f hx; obtain ⟨v, hr, wv, hk⟩ := hx
    exact wp_val (by simp [execOp]; simpa using congrArg (fun r => r.andThen fun a w' => Result.ok (Next.value a) w') hr) wv s hk
  | buildSlice t len parts =>
    replace hx := withTI_ok ok hx; obtain ⟨i, k, hx⟩ := hx
    have hd := k.d
    split at hx
    · rename_i e hi
      rw [hi] at hd
      replace hx := withTI_ok ok hx; obtain ⟨j, kj, hx⟩ := hx
      replace hx := chk_true hx; obtain ⟨hb, hx⟩ := hx
      simp only [Bool.and_eq_true] at hb
      replace hx := buildSlice_sound (parts := parts) (κ := fun s h => κ (.sl s) h) ok s f hd kj (Nat.le_of_ble_eq_true hb.1) (by simpa using hb.2) hx; obtain ⟨r, h', w', hr, hs, hk⟩ := hx
      exact wp_val (by simp [execOp]; simpa using congrArg (fun r => r.andThen fun a w' => Result.ok (Next.value a) w') hr) (wf_sl _) hs hk
    · exact hx.elim
  | load t x =>
    replace hx := ev1_val ok f hx; obtain ⟨v, hv, wv, hx⟩ := hx
    replace hx := withTI_ok ok hx; obtain ⟨i, k, hx⟩ := hx
    split at hx
    · rename_i p
      replace hx := rdT_sound s k hx; obtain ⟨u, hr, wu, hk⟩ := hx
      exact wp_val (by simp [execOp, hv, V.val, Instr.loadAt, Instr.sureAddr, hr]) wu s hk
    · exact hx.elim
  | store t x y =>
    replace hx := ev1_val ok f hx; obtain ⟨v, hv, wv, hx⟩ := hx
    replace hx := ev1_val ok f hx; obtain ⟨u, hu, wu, hx⟩ := hx
    replace hx := withTI_ok ok hx; obtain ⟨i, k, hx⟩ := hx
    split at hx
    · rename_i p
      have fin : u.wf1 → u.cells.length = i.size → wrL u.cells p 0 (fun h => κ (.tup []) h) h → Oper.wp σ.P ⟨dst, .store t x y, ty, pos, after, guard⟩ a w (Nx σ W0 κ a dst) Q := by
        intro w1 hl hx
        replace hx := storeVar_sound s k hl w1 hx; obtain ⟨h', w', hr, hs, hk⟩ := hx
        exact wp_skip' (by simp [execOp, hv, hu, V.val, Instr.storeAt, Instr.sureAddr, hr]) hs hk
      split at hx
      · rename_i sh hsh
        replace hx := chk_true hx; obtain ⟨h1, hx⟩ := hx
        have hc := V.one_cells h1
        refine fin (by intro z hz; rw [hc] at hz; simp at hz; subst hz; exact h1) (by rw [hc, k.one (by rw [TD.sh_one, hsh]; rfl)]; rfl) ?_
        rw [hc]
        exact hx
      · rename_i hsh
        simp only [cellsT, hsh] at hx
        · split at hx
          · replace hx := chk_true hx; obtain ⟨hn, hx⟩ := hx
            exact fin wu (Nat.eq_of_beq_eq_true hn) hx
          · exact fin wu hx.1 hx.2
          · exact hx.elim
    · exact hx.elim
  | nilCheck x =>
    replace hx := ev1_val ok f hx; obtain ⟨v, hv, wv, hx⟩ := hx
    unfold nilCU at hx
    split at hx
    · rename_i m u
      obtain ⟨ha, hk⟩ := chk_true hx
      obtain ⟨t', u', rfl, hr⟩ := ok.ahead _ _ ha
      exact wp_val (v := .mth m (.iface t' u')) (by simp [execOp, hv, V.val, hr]) wv s hk
    unfold nilC at hx
    split at hx
    · replace hx := der_sound hx; obtain ⟨p, rfl, hk⟩ := hx
      exact wp_val (v := .ptr (some p)) (by simp [execOp, hv, V.val]) (wf_ptr _) s hk
    · exact wp_val (by simp [execOp, hv, V.val]) wv s hx
    · exact wp_val (by simp [execOp, hv, V.val]) wv s hx
    · exact wp_val (by simp [execOp, hv, V.val]) wv s hx
    · exact wp_val (by simp [execOp, hv, V.val]) wv s hx
    · exact hx.elim
  | binOp op t x y yt =>
    replace hx := ev1_val ok f hx; obtain ⟨v, hv, wv, hx⟩ := hx
    replace hx := ev1_val ok f hx; obtain ⟨u, hu, wu, hx⟩ := hx
    replace hx := binPT_sound (xo := x) ok s hx; obtain ⟨r, hr, wr, hk⟩ := hx
    exact wp_val (by rw [← hv, ← hu] at hr; simp only [execOp]; simp only [Sem.run_bind] at hr ⊢; rw [hr]; rfl) wr s hk
  | unOp op t x =>
    replace hx := ev1_val ok f hx; obtain ⟨v, hv, wv, hx⟩ := hx
    unfold unPT at hx
    split at hx
    · exact wp_val (by simp [execOp, hv, V.val, Op.unary, Op.intArith]) (wf_int _ _) s hx
    · exact wp_val (by simp only [execOp, hv, V.val, Op.unary, Op.intBits, Sem.run_bind, Sem.run_pure, Result.andThen_ok]; rfl) (wf_int _ _) s hx
    · exact wp_val (by simp [execOp, hv, V.val, Op.unary]) (wf_bool _) s hx
    · exact hx.elim
  | convert sT dT x =>
    replace hx := ev1_val ok f hx; obtain ⟨v, hv, wv, hx⟩ := hx
    replace hx := convPT_sound ok s hx; obtain ⟨u, h', w', hr, wu, hs, hk⟩ := hx
    exact wp_val (by simp [execOp, hv, hr]) wu hs hk
  | makeInterface t x =>
    replace hx := ev1_val ok f hx; obtain ⟨v, hv, wv, hx⟩ := hx
    replace hx := withTI_ok ok hx; obtain ⟨i, k, hx⟩ := hx
    obtain ⟨d, hu, _⟩ := k.under
    have hd := k.d
    split at hx
    · exact hx.elim
    · rename_i u ht hne
      have hni : ∀ ms, d ≠ .interface ms := by
        intro ms hms
        subst hms
        cases hi : i.d with
        | iface => exact hne hi
        | leaf sh => rw [hi] at hd; cases sh <;> simp only [TDok, hu] at hd <;> first | exact hd.elim | (cases hd; done) | (obtain ⟨_, _, _, hd, _⟩ := hd; cases hd)
        | func => rw [hi] at hd; obtain ⟨_, _, _, hd⟩ := hd; rw [hu] at hd; cases hd
        | struct fs => rw [hi] at hd; obtain ⟨_, hd, _⟩ := hd; rw [hu] at hd; cases hd
        | _ => rw [hi] at hd; simp only [TDok, hu] at hd; cases hd
      refine wp_val (v := .iface u v) ?_ (V.wf_one rfl) s hx
      have : (Instr.makeInterface t (V.val σ v)).run σ.P w = .ok (.iface t (V.val σ v)) w := by
        unfold Instr.makeInterface
        simp only [Sem.run_bind, run_under hu, Result.andThen_ok]
        cases d <;> first | rfl | exact absurd rfl (hni _)
      simp [execOp, hv, V.val, ok.tyc _ _ ht, this]
    · exact hx.elim
  | makeFunc fn first caps =>
    cases fn with
    | func g =>
      simp only [opPT] at hx
      split at hx
      · rename_i gg hfirst hg
        replace hx := evL_vals ok f hx; obtain ⟨vs, hvs, wvs, hk⟩ := hx
        have h0 : first = #[] := by apply Array.ext'; simpa using hfirst
        have hc : caps.map a.eval = (V.vals σ vs).toArray := by apply Array.ext'; simp [← hvs]
        exact wp_val (v := .fn gg vs) (by simp [execOp, Instr.makeFunc, h0, hc, V.val, ok.fnc _ _ hg]) (V.wf_one rfl) s hk
      · exact hx.elim
    | method m =>
      simp only [opPT] at hx
      split at hx
      · rename_i x hfirst hcaps
        replace hx := ev1_val ok f hx; obtain ⟨v, hv, wv, hx⟩ := hx
        have h0 : first = #[x] := by apply Array.ext'; simpa using hfirst
        have hc : caps = #[] := by apply Array.ext'; simpa using hcaps
        unfold mthC at hx
        split at hx
        · rename_i tt uu
          exact wp_val (v := .mth m (.iface tt uu)) (by simp [execOp, Instr.makeFunc, h0, hc, V.val, hv]) (V.wf_one rfl) s hx
        · exact hx.elim
      · exact hx.elim
    | _ => exact hx.elim
  | makeSlice t x y =>
    replace hx := ev1_val ok f hx; obtain ⟨v, hv, wv, hx⟩ := hx
    replace hx := ev1_val ok f hx; obtain ⟨u, hu, wu, hx⟩ := hx
    replace hx := withTI_ok ok hx; obtain ⟨i, k, hx⟩ := hx
    have hd := k.d
    split at hx
    · rename_i e k1 len k2 cap hi
      rw [hi] at hd
      replace hx := withTI_ok ok hx; obtain ⟨j, kj, hx⟩ := hx
      cases hz : Nat.beq j.size 0 with
      | true => rw [hz] at hx; exact hx.elim
      | false =>
        rw [hz] at hx
        have h0 : 0 < j.size := by rcases Nat.eq_zero_or_pos j.size with h | h; (rw [h] at hz; cases hz); exact h
        replace hx := run_makeSlice (kl := k1) (kc := k2) (κ := fun s h => κ (.sl s) h) s hd kj h0 hx; obtain ⟨r, h', w', hr, hs, hk⟩ := hx
        exact wp_val (by simp [execOp, hv, hu, V.val, hr]) (wf_sl _) hs hk
    · exact hx.elim
  | slice t x lo hi mx =>
    replace hx := ev1_val ok f hx; obtain ⟨v, hv, wv, hx⟩ := hx
    replace hx := evO_val ok f hx; obtain ⟨lo', hlo, hx⟩ := hx
    replace hx := evO_val ok f hx; obtain ⟨hi', hhi, hx⟩ := hx
    replace hx := evO_val ok f hx; obtain ⟨mx', hmx, hx⟩ := hx
    replace hx := slicePT_sound ok hx; obtain ⟨r, hr, wr, hk⟩ := hx
    exact wp_val (by simp [execOp, hv, hlo, hhi, hmx, hr]) wr s hk
  | fieldAddr t x fi =>
    replace hx := ev1_val ok f hx; obtain ⟨v, hv, wv, hx⟩ := hx
    split at hx
    · rename_i p
      replace hx := fieldOf_sound ok hx; obtain ⟨fields, fd, j, hu, hfd, kj, hx⟩ := hx
      cases hz : Nat.beq j.size 0 with
      | true => rw [hz] at hx; exact hx.elim
      | false =>
        rw [hz] at hx
        have h0 : ¬ j.size = 0 := by intro h; rw [h] at hz; cases hz
        exact wp_val (v := .ptr (some (p.add fd.offset))) (by simp [execOp, hv, V.val, Instr.fieldAt, run_under hu, hfd, Instr.sureAddr, fieldPlace, kj.size, h0, addr_add]) (wf_ptr _) s hx
    · exact hx.elim
  | field t x fi =>
    replace hx := ev1_val ok f hx; obtain ⟨v, hv, wv, hx⟩ := hx
    replace hx := fieldOf_sound ok hx; obtain ⟨fields, fd, j, hu, hfd, kj, hx⟩ := hx
    replace hx := partT_sound kj wv hx; obtain ⟨cs, u, hcs, hr, wu, hk⟩ := hx
    exact wp_val (by simp [execOp, hv, hcs, Instr.field, run_under hu, hfd, asAgg, hr]) wu s hk
  | indexAddr t x y =>
    replace hx := ev1_val ok f hx; obtain ⟨v, hv, wv, hx⟩ := hx
    replace hx := ev1_val ok f hx; obtain ⟨u, hu, wu, hx⟩ := hx
    replace hx := withTI_ok ok hx; obtain ⟨i, k, hx⟩ := hx
    have hd := k.d
    split at hx
    · rename_i e sl kk n hi
      rw [hi] at hd
      have hd : σ.P.underlying t = some (.slice e) := hd
      replace hx := withTI_ok ok hx; obtain ⟨j, kj, hx⟩ := hx
      obtain ⟨h0, h1, hx⟩ := hx
      replace hx := der_sound hx; obtain ⟨p, hp, hk⟩ := hx
      exact wp_val (v := .ptr (some (p.add (n.toNat * j.size)))) (by simp [execOp, hv, hu, V.val, Instr.indexAt, asIntOf, run_under hd, hp, h0, h1, kj.size, addr_add]) (wf_ptr _) s hk
    · rename_i len e p kk n hi
      rw [hi] at hd
      have hd : σ.P.underlying t = some (.array len e) := hd
      replace hx := withTI_ok ok hx; obtain ⟨j, kj, hx⟩ := hx
      obtain ⟨h0, h1, hk⟩ := hx
      exact wp_val (v := .ptr (some (p.add (n.toNat * j.size)))) (by simp [execOp, hv, hu, V.val, Instr.indexAt, asIntOf, run_under hd, Instr.sureAddr, h0, h1, kj.size, addr_add]) (wf_ptr _) s hk
    · exact hx.elim
  | index t x y =>
    replace hx := ev1_val ok f hx; obtain ⟨v, hv, wv, hx⟩ := hx
    replace hx := ev1_val ok f hx; obtain ⟨u, hu, wu, hx⟩ := hx
    replace hx := withTI_ok ok hx; obtain ⟨i, k, hx⟩ := hx
    have hd := k.d
    split at hx
    · rename_i st kk n hi
      rw [hi] at hd
      have hd : σ.P.underlying t = some .string := hd
      obtain ⟨h0, h1, hk⟩ := hx
      refine wp_val (v := .int .u8 (st.getD n.toNat 0).toNat) ?_ (wf_int _ _) s hk
      have hlt : n.toNat < st.length := by omega
      have hb : (ByteArray.mk st.toArray)[n.toNat]? = some st[n.toNat] := by
        rw [getElem?_pos _ _ (by rw [ba_size]; exact hlt)]
        rfl
      simp [execOp, hv, hu, V.val, Instr.index, asIntOf, run_under hd, h0, hb, hlt]
    · rename_i len e kk n hi
      rw [hi] at hd
      have hd : σ.P.underlying t = some (.array len e) := hd
      replace hx := withTI_ok ok hx; obtain ⟨j, kj, hx⟩ := hx
      obtain ⟨h0, h1, hx⟩ := hx
      replace hx := partT_sound kj (ofAg_wf wv) hx; obtain ⟨cs, r, hcs, hr, wr, hk⟩ := hx
      rw [ofAg_val] at hcs
      exact wp_val (by simp [execOp, hv, hu, hcs, V.val, Instr.index, asIntOf, run_under hd, h0, h1, kj.size, hr]) wr s hk
    · exact hx.elim
  | extract x n =>
    replace hx := ev1_val ok f hx; obtain ⟨v, hv, wv, hx⟩ := hx
    split at hx
    · rename_i vs
      split at hx
      · rename_i u hu
        exact wp_val (v := u) (by simp [execOp, hv, V.val, Instr.extract, vals_map, hu]) (by
          have := wv u (List.mem_of_getElem? hu)
          cases u <;> first | exact this | skip
          rename_i us
          exact absurd (this (.tup us) (by simp [V.cells])) (by simp [V.one])) s hx
      · exact hx.elim
    · exact hx.elim
  | call c => exact callPT_sound ok s f hx
  | makeMap t r =>
    cases r with
    | some r => exact hx.elim
    | none =>
      replace hx := withTI_ok ok hx; obtain ⟨i, k, hx⟩ := hx
      split at hx
      · replace hx := withTI_ok ok hx; obtain ⟨ik, kk, hx⟩ := hx
        split at hx
        · obtain ⟨h', w', b, hr, hs, hk⟩ := makeMap_sound (t := t) (κ := fun b h => κ (.map (some b)) h) s hx
          exact wp_val (by simp [execOp, hr]) (V.wf_one rfl) hs hk
        · exact hx.elim
      · exact hx.elim
  | makeChan t x =>
    replace hx := ev1_val ok f hx; obtain ⟨v, hv, wv, hx⟩ := hx
    replace hx := withTI_ok ok hx; obtain ⟨i, k, hx⟩ := hx
    have hd := k.d
    split at hx
    · rename_i n hi
      rw [hi] at hd
      obtain ⟨di, et, info, hd, hif, hb⟩ : ∃ d e info, σ.P.underlying t = some (.chan d e) ∧ σ.P.info? e = some info ∧ info.bytes ≤ 65536 := hd
      obtain ⟨hn, hx⟩ := chk_true hx
      simp only [Bool.and_eq_true, decide_eq_true_eq] at hn
      obtain ⟨h', w', b, hr, hs, hk⟩ := alC_sound (t := t) (κ := fun b h => κ (.chan (some b)) h) s hd hif hb hn.1 hn.2 hx
      exact wp_val (by simp [execOp, hv]; rw [show V.val σ (.int .i64 n) = .int .i64 n from rfl, hr]; rfl) (V.wf_one rfl) hs hk
    · exact hx.elim
  | lookup t x y c =>
    replace hx := ev1_val ok f hx; obtain ⟨v, hv, wv, hx⟩ := hx
    replace hx := ev1_val ok f hx; obtain ⟨u, hu, wu, hx⟩ := hx
    replace hx := withTI_ok ok hx; obtain ⟨i, k, hx⟩ := hx
    have hd := k.d
    split at hx
    · rename_i kt et m hi
      rw [hi] at hd
      have hd : σ.P.underlying t = some (.map kt et) := hd
      replace hx := withTI_ok ok hx; obtain ⟨ik, kk, hx⟩ := hx
      replace hx := withTI_ok ok hx; obtain ⟨ie, ke, hx⟩ := hx
      have hdk := kk.d
      split at hx
      · rename_i ks hik
        rw [hik] at hdk
        obtain ⟨hku, hx⟩ := chk_true hx
        obtain ⟨o, hw, hr, hk⟩ := lookup_sound s hd hdk ke hku hx
        have hk := asR_sound hk
        refine wp_val (by simp [execOp, hv, hu, hr c]) ?_ s hk
        cases c
        · exact V.wf1_wf hw
        · intro z hz
          simp only [List.mem_cons, List.not_mem_nil, or_false] at hz
          rcases hz with rfl | rfl
          · exact hw
          · exact V.wf_one (v := .bool o.isSome) rfl
      · exact hx.elim
    · exact hx.elim
  | range t x =>
    replace hx := ev1_val ok f hx; obtain ⟨v, hv, wv, hx⟩ := hx
    replace hx := withTI_ok ok hx; obtain ⟨i, k, hx⟩ := hx
    have hd := k.d
    split at hx
    · rename_i kt et m hi
      rw [hi] at hd
      have hd : σ.P.underlying t = some (.map kt et) := hd
      obtain ⟨h', w', b, hr, hs, hk⟩ := range_sound s hd hx
      exact wp_val (by simp [execOp, hv, hr]) (wf_ptr _) hs hk
    · rename_i l hi
      rw [hi] at hd
      have hd : σ.P.underlying t = some .string := hd
      obtain ⟨h', w', b, hr, hs, hk⟩ := rangeS_sound s hd hx
      exact wp_val (by simp [execOp, hv, hr]) (wf_ptr _) hs hk
    · exact hx.elim
  | next x str =>
    cases str with
    | true =>
      replace hx := ev1_val ok f hx; obtain ⟨v, hv, wv, hx⟩ := hx
      split at hx
      · rename_i p
        obtain ⟨h0, hx⟩ := hx
        obtain ⟨b, o⟩ := p
        simp only at h0; subst h0
        obtain ⟨u, h', w', hr, wu, hs, hk⟩ := nextS_sound (ty := ty) s hx
        exact wp_val (by simp [execOp, hv, hr]) wu hs hk
      · exact hx.elim
    | false =>
      replace hx := ev1_val ok f hx; obtain ⟨v, hv, wv, hx⟩ := hx
      split at hx
      · rename_i p
        obtain ⟨h0, hx⟩ := hx
        obtain ⟨b, o⟩ := p
        simp only at h0; subst h0
        obtain ⟨u, h', w', hr, wu, hs, hk⟩ := next_sound (ty := ty) s hx
        exact wp_val (by simp [execOp, hv, hr]) wu hs hk
      · exact hx.elim
  | entry x =>
    replace hx := ev1_val ok f hx; obtain ⟨v, hv, wv, hx⟩ := hx
    split at hx
    · rename_i p
      obtain ⟨h0, hx⟩ := hx
      obtain ⟨b, o⟩ := p
      simp only at h0; subst h0
      obtain ⟨k, u, hr, wu, hk⟩ := entry_sound s hx
      exact wp_val (by simp [execOp, hv, hr]) wu s hk
    · exact hx.elim
  | mapUpdate t x y z =>
    replace hx := ev1_val ok f hx; obtain ⟨v, hv, wv, hx⟩ := hx
    replace hx := ev1_val ok f hx; obtain ⟨u, hu, wu, hx⟩ := hx
    replace hx := ev1_val ok f hx; obtain ⟨r, hr, wr, hx⟩ := hx
    obtain ⟨m, h', w', hvm, hrun, hs, hk⟩ := mapPutPT_sound ok s wr hx
    subst hvm
    exact wp_skip' (by simp [execOp, hv, hu, hr, hrun]) hs hk
  | mapEntry t x y =>
    replace hx := ev1_val ok f hx; obtain ⟨v, hv, wv, hx⟩ := hx
    replace hx := ev1_val ok f hx; obtain ⟨u, hu, wu, hx⟩ := hx
    obtain ⟨m, r, h', w', hvm, wr, hrun, hs, hk⟩ := mapEntPT_sound ok s hx
    subst hvm
    exact wp_val (by simp [execOp, hv, hu, hrun]) wr hs hk
  | entryStore t x b y =>
    replace hx := ev1_val ok f hx; obtain ⟨v, hv, wv, hx⟩ := hx
    replace hx := ev1_val ok f hx; obtain ⟨u, hu, wu, hx⟩ := hx
    replace hx := ev1_val ok f hx; obtain ⟨r, hr, wr, hx⟩ := hx
    obtain ⟨h', w', hrun, hs, hk⟩ := entPutPT_sound s (t := t) wr hx
    exact wp_skip' (by simp [execOp, hv, hu, hr, hrun]) hs hk
  | insert t x y z =>
    replace hx := ev1_val ok f hx; obtain ⟨v, hv, wv, hx⟩ := hx
    replace hx := ev1_val ok f hx; obtain ⟨u, hu, wu, hx⟩ := hx
    replace hx := ev1_val ok f hx; obtain ⟨r, hr, wr, hx⟩ := hx
    obtain ⟨m, h', w', hvm, hrun, hs, hk⟩ := mapPutPT_sound ok s wr hx
    subst hvm
    exact wp_skip' (by simp [execOp, hv, hu, hr, hrun]) hs hk
  | _ => exact hx.elim

end
end Go.Lift

namespace Go.Lift
open Go.RowKit

section
variable {P : Program} {ops : Array Oper} {Q : Exit → Act → World → Prop}

abbrev ready (ops : Array Oper) (listed : Array Bool) : List Nat := Region.ready .any ops listed

def Closed (ops : Array Oper) (listed : Array Bool) : Prop :=
  ∀ i o, ops[i]? = some o → listed.getD i false = true → ∀ e ∈ o.after, Region.binds .any e = true → listed.getD e.on false = true

theorem edgeM_bits {C : Nat → Prop} : ∀ (l : List Edge) (m : Nat), (∀ j, m.testBit j = true → C j) → (∀ e ∈ l, Region.binds .any e = true → C e.on) → ∀ j, (edgeM l m).testBit j = true → C j
  | [], m, hm, _, j, h => hm j h
  | e :: es, m, hm, hl, j, h => by
    refine edgeM_bits es _ ?_ (fun e' he => hl e' (List.mem_cons_of_mem _ he)) j h
    intro k hk
    cases hb : Region.binds .any e with
    | false => rw [hb] at hk; exact hm k hk
    | true =>
      rw [hb] at hk
      simp only [cond_true, Nat.testBit_or, Bool.or_eq_true] at hk
      rcases hk with hk | hk
      · exact hm k hk
      · rw [Nat.one_shiftLeft, Nat.testBit_two_pow] at hk
        rw [← of_decide_eq_true hk]
        exact hl e (List.mem_cons_self ..) hb

theorem upM_bits {ops : Array Oper} {C : Nat → Prop} (hC : ∀ k o, ops[k]? = some o → C k → ∀ e ∈ o.after.toList, Region.binds .any e = true → C e.on) :
    ∀ (n m : Nat), (∀ j, m.testBit j = true → C j) → ∀ j, (upM ops n m).testBit j = true → C j
  | 0, m, hm, j, h => hm j h
  | n + 1, m, hm, j, h => by
    unfold upM at h
    refine upM_bits hC n _ ?_ j h
    intro k hk
    cases hb : m.testBit n with
    | false => rw [hb] at hk; exact hm k hk
    | true =>
      rw [hb] at hk
      simp only [cond_true] at hk
      split at hk
      · rename_i o ho
        exact edgeM_bits _ _ hm (hC n o ho (hm n hb)) k hk
      · exact hm k hk

theorem anc_listed {listed : Array Bool} (hc : Closed ops listed) (n j i : Nat) (hi : ∀ o, ops[i]? = some o → ∀ e ∈ o.after, Region.binds .any e = true → listed.getD e.on false = true) (h : anc ops n j i = true) : listed.getD j false = true := by
  unfold anc at h
  split at h
  · rename_i o ho
    exact upM_bits (C := fun j => listed.getD j false = true) (fun k o' ho' hk e he hb => hc k o' ho' hk e (Array.mem_toList_iff.1 he) hb) n _
      (edgeM_bits _ _ (fun j hj => by rw [Nat.zero_testBit] at hj; cases hj) (fun e he hb => hi o ho e (Array.mem_toList_iff.1 he) hb)) j h
  · cases h

theorem closed_set {listed : Array Bool} (hc : Closed ops listed) {i : Nat} (hr : i ∈ ready ops listed) : Closed ops (listed.setIfInBounds i true) := by
  obtain ⟨_, oi, hoi, hall⟩ := mem_ready.1 hr
  intro k o ho hk e he hb
  by_cases hik : i = k
  · subst hik
    rw [hoi] at ho; cases ho
    exact getD_set_true (hall e he hb)
  · rw [getD_set_ne false hik] at hk
    exact getD_set_true (hc k o ho hk e he hb)

def wpAnyF (P : Program) (ops : Array Oper) (Q : Exit → Act → World → Prop) : Nat → Array Bool → List (Nat × (World → Prop)) → Act → World → Prop
  | 0, listed, F, a, w => (∀ p ∈ F, p.2 w) ∧ ready ops listed = [] ∧ Q .normal a w
  | n + 1, listed, F, a, w => (∀ p ∈ F, p.2 w) ∧ (ready ops listed = [] → Q .normal a w) ∧
      ∀ i ∈ ready ops listed, wpOp P ops Q i (wpAnyF P ops Q n (listed.setIfInBounds i true) (F.filter fun p => !anc ops ops.size p.1 i)) a w

theorem wpAnyF_any : ∀ (n : Nat) {listed : Array Bool} {F : List (Nat × (World → Prop))} {a : Act} {w : World}, wpAnyF P ops Q n listed F a w → wpAny P .any ops Q n listed a w := by
  intro n
  induction n with
  | zero => intro listed F a w h; exact h.2
  | succ n ih => intro listed F a w h; exact ⟨h.2.1, fun i hi => wpOp_mono (fun a w h => ih h) (h.2.2 i hi)⟩

theorem wpAnyF_sub : ∀ (n : Nat) {listed : Array Bool} {F F' : List (Nat × (World → Prop))} {a : Act} {w : World}, (∀ p ∈ F', p ∈ F) → wpAnyF P ops Q n listed F a w → wpAnyF P ops Q n listed F' a w := by
  intro n
  induction n with
  | zero => intro listed F F' a w hs h; exact ⟨fun p hp => h.1 p (hs p hp), h.2⟩
  | succ n ih =>
    intro listed F F' a w hs h
    refine ⟨fun p hp => h.1 p (hs p hp), h.2.1, fun i hi => wpOp_mono (fun a w h => ih ?_ h) (h.2.2 i hi)⟩
    intro p hp
    simp only [List.mem_filter] at hp ⊢
    exact ⟨hs p hp.1, hp.2⟩

/-- In the worlds of C the operation gives v, from a frame whose slots that it names are as here. -/
def YC (P : Program) (ops : Array Oper) (C : World → Prop) (o : Oper) (v : Value) (a : Act) : Prop :=
  (Region.wanted o (yielded ops a.tmps) = true ∧ ∀ w, C w → (execOp a.eval o).run P w = .ok (.value v) w) ∨
  (Region.wanted o (yielded ops a.tmps) = false ∧ v = Go.undef)

theorem YC.now {C : World → Prop} {i : Nat} {o : Oper} {v : Value} {a : Act} {w : World} (hi : ops[i]? = some o) (hy : YC P ops C o v a) (hw : C w) {K : Act → World → Prop} (h : K (a.put o.dst v) w) : wpOp P ops Q i K a w := by
  unfold wpOp
  rw [hi]
  rcases hy with ⟨h1, h2⟩ | ⟨h1, rfl⟩
  · simp only [if_pos h1]
    refine .inl ?_
    unfold Oper.wp
    rw [h2 w hw, Oper.upon_value]
    exact h
  · have : ¬ Region.wanted o (yielded ops a.tmps) = true := by rw [h1]; exact Bool.false_ne_true
    simp only [if_neg this]
    exact h

/-- The frame that an operation leaves. -/
def Left (a : Act) (dst : Option Tmp) (a' : Act) : Prop := ∃ u ds, a' = ({ a with defers := ds } : Act).put dst u

theorem YC.left {C : World → Prop} {oi oj : Oper} {v : Value} {a a' : Act} (hy : YC P ops C oi v a) (hap : oi.apart ops oj = true) (hsi : ∀ cs b, oi.op ≠ .select cs b) (hl : Left a oj.dst a') : YC P ops C oi v a' := by
  obtain ⟨_, _, h3⟩ := Oper.apart_spec hap
  obtain ⟨u, ds, rfl⟩ := hl
  have e1 : execOp (({ a with defers := ds } : Act).put oj.dst u).eval oi = execOp a.eval oi := (execOp_put oi hsi _ oj.dst u h3).trans rfl
  have e2 : Region.wanted oi (yielded ops (({ a with defers := ds } : Act).put oj.dst u).tmps) = Region.wanted oi (yielded ops a.tmps) := (wanted_put oi _ oj.dst u h3).trans rfl
  unfold YC
  rw [e1, e2]
  exact hy

/-- An operation performed ahead of the slot's writing instead of behind it. -/
theorem wpOp_ahead {j : Nat} {oi oj : Oper} {v : Value} (hj : ops[j]? = some oj) (hap : oi.apart ops oj = true) (hsj : ∀ cs b, oj.op ≠ .select cs b)
    (hQ : ∀ c a w, Q (.panic c) (a.put oi.dst v) w → Q (.panic c) a w) {K : Act → World → Prop} {a : Act} {w : World} (h : wpOp P ops Q j K (a.put oi.dst v) w) :
    wpOp P ops Q j (fun a' w' => Left a oj.dst a' ∧ K (a'.put oi.dst v) w') a w := by
  obtain ⟨h1, h2, _⟩ := Oper.apart_spec hap
  have hleft : ∀ u, Left a oj.dst (a.put oj.dst u) := fun u => ⟨u, a.defers, rfl⟩
  have hcomm : ∀ u, (a.put oi.dst v).put oj.dst u = (a.put oj.dst u).put oi.dst v := fun u => Act.put_comm a v u h2
  have hexec : execOp (a.put oi.dst v).eval oj = execOp a.eval oj := execOp_put oj hsj a oi.dst v h1
  unfold wpOp at *
  rw [hj] at h ⊢
  simp only at h ⊢
  rw [wanted_put oj a oi.dst v h1] at h
  by_cases hw : Region.wanted oj (yielded ops a.tmps) = true
  · rw [if_pos hw] at h ⊢
    rcases h with h | ⟨ha, hl⟩
    · left
      unfold Oper.wp at *
      rw [hexec] at h
      cases hr : (execOp a.eval oj).run P w with
      | halt x w' =>
        rw [hr] at h
        cases x <;> first | exact h.elim | exact hQ _ _ _ h
      | ok n w' =>
        rw [hr] at h
        cases n with
        | value u => exact ⟨hleft u, hcomm u ▸ h⟩
        | skip => exact ⟨hleft Go.undef, hcomm Go.undef ▸ h⟩
        | defer d =>
          refine ⟨⟨Go.undef, d :: a.defers, rfl⟩, ?_⟩
          have : ({ a.put oi.dst v with defers := d :: (a.put oi.dst v).defers } : Act).put oj.dst Go.undef = (({ a with defers := d :: a.defers } : Act).put oj.dst Go.undef).put oi.dst v := by
            rw [Act.put_defers]
            exact Act.put_comm _ v Go.undef h2
          exact this ▸ h
        | enter f args =>
          refine Calls.mono h ?_
          rintro (u | c | _) w'' he
          · exact ⟨hleft u, hcomm u ▸ he⟩
          · exact hQ _ _ _ he
          · exact he
        | row r args => exact Rows.mono h fun u w'' he => ⟨hleft u, hcomm u ▸ he⟩
        | _ => exact h.elim
    · right
      refine ⟨?_, hl⟩
      unfold Oper.asks at *
      rw [hexec] at ha
      exact ha
  · rw [if_neg hw] at h ⊢
    exact ⟨hleft _, hcomm _ ▸ h⟩

/-- What reads and reckons may be taken first. -/
theorem wpAnyF_first {i : Nat} {oi : Oper} {v : Value} {C : World → Prop} (hi : ops[i]? = some oi) (hsel : ∀ (j : Nat) (o : Oper) cs b, ops[j]? = some o → o.op ≠ .select cs b)
    (hQ : ∀ c a w, Q (.panic c) (a.put oi.dst v) w → Q (.panic c) a w) :
    ∀ (n : Nat) (listed : Array Bool) (F : List (Nat × (World → Prop))) (a : Act) (w : World), Closed ops listed →
      (∀ j oj, ops[j]? = some oj → j ≠ i → listed.getD j true = false → (∀ e ∈ oj.after, Region.binds .any e = true → e.on ≠ i) → oi.apart ops oj = true) →
      i ∈ ready ops listed → YC P ops C oi v a →
      wpAnyF P ops Q n (listed.setIfInBounds i true) ((i, C) :: F) (a.put oi.dst v) w → wpAnyF P ops Q (n + 1) listed F a w := by
  intro n
  induction n with
  | zero =>
    intro listed F a w hc _ hr hy H
    refine ⟨fun p hp => H.1 p (by simp [hp]), fun h => (by rw [h] at hr; cases hr), fun j hj => ?_⟩
    by_cases hji : j = i
    · subst hji
      exact hy.now hi (H.1 (j, C) (by simp)) ⟨fun p hp => H.1 p (by simp at hp; simp [hp.1]), H.2⟩
    · have : j ∈ ready ops (listed.setIfInBounds i true) := ready_mono hj hji
      rw [H.2.1] at this
      cases this
  | succ n ih =>
    intro listed F a w hc hfree hr hy H
    refine ⟨fun p hp => H.1 p (by simp [hp]), fun h => (by rw [h] at hr; cases hr), fun j hj => ?_⟩
    by_cases hji : j = i
    · subst hji
      refine hy.now hi (H.1 (j, C) (by simp)) (wpAnyF_sub _ ?_ H)
      intro p hp
      simp only [List.mem_filter] at hp
      simp [hp.1]
    · have h1 := H.2.2 j (ready_mono hj hji)
      obtain ⟨hjun, oj, hoj, hall⟩ := mem_ready.1 hj
      have hiun := (mem_ready.1 hr).1
      have hil : listed.getD i false = false := by
        rcases Nat.lt_or_ge i listed.size with h' | h'
        · simp [h'] at hiun ⊢; exact hiun
        · simp [Array.getElem?_eq_none h']
      have hnot : ∀ e ∈ oj.after, Region.binds .any e = true → e.on ≠ i := fun e he hb heq => by
        have h1 := hall e he hb
        rw [heq, hil] at h1; cases h1
      have hanc : anc ops ops.size i j = false := by
        cases ha : anc ops ops.size i j with
        | false => rfl
        | true =>
          have := anc_listed hc ops.size i j (fun o ho => by rw [hoj] at ho; cases ho; exact hall) ha
          rw [hil] at this; cases this
      have hap := hfree j oj hoj hji hjun hnot
      have h2 := wpOp_ahead hoj hap (fun cs b => hsel j oj cs b hoj) hQ h1
      have hfree' : ∀ k ok, ops[k]? = some ok → k ≠ i → (listed.setIfInBounds j true).getD k true = false →
          (∀ e ∈ ok.after, Region.binds .any e = true → e.on ≠ i) → oi.apart ops ok = true := fun k ok hk hki hun hno => by
        refine hfree k ok hk hki ?_ hno
        by_cases hjk : j = k
        · subst hjk; exact hjun
        · rw [getD_set_ne true hjk] at hun; exact hun
      refine wpOp_mono (fun a' w' h3 => ih (listed.setIfInBounds j true) _ a' w' (closed_set hc hj) hfree' (ready_mono hr (Ne.symm hji)) (hy.left hap (fun cs b => hsel i oi cs b hi) h3.1) ?_) h2
      rw [Array.setIfInBounds_comm _ _ hji]
      have hfl : ((i, C) :: F).filter (fun p => !anc ops ops.size p.1 j) = (i, C) :: F.filter (fun p => !anc ops ops.size p.1 j) := by
        simp [hanc]
      rw [← hfl]
      exact h3.2

end
end Go.Lift

namespace Go.Lift
open Go.RowKit

section
variable {σ : Seat} {W0 : World} {E : Env}

/-- Continuations that the machine's sides follow. -/
def KOK (σ : Seat) (W0 : World) (E : Env) (κ : Fr → Heap → Prop) (K : Act → World → Prop) : Prop :=
  ∀ ρ h a w, SimF σ E.n ρ a → Sim σ W0 h w → κ ρ h → K a w

theorem SimF.put {ρ : Fr} {a : Act} (f : SimF σ E.n ρ a) {d : Nat} {v : V} (wv : v.wf) (hd : d < E.n) : SimF σ E.n ((d, some v) :: ρ) (a.put (some d) (V.val σ v)) := by
  refine ⟨by simp [Act.put, f.size], f.defers, ?_⟩
  intro t u hu
  simp only [look] at hu
  simp only [Act.put]
  cases ht : Nat.beq d t with
  | true =>
    rw [ht] at hu
    have := Nat.eq_of_beq_eq_true ht
    subst this
    simp at hu
    subst hu
    exact ⟨by simp [Array.getD_eq_getD_getElem?, f.size, hd], wv⟩
  | false =>
    rw [ht] at hu
    have hne : d ≠ t := by intro h; subst h; simp at ht
    have := f.vals t u hu
    rw [← this.1]
    exact ⟨by simp [Array.getD_eq_getD_getElem?, Array.getElem?_setIfInBounds_ne hne], this.2⟩

/-- A slot that holds this already. -/
theorem SimF.known {ρ : Fr} {a : Act} (f : SimF σ E.n ρ a) {d : Nat} {v : V} (hv : look ρ d = some v) : SimF σ E.n ((d, some v) :: ρ) a := by
  refine ⟨f.size, f.defers, ?_⟩
  intro t u hu
  simp only [look] at hu
  cases ht : Nat.beq d t with
  | true =>
    rw [ht] at hu
    have := Nat.eq_of_beq_eq_true ht
    subst this
    simp at hu
    subst hu
    exact f.vals d _ hv
  | false => rw [ht] at hu; exact f.vals t u hu

theorem putF_sound {ρ : Fr} {a : Act} (f : SimF σ E.n ρ a) {dst : Option Tmp} {v : V} (wv : v.wf) {κ : Fr → Prop} (hx : putF E dst (some v) ρ κ) : ∃ ρ', SimF σ E.n ρ' (a.put dst (V.val σ v)) ∧ κ ρ' := by
  cases dst with
  | none => exact ⟨ρ, f, hx⟩
  | some d =>
    simp only [putF] at hx
    cases hd : Nat.blt d E.n with
    | false => rw [hd] at hx; exact hx.elim
    | true => rw [hd] at hx; exact ⟨_, f.put wv (by simpa using hd), hx⟩

theorem putF_skip {ρ : Fr} {a : Act} (f : SimF σ E.n ρ a) {dst : Option Tmp} {κ : Fr → Prop} (hx : putF E dst (some (.tup [])) ρ κ) : ∃ ρ', SimF σ E.n ρ' (a.put dst Go.undef) ∧ κ ρ' :=
  putF_sound f (v := .tup []) (by intro v hv; cases hv) hx

theorem br_sound {x : Bool} {A B : Prop} (hx : br x A B) : (x = true ∧ A) ∨ (x = false ∧ B) := by
  cases x
  · exact .inr ⟨rfl, hx⟩
  · exact .inl ⟨rfl, hx⟩

theorem asRs_sound : ∀ {rs : List RS} {vs : List V} {κ : List V → Prop}, asRs rs vs κ → κ vs
  | [], vs, κ, hx => by
    simp only [asRs, asNil] at hx
    split at hx
    · exact hx
    · exact hx.elim
  | r :: rs, vs, κ, hx => by
    simp only [asRs, asCons] at hx
    split at hx
    · have h2 := asR_sound hx; have h3 := asRs_sound h2; exact h3
    · exact hx.elim

theorem asT_sound {t : RT} {v : V} {κ : V → Prop} (hx : asT t v κ) : κ v := by
  cases t with
  | single r => exact asR_sound hx
  | multi rs =>
    simp only [asT, asTupV] at hx
    split at hx
    · exact asRs_sound hx
    · exact hx.elim

theorem asO_sound {o : Oper} {v : V} {κ : V → Prop} (hx : asO E o v κ) : κ v := by
  unfold asO at hx
  split at hx
  · split at hx
    · exact hx
    · exact hx
    · split at hx
      · exact asT_sound hx
      · exact hx
  · unfold asNext at hx
    split at hx
    · split at hx
      · have h1 := asR_sound hx
        have h2 := asR_sound h1
        exact h2
      · exact hx
    · exact hx
  · exact hx

/-- An operation that is performed, then the rest. -/
theorem opPut_sound (ok : EnvOK σ W0 E) {ρ : Fr} {a : Act} {h : Heap} {w : World} (s : Sim σ W0 h w) (f : SimF σ E.n ρ a) {o : Oper} {κ : Fr → Heap → Prop} {K : Act → World → Prop} {Q : Exit → Act → World → Prop} (hK : KOK σ W0 E κ K)
    (hx : opPT E o.op ρ (fun v h => asO E o v fun v => putF E o.dst (some v) ρ fun ρ => κ ρ h) h) : o.wp σ.P a w K Q := by
  refine Oper.wp_mono (K := Nx σ W0 (fun v h => asO E o v fun v => putF E o.dst (some v) ρ fun ρ => κ ρ h) a o.dst) ?_ (opPT_sound ok s f hx)
  rintro a' w' ⟨v, h', rfl, wv, hs, hk⟩
  replace hk := asO_sound hk
  obtain ⟨ρ', f', hk⟩ := putF_sound f wv hk
  exact hK ρ' h' _ w' f' hs hk

/-- The yielded value of a guard's slot. -/
theorem yielded_of {ρ : Fr} {a : Act} (f : SimF σ E.n ρ a) {ops : Array Oper} {j d : Nat} (hd : (ops[j]?).bind (·.dst) = some d) {x : Bool} (hv : look ρ d = some (.bool x)) (hlt : d < E.n) : yielded ops a.tmps j = some x := by
  have h1 := (f.vals d _ hv).1
  unfold yielded
  rw [hd]
  have hsz : d < a.tmps.size := by rw [f.size]; exact hlt
  have : a.tmps[d]? = some (.bool x) := by
    rw [Array.getD_eq_getD_getElem?] at h1
    rw [getElem?_pos a.tmps d hsz] at h1 ⊢
    simpa [V.val] using h1
  simp [this]

/-- A guard's slot that was passed over. -/
theorem yielded_tup {ρ : Fr} {a : Act} (f : SimF σ E.n ρ a) {ops : Array Oper} {j d : Nat} (hd : (ops[j]?).bind (·.dst) = some d) {vs : List V} (hv : look ρ d = some (.tup vs)) (hlt : d < E.n) : yielded ops a.tmps j = none := by
  have h1 := (f.vals d _ hv).1
  unfold yielded
  rw [hd]
  have hsz : d < a.tmps.size := by rw [f.size]; exact hlt
  have : a.tmps[d]? = some (V.val σ (.tup vs)) := by
    rw [Array.getD_eq_getD_getElem?] at h1
    rw [getElem?_pos a.tmps d hsz] at h1 ⊢
    simpa using h1
  simp [this, V.val]

theorem guardG_sound {ρ : Fr} {a : Act} (f : SimF σ E.n ρ a) {ops : Array Oper} {o : Oper} {run skip : Fr → Prop} (hx : guardG E ops.toList o run skip ρ) :
    (Region.wanted o (yielded ops a.tmps) = true ∧ ∃ ρ', SimF σ E.n ρ' a ∧ run ρ') ∨ (Region.wanted o (yielded ops a.tmps) = false ∧ ∃ ρ', SimF σ E.n ρ' a ∧ skip ρ') := by
  unfold guardG at hx
  split at hx
  · rename_i hg
    exact .inl ⟨by simp [Region.wanted, hg], ρ, f, hx⟩
  · rename_i j want hg
    split at hx
    · exact hx.elim
    · rename_i d hd
      cases hlt : Nat.blt d E.n with
      | false => rw [hlt] at hx; exact hx.elim
      | true =>
        rw [hlt] at hx
        have hlt : d < E.n := by simpa using hlt
        replace hx : (match look ρ d with
          | some (.bool x) => br x
              (bif want then run ((d, some (V.bool true)) :: ρ) else skip ((d, some (V.bool true)) :: ρ))
              (bif want then skip ((d, some (V.bool false)) :: ρ) else run ((d, some (V.bool false)) :: ρ))
          | some (.tup _) => skip ρ
          | _ => False) := hx
        split at hx
        · rename_i x hv
          have hd' : (ops[j]?).bind (·.dst) = some d := by simpa using hd
          have hy := yielded_of f hd' hv hlt
          have hw : Region.wanted o (yielded ops a.tmps) = (x == want) := by
            simp only [Region.wanted, hg, hy]
            cases x <;> cases want <;> rfl
          rw [hw]
          rcases br_sound hx with ⟨rfl, hx⟩ | ⟨rfl, hx⟩
          · cases want
            · exact .inr ⟨rfl, _, f.known hv, hx⟩
            · exact .inl ⟨rfl, _, f.known hv, hx⟩
          · cases want
            · exact .inl ⟨rfl, _, f.known hv, hx⟩
            · exact .inr ⟨rfl, _, f.known hv, hx⟩
        · rename_i vs hv
          have hd' : (ops[j]?).bind (·.dst) = some d := by simpa using hd
          have hy := yielded_tup f hd' hv hlt
          exact .inr ⟨by simp [Region.wanted, hg, hy], ρ, f, hx⟩
        · exact hx.elim

theorem stepPT_sound (ok : EnvOK σ W0 E) {ρ : Fr} {a : Act} {h : Heap} {w : World} (s : Sim σ W0 h w) (f : SimF σ E.n ρ a) {ops : Array Oper} {i : Nat} {o : Oper} (ho : ops[i]? = some o) {κ : Fr → Heap → Prop} {K : Act → World → Prop} {Q : Exit → Act → World → Prop} (hK : KOK σ W0 E κ K)
    (hx : stepPT E ops.toList o κ ρ h) : wpOp σ.P ops Q i K a w := by
  unfold wpOp
  rw [ho]
  simp only
  rcases guardG_sound f hx with ⟨hw, ρ', f', hx⟩ | ⟨hw, ρ', f', hx⟩
  · rw [if_pos hw]
    exact .inl (opPut_sound ok s f' hK hx)
  · rw [if_neg (by rw [hw]; exact Bool.false_ne_true)]
    obtain ⟨ρ'', f'', hk⟩ := putF_skip f' hx
    exact hK ρ'' h _ w f'' s hk

theorem ptOps_sound (ok : EnvOK σ W0 E) {ops : Array Oper} {κ : Fr → Heap → Prop} {K : Act → World → Prop} (hK : KOK σ W0 E κ K) :
    ∀ (os : List Oper) (i : Nat), (∀ j, os[j]? = ops[i + j]?) → ∀ {ρ : Fr} {a : Act} {h : Heap} {w : World}, Sim σ W0 h w → SimF σ E.n ρ a → ptOps E ops.toList os κ ρ h →
    wpOps σ.P ops (fun e a w => e = .normal ∧ K a w) (List.range' i os.length) a w := by
  intro os
  induction os with
  | nil => intro i _ ρ a h w s f hx; exact ⟨rfl, hK ρ h a w f s hx⟩
  | cons o os ih =>
    intro i hi ρ a h w s f hx
    rw [List.length_cons, List.range'_succ, wpOps_cons]
    have ho : ops[i]? = some o := by have := hi 0; simpa using this.symm
    refine stepPT_sound ok s f ho (κ := fun ρ h => ptOps E ops.toList os κ ρ h) ?_ hx
    intro ρ' h' a' w' f' s' hk
    refine ih (i + 1) ?_ s' f' hk
    intro j
    have := hi (j + 1)
    rw [show i + 1 + j = i + (j + 1) from by omega]
    simpa using this

/-! ### what only reckons -/

theorem eqD_all {x y : V} {t : Nat} {i : TI} (k : TIok σ.P t i) (n : Nat) {κ : Bool → Prop} (hx : eqD i.d x y κ) : ∃ b, (∀ w, (Op.equalIn (n + 1) t (x.val σ) (y.val σ)).run σ.P w = .ok b w) ∧ κ b := by
  have hd := k.d
  unfold eqD at hx
  split at hx
  · rename_i hi
    rw [hi] at hd
    split at hx
    · rename_i hk; subst hk
      exact ⟨_, fun w => run_equalIn_int w n t _ _ _ _ hd, hx⟩
    · exact hx.elim
  · rename_i hi; rw [hi] at hd
    exact ⟨_, fun w => run_equalIn_bool' w n t _ _ hd, hx⟩
  · rename_i p q hi; rw [hi] at hd
    refine ⟨_, fun w => run_equalIn_string w n t _ _ hd, ?_⟩
    rw [ba_toList, ba_toList]; exact hx
  · exact hx.elim

theorem binP0_all (ok : EnvOK σ W0 E) {op : BinOp} {t : Nat} {x y : V} {xo yo : Operand} {h : Heap} {κ : V → Prop} (hq : withB E t (fun i => i.d.plain) = true) (hx : binP0 E op t x y (isConstO yo) κ h) :
    ∃ v, (∀ w, (do eqGuard op t xo yo (x.val σ) (y.val σ); binOp op t (x.val σ) (y.val σ) : Sem Value).run σ.P w = .ok (V.val σ v) w) ∧ v.wf ∧ κ v := by
  have eqcase : ∀ {κ : Bool → Prop}, eqPT E t x y (isConstO yo) κ h → ∃ p q b, x = .bool p ∧ y = .bool q ∧ (∀ w, (Op.equal t (x.val σ) (y.val σ)).run σ.P w = .ok b w) ∧ κ b := by
    intro κ hx
    unfold withB at hq
    unfold eqPT withTI at hx
    cases hi : E.ti t with
    | none => rw [hi] at hq; cases hq
    | some i =>
      rw [hi] at hq hx
      simp only at hq hx
      have k := ok.ti t i hi
      cases hd : i.d with
      | leaf sh =>
        rw [hd] at hq hx
        cases sh <;> first | exact hx.elim | cases hq | skip
        have hx0 : eqD i.d x y κ := by rw [hd]; exact hx
        obtain ⟨b, hr, hk⟩ := eqD_all k 9999 hx0
        have sh : ∃ p q, x = .bool p ∧ y = .bool q := by
          cases x <;> first | exact hx.elim | skip
          cases y <;> first | exact hx.elim | exact ⟨_, _, rfl, rfl⟩
        obtain ⟨p, q, hp, hq⟩ := sh
        exact ⟨p, q, b, hp, hq, hr, hk⟩
      | _ => rw [hd] at hq; cases hq
  unfold binP0 at hx
  split at hx
  · rename_i k m k' n
    obtain ⟨h0, hk⟩ := hx
    refine ⟨_, fun w => ?_, wf_int _ _, hk⟩
    have : ¬ n < 0 := by omega
    simp [eqGuard, V.val, binOp, Op.shift, this, shlI]
  · rename_i k m k' n
    obtain ⟨h0, hk⟩ := hx
    refine ⟨_, fun w => ?_, wf_int _ _, hk⟩
    have : ¬ n < 0 := by omega
    simp [eqGuard, V.val, binOp, Op.shift, this, shrI]
  · split at hx
    · rename_i hk; subst hk
      obtain ⟨v, hr, hw, hk⟩ := binI_sound (σ := σ) (t := t) hx
      exact ⟨v, fun w => by simp [V.val, eqGuard_plain, hr], hw, hk⟩
    · exact hx.elim
  · obtain ⟨v, hr, hw, hk⟩ := binS_sound (σ := σ) (t := t) hx
    refine ⟨v, fun w => ?_, hw, hk⟩
    simp only [V.val] at hr ⊢
    simp [eqGuard_plain, hr]
  · obtain ⟨p, q, b, rfl, rfl, hr, hk⟩ := eqcase hx
    refine ⟨.bool b, fun w => ?_, wf_bool _, hk⟩
    have e1 : binOp .eql t (V.val σ (.bool p)) (V.val σ (.bool q)) = (do pure (.bool (← Op.equal t (V.val σ (.bool p)) (V.val σ (.bool q))))) := rfl
    rw [e1]
    simp only [V.val] at hr ⊢
    simp [eqGuard_plain, hr]
  · obtain ⟨p, q, b, rfl, rfl, hr, hk⟩ := eqcase hx
    refine ⟨.bool !b, fun w => ?_, wf_bool _, hk⟩
    have e1 : binOp .neq t (V.val σ (.bool p)) (V.val σ (.bool q)) = (do pure (.bool (!(← Op.equal t (V.val σ (.bool p)) (V.val σ (.bool q)))))) := rfl
    rw [e1]
    simp only [V.val] at hr ⊢
    simp [eqGuard_plain, hr]
  · exact hx.elim

theorem binPT_all (ok : EnvOK σ W0 E) {op : BinOp} {t : Nat} {x y : V} {xo yo : Operand} {h : Heap} {κ : V → Prop} (hq : withB E t (fun i => i.d.plain) = true) (hx : binPT E op t x y (isConstO yo) κ h) :
    ∃ v, (∀ w, (do eqGuard op t xo yo (x.val σ) (y.val σ); binOp op t (x.val σ) (y.val σ) : Sem Value).run σ.P w = .ok (V.val σ v) w) ∧ v.wf ∧ κ v := by
  have eqcase : ∀ {κ : Bool → Prop}, eqPT E t x y (isConstO yo) κ h → ∃ p q b, x = .bool p ∧ y = .bool q ∧ (∀ w, (Op.equal t (x.val σ) (y.val σ)).run σ.P w = .ok b w) ∧ κ b := by
    intro κ hx
    unfold withB at hq
    unfold eqPT withTI at hx
    cases hi : E.ti t with
    | none => rw [hi] at hq; cases hq
    | some i =>
      rw [hi] at hq hx
      simp only at hq hx
      have k := ok.ti t i hi
      cases hd : i.d with
      | leaf sh =>
        rw [hd] at hq hx
        cases sh <;> first | exact hx.elim | cases hq | skip
        have hx0 : eqD i.d x y κ := by rw [hd]; exact hx
        obtain ⟨b, hr, hk⟩ := eqD_all k 9999 hx0
        have sh : ∃ p q, x = .bool p ∧ y = .bool q := by
          cases x <;> first | exact hx.elim | skip
          cases y <;> first | exact hx.elim | exact ⟨_, _, rfl, rfl⟩
        obtain ⟨p, q, hp, hq⟩ := sh
        exact ⟨p, q, b, hp, hq, hr, hk⟩
      | _ => rw [hd] at hq; cases hq
  unfold binPT at hx
  cases hn : isNilV y with
  | false => rw [hn] at hx; exact binP0_all ok hq hx
  | true =>
    rw [hn] at hx
    simp only [cond_true] at hx
    split at hx
    · obtain ⟨p, q, b, rfl, rfl, _, _⟩ := eqcase hx; cases hn
    · obtain ⟨p, q, b, rfl, rfl, _, _⟩ := eqcase hx; cases hn
    · exact hx.elim

theorem lenPT_all (ok : EnvOK σ W0 E) {h : Heap} {t : Nat} {ts : List Nat} {ty : Nat} {x : V} {κ : V → Prop} (hq : withB E t (fun i => !i.d.isMap) = true) (hx : lenPT E t x κ h) :
    ∃ n : Int, (∀ w, (Builtin.len_ (t :: ts).toArray ty #[x.val σ]).run σ.P w = .ok (.int .i64 n) w) ∧ κ (.int .i64 n) := by
  unfold withB at hq
  unfold lenPT withTI at hx
  cases hi : E.ti t with
  | none => rw [hi] at hq; cases hq
  | some i =>
    rw [hi] at hq hx
    simp only at hq hx
    have k := ok.ti t i hi
    have hd := k.d
    split at hx
    · rename_i st hi
      rw [hi] at hd
      have hd : σ.P.underlying t = some .string := hd
      exact ⟨_, fun w => by simp [Builtin.len_, run_under hd, V.val, goInt, ba_size], hx⟩
    · rename_i n e hi
      rw [hi] at hd
      have hd : σ.P.underlying t = some (.array n e) := hd
      exact ⟨_, fun w => by simp [Builtin.len_, run_under hd, goInt], hx⟩
    · rename_i e hi
      rw [hi] at hd
      have hd : σ.P.underlying t = some (.pointer e) := hd
      replace hx := withTI_ok ok hx; obtain ⟨j, kj, hx⟩ := hx
      have hdj := kj.d
      split at hx
      · rename_i n e' hj
        rw [hj] at hdj
        have hdj : σ.P.underlying e = some (.array n e') := hdj
        exact ⟨_, fun w => by simp [Builtin.len_, run_under hd, run_under hdj, goInt], hx⟩
      · exact hx.elim
    · rename_i e sl hi
      rw [hi] at hd
      have hd : σ.P.underlying t = some (.slice e) := hd
      exact ⟨_, fun w => by simp [Builtin.len_, run_under hd, V.val, goInt], hx⟩
    · rename_i hi
      rw [hi] at hq; cases hq
    · rename_i hi
      rw [hi] at hq; cases hq
    · exact hx.elim

theorem quiet_sound (ok : EnvOK σ W0 E) {ρ : Fr} {a : Act} {h : Heap} (f : SimF σ E.n ρ a) {o : Oper} {κ : V → Heap → Prop} (hq : quietOp E o.op = true) (hx : opPT E o.op ρ κ h) :
    ∃ v, (∀ w, (execOp a.eval o).run σ.P w = .ok (.value (V.val σ v)) w) ∧ v.wf ∧ κ v h := by
  obtain ⟨dst, op, ty, pos, after, guard⟩ := o
  simp only at hx hq
  cases op with
  | move x =>
    obtain ⟨v, hv, wv, hk⟩ := ev1_val ok f hx
    exact ⟨v, fun w => by simp [execOp, hv], wv, hk⟩
  | assign x =>
    obtain ⟨v, hv, wv, hk⟩ := ev1_val ok f hx
    exact ⟨v, fun w => by simp [execOp, hv], wv, hk⟩
  | pick c x y =>
    replace hx := ev1_val ok f hx; obtain ⟨v, hv, wv, hx⟩ := hx
    split at hx
    · obtain ⟨u, hu, wu, hk⟩ := ev1_val ok f hx
      exact ⟨u, fun w => by simp [execOp, hv, V.val, asBool, hu], wu, hk⟩
    · obtain ⟨u, hu, wu, hk⟩ := ev1_val ok f hx
      exact ⟨u, fun w => by simp [execOp, hv, V.val, asBool, hu], wu, hk⟩
    · exact hx.elim
  | nilCheck x =>
    replace hx := ev1_val ok f hx; obtain ⟨v, hv, wv, hx⟩ := hx
    unfold nilCU at hx
    split at hx
    · rename_i m u
      obtain ⟨ha, hk⟩ := chk_true hx
      obtain ⟨t', u', rfl, hr⟩ := ok.ahead _ _ ha
      exact ⟨.mth m (.iface t' u'), fun w => by simp [execOp, hv, V.val, hr], wv, hk⟩
    unfold nilC at hx
    split at hx
    · obtain ⟨p, rfl, hk⟩ := der_sound hx
      exact ⟨.ptr (some p), fun w => by simp [execOp, hv, V.val], wf_ptr _, hk⟩
    · exact ⟨_, fun w => by simp [execOp, hv, V.val], wv, hx⟩
    · exact ⟨_, fun w => by simp [execOp, hv, V.val], wv, hx⟩
    · exact ⟨_, fun w => by simp [execOp, hv, V.val], wv, hx⟩
    · exact ⟨_, fun w => by simp [execOp, hv, V.val], wv, hx⟩
    · exact hx.elim
  | binOp op t x y yt =>
    replace hx := ev1_val ok f hx; obtain ⟨v, hv, wv, hx⟩ := hx
    replace hx := ev1_val ok f hx; obtain ⟨u, hu, wu, hx⟩ := hx
    obtain ⟨r, hr, wr, hk⟩ := binPT_all (xo := x) ok hq hx
    exact ⟨r, fun w => by have hr := hr w; rw [← hv, ← hu] at hr; simp only [execOp]; simp only [Sem.run_bind] at hr ⊢; rw [hr]; rfl, wr, hk⟩
  | unOp op t x =>
    replace hx := ev1_val ok f hx; obtain ⟨v, hv, wv, hx⟩ := hx
    unfold unPT at hx
    split at hx
    · exact ⟨_, fun w => by simp [execOp, hv, V.val, Op.unary, Op.intArith], wf_int _ _, hx⟩
    · exact ⟨_, fun w => by simp only [execOp, hv, V.val, Op.unary, Op.intBits, Sem.run_bind, Sem.run_pure, Result.andThen_ok]; rfl, wf_int _ _, hx⟩
    · exact ⟨_, fun w => by simp [execOp, hv, V.val, Op.unary], wf_bool _, hx⟩
    · exact hx.elim
  | convert sT dT x =>
    replace hx := ev1_val ok f hx; obtain ⟨v, hv, wv, hx⟩ := hx
    unfold convPT withTI at hx
    simp only [quietOp, withB] at hq
    cases hs : E.ti sT with
    | none => rw [hs] at hx; exact hx.elim
    | some i' =>
      cases hd : E.ti dT with
      | none => rw [hs, hd] at hx; exact hx.elim
      | some i =>
        rw [hs, hd] at hx
        rw [hd, hs] at hq
        simp only [Bool.and_eq_true] at hq hx
        have k' := ok.ti _ _ hs
        have k := ok.ti _ _ hd
        obtain ⟨u, hu, _⟩ := k'.under
        have hdd := k.d
        cases hid : i.d with
        | leaf sh =>
          rw [hid] at hx hq hdd
          cases sh <;> first | cases hq.1 | skip
          rename_i kd
          have hdd : σ.P.underlying dT = some (.int kd) := hdd
          cases v <;> first | exact hx.elim | skip
          rename_i k1 n
          exact ⟨.int kd (kd.wrap n), fun w => by simp [execOp, hv, convert, run_under hu, run_under hdd, V.val, Conv.intToInt], wf_int _ _, hx⟩
        | _ => rw [hid] at hq; cases hq.1
  | slice t x lo hi mx =>
    replace hx := ev1_val ok f hx; obtain ⟨v, hv, wv, hx⟩ := hx
    replace hx := evO_val ok f hx; obtain ⟨lo', hlo, hx⟩ := hx
    replace hx := evO_val ok f hx; obtain ⟨hi', hhi, hx⟩ := hx
    replace hx := evO_val ok f hx; obtain ⟨mx', hmx, hx⟩ := hx
    obtain ⟨r, hr, wr, hk⟩ := slicePT_sound ok hx
    exact ⟨r, fun w => by simp [execOp, hv, hlo, hhi, hmx, hr], wr, hk⟩
  | fieldAddr t x fi =>
    replace hx := ev1_val ok f hx; obtain ⟨v, hv, wv, hx⟩ := hx
    split at hx
    · rename_i p
      replace hx := fieldOf_sound ok hx; obtain ⟨fields, fd, j, hu, hfd, kj, hx⟩ := hx
      cases hz : Nat.beq j.size 0 with
      | true => rw [hz] at hx; exact hx.elim
      | false =>
        rw [hz] at hx
        have h0 : ¬ j.size = 0 := by intro h; rw [h] at hz; cases hz
        exact ⟨.ptr (some (p.add fd.offset)), fun w => by simp [execOp, hv, V.val, Instr.fieldAt, run_under hu, hfd, Instr.sureAddr, fieldPlace, kj.size, h0, addr_add], wf_ptr _, hx⟩
    · exact hx.elim
  | field t x fi =>
    replace hx := ev1_val ok f hx; obtain ⟨v, hv, wv, hx⟩ := hx
    replace hx := fieldOf_sound ok hx; obtain ⟨fields, fd, j, hu, hfd, kj, hx⟩ := hx
    obtain ⟨cs, u, hcs, hr, wu, hk⟩ := partT_sound kj wv hx
    exact ⟨u, fun w => by simp [execOp, hv, hcs, Instr.field, run_under hu, hfd, asAgg, hr], wu, hk⟩
  | indexAddr t x y =>
    replace hx := ev1_val ok f hx; obtain ⟨v, hv, wv, hx⟩ := hx
    replace hx := ev1_val ok f hx; obtain ⟨u, hu, wu, hx⟩ := hx
    replace hx := withTI_ok ok hx; obtain ⟨i, k, hx⟩ := hx
    have hd := k.d
    split at hx
    · rename_i e sl kk n hi
      rw [hi] at hd
      have hd : σ.P.underlying t = some (.slice e) := hd
      replace hx := withTI_ok ok hx; obtain ⟨j, kj, hx⟩ := hx
      obtain ⟨h0, h1, hx⟩ := hx
      replace hx := der_sound hx; obtain ⟨p, hp, hk⟩ := hx
      exact ⟨.ptr (some (p.add (n.toNat * j.size))), fun w => by simp [execOp, hv, hu, V.val, Instr.indexAt, asIntOf, run_under hd, hp, h0, h1, kj.size, addr_add], wf_ptr _, hk⟩
    · rename_i len e p kk n hi
      rw [hi] at hd
      have hd : σ.P.underlying t = some (.array len e) := hd
      replace hx := withTI_ok ok hx; obtain ⟨j, kj, hx⟩ := hx
      obtain ⟨h0, h1, hk⟩ := hx
      exact ⟨.ptr (some (p.add (n.toNat * j.size))), fun w => by simp [execOp, hv, hu, V.val, Instr.indexAt, asIntOf, run_under hd, Instr.sureAddr, h0, h1, kj.size, addr_add], wf_ptr _, hk⟩
    · exact hx.elim
  | index t x y =>
    replace hx := ev1_val ok f hx; obtain ⟨v, hv, wv, hx⟩ := hx
    replace hx := ev1_val ok f hx; obtain ⟨u, hu, wu, hx⟩ := hx
    replace hx := withTI_ok ok hx; obtain ⟨i, k, hx⟩ := hx
    have hd := k.d
    split at hx
    · rename_i st kk n hi
      rw [hi] at hd
      have hd : σ.P.underlying t = some .string := hd
      obtain ⟨h0, h1, hk⟩ := hx
      refine ⟨.int .u8 (st.getD n.toNat 0).toNat, fun w => ?_, wf_int _ _, hk⟩
      have hlt : n.toNat < st.length := by omega
      have hb : (ByteArray.mk st.toArray)[n.toNat]? = some st[n.toNat] := by
        rw [getElem?_pos _ _ (by rw [ba_size]; exact hlt)]
        rfl
      simp [execOp, hv, hu, V.val, Instr.index, asIntOf, run_under hd, h0, hb, hlt]
    · rename_i len e kk n hi
      rw [hi] at hd
      have hd : σ.P.underlying t = some (.array len e) := hd
      replace hx := withTI_ok ok hx; obtain ⟨j, kj, hx⟩ := hx
      obtain ⟨h0, h1, hx⟩ := hx
      obtain ⟨cs, r, hcs, hr, wr, hk⟩ := partT_sound kj (ofAg_wf wv) hx
      rw [ofAg_val] at hcs
      exact ⟨r, fun w => by simp [execOp, hv, hu, hcs, V.val, Instr.index, asIntOf, run_under hd, h0, h1, kj.size, hr], wr, hk⟩
    · exact hx.elim
  | extract x n =>
    replace hx := ev1_val ok f hx; obtain ⟨v, hv, wv, hx⟩ := hx
    split at hx
    · rename_i vs
      split at hx
      · rename_i u hu
        exact ⟨u, fun w => by simp [execOp, hv, V.val, Instr.extract, vals_map, hu], V.wf1_wf (wv u (List.mem_of_getElem? hu)), hx⟩
      · exact hx.elim
    · exact hx.elim
  | call c =>
    obtain ⟨callee, args, argTypes⟩ := c
    cases callee with
    | builtin b =>
      cases b <;> first | cases hq | skip
      simp only [quietOp] at hq
      split at hq
      · rename_i t ts hts
        simp only [opPT, callPT] at hx
        replace hx := evL_vals ok f hx; obtain ⟨vs, hvs, wvs, hx⟩ := hx
        have hargs : args.map a.eval = (V.vals σ vs).toArray := by apply Array.ext'; simp [← hvs]
        simp only [hts] at hx
        have hat : argTypes = (t :: ts).toArray := by rw [← hts]
        cases vs with
        | nil => exact hx.elim
        | cons x vs =>
          cases vs with
          | cons y vs => exact hx.elim
          | nil =>
            have hx : lenPT E t x (fun v => κ v h) h := hx
            obtain ⟨n, hr, hk⟩ := lenPT_all (ts := ts) (ty := ty) ok hq hx
            refine ⟨.int .i64 n, fun w => ?_, wf_int _ _, hk⟩
            have e : execOp a.eval ⟨dst, .call ⟨.builtin .len, args, argTypes⟩, ty, pos, after, guard⟩ = (do pure (.value (← Builtin.len_ argTypes ty (args.map a.eval)))) := rfl
            rw [e, hargs, hat]
            have hr := hr w
            simp only [V.vals]
            simp [hr, V.val]
      · cases hq
    | _ => cases hq
  | _ => cases hq

/-! ### regions whose order is open -/

theorem rdT_ck {h : Heap} {w : World} (s : Sim σ W0 h w) {t : Nat} {i : TI} (k : TIok σ.P t i) {p : Ptr} {κ : V → Prop} (hx : rdT i p κ h) :
    ∃ v, v.wf ∧ κ v ∧ ck p v.cells 0 h ∧ ∀ h' w', Sim σ W0 h' w' → ck p v.cells 0 h' → (loadVar t p.addr).run σ.P w' = .ok (v.val σ) w' := by
  have ckg : ∀ (vs : List V) (j : Nat) (h : Heap), ck p vs j h ↔ ∀ m v, vs[m]? = some v → h.get p.b (p.o + (j + m)) = some v := by
    intro vs
    induction vs with
    | nil => intro j h; simp [ck]
    | cons v vs ih =>
      intro j h
      simp only [ck, ih]
      constructor
      · rintro ⟨h1, h2⟩ m u hm
        cases m with
        | zero => simp at hm; subst hm; exact h1
        | succ m => rw [show j + (m + 1) = j + 1 + m from by omega]; exact h2 m u (by simpa using hm)
      · intro hall
        refine ⟨hall 0 v rfl, fun m u hm => ?_⟩
        rw [show j + 1 + m = j + (m + 1) from by omega]
        exact hall (m + 1) u (by simpa using hm)
  have one : ∀ v, i.d.one = true → h.get p.b p.o = some v → κ v → ∃ v, v.wf ∧ κ v ∧ ck p v.cells 0 h ∧ ∀ h' w', Sim σ W0 h' w' → ck p v.cells 0 h' → (loadVar t p.addr).run σ.P w' = .ok (v.val σ) w' := by
    intro v ho hg hk
    have h1 := (s.get hg).2.2
    have hc := V.one_cells h1
    refine ⟨v, V.wf_one h1, hk, by rw [hc]; exact ⟨hg, trivial⟩, ?_⟩
    intro h' w' s' hck
    rw [hc] at hck
    exact run_loadVar_one k ho (s'.get hck.1).1
  have aggc : ∀ (vs : List V) (v : V), v.cells = vs → v.val σ = .agg (V.vals σ vs).toArray → (v.wf ↔ ∀ u ∈ vs, u.one = true) → i.d.one = false → vs.length = i.size → (∀ j u, vs[j]? = some u → h.get p.b (p.o + j) = some u) → κ v →
      ∃ v, v.wf ∧ κ v ∧ ck p v.cells 0 h ∧ ∀ h' w', Sim σ W0 h' w' → ck p v.cells 0 h' → (loadVar t p.addr).run σ.P w' = .ok (v.val σ) w' := by
    intro vs v hc hv hw ho hl hg hk
    refine ⟨v, hw.2 ?_, hk, ?_, ?_⟩
    · intro u hu
      obtain ⟨j, hj⟩ := List.mem_iff_getElem?.1 hu
      exact (s.get (p := p.add j) (hg j u hj)).2.2
    · rw [hc, ckg]; intro m u hm; simpa using hg m u hm
    · intro h' w' s' hck
      rw [hc, ckg] at hck
      rw [hv]
      exact run_loadVar_agg s' k ho hl (fun j u hj => by simpa using hck j u hj)
  have agg : i.d.one = false → (match i.leaves with
    | some ls => rdL ls p 0 (fun vs => κ (.agg vs)) h
    | none => rdN i.size p (fun vs => κ (.ago vs)) h) → ∃ v, v.wf ∧ κ v ∧ ck p v.cells 0 h ∧ ∀ h' w', Sim σ W0 h' w' → ck p v.cells 0 h' → (loadVar t p.addr).run σ.P w' = .ok (v.val σ) w' := by
    intro ho hx
    split at hx
    · rename_i ls hls
      obtain ⟨vs, hl, hg, hk⟩ := rdL_get hx
      exact aggc vs (.agg vs) rfl rfl Iff.rfl ho (by rw [hl, k.leaves ls hls]) (fun j v hj => by simpa using hg j v hj) hk
    · obtain ⟨cs, hl, hg, hk⟩ := hx
      refine aggc cs (.ago cs) rfl rfl Iff.rfl ho hl ?_ hk
      intro j v hj
      have hlt : j < cs.length := by
        rcases Nat.lt_or_ge j cs.length with h | h
        · exact h
        · rw [List.getElem?_eq_none h] at hj; cases hj
      rw [hg j (by omega), hj]
  unfold rdT at hx
  split at hx <;> rename_i hd
  · obtain ⟨v, hv, hk⟩ := rdSh_get hx; exact one v (by rw [hd]; rfl) hv hk
  · obtain ⟨v, hv, hk⟩ := hx; exact one _ (by rw [hd]; rfl) hv hk
  · obtain ⟨v, hv, hk⟩ := hx; exact one _ (by rw [hd]; rfl) hv hk
  · obtain ⟨v, hv, hk⟩ := hx; exact one _ (by rw [hd]; rfl) hv hk
  · obtain ⟨v, hv, hk⟩ := hx; exact one _ (by rw [hd]; rfl) hv hk
  · obtain ⟨v, hv, hk⟩ := hx; exact one _ (by rw [hd]; rfl) hv hk
  · refine agg ?_ hx
    cases hi : i.d <;> simp_all [TD.one]

theorem chkF_iff {F : List (Nat × (Heap → Prop))} {h : Heap} {A : Prop} : chkF F h A ↔ (∀ p ∈ F, p.2 h) ∧ A := by
  induction F with
  | nil => simp [chkF]
  | cons p F ih => obtain ⟨n, c⟩ := p; simp [chkF, ih, and_assoc]

theorem allPT_mem : ∀ {l : List Nat} {p : Nat → Prop}, allPT l p → ∀ i ∈ l, p i
  | [], _, _, i, hi => by cases hi
  | [j], p, h, i, hi => by simp at hi; subst hi; exact h
  | j :: k :: l, p, h, i, hi => by
    rcases List.mem_cons.1 hi with rfl | hi
    · exact h.1
    · exact allPT_mem (l := k :: l) h.2 i hi

/-- The checks of the two sides. -/
def FRel (σ : Seat) (W0 : World) (Fh : List (Nat × (Heap → Prop))) (Fw : List (Nat × (World → Prop))) : Prop :=
  ∀ q ∈ Fw, (∀ w, q.2 w) ∨ ∃ p ∈ Fh, p.1 = q.1 ∧ ∀ h w, Sim σ W0 h w → p.2 h → q.2 w

def un (ops : Array Oper) (listed : Array Bool) : Nat := ((List.range ops.size).filter fun i => !listed.getD i true).length

theorem un_set {ops : Array Oper} {listed : Array Bool} {i : Nat} (hr : i ∈ ready ops listed) : un ops (listed.setIfInBounds i true) + 1 ≤ un ops listed := by
  obtain ⟨hi, o, ho, _⟩ := mem_ready.1 hr
  have hlt : i < ops.size := (Array.getElem?_eq_some_iff.1 ho).1
  have hmem : i ∈ (List.range ops.size).filter fun i => !listed.getD i true := by
    simp only [List.mem_filter, List.mem_range]
    exact ⟨hlt, by rw [hi]; rfl⟩
  have hsz : i < listed.size := by
    rcases Nat.lt_or_ge i listed.size with h | h
    · exact h
    · rw [Array.getD_eq_getD_getElem?, Array.getElem?_eq_none h] at hi; cases hi
  have he : ((List.range ops.size).filter fun j => !(listed.setIfInBounds i true).getD j true) = ((List.range ops.size).filter fun j => !listed.getD j true).filter fun j => !(j == i) := by
    rw [List.filter_filter]
    apply List.filter_congr
    intro j _
    by_cases hji : j = i
    · subst hji; simp [hsz]
    · rw [getD_set_ne true (Ne.symm hji)]
      simp [hji]
  unfold un
  rw [he]
  have := List.length_filter_lt_length_iff_exists (p := fun j => !(j == i)) (l := (List.range ops.size).filter fun j => !listed.getD j true)
  have h2 := this.2 ⟨i, hmem, by simp⟩
  omega

theorem ready_un {ops : Array Oper} {listed : Array Bool} (h0 : un ops listed = 0) : ready ops listed = [] := by
  have hnil : ((List.range ops.size).filter fun i => !listed.getD i true) = [] := List.length_eq_zero_iff.1 h0
  cases hr : ready ops listed with
  | nil => rfl
  | cons r rs =>
    have hm : r ∈ ready ops listed := by rw [hr]; simp
    obtain ⟨hi, o, ho, _⟩ := mem_ready.1 hm
    have hlt : r < ops.size := (Array.getElem?_eq_some_iff.1 ho).1
    have : r ∈ (List.range ops.size).filter fun i => !listed.getD i true := by
      simp only [List.mem_filter, List.mem_range]
      exact ⟨hlt, by rw [hi]; rfl⟩
    rw [hnil] at this
    cases this

theorem FRel.filter {Fh : List (Nat × (Heap → Prop))} {Fw : List (Nat × (World → Prop))} (hR : FRel σ W0 Fh Fw) (g : Nat → Bool) : FRel σ W0 (Fh.filter fun p => g p.1) (Fw.filter fun p => g p.1) := by
  intro q hq
  simp only [List.mem_filter] at hq
  rcases hR q hq.1 with h1 | ⟨p, hp, he, h2⟩
  · exact .inl h1
  · exact .inr ⟨p, by simp only [List.mem_filter]; exact ⟨hp, by rw [he]; exact hq.2⟩, he, h2⟩

theorem ptD_sound (ok : EnvOK σ W0 E) {ops : Array Oper} (hns : Region.noSelect ops = true) {κ : Fr → Heap → Prop} {K : Act → World → Prop} (hK : KOK σ W0 E κ K) :
    ∀ (n : Nat) {listed : Array Bool} {Fh : List (Nat × (Heap → Prop))} {Fw : List (Nat × (World → Prop))} {ρ : Fr} {a : Act} {h : Heap} {w : World}, un ops listed ≤ n → Sim σ W0 h w → SimF σ E.n ρ a → Closed ops listed →
      (∀ p ∈ Fh, p.2 h) → FRel σ W0 Fh Fw → ptD E ops (n + 1) listed Fh κ ρ h → wpAnyF σ.P ops (fun e a w => e = .normal ∧ K a w) n listed Fw a w := by
  have hQ : ∀ (d : Option Tmp) (v : Value) (c : List PanicEntry) (a : Act) (w : World), (Exit.panic c = Exit.normal ∧ K (a.put d v) w) → (Exit.panic c = Exit.normal ∧ K a w) := by
    intro d v c a w h; cases h.1
  intro n
  induction n with
  | zero =>
    intro listed Fh Fw ρ a h w hun s f hc hF hR hx
    have hFw : ∀ q ∈ Fw, q.2 w := by
      intro q hq
      rcases hR q hq with h1 | ⟨p, hp, _, h2⟩
      · exact h1 w
      · exact h2 h w s (hF p hp)
    have hr := ready_un (Nat.le_zero.1 hun)
    unfold ptD at hx
    have hr' : Region.ready .any ops listed = [] := hr
    rw [hr'] at hx
    exact ⟨hFw, hr, rfl, hK ρ h a w f s hx⟩
  | succ n ih =>
    intro listed Fh Fw ρ a h w hun s f hc hF hR hx
    have hFw : ∀ q ∈ Fw, q.2 w := by
      intro q hq
      rcases hR q hq with h1 | ⟨p, hp, _, h2⟩
      · exact h1 w
      · exact h2 h w s (hF p hp)
    unfold ptD at hx
    split at hx
    · rename_i hr
      have hr' : ready ops listed = [] := hr
      exact ⟨hFw, fun _ => ⟨rfl, hK ρ h a w f s hx⟩, fun i hi => by rw [hr'] at hi; cases hi⟩
    · rename_i r rs hr
      have hr' : ready ops listed = r :: rs := hr
      split at hx
      · rename_i i hfind
        have himem : i ∈ ready ops listed := by rw [hr']; exact List.mem_of_find?_eq_some hfind
        have hh := List.find?_some hfind
        have hun' : un ops (listed.setIfInBounds i true) ≤ n := by have := un_set himem; omega
        split at hx
        · exact hx.elim
        · rename_i o ho
          unfold hoists at hh
          rw [ho] at hh
          simp only [Bool.and_eq_true] at hh
          have hfree := Region.free_spec (md := .any) ho hh.2
          have first : ∀ {v : Value} {C : World → Prop}, YC σ.P ops C o v a → wpAnyF σ.P ops (fun e a w => e = .normal ∧ K a w) n (listed.setIfInBounds i true) ((i, C) :: Fw) (a.put o.dst v) w → wpAnyF σ.P ops (fun e a w => e = .normal ∧ K a w) (n + 1) listed Fw a w :=
            fun hy H => wpAnyF_first ho (Region.noSelect_spec hns) (fun c a w => hQ _ _ c a w) n listed Fw a w hc hfree himem hy H
          have trivR : FRel σ W0 Fh ((i, fun _ => True) :: Fw) := by
            intro q hq
            rcases List.mem_cons.1 hq with rfl | hq
            · exact .inl fun _ => trivial
            · exact hR q hq
          have skipc : ∀ {ρ' : Fr}, SimF σ E.n ρ' a → Region.wanted o (yielded ops a.tmps) = false → (putF E o.dst (some (.tup [])) ρ' fun ρ => ptD E ops (n + 1) (listed.setIfInBounds i true) Fh κ ρ h) → wpAnyF σ.P ops (fun e a w => e = .normal ∧ K a w) (n + 1) listed Fw a w := by
            intro ρ' f' hw hx
            obtain ⟨ρ'', f'', hk⟩ := putF_skip f' hx
            exact first (v := Go.undef) (C := fun _ => True) (.inr ⟨hw, rfl⟩) (ih hun' s f'' (closed_set hc himem) hF trivR hk)
          split at hx
          · rename_i t x hop
            rcases guardG_sound f hx with ⟨hw, ρ', f', hx⟩ | ⟨hw, ρ', f', hx⟩
            · replace hx := ev1_val ok f' hx; obtain ⟨v, hv, wv, hx⟩ := hx
              replace hx := withTI_ok ok hx; obtain ⟨ti, kt, hx⟩ := hx
              split at hx
              · rename_i p
                obtain ⟨u, wu, hk, hck, hall⟩ := rdT_ck s kt hx
                obtain ⟨ρ'', f'', hk⟩ := putF_sound f' wu hk
                refine first (v := V.val σ u) (C := fun w => (loadVar t p.addr).run σ.P w = .ok (V.val σ u) w) (.inl ⟨hw, ?_⟩) (ih hun' s f'' (closed_set hc himem) ?_ ?_ hk)
                · intro w' hw'
                  simp [execOp, hop, hv, V.val, Instr.loadAt, Instr.sureAddr, hw']
                · intro q hq
                  rcases List.mem_cons.1 hq with rfl | hq
                  · exact hck
                  · exact hF q hq
                · intro q hq
                  rcases List.mem_cons.1 hq with rfl | hq
                  · exact .inr ⟨(i, fun h => ck p u.cells 0 h), by simp, rfl, fun h' w' s' hc' => hall h' w' s' hc'⟩
                  · rcases hR q hq with h1 | ⟨p', hp', he, h2⟩
                    · exact .inl h1
                    · exact .inr ⟨p', by simp [hp'], he, h2⟩
              · exact hx.elim
            · exact skipc f' hw hx
          · rename_i hnl
            have hq : quietOp E o.op = true := by
              rcases Bool.or_eq_true_iff.1 hh.1 with hq | hl
              · exact hq
              · unfold loadOp at hl
                split at hl
                · rename_i t x hop; exact absurd hop (hnl t x)
                · cases hl
            rcases guardG_sound f hx with ⟨hw, ρ', f', hx⟩ | ⟨hw, ρ', f', hx⟩
            · obtain ⟨v, hr, wv, hk⟩ := quiet_sound ok f' hq hx
              obtain ⟨ρ'', f'', hk⟩ := putF_sound f' wv (asO_sound hk)
              exact first (v := V.val σ v) (C := fun _ => True) (.inl ⟨hw, fun w' _ => hr w'⟩) (ih hun' s f'' (closed_set hc himem) hF trivR hk)
            · exact skipc f' hw hx
      · rw [← hr'] at hx
        refine ⟨hFw, (fun h0 => by rw [hr'] at h0; cases h0), fun i hi => ?_⟩
        replace hx := allPT_mem hx i hi
        have hun' : un ops (listed.setIfInBounds i true) ≤ n := by have := un_set hi; omega
        split at hx
        · exact hx.elim
        · rename_i o ho
          refine stepPT_sound ok s f ho (κ := fun ρ h => chkF (Fh.filter fun p => !anc ops ops.size p.1 i) h (ptD E ops (n + 1) (listed.setIfInBounds i true) (Fh.filter fun p => !anc ops ops.size p.1 i) κ ρ h)) ?_ hx
          intro ρ' h' a' w' f' s' hk
          obtain ⟨hF', hk⟩ := chkF_iff.1 hk
          exact ih hun' s' f' (closed_set hc hi) hF' (hR.filter fun j => !anc ops ops.size j i) hk

end
end Go.Lift

namespace Go.Lift
open Go.RowKit

/-- From this point on the frame comes to its end, with R. -/
def GoR (P : Program) (b : Frame) (todo : List Item) (a : Act) (w : World) (R : Ending → World → Prop) : Prop :=
  ∀ cs, ∃ e w' fr, R e w' ∧ Comes P (lone (b.at a todo) cs w) (lone fr cs w') e ∧ fr.fn = b.fn ∧ fr.leaving P w' e

section
variable {σ : Seat} {W0 : World} {E : Env} {R : Ending → World → Prop} {b : Frame}

theorem GoR.step {P : Program} {todo todo' : List Item} {a a' : Act} {w w' : World} (hs : ∀ cs, step P (lone (b.at a todo) cs w) = .next (lone (b.at a' todo') cs w')) (h : GoR P b todo' a' w' R) : GoR P b todo a w R := by
  intro cs
  obtain ⟨e, w1, fr, hr, hc, hf, hl⟩ := h cs
  exact ⟨e, w1, fr, hr, .of_steps (.one (hs cs)) hc, hf, hl⟩

theorem GoR.steps {P : Program} {todo todo' : List Item} {a a' : Act} {w w' : World} (hs : ∀ cs, Steps P (lone (b.at a todo) cs w) (lone (b.at a' todo') cs w')) (h : GoR P b todo' a' w' R) : GoR P b todo a w R := by
  intro cs
  obtain ⟨e, w1, fr, hr, hc, hf, hl⟩ := h cs
  exact ⟨e, w1, fr, hr, .of_steps (hs cs) hc, hf, hl⟩

theorem region_sound (ok : EnvOK σ W0 E) {id : Nat} {ops : Array Oper} {k : List Item} {κ : Fr → Heap → Prop} {ρ : Fr} {a : Act} {h : Heap} {w : World} (s : Sim σ W0 h w) (f : SimF σ E.n ρ a)
    (hK : KOK σ W0 E κ (fun a w => GoR σ.P b k a w R)) (hx : ptOps E ops.toList ops.toList κ ρ h) : GoR σ.P b (.code (.region id ops false) :: k) a w R := by
  refine GoR.step (fun cs => step_region) ?_
  have := ptOps_sound ok hK ops.toList 0 (by intro j; simp) s f hx
  rw [Array.length_toList] at this
  have hr : List.range ops.size = List.range' 0 ops.size := List.range_eq_range'
  rw [hr]
  intro cs
  obtain ⟨e, a', w', ⟨rfl, hg⟩, harr⟩ := wp_ops _ _ _ this b k cs
  obtain ⟨e, w1, fr, hR, hc, hf, hl⟩ := hg cs
  exact ⟨e, w1, fr, hR, .of_steps harr hc, hf, hl⟩

theorem selPT_sound (ok : EnvOK σ W0 E) (hb : b.kind ≠ .early) {ops : Array Oper} {o : Oper} {is : List Nat} (h0 : ops[0]? = some o) {sc : Array SelectCase} {bl : Bool} (ho : o.op = .select sc bl) (hg : o.guard = none) {k : List Item} {ρ : Fr} {a : Act} {h : Heap} {w : World} (s : Sim σ W0 h w) (f : SimF σ E.n ρ a)
    {κ : V → Heap → Prop} (hx : selPT E sc.toList bl ρ κ h) :
    ∃ v h' w', v.wf ∧ Sim σ W0 h' w' ∧ κ v h' ∧ ∀ cs, step σ.P (lone (b.at a (.inRegion ops (0 :: is) :: k)) cs w) = .next (lone (b.at (a.put o.dst (V.val σ v)) (.inRegion ops is :: k)) cs w') := by
  have hw : Region.wanted o (yielded ops a.tmps) = true := by simp [Region.wanted, hg]
  have hfin : ∀ v, (b.at a (.inRegion ops (0 :: is) :: k)).finish v = b.at (a.put o.dst v) (.inRegion ops is :: k) := by
    intro v; rw [Frame.finish_at, h0]; rfl
  unfold selPT at hx
  split at hx
  · rename_i c hsc
    have hsc : sc = #[c] := by apply Array.ext'; simpa using hsc
    subst hsc
    split at hx
    · rename_i x hs
      replace hx := ev1_val ok f hx; obtain ⟨v, hv, wv, hx⟩ := hx
      replace hx := ev1_val ok f hx; obtain ⟨u, hu, wu, hx⟩ := hx
      replace hx := withTI_ok ok hx; obtain ⟨ie, ke, hx⟩ := hx
      obtain ⟨hz, _⟩ := run_zv (σ := σ) ke
      split at hx
      · rename_i r
        obtain ⟨hn, hx⟩ := chk_true hx
        cases r with
        | none => exact hx.elim
        | some r =>
          obtain ⟨cap, q, hr, hx⟩ := hx
          obtain ⟨kb, n, m, rfl, hc, hq⟩ := s.chan hr
          have hv' : a.eval c.chan = .chan (some kb) := by rw [hv]; simp [V.val, mref_vb]
          have hcm : ∀ cs, stepG σ.P true (Conc.G (b.at a (.inRegion ops (0 :: is) :: k)) cs) w = .comm (Conc.G (b.at a (.inRegion ops (0 :: is) :: k)) cs) #[Conc.scase kb (V.val σ u) (V.val σ ie.zv)] false .select w (Conc.listed σ.P b.fn a o w) := by
            intro cs
            refine Conc.stepG_comm h0 hw hb ?_
            simp [execOp, ho, hs, hv', hu, hz, Conc.scase]
          split at hx
          · rename_i hlt
            have hs' := s.setO rfl (y := .chan cap (q ++ [u])) (o := .chan cap ((V.vals σ q).toArray.push (V.val σ u)) false (n + 1) m false) hr rfl ⟨rfl, by simp [vals_map], fun v hv => by
              rcases List.mem_append.1 hv with hv | hv
              · exact hq v hv
              · obtain rfl := List.mem_singleton.1 hv; exact V.wf_nt hn wu, rfl, rfl⟩
            refine ⟨_, _, _, ?_, hs', hx, fun cs => ?_⟩
            · intro z hz'
              simp only [List.mem_cons, List.not_mem_nil, or_false] at hz'
              rcases hz' with rfl | rfl
              · exact V.wf_one (v := .int .i64 0) rfl
              · exact V.wf_one (v := .bool false) rfl
            · have h1 := Conc.step_lone_select_send_room (hcm cs) hc (by simpa [vals_map] using hlt)
              rw [hfin] at h1
              exact h1
          · rename_i hlt
            refine ⟨_, _, _, ?_, s, hx, fun cs => ?_⟩
            · intro z hz'
              simp only [List.mem_cons, List.not_mem_nil, or_false] at hz'
              rcases hz' with rfl | rfl
              · exact V.wf_one (v := .int .i64 (-1)) rfl
              · exact V.wf_one (v := .bool false) rfl
            · have h1 := Conc.step_lone_select_send_full (hcm cs) hc (by simp [vals_map]; omega)
              rw [hfin] at h1
              exact h1
      · exact hx.elim
    · rename_i hs
      replace hx := ev1_val ok f hx; obtain ⟨v, hv, wv, hx⟩ := hx
      replace hx := withTI_ok ok hx; obtain ⟨ie, ke, hx⟩ := hx
      obtain ⟨hz, hzw⟩ := run_zv (σ := σ) ke
      split at hx
      · rename_i r
        cases r with
        | none => exact hx.elim
        | some r =>
          obtain ⟨cap, q, hr, hx⟩ := hx
          obtain ⟨kb, n, m, rfl, hc, hq⟩ := s.chan hr
          have hv' : a.eval c.chan = .chan (some kb) := by rw [hv]; simp [V.val, mref_vb]
          have hcm : ∀ cs, stepG σ.P true (Conc.G (b.at a (.inRegion ops (0 :: is) :: k)) cs) w = .comm (Conc.G (b.at a (.inRegion ops (0 :: is) :: k)) cs) #[Conc.rcase kb (V.val σ ie.zv)] false .select w (Conc.listed σ.P b.fn a o w) := by
            intro cs
            refine Conc.stepG_comm h0 hw hb ?_
            simp [execOp, ho, hs, hv', hz, Conc.rcase]
          have wtup : ∀ (i : Int) (t : Bool) (x : V), x.wf1 → V.wf (.tup [.int .i64 i, .bool t, x]) := by
            intro i t x hw z hz'
            simp only [List.mem_cons, List.not_mem_nil, or_false] at hz'
            rcases hz' with rfl | rfl | rfl
            · exact V.wf_one (v := .int .i64 i) rfl
            · exact V.wf_one (v := .bool t) rfl
            · exact hw
          split at hx
          · replace hx := asR_sound hx
            refine ⟨_, _, _, wtup _ _ _ hzw, s, hx, fun cs => ?_⟩
            have h1 := Conc.step_lone_select_default (hcm cs) hc
            rw [hfin] at h1
            exact h1
          · rename_i x q
            replace hx := asR_sound hx
            have hs' := s.setO rfl (y := .chan cap q) (o := .chan cap ((V.vals σ (x :: q)).toArray.extract 1 (V.vals σ (x :: q)).toArray.size) false n (m + 1) false) hr rfl ⟨rfl, by simp [V.vals], fun v hv => hq v (List.mem_cons_of_mem _ hv), rfl, rfl⟩
            refine ⟨_, _, _, wtup _ _ _ (hq x (List.mem_cons_self)), hs', hx, fun cs => ?_⟩
            have h1 := Conc.step_lone_select_recv_buf (hcm cs) hc (by simp [V.vals])
            rw [hfin] at h1
            exact h1
      · exact hx.elim
  · exact hx.elim

theorem regionR_sound (ok : EnvOK σ W0 E) (hb : b.kind ≠ .early) {id : Nat} {ops : Array Oper} {k : List Item} {κ : Fr → Heap → Prop} {ρ : Fr} {a : Act} {h : Heap} {w : World} (s : Sim σ W0 h w) (f : SimF σ E.n ρ a)
    (hK : KOK σ W0 E κ (fun a w => GoR σ.P b k a w R)) (hx : ptR E ops.toList κ ρ h) : GoR σ.P b (.code (.region id ops false) :: k) a w R := by
  unfold ptR at hx
  split at hx
  · rename_i o os hl
    split at hx
    · rename_i sc bl ho hg
      have h0 : ops[0]? = some o := by
        have : ops.toList[0]? = some o := by rw [hl]; rfl
        simpa using this
      have hsz : ops.size = os.length + 1 := by rw [← Array.length_toList, hl]; rfl
      refine GoR.step (fun cs => step_region) ?_
      have hr : List.range ops.size = 0 :: List.range' 1 os.length := by rw [List.range_eq_range', hsz, List.range'_succ]
      rw [hr]
      obtain ⟨v, h', w', wv, s', hk, hst⟩ := selPT_sound (b := b) (is := List.range' 1 os.length) (k := k) ok hb h0 ho hg s f hx
      refine GoR.step hst ?_
      obtain ⟨ρ', f', hk⟩ := putF_sound f wv hk
      have := ptOps_sound (ops := ops) ok hK os 1 (by
        intro j
        have : ops.toList[1 + j]? = os[j]? := by rw [hl, Nat.add_comm]; rfl
        rw [← this]; simp) s' f' hk
      intro cs
      obtain ⟨e, a', w', ⟨rfl, hg⟩, harr⟩ := wp_ops _ _ _ this b k cs
      obtain ⟨e, w1, fr, hR, hc, hf, hl⟩ := hg cs
      exact ⟨e, w1, fr, hR, .of_steps harr hc, hf, hl⟩
    · exact region_sound ok s f hK hx
  · exact region_sound ok s f hK hx

theorem regionD_sound (ok : EnvOK σ W0 E) (hm : σ.P.follows .mixedOrders = true) {id : Nat} {ops : Array Oper} {k : List Item} {κ : Fr → Heap → Prop} {ρ : Fr} {a : Act} {h : Heap} {w : World} (s : Sim σ W0 h w) (f : SimF σ E.n ρ a)
    (hK : KOK σ W0 E κ (fun a w => GoR σ.P b k a w R)) (hx : chk (Region.noSelect ops) (ptD E ops (ops.size + 1) (Array.replicate ops.size false) [] κ ρ h)) : GoR σ.P b (.code (.region id ops true) :: k) a w R := by
  obtain ⟨hns, hx⟩ := chk_true hx
  have hun : un ops (Array.replicate ops.size false) ≤ ops.size := by
    unfold un
    exact Nat.le_trans (List.length_filter_le _ _) (by simp)
  have hc : Closed ops (Array.replicate ops.size false) := by
    intro i o _ hl
    exfalso
    rw [Array.getD_eq_getD_getElem?, Array.getElem?_replicate] at hl
    split at hl <;> cases hl
  have h1 := ptD_sound ok hns hK ops.size (Fw := []) hun s.drew f hc (by simp) (by intro q hq; cases hq) hx
  have h2 := wp_region_any (id := id) hm (wpAnyF_any _ h1)
  intro cs
  obtain ⟨e, a', w', ⟨rfl, hg⟩, harr⟩ := h2 b k cs
  obtain ⟨e, w1, fr, hR, hc, hf, hl⟩ := hg cs
  exact ⟨e, w1, fr, hR, .of_steps harr hc, hf, hl⟩

/-- The function's end. -/
structure FnOK (σ : Seat) (W0 : World) (E : Env) (b : Frame) (R : Ending → World → Prop) : Prop where
  mixed : σ.P.follows .mixedOrders = true
  kind : b.kind = .normal
  fn : ∃ fn, σ.P.funcs[b.fn]? = some fn ∧ fn.results.toList = E.rets
  ret : ∀ v h w, v.wf → Sim σ W0 h w → E.ret v h → R (.returned (V.val σ v)) w

theorem retL_sound (ok : EnvOK σ W0 E) {ρ : Fr} {a : Act} {h : Heap} {w : World} (s : Sim σ W0 h w) (f : SimF σ E.n ρ a) : ∀ {rs : List ResultVar} {κ : List V → Prop}, retL E ρ h rs κ → ∃ vs : List V, (rs.mapM (fun r => match r with
    | ResultVar.tmp t => pure (a.tmps.getD t Go.undef)
    | .cell ad t => do loadVar t (← asAddr (a.tmps.getD ad Go.undef)) : ResultVar → Sem Value)).run σ.P w = .ok (V.vals σ vs) w ∧ (∀ v ∈ vs, v.wf1) ∧ κ vs := by
  intro rs
  induction rs with
  | nil => intro κ hx; exact ⟨[], rfl, by simp, hx⟩
  | cons r rs ih =>
    intro κ hx
    cases r with
    | cell ad t =>
      simp only [retL] at hx
      split at hx
      · rename_i p hp
        obtain ⟨i, k, hx⟩ := withTI_ok ok hx
        obtain ⟨v, hr, wv, hx⟩ := rdT_sound s k hx
        replace hx := chk_true hx; obtain ⟨hn, hx⟩ := hx
        obtain ⟨vs, hrs, wvs, hk⟩ := ih hx
        refine ⟨v :: vs, ?_, by simp; exact ⟨V.wf_nt hn wv, wvs⟩, hk⟩
        have h1 := (f.vals ad _ hp).1
        have h2 : a.tmps.getD ad Go.undef = .pointer (some p.addr) := by rw [h1]; rfl
        have h3 : (do loadVar t (← asAddr (a.tmps.getD ad Go.undef)) : Sem Value).run σ.P w = .ok (v.val σ) w := by
          rw [h2]
          show (loadVar t p.addr).run σ.P w = _
          exact hr
        simp only [List.mapM_cons, Sem.run_bind, Sem.run_pure]
        rw [Sem.run_bind] at h3
        rw [h3]
        simp only [Result.andThen_ok, hrs, V.vals]
      · exact hx.elim
    | tmp t =>
      simp only [retL] at hx
      split at hx
      · rename_i v hv
        replace hx := chk_true hx; obtain ⟨hn, hx⟩ := hx
        obtain ⟨vs, hr, wvs, hk⟩ := ih hx
        refine ⟨v :: vs, ?_, by simp; exact ⟨V.wf_nt hn (f.vals t v hv).2, wvs⟩, hk⟩
        have h1 := (f.vals t v hv).1
        simp only [List.mapM_cons, Sem.run_bind, Sem.run_pure, Result.andThen_ok, h1, hr, V.vals]
      · exact hx.elim

theorem atRet_sound (ok : EnvOK σ W0 E) (fk : FnOK σ W0 E b R) {ρ : Fr} {a : Act} {h : Heap} {w : World} (s : Sim σ W0 h w) (f : SimF σ E.n ρ a) {todo : List Item} (hs : ∀ cs, step σ.P (lone (b.at a todo) cs w) = .next (lone { b.at a todo with mode := .returning } cs w)) (hx : atRet E ρ h) :
    GoR σ.P b todo a w R := by
  obtain ⟨fn, hfn, hres⟩ := fk.fn
  unfold atRet at hx
  replace hx := retL_sound ok s f hx; obtain ⟨vs, hr, wvs, hk⟩ := hx
  have key : ∃ v : V, v.wf ∧ E.ret v h ∧ (results fn a.tmps).run σ.P w = .ok (V.val σ v) w := by
    have hm : (fn.results.mapM (fun r => match r with
      | ResultVar.tmp t => pure (a.tmps.getD t Go.undef)
      | .cell ad t => do loadVar t (← asAddr (a.tmps.getD ad Go.undef)) : ResultVar → Sem Value)).run σ.P w = .ok (V.vals σ vs).toArray w := by
      rw [← Array.toArray_toList (xs := fn.results), hres, List.mapM_toArray, Sem.run_map, hr]
      rfl
    have hrun : (results fn a.tmps).run σ.P w = .ok (if h : (V.vals σ vs).toArray.size = 1 then (V.vals σ vs).toArray[0] else .tuple (V.vals σ vs).toArray) w := by
      unfold results
      rw [Sem.run_bind]
      exact congrArg (fun (r : Result (Array Value)) => r.andThen fun a w' => (pure (if h : a.size = 1 then a[0] else Value.tuple a) : Sem Value).run σ.P w') hm
    rw [hrun]
    split at hk
    · rename_i v
      refine ⟨v, V.wf1_wf (wvs v (by simp)), hk, ?_⟩
      simp [V.vals]
    · rename_i hne
      refine ⟨.tup vs, wvs, hk, ?_⟩
      have : ¬ (V.vals σ vs).toArray.size = 1 := by
        intro h1
        simp only [vals_map, List.size_toArray, List.length_map] at h1
        obtain ⟨v, rfl⟩ := List.length_eq_one_iff.1 h1
        exact hne v rfl
      simp only [dif_neg this, V.val]
  obtain ⟨v, wv, hret, hrun⟩ := key
  intro cs
  refine ⟨.returned (V.val σ v), w, { b.at a todo with mode := .returning }, fk.ret v h w wv s hret, .one (hs cs), rfl, ?_⟩
  exact ⟨rfl, f.defers, fk.kind, fn, hfn, hrun⟩

/-- All regions that may come up are among 'pos'. -/
def InPos (pos : List (Nat × List Item)) : List Item → Prop
  | [] => True
  | .code c :: k => (∀ p ∈ posC c k, p ∈ pos) ∧ InPos pos k
  | .inLoop c :: k => (∀ p ∈ posC c (.inLoop c :: k), p ∈ pos) ∧ InPos pos k
  | _ :: k => InPos pos k

theorem inPos_tail {pos : List (Nat × List Item)} {it : Item} {k : List Item} (h : InPos pos (it :: k)) : InPos pos k := by
  cases it <;> first | exact h.2 | exact h

theorem inPos_exit {pos : List (Nat × List Item)} {id : Nat} : ∀ {k k' : List Item}, exitTo id k = some k' → InPos pos k → InPos pos k'
  | [], k', he, _ => by simp [exitTo] at he
  | it :: k, k', he, h => by
    cases it with
    | inBlock id' =>
      simp only [exitTo] at he
      split at he
      · cases he; exact inPos_tail h
      · exact inPos_exit he (inPos_tail h)
    | _ => exact inPos_exit (by simpa [exitTo] using he) (inPos_tail h)

/-- What a cut stands for: from the point where region 'id' begins the frame comes to its end. -/
def CutsOK (σ : Seat) (W0 : World) (E : Env) (b : Frame) (R : Ending → World → Prop) (pos : List (Nat × List Item)) : Prop :=
  ∀ id L κ, E.cut id = some (L, κ) → ∀ todo, (id, todo) ∈ pos → ∀ ρ h a w, Sim σ W0 h w → SimF σ E.n ρ a → picks ρ L (fun vs => κ vs h) → GoR σ.P b todo a w R

theorem lit_known (ok : EnvOK σ W0 E) {ρ : Fr} {a : Act} (f : SimF σ E.n ρ a) {c : Operand} {x : Bool} (hv : ev E ρ c = some (.bool x)) : SimF σ E.n (lit c x ρ) a := by
  cases c with
  | tmp d => exact f.known hv
  | _ => exact f

theorem pts_sound (ok : EnvOK σ W0 E) (fk : FnOK σ W0 E b R) {pos : List (Nat × List Item)} (ck : CutsOK σ W0 E b R pos) :
    ∀ (n : Nat) (first : Bool) (todo : List Item) {ρ : Fr} {a : Act} {h : Heap} {w : World}, InPos pos todo → Sim σ W0 h w → SimF σ E.n ρ a → pts E n first todo ρ h → GoR σ.P b todo a w R := by
  intro n
  induction n with
  | zero => intro first todo ρ a h w _ _ _ hx; exact hx.elim
  | succ n ih =>
    intro first todo ρ a h w hp s f hx
    cases todo with
    | nil => exact atRet_sound ok fk s f (fun cs => step_end) hx
    | cons it k =>
      have hk := inPos_tail hp
      cases it with
      | code c =>
        have hc := hp.1
        cases c with
        | skip => exact GoR.step (fun cs => step_skip) (ih first k hk s f hx)
        | label l => exact GoR.step (fun cs => step_label) (ih first k hk s f hx)
        | seq x y => exact GoR.step (fun cs => step_seq) (ih first _ ⟨fun p hp' => hc p (by simp [posC, hp']), fun p hp' => hc p (by simp [posC, hp']), hk⟩ s f hx)
        | cond c t e =>
          simp only [pts] at hx
          split at hx
          · rename_i x hv
            have he := (ev_val ok f hv).1
            rcases br_sound hx with ⟨rfl, hx⟩ | ⟨rfl, hx⟩
            · exact GoR.step (fun cs => step_cond he) (ih first _ ⟨fun p hp' => hc p (by simp [posC]; exact .inl hp'), hk⟩ s (lit_known ok f hv) hx)
            · exact GoR.step (fun cs => step_cond he) (ih first _ ⟨fun p hp' => hc p (by simp [posC]; exact .inr hp'), hk⟩ s (lit_known ok f hv) hx)
          · exact hx.elim
        | block id c => exact GoR.step (fun cs => step_block) (ih first _ ⟨hc, hk⟩ s f hx)
        | loop c => exact GoR.step (fun cs => step_loop) (ih first _ ⟨hc, hc, hk⟩ s f hx)
        | scope c => exact GoR.step (todo' := .code c :: .inScope c :: k) (a' := a) (w' := w) (fun cs => step_lone_go (by simp [Go.stepG, Go.stepG.exec, Frame.at])) (ih first _ ⟨hc, hk⟩ s f hx)
        | exit id =>
          simp only [pts] at hx
          split at hx
          · rename_i k' hk'
            exact GoR.step (fun cs => step_exit hk') (ih first _ (inPos_exit hk' hk) s f hx)
          · exact hx.elim
        | ret => exact atRet_sound ok fk s f (fun cs => step_ret) hx
        | region id ops draw =>
          simp only [pts] at hx
          split at hx
          · rename_i L κ hcut
            have hcut : E.cut id = some (L, κ) := by
              cases first
              · exact hcut
              · cases hcut
            exact ck id L κ hcut _ (hc _ (by simp [posC])) ρ h a w s f hx
          · cases draw with
            | true => exact regionD_sound ok fk.mixed s f (fun ρ' h' a' w' f' s' hx => ih false k hk s' f' hx) hx
            | false => exact regionR_sound ok (by rw [fk.kind]; decide) s f (fun ρ' h' a' w' f' s' hx => ih false k hk s' f' hx) hx
        | _ => exact hx.elim
      | inBlock id => exact GoR.step (fun cs => step_inBlock) (ih first k hk s f hx)
      | inScope c => exact GoR.step (fun cs => step_lone_go (by simp [Go.stepG, Go.stepG.exec, Frame.at])) (ih first k hk s f hx)
      | inLoop c => exact GoR.step (fun cs => step_inLoop) (ih first _ ⟨hp.1, hp⟩ s f hx)
      | _ => exact hx.elim

/-! ## functions -/

theorem look_frOf : ∀ {vs : List V} {i t : Nat} {v : V}, look (frOf i vs) t = some v → ∃ j : Nat, t = i + j ∧ vs[j]? = some v := by
  intro vs
  induction vs with
  | nil => intro i t v h; cases h
  | cons u vs ih =>
    intro i t v h
    simp only [frOf, look] at h
    cases hb : Nat.beq i t with
    | true =>
      rw [hb] at h
      have := Nat.eq_of_beq_eq_true hb
      exact ⟨0, by omega, by simpa using h⟩
    | false =>
      rw [hb] at h
      obtain ⟨j, hj, hv⟩ := ih h
      exact ⟨j + 1, by omega, by simpa using hv⟩

theorem look_frAt : ∀ {L : List Nat} {vs : List V} {t : Nat} {v : V}, look (frAt L vs) t = some v → ∃ j : Nat, L[j]? = some t ∧ vs[j]? = some v := by
  intro L
  induction L with
  | nil => intro vs t v h; cases vs <;> cases h
  | cons l L ih =>
    intro vs t v h
    cases vs with
    | nil => cases h
    | cons u vs =>
      simp only [frAt, look] at h
      cases hb : Nat.beq l t with
      | true =>
        rw [hb] at h
        exact ⟨0, by simp [Nat.eq_of_beq_eq_true hb], by simpa using h⟩
      | false =>
        rw [hb] at h
        obtain ⟨j, hj, hv⟩ := ih h
        exact ⟨j + 1, by simpa using hj, by simpa using hv⟩

theorem picks_sound {ρ : Fr} : ∀ {L : List Nat} {κ : List V → Prop}, picks ρ L κ → ∃ vs : List V, (∀ (j t : Nat), L[j]? = some t → ∃ v, look ρ t = some v ∧ vs[j]? = some v) ∧ vs.length = L.length ∧ κ vs := by
  intro L
  induction L with
  | nil => intro κ h; exact ⟨[], by simp, rfl, h⟩
  | cons t L ih =>
    intro κ h
    simp only [picks] at h
    split at h
    · rename_i v hv
      obtain ⟨vs, hvs, hl, hk⟩ := ih h
      refine ⟨v :: vs, ?_, by simp [hl], hk⟩
      intro j t' hj
      cases j with
      | zero => simp at hj; subst hj; exact ⟨v, hv, by simp⟩
      | succ j => simpa using hvs j t' (by simpa using hj)
    · exact h.elim

/-- The small frame that a cut keeps. -/
theorem SimF.picks {n : Nat} {ρ : Fr} {a : Act} (f : SimF σ n ρ a) {L : List Nat} {vs : List V} (hvs : ∀ (j t : Nat), L[j]? = some t → ∃ v, look ρ t = some v ∧ vs[j]? = some v) : SimF σ n (frAt L vs) a := by
  refine ⟨f.size, f.defers, ?_⟩
  intro t v ht
  obtain ⟨j, hj, hv⟩ := look_frAt ht
  obtain ⟨u, hu, hju⟩ := hvs j t hj
  rw [hv] at hju
  cases hju
  exact f.vals t _ hu

/-- A function's frame, as it is entered. -/
def entered (f : FuncId) : Frame := { fn := f, tmps := #[], todo := [], defers := [], mode := .run, kind := .normal }

theorem calls_of_goR {P : Program} {f : FuncId} {fn : Func} {code : Code} {args : Array Value} {w : World} {R : Ending → World → Prop} (hf : P.funcs[f]? = some fn) (hb : fn.body = some code)
    (h : GoR P (entered f) [.code code] ⟨args ++ Array.replicate (fn.ntmps - args.size) Go.undef, []⟩ w R) : Calls P f args w R := by
  intro cs
  obtain ⟨e, w', fr, hR, hc, hfn, hl⟩ := h cs
  refine ⟨e, w', fr, hR, ?_, hfn, hl⟩
  have : Frame.enter P f args .normal = (entered f).at ⟨args ++ Array.replicate (fn.ntmps - args.size) Go.undef, []⟩ [.code code] := by
    simp [Frame.enter, Frame.at, entered, hf, hb]
  rw [this]
  exact hc

/-- A function that is entered. -/
structure Fun (P : Program) (f : FuncId) (n : Nat) (rets : List ResultVar) (code : Code) : Prop where
  ex : ∃ fn, P.funcs[f]? = some fn ∧ fn.body = some code ∧ fn.ntmps = n ∧ fn.results.toList = rets ∧ (fn.name == "runtime.NumGoroutine") = false

theorem simF_args {vs : List V} {n : Nat} (hn : vs.length ≤ n) (wvs : ∀ v ∈ vs, v.wf) : SimF σ n (frOf 0 vs) ⟨(V.vals σ vs).toArray ++ Array.replicate (n - (V.vals σ vs).toArray.size) Go.undef, []⟩ := by
  refine ⟨?_, rfl, ?_⟩
  · simp [vals_map]; omega
  · intro t v ht
    obtain ⟨j, rfl, hj⟩ := look_frOf ht
    refine ⟨?_, wvs v (List.mem_of_getElem? hj)⟩
    simp only [Nat.zero_add]
    have hlt : j < vs.length := by
      rcases Nat.lt_or_ge j vs.length with h | h
      · exact h
      · rw [List.getElem?_eq_none h] at hj; cases hj
    rw [Array.getD_eq_getD_getElem?, Array.getElem?_append_left (by simp [vals_map, hlt])]
    simp [vals_map, hj]

/-- The main step: what the interpreter says of a function's code, the machine does. -/
theorem calls_of_pts (ok : EnvOK σ W0 E) (hm : σ.P.follows .mixedOrders = true) {f : FuncId} {code : Code} (hf : Fun σ.P f E.n E.rets code) {vs : List V} (hn : vs.length ≤ E.n) (wvs : ∀ v ∈ vs, v.wf)
    (ck : CutsOK σ W0 E (entered f) (Post σ W0 E.ret) (posC code [])) {h : Heap} {w : World} (s : Sim σ W0 h w) {fuel : Nat} (hx : pts E fuel true [.code code] (frOf 0 vs) h) :
    CallsVal σ.P (.func (.func f) #[] #[]) (V.vals σ vs).toArray w (Post σ W0 E.ret) := by
  obtain ⟨fn, hfn, hb, hnt, hres, hname⟩ := hf.ex
  refine ⟨f, (V.vals σ vs).toArray, ?_, ?_⟩
  · have : (callFunc f (V.vals σ vs).toArray).run σ.P w = .ok (.enter f (V.vals σ vs).toArray) w := by
      unfold callFunc
      simp only [Sem.run_bind, run_program, Result.andThen_ok, hfn, hname, hb]
      rfl
    simpa [Deferred.ofValue, invoke] using this
  · refine calls_of_goR hfn hb ?_
    rw [hnt]
    refine pts_sound ok ⟨hm, rfl, ⟨fn, hfn, hres⟩, ?_⟩ ck fuel true _ ⟨fun p hp => hp, trivial⟩ s (simF_args hn wvs) hx
    intro v h w wv s hk
    exact ⟨v, h, rfl, wv, s, hk⟩

end
end Go.Lift

namespace Go.Lift
open Go.RowKit

/-! ## the table of types -/

def V.same : V → V → Bool
  | .int k a, .int k' b => decide (k = k') && (a == b)
  | .bool a, .bool b => a == b
  | .str a, .str b => a == b
  | .ptr none, .ptr none => true
  | .sl ⟨none, 0, 0⟩, .sl ⟨none, 0, 0⟩ => true
  | .map none, .map none => true
  | .chan none, .chan none => true
  | .nilfn, .nilfn => true
  | .nilif, .nilif => true
  | _, _ => false

theorem V.same_eq {a b : V} (h : V.same a b = true) : a = b := by
  unfold V.same at h
  split at h <;> first | rfl | cases h | skip
  · simp at h; obtain ⟨rfl, rfl⟩ := h; rfl
  · simp at h; subst h; rfl
  · simp at h; subst h; rfl

def sameL : List V → List V → Bool
  | [], [] => true
  | a :: as, b :: bs => V.same a b && sameL as bs
  | _, _ => false

theorem sameL_eq : ∀ {a b : List V}, sameL a b = true → a = b
  | [], [], _ => rfl
  | [], _ :: _, h => by cases h
  | _ :: _, [], h => by cases h
  | a :: as, b :: bs, h => by
    simp only [sameL, Bool.and_eq_true] at h
    rw [V.same_eq h.1, sameL_eq h.2]

def sameFs : List Field → List (Nat × Nat) → Bool
  | [], [] => true
  | f :: fs, (o, t) :: ps => Nat.beq f.offset o && Nat.beq f.type t && sameFs fs ps
  | _, _ => false

theorem sameFs_eq : ∀ {fs : List Field} {ps : List (Nat × Nat)}, sameFs fs ps = true → fs.map (fun f => (f.offset, f.type)) = ps
  | [], [], _ => rfl
  | [], _ :: _, h => by cases h
  | _ :: _, [], h => by cases h
  | f :: fs, (o, t) :: ps, h => by
    simp only [sameFs, Bool.and_eq_true] at h
    simp [Nat.eq_of_beq_eq_true h.1.1, Nat.eq_of_beq_eq_true h.1.2, sameFs_eq h.2]

def descOK (P : Program) : TypeDesc → TD → Bool
  | .int k, .leaf (.int k') => decide (k = k')
  | .bool, .leaf .bool => true
  | .string, .leaf .str => true
  | .chan _ e, .leaf .chan => match P.info? e with
    | some info => Nat.ble info.bytes 65536
    | none => false
  | .pointer e, .ptr e' => Nat.beq e e'
  | .interface _, .iface => true
  | .func _ _ _, .func => true
  | .slice e, .slice e' => Nat.beq e e'
  | .array n e, .array n' e' => Nat.beq n n' && Nat.beq e e'
  | .struct fields, .struct fs => sameFs fields.toList fs
  | .map k e, .map k' e' => Nat.beq k k' && Nat.beq e e'
  | _, _ => false

theorem descOK_ok {P : Program} {t : Nat} {d : TypeDesc} {td : TD} (hd : P.underlying t = some d) (h : descOK P d td = true) : TDok P t td := by
  unfold descOK at h
  split at h <;> first | cases h | skip
  all_goals try simp only [decide_eq_true_eq, Bool.and_eq_true] at h
  · subst h; exact hd
  · exact hd
  · exact hd
  · split at h
    · rename_i info hi
      exact ⟨_, _, info, hd, hi, Nat.le_of_ble_eq_true h⟩
    · cases h
  · rw [Nat.eq_of_beq_eq_true h] at hd; exact hd
  · exact ⟨_, hd⟩
  · exact ⟨_, _, _, hd⟩
  · rw [Nat.eq_of_beq_eq_true h] at hd; exact hd
  · rw [Nat.eq_of_beq_eq_true h.1, Nat.eq_of_beq_eq_true h.2] at hd; exact hd
  · exact ⟨_, hd, sameFs_eq h⟩
  · rw [Nat.eq_of_beq_eq_true h.1, Nat.eq_of_beq_eq_true h.2] at hd; exact hd

def zeroOK (z : Option Value) (l : List V) : Bool :=
  match z with
  | some z => match ofLeaves z.cells.toList with
    | some l' => sameL l' l
    | none => false
  | none => false

def noBlank : TypeDesc → Bool
  | .struct fs => fs.toList.all fun f => f.name != "_"
  | _ => true

def tiOK (P : Program) (t : Nat) (i : TI) : Bool :=
  match P.info? t, P.underlying t with
  | some info, some d => Nat.beq info.size i.size && Nat.beq info.bytes i.bytes && zeroOK info.zero i.zero && descOK P d i.d &&
      (!i.d.one || Nat.beq i.size 1) && (match i.leaves with | some ls => Nat.beq ls.length i.size | none => true) && Nat.beq i.zero.length i.size && (match info.zero with | some z => Value.isAgg' z == i.d.sh.isNone | none => false) &&
      (!i.eq || (!P.stoodInHeld t && !P.eqGuardType P.depth t && noBlank d)) && (match i.eqd with | some d => !P.eqGuardType P.depth t && eqOK P d t && Nat.blt d.depth 10000 | none => true)
  | _, _ => false

theorem tiOK_ok {P : Program} {t : Nat} {i : TI} (h : tiOK P t i = true) : TIok P t i := by
  unfold tiOK at h
  split at h
  · rename_i info d hi hd
    simp only [Bool.and_eq_true, Bool.or_eq_true, Bool.not_eq_true'] at h
    obtain ⟨⟨⟨⟨⟨⟨⟨⟨⟨h1, h2⟩, h3⟩, h4⟩, h5⟩, h6⟩, h7⟩, h9⟩, h8⟩, h10⟩ := h
    unfold zeroOK at h3
    split at h3
    · rename_i z hz
      split at h3
      · rename_i l' hl
        have hl' := sameL_eq h3
        subst hl'
        refine ⟨⟨info, hi, Nat.eq_of_beq_eq_true h1, Nat.eq_of_beq_eq_true h2, z, hz, fun σ => (ofLeaves_vals (σ := σ) hl).1.symm⟩, descOK_ok hd h4, ?_, ?_, ?_, Nat.eq_of_beq_eq_true h7, fun info' z' hi' hz' => by rw [hi] at hi'; cases hi'; rw [hz'] at h9; exact eq_of_beq h9, (ofLeaves_vals (σ := ⟨P, id, id⟩) hl).2, fun d hd => by rw [hd] at h10; simp only [Bool.and_eq_true, Bool.not_eq_true'] at h10; exact ⟨h10.1.1, h10.1.2, by simpa using h10.2⟩⟩
        · intro ho
          rcases h5 with h5 | h5
          · rw [ho] at h5; cases h5
          · exact Nat.eq_of_beq_eq_true h5
        · intro ls hls
          rw [hls] at h6
          exact Nat.eq_of_beq_eq_true h6
        · intro he
          rcases h8 with h8 | h8
          · rw [he] at h8; cases h8
          · refine ⟨h8.1.1, h8.1.2, ?_⟩
            intro fields hu f hf
            rw [hd] at hu
            cases hu
            have := List.all_eq_true.1 h8.2 f hf
            simpa using this
      · cases h3
    · cases h3
  · cases h

def tisOK (P : Program) : List (Nat × TI) → Bool
  | [] => true
  | (t, i) :: l => tiOK P t i && tisOK P l

theorem looks_ti {P : Program} : ∀ {l : List (Nat × TI)}, tisOK P l = true → ∀ {t : Nat} {i : TI}, looks l t = some i → TIok P t i
  | [], _, t, i, h => by cases h
  | (t', i') :: l, hl, t, i, h => by
    simp only [tisOK, Bool.and_eq_true] at hl
    simp only [looks] at h
    cases hb : Nat.beq t' t with
    | true =>
      rw [hb] at h
      have := Nat.eq_of_beq_eq_true hb
      subst this
      cases h
      exact tiOK_ok hl.1
    | false => rw [hb] at h; exact looks_ti hl.2 h

/-! ## functions -/

/-- What is proved of each function: what its shallow function says, its call does. -/
def FnS (σ : Seat) (W0 : World) (g : Nat) (C : List V → (V → Heap → Prop) → Heap → Prop) : Prop :=
  ∀ vs κ h, (∀ v ∈ vs, v.wf) → C vs κ h → ∀ w, Sim σ W0 h w → CallsVal σ.P (.func (.func (σ.fn g)) #[] #[]) (V.vals σ vs).toArray w (Post σ W0 κ)

def pairsOK (g : Nat → Nat) : List (Nat × Nat) → Bool
  | [] => true
  | (a, b) :: l => Nat.beq (g b) a && pairsOK g l

/-- The same, where the numbers are a block's. -/
def pairsOK2 (g : Nat → Nat) : List (Nat × Nat) → Bool
  | [] => true
  | (a, b) :: l => Nat.beq (g b) (2 * a) && pairsOK2 g l

theorem looks_pair2 {g : Nat → Nat} : ∀ {l : List (Nat × Nat)}, pairsOK2 g l = true → ∀ {a b : Nat}, looks l a = some b → g b = 2 * a
  | [], _, a, b, h => by cases h
  | (a', b') :: l, hl, a, b, h => by
    simp only [pairsOK2, Bool.and_eq_true] at hl
    simp only [looks] at h
    cases hb : Nat.beq a' a with
    | true =>
      rw [hb] at h
      have := Nat.eq_of_beq_eq_true hb
      subst this
      cases h
      exact Nat.eq_of_beq_eq_true hl.1
    | false => rw [hb] at h; exact looks_pair2 hl.2 h

theorem looks_pair {g : Nat → Nat} : ∀ {l : List (Nat × Nat)}, pairsOK g l = true → ∀ {a b : Nat}, looks l a = some b → g b = a
  | [], _, a, b, h => by cases h
  | (a', b') :: l, hl, a, b, h => by
    simp only [pairsOK, Bool.and_eq_true] at hl
    simp only [looks] at h
    cases hb : Nat.beq a' a with
    | true =>
      rw [hb] at h
      have := Nat.eq_of_beq_eq_true hb
      subst this
      cases h
      exact Nat.eq_of_beq_eq_true hl.1
    | false => rw [hb] at h; exact looks_pair hl.2 h

structure IfcOK (σ : Seat) (W0 : World) (gls : List (Nat × Nat)) (I : Ifc) : Prop where
  gl : pairsOK2 I.glob gls = true
  callV : ∀ v vs κ h, v.wf → (∀ v ∈ vs, v.wf) → I.callV v vs κ h → ∀ w, Sim σ W0 h w → CallsVal σ.P (V.val σ v) (V.vals σ vs).toArray w (Post σ W0 κ)
  ahead : ∀ v m, I.ahead v m = true → ∃ t u, v = .iface t u ∧ ∀ w, (nilAhead (σ.P.types.size + Made.depth) (σ.ty t) (V.val σ u) m).run σ.P w = .ok (some false) w
  inv : ∀ v m vs κ h, v.wf → (∀ v ∈ vs, v.wf) → I.inv v m vs κ h → ∀ w, Sim σ W0 h w → CallsInv σ.P (V.val σ v) m (V.vals σ vs).toArray w (Post σ W0 κ)
  tabs : ∀ c l, (c, l) ∈ I.tabs → ∃ el fz, W0.heap[I.glob c / 2]? = some (.cells (V.vals σ l).toArray el fz)

theorem noIfc_ok {σ : Seat} {W0 : World} : IfcOK σ W0 [] noIfc := ⟨rfl, fun _ _ _ _ _ _ h => h.elim, fun _ _ h => absurd h Bool.false_ne_true, fun _ _ _ _ _ _ _ h => h.elim, fun _ _ h => (by cases h)⟩

/-- The seat's tables. -/
structure SeatOK (σ : Seat) (tis : List (Nat × TI)) (fns tys : List (Nat × Nat)) : Prop where
  mixed : σ.P.follows .mixedOrders = true
  tis : tisOK σ.P tis = true
  fns : pairsOK σ.fn fns = true
  tys : pairsOK σ.ty tys = true

def CallsOK (σ : Seat) (W0 : World) : List (Nat × (List V → (V → Heap → Prop) → Heap → Prop)) → Prop
  | [] => True
  | (g, C) :: l => FnS σ W0 g C ∧ CallsOK σ W0 l

theorem callsOK_looks {σ : Seat} {W0 : World} : ∀ {l : List (Nat × (List V → (V → Heap → Prop) → Heap → Prop))}, CallsOK σ W0 l → ∀ {g C}, looks l g = some C → FnS σ W0 g C
  | [], _, g, C, h => by cases h
  | (g', C') :: l, hl, g, C, h => by
    simp only [looks] at h
    cases hb : Nat.beq g' g with
    | true =>
      rw [hb] at h
      have := Nat.eq_of_beq_eq_true hb
      subst this
      cases h
      exact hl.1
    | false => rw [hb] at h; exact callsOK_looks hl.2 h

section
variable {σ : Seat} {W0 : World} {E : Env}

theorem envOK (so : SeatOK σ E.tis E.fns E.tys) (hc : CallsOK σ W0 E.calls) (hi : IfcOK σ W0 E.gls E.ifc) : EnvOK σ W0 E := by
  refine ⟨fun t i h => looks_ti so.tis h, fun f g h => looks_pair so.fns h, fun t u h => looks_pair so.tys h, fun g c h => looks_pair2 hi.gl h, ?_, hi.callV, hi.ahead, hi.inv⟩
  intro g vs κ h wv hx w s
  unfold Env.call at hx
  split at hx
  · rename_i C hC
    exact callsOK_looks hc hC vs κ h wv hx w s
  · exact hx.elim

/-- One cut is as it should be. -/
def CutOK (σ : Seat) (W0 : World) (n : Nat) (b : Frame) (R : Ending → World → Prop) (pos : List (Nat × List Item)) (J : Nat) (L : List Nat) (κ : List V → Heap → Prop) : Prop :=
  ∀ todo, (J, todo) ∈ pos → ∀ ρ h a w, Sim σ W0 h w → SimF σ n ρ a → picks ρ L (fun vs => κ vs h) → GoR σ.P b todo a w R

def CutL (σ : Seat) (W0 : World) (n : Nat) (b : Frame) (R : Ending → World → Prop) (pos : List (Nat × List Item)) : List (Nat × (List Nat × (List V → Heap → Prop))) → Prop
  | [] => True
  | (J, L, κ) :: l => CutOK σ W0 n b R pos J L κ ∧ CutL σ W0 n b R pos l

theorem cutL_ok {b : Frame} {R : Ending → World → Prop} {pos : List (Nat × List Item)} (h : CutL σ W0 E.n b R pos E.cuts) : CutsOK σ W0 E b R pos := by
  intro id L κ hcut
  unfold Env.cut at hcut
  generalize E.cuts = l at h hcut
  induction l with
  | nil => cases hcut
  | cons c l ih =>
    obtain ⟨J, L', κ'⟩ := c
    simp only [looks] at hcut
    cases hb : Nat.beq J id with
    | true =>
      rw [hb] at hcut
      have := Nat.eq_of_beq_eq_true hb
      subst this
      cases hcut
      exact h.1
    | false => rw [hb] at hcut; exact ih h.2 hcut

theorem inPos_of {pos : List (Nat × List Item)} : ∀ (c : Code) (k : List Item), (∀ p ∈ posC c k, p ∈ pos) → InPos pos k → ∀ p ∈ posC c k, InPos pos p.2 := by
  intro c
  induction c with
  | region id ops d =>
    intro k h hk p hp
    simp only [posC, List.mem_singleton] at hp
    subst hp
    exact ⟨h, hk⟩
  | seq a b iha ihb =>
    intro k h hk p hp
    simp only [posC, List.mem_append] at h hp
    rcases hp with hp | hp
    · exact iha _ (fun q hq => h q (.inl hq)) ⟨fun q hq => h q (.inr hq), hk⟩ p hp
    · exact ihb _ (fun q hq => h q (.inr hq)) hk p hp
  | cond c t e iht ihe =>
    intro k h hk p hp
    simp only [posC, List.mem_append] at h hp
    rcases hp with hp | hp
    · exact iht _ (fun q hq => h q (.inl hq)) hk p hp
    · exact ihe _ (fun q hq => h q (.inr hq)) hk p hp
  | block id c ih => intro k h hk p hp; exact ih _ h hk p hp
  | loop c ih => intro k h hk p hp; exact ih _ h ⟨h, hk⟩ p hp
  | scope c ih => intro k h hk p hp; exact ih _ h hk p hp
  | _ => intro k h hk p hp; cases hp

theorem inPos_at {code : Code} {J : Nat} {todo : List Item} (h : (J, todo) ∈ posC code []) : InPos (posC code []) todo :=
  inPos_of code [] (fun _ h => h) trivial _ h

theorem filter_one {pos : List (Nat × List Item)} {J : Nat} {T : List Item} (h : pos.filter (fun p => Nat.beq p.1 J) = [(J, T)]) {todo : List Item} (hm : (J, todo) ∈ pos) : todo = T := by
  have : (J, todo) ∈ pos.filter (fun p => Nat.beq p.1 J) := by simp [hm]
  rw [h] at this
  simpa using this

/-- A piece of a function, from a cut on. -/
theorem piece {b : Frame} {R : Ending → World → Prop} (ok : EnvOK σ W0 E) (fk : FnOK σ W0 E b R) {code : Code} (hc : CutL σ W0 E.n b R (posC code []) E.cuts) {J : Nat} {T : List Item} (h1 : (posC code []).filter (fun p => Nat.beq p.1 J) = [(J, T)])
    {L : List Nat} {vs : List V} {fuel : Nat} {h : Heap} (hx : pts E fuel true T (frAt L vs) h) {todo : List Item} (hm : (J, todo) ∈ posC code []) {ρ : Fr} {a : Act} {w : World} (s : Sim σ W0 h w) (f : SimF σ E.n ρ a)
    (hp : ∀ (j t : Nat), L[j]? = some t → ∃ v, look ρ t = some v ∧ vs[j]? = some v) : GoR σ.P b todo a w R := by
  have := filter_one h1 hm
  subst this
  exact pts_sound ok fk (cutL_ok hc) fuel true todo (inPos_at hm) s (f.picks hp) hx

/-- What a loop's head stands for, said of values. -/
def Head (σ : Seat) (W0 : World) (n : Nat) (b : Frame) (R : Ending → World → Prop) (pos : List (Nat × List Item)) (J : Nat) (L : List Nat) (vs : List V) (h : Heap) : Prop :=
  ∀ todo, (J, todo) ∈ pos → ∀ ρ a w, Sim σ W0 h w → SimF σ n ρ a → (∀ (j t : Nat), L[j]? = some t → ∃ v, look ρ t = some v ∧ vs[j]? = some v) → GoR σ.P b todo a w R

theorem cutOK_head {n : Nat} {b : Frame} {R : Ending → World → Prop} {pos : List (Nat × List Item)} {J : Nat} {L : List Nat} {κ : List V → Heap → Prop} (h : ∀ vs h, κ vs h → Head σ W0 n b R pos J L vs h) : CutOK σ W0 n b R pos J L κ := by
  intro todo hm ρ hp a w s f hx
  obtain ⟨vs, hvs, _, hk⟩ := picks_sound hx
  exact h vs hp hk todo hm ρ a w s f hvs

theorem postImp {ret : V → Heap → Prop} {κ : V → Heap → Prop} (hi : ∀ v h, ret v h → κ v h) {v : Value} {args : Array Value} {w : World} (h : CallsVal σ.P v args w (Post σ W0 ret)) : CallsVal σ.P v args w (Post σ W0 κ) :=
  callsVal_mono h fun _ _ ⟨r, h', he, hw, hs, hk⟩ => ⟨r, h', he, hw, hs, hi r h' hk⟩

theorem mkFun {P : Program} {f : FuncId} {fn : Func} {n : Nat} {rets : List ResultVar} (h1 : P.funcs[f]? = some fn) (h2 : fn.body.isSome = true) (h3 : fn.ntmps = n) (h4 : fn.results.toList = rets) (h5 : (fn.name == "runtime.NumGoroutine") = false) : Fun P f n rets (fn.body.getD .skip) := by
  refine ⟨fn, h1, ?_, h3, h4, h5⟩
  cases hb : fn.body with
  | none => rw [hb] at h2; cases h2
  | some c => rfl

theorem fnOK (so : SeatOK σ E.tis E.fns E.tys) {f : FuncId} {code : Code} (hf : Fun σ.P f E.n E.rets code) : FnOK σ W0 E (entered f) (Post σ W0 E.ret) := by
  obtain ⟨fn, hfn, hb, hnt, hres, hname⟩ := hf.ex
  exact ⟨so.mixed, rfl, ⟨fn, hfn, hres⟩, fun v h w wv s hk => ⟨v, h, rfl, wv, s, hk⟩⟩

end
end Go.Lift

namespace Go.Lift
open Go.RowKit Go.ChangeShapes Go.WideShapes

/-! ## the memory ahead of the call -/

noncomputable def inv : Value → Option V
  | .int k n => some (.int k n)
  | .bool b => some (.bool b)
  | .string s => some (.str s.data.toList)
  | .pointer none => some (.ptr none)
  | .pointer (some a) => some (.ptr (some (Addr.ptr a)))
  | .slice none l c => some (.sl ⟨none, l, c⟩)
  | .slice (some a) l c => some (.sl ⟨some (Addr.ptr a), l, c⟩)
  | _ => none

theorem inv_val {σ : Seat} {v : Value} {u : V} (h : inv v = some u) : v = u.val σ ∧ u.one = true := by
  unfold inv at h
  split at h <;> first | (cases h; done) | skip
  all_goals (cases h; first | exact ⟨rfl, rfl⟩ | (refine ⟨?_, rfl⟩; simp [V.val, ptr_addr]))

noncomputable def heap0 (W : World) : Heap := ⟨fun b => if b % 2 = 0 then match W.heap[b / 2]? with
  | some (.cells c _ _) => some (.ro fun i => (c[i]?).bind inv)
  | _ => none else none⟩

theorem heap0_obj {W : World} (k : Nat) : (heap0 W).obj (2 * k) = match W.heap[k]? with
  | some (.cells c _ _) => some (.ro fun i => (c[i]?).bind inv)
  | _ => none := by
  simp [heap0]

theorem heap0_even {W : World} {b : Nat} {x : HO} (h : (heap0 W).obj b = some x) : ∃ k, b = 2 * k := by
  by_cases hb : b % 2 = 0
  · exact ⟨b / 2, by omega⟩
  · simp only [heap0, if_neg hb] at h; cases h

theorem sim0 (σ : Seat) (W : World) : Sim σ W (heap0 W) W := by
  refine ⟨rfl, rfl, rfl, Nat.le_refl _, ?_, fun _ _ => rfl, ?_⟩
  · intro b x hx
    obtain ⟨k, rfl⟩ := heap0_even hx
    rw [heap0_obj] at hx
    split at hx
    · rename_i c e fz hc
      cases hx
      refine ⟨k, _, rfl, hc, ?_⟩
      intro i v hv
      have hv : (c[i]?).bind inv = some v := hv
      cases hci : c[i]? with
      | none => rw [hci] at hv; cases hv
      | some u =>
        rw [hci] at hv
        have := inv_val (σ := σ) hv
        exact ⟨by rw [← this.1], this.2⟩
    · cases hx
  · intro b x hx hr
    obtain ⟨k, rfl⟩ := heap0_even hx
    rw [heap0_obj] at hx
    split at hx
    · cases hx; cases hr
    · cases hx

theorem heap0_get {W : World} {b o : Nat} {v : Value} {u : V} (h : W.cell? ⟨b, o, none⟩ = some v) (hu : inv v = some u) : (heap0 W).get (2 * b) o = some u := by
  unfold World.cell? at h
  split at h
  · rename_i c e fz hc
    simp only [Option.isSome_none, Bool.false_eq_true, if_false] at h
    simp only [Heap.get, heap0_obj, hc, h, Option.bind_some, hu]
  · cases h

/-! ## plain data -/

mutual
inductive DS where
  | int (k : IntKind) | bool | str
  | slice (sz : Nat) (e : DS)
  | arr (n sz : Nat) (e : DS)
  | struct (fs : DSL)
inductive DSL where
  | nil
  | cons (o sz : Nat) (d : DS) (fs : DSL)
end

mutual
/-- Data of a kind, as the memory has it. -/
def Fits (h : Heap) : DS → List V → Prop
  | .int k, l => ∃ n, l = [.int k n] ∧ (Lit.int k n).wf = true
  | .bool, l => ∃ b, l = [.bool b]
  | .str, l => ∃ s, l = [.str s] ∧ s.length ≤ maxLen
  | .slice sz e, l => ∃ s : Sl, l = [.sl s] ∧ s.len ≤ s.cap ∧ s.cap ≤ maxLen ∧ (s.p = none → s.cap = 0) ∧
      ∀ p, s.p = some p → ∀ i, i < s.cap → ∃ cs, cs.length = sz ∧ (∀ j, j < sz → h.get p.b (p.o + i * sz + j) = cs[j]?) ∧ Fits h e cs
  | .arr n sz e, l => l.length = n * sz ∧ ∀ i, i < n → Fits h e ((l.drop (i * sz)).take sz)
  | .struct fs, l => FitsL h fs l
def FitsL (h : Heap) : DSL → List V → Prop
  | .nil, _ => True
  | .cons o sz d fs, l => Fits h d ((l.drop o).take sz) ∧ FitsL h fs l
end

mutual
def dsOK (P : Program) : DS → Nat → Bool
  | .int k, t => match P.underlying t with | some (.int k') => decide (k' = k) | _ => false
  | .bool, t => match P.underlying t with | some .bool => true | _ => false
  | .str, t => match P.underlying t with | some .string => true | _ => false
  | .slice sz e, t => match P.underlying t with | some (.slice u) => Nat.beq (P.cellsOf u) sz && Nat.blt 0 sz && dsOK P e u | _ => false
  | .arr n sz e, t => match P.underlying t with | some (.array m u) => Nat.beq m n && Nat.beq (P.cellsOf u) sz && Nat.beq (P.cellsOf t) (n * sz) && dsOK P e u | _ => false
  | .struct fs, t => match P.underlying t with | some (.struct fields) => dslOK P fs fields.toList 0 (P.cellsOf t) | _ => false
def dslOK (P : Program) : DSL → List Field → Nat → Nat → Bool
  | .nil, [], i, n => Nat.beq i n
  | .cons o sz d fs, f :: l, i, n => Nat.beq o i && Nat.beq f.offset o && Nat.beq (P.cellsOf f.type) sz && dsOK P d f.type && dslOK P fs l (i + sz) n
  | _, _, _, _ => false
def DS.flat : DS → Bool
  | .slice _ _ => false
  | .arr _ _ e => e.flat
  | .struct fs => fs.flat
  | _ => true
def DSL.flat : DSL → Bool
  | .nil => true
  | .cons _ _ d fs => d.flat && fs.flat
end

def noSpot : Value → Prop
  | .slice (some a) _ _ => a.spot = none
  | _ => True

section
variable {H : Type} {enc : TypeId × Value → H} {P : Program} {W : World} {σ : Seat}

noncomputable def invL (cs : List Value) : List V := cs.filterMap inv

/-- All cells can be told. -/
def told (cs : List Value) : Prop := ∀ v ∈ cs, ∃ u, inv v = some u

theorem told_vals {cs : List Value} (h : told cs) : cs = V.vals σ (invL cs) ∧ (∀ u ∈ invL cs, u.one = true) ∧ (invL cs).length = cs.length := by
  induction cs with
  | nil => exact ⟨rfl, by simp [invL], rfl⟩
  | cons c cs ih =>
    obtain ⟨u, hu⟩ := h c (by simp)
    obtain ⟨h1, h2, h3⟩ := ih (fun v hv => h v (by simp [hv]))
    have he : invL (c :: cs) = u :: invL cs := by simp [invL, hu]
    obtain ⟨hv, ho⟩ := inv_val (σ := σ) hu
    refine ⟨?_, ?_, ?_⟩
    · rw [he, V.vals, ← h1, ← hv]
    · rw [he]; intro x hx
      rcases List.mem_cons.1 hx with rfl | hx
      · exact ho
      · exact h2 x hx
    · rw [he]; simp [h3]

theorem told_drop {cs : List Value} (h : told cs) (n : Nat) : told (cs.drop n) ∧ invL (cs.drop n) = (invL cs).drop n := by
  refine ⟨fun v hv => h v (List.mem_of_mem_drop hv), ?_⟩
  induction cs generalizing n with
  | nil => simp [invL]
  | cons c cs ih =>
    obtain ⟨u, hu⟩ := h c (by simp)
    have he : invL (c :: cs) = u :: invL cs := by simp [invL, hu]
    cases n with
    | zero => simp
    | succ n => rw [he, List.drop_succ_cons, List.drop_succ_cons]; exact ih (fun v hv => h v (by simp [hv])) n

theorem told_take {cs : List Value} (h : told cs) (n : Nat) : told (cs.take n) ∧ invL (cs.take n) = (invL cs).take n := by
  refine ⟨fun v hv => h v (List.mem_of_mem_take hv), ?_⟩
  induction cs generalizing n with
  | nil => simp [invL]
  | cons c cs ih =>
    obtain ⟨u, hu⟩ := h c (by simp)
    have he : invL (c :: cs) = u :: invL cs := by simp [invL, hu]
    cases n with
    | zero => simp [invL]
    | succ n =>
      rw [he, List.take_succ_cons, List.take_succ_cons, ← ih (fun v hv => h v (by simp [hv])) n]
      simp [invL, hu]

theorem cell_at {a : Addr} {v : Value} (h : W.cell? a = some v) : a.spot = none := by
  unfold World.cell? at h
  split at h
  · cases hs : a.spot with
    | none => rfl
    | some x => rw [hs] at h; simp at h
  · cases h

mutual
theorem told_of : ∀ (d : DS) {t : TypeId} {fuel : Nat} {cs : List Value} {x : DataW H × List MemPlace}, dsOK P d t = true → DataW.trod enc P W 0 (fun _ => true) true fuel t cs = some x → told cs
  | .int k, t, fuel, cs, x, hk, h => by
    unfold dsOK at hk
    split at hk
    · rename_i k' hu
      obtain ⟨n, rfl, _⟩ := DataW.trod_int hu h
      intro v hv; simp at hv; subst hv; exact ⟨_, rfl⟩
    · cases hk
  | .bool, t, fuel, cs, x, hk, h => by
    unfold dsOK at hk
    split at hk
    · rename_i hu
      obtain ⟨n, rfl, _⟩ := DataW.trod_bool hu h
      intro v hv; simp at hv; subst hv; exact ⟨_, rfl⟩
    · cases hk
  | .str, t, fuel, cs, x, hk, h => by
    unfold dsOK at hk
    split at hk
    · rename_i hu
      obtain ⟨n, rfl, _⟩ := DataW.trod_string hu h
      intro v hv; simp at hv; subst hv; exact ⟨_, rfl⟩
    · cases hk
  | .slice sz e, t, fuel, cs, x, hk, h => by
    unfold dsOK at hk
    split at hk
    · rename_i u hu
      rcases DataW.trod_slice hu h with ⟨rfl, _⟩ | ⟨a, len, cap, elems, rest, n, _, rfl, _⟩
      · intro v hv; simp at hv; subst hv; exact ⟨_, rfl⟩
      · intro v hv; simp at hv; subst hv
        exact ⟨_, rfl⟩
    · cases hk
  | .arr n sz e, t, fuel, cs, x, hk, h => by
    unfold dsOK at hk
    split at hk
    · rename_i m u hu
      simp only [Bool.and_eq_true] at hk
      obtain ⟨⟨⟨h1, h2⟩, h3⟩, h4⟩ := hk
      have h1 := Nat.eq_of_beq_eq_true h1
      have h2 := Nat.eq_of_beq_eq_true h2
      have h3 := Nat.eq_of_beq_eq_true h3
      obtain ⟨xs, n', _, _, hl, hxl, hg⟩ := DataW.trod_array hu h
      rw [h3] at hl
      rw [h2] at hg
      intro v hv
      obtain ⟨j, hj, hjv⟩ := List.mem_iff_getElem.1 hv
      have hpos : 0 < sz := by
        rcases Nat.eq_zero_or_pos sz with h | h
        · subst h; simp at hl; simp [hl] at hj
        · exact h
      have hq : j / sz < n := by rw [Nat.div_lt_iff_lt_mul hpos]; omega
      have hgq := hg (j / sz) (by omega)
      have hxs : xs[j / sz]? = some (xs[j / sz]'(by omega)) := List.getElem?_eq_getElem _
      rw [hxs] at hgq
      refine told_of e h4 hgq v ?_
      have hm : j % sz < sz := Nat.mod_lt _ hpos
      have hdm : j / sz * sz + j % sz = j := by rw [Nat.mul_comm]; exact Nat.div_add_mod j sz
      apply List.mem_iff_getElem?.2
      refine ⟨j % sz, ?_⟩
      rw [List.getElem?_take_of_lt hm, List.getElem?_drop, hdm, ← hjv]
      exact List.getElem?_eq_getElem hj
    · cases hk
  | .struct fs, t, fuel, cs, x, hk, h => by
    unfold dsOK at hk
    split at hk
    · rename_i fields hu
      obtain ⟨xs, n, _, _, hl, hxl, hg⟩ := DataW.trod_struct hu h
      have := toldL_of fs (fields := fields.toList) (i := 0) (n := P.cellsOf t) (m := n) (cs := cs) hk hl (by
        intro f hfm
        obtain ⟨j, hj, hjf⟩ := List.mem_iff_getElem.1 hfm
        have hgj := hg j f (by simp only [Array.length_toList] at hj; rw [Array.getElem?_eq_getElem hj]; simpa using hjf)
        simp only [Array.length_toList] at hj
        have hxs : xs[j]? = some (xs[j]'(by omega)) := List.getElem?_eq_getElem _
        rw [hxs] at hgj
        exact ⟨_, hgj⟩)
      simpa using this
    · cases hk
theorem toldL_of : ∀ (fs : DSL) {fields : List Field} {i n m : Nat} {cs : List Value}, dslOK P fs fields i n = true → cs.length = n → (∀ f ∈ fields, ∃ x : DataW H × List MemPlace, DataW.trod enc P W 0 (fun _ => true) true m f.type ((cs.drop f.offset).take (P.cellsOf f.type)) = some x) → told (cs.drop i)
  | .nil, fields, i, n, m, cs, hk, hl, hg => by
    cases fields with
    | cons f l => simp [dslOK] at hk
    | nil =>
      simp only [dslOK] at hk
      have := Nat.eq_of_beq_eq_true hk
      subst this
      rw [List.drop_of_length_le (by omega)]
      intro v hv; cases hv
  | .cons o sz d fs, fields, i, n, m, cs, hk, hl, hg => by
    cases fields with
    | nil => simp [dslOK] at hk
    | cons f l =>
      simp only [dslOK, Bool.and_eq_true] at hk
      obtain ⟨⟨⟨⟨h0, h1⟩, h2⟩, h3⟩, h4⟩ := hk
      have h0 := Nat.eq_of_beq_eq_true h0
      have h1 := Nat.eq_of_beq_eq_true h1
      have h2 := Nat.eq_of_beq_eq_true h2
      obtain ⟨x, hx⟩ := hg f (by simp)
      rw [h1, h2, h0] at hx
      have ta := told_of d h3 hx
      have tb := toldL_of fs h4 hl (fun f hf => hg f (by simp [hf]))
      have : cs.drop i = (cs.drop i).take sz ++ cs.drop (i + sz) := by rw [← List.drop_drop]; exact (List.take_append_drop sz (cs.drop i)).symm
      rw [this]
      intro v hv
      rcases List.mem_append.1 hv with hv | hv
      · exact ta v hv
      · exact tb v hv
end

mutual
theorem fits_of : ∀ (d : DS) {t : TypeId} {fuel : Nat} {cs : List Value} {x : DataW H × List MemPlace}, dsOK P d t = true → DataW.trod enc P W 0 (fun _ => true) true fuel t cs = some x → Fits (heap0 W) d (invL cs)
  | .int k, t, fuel, cs, x, hk, h => by
    unfold dsOK at hk
    split at hk
    · rename_i k' hu
      obtain ⟨n, rfl, _, hw⟩ := DataW.trod_int hu h
      have : k' = k := by simpa using hk
      subst this
      exact ⟨n, rfl, hw⟩
    · cases hk
  | .bool, t, fuel, cs, x, hk, h => by
    unfold dsOK at hk
    split at hk
    · rename_i hu
      obtain ⟨n, rfl, _⟩ := DataW.trod_bool hu h
      exact ⟨n, rfl⟩
    · cases hk
  | .str, t, fuel, cs, x, hk, h => by
    unfold dsOK at hk
    split at hk
    · rename_i hu
      obtain ⟨s, rfl, _, hs⟩ := DataW.trod_string hu h
      exact ⟨s.data.toList, rfl, by rw [Array.length_toList]; exact hs⟩
    · cases hk
  | .slice sz e, t, fuel, cs, x, hk, h => by
    unfold dsOK at hk
    split at hk
    · rename_i u hu
      simp only [Bool.and_eq_true] at hk
      obtain ⟨⟨h1, h2⟩, h4⟩ := hk
      have h1 := Nat.eq_of_beq_eq_true h1
      have h2 : 0 < sz := by simpa using h2
      rcases Deep.open_slice hu h with ⟨rfl, _⟩ | ⟨a, len, cap, m, n, D, Pl, rfl, _, hl, hc, hm, _, hg⟩
      · exact ⟨⟨none, 0, 0⟩, rfl, Nat.le_refl _, Nat.zero_le _, fun _ => rfl, (fun p hp => by cases hp)⟩
      · simp only [if_true] at hm
        subst hm
        refine ⟨⟨some (Addr.ptr a), len, m⟩, rfl, hl, hc, (fun h => by cases h), ?_⟩
        intro p hp i hi
        cases hp
        have hi : i < m := hi
        have hsp : a.spot = none := by
          obtain ⟨cs', hcs, ht⟩ := hg 0 (by omega)
          rw [h1] at hcs
          obtain ⟨_, hcl, hat⟩ := World.cells?_some hcs
          have hcell := hat 0 h2
          rw [List.getElem?_eq_getElem (by omega)] at hcell
          have := cell_at hcell
          simpa [Addr.add] using this
        obtain ⟨b, o, sp⟩ := a
        simp only at hsp
        subst hsp
        rw [ptr_none]
        obtain ⟨cs', hcs, ht⟩ := hg i hi
        rw [h1] at hcs
        obtain ⟨_, hcl, hat⟩ := World.cells?_some hcs
        have htold := told_of e h4 ht
        obtain ⟨hv1, hv2, hv3⟩ := told_vals (σ := ⟨P, id, id⟩) htold
        refine ⟨invL cs', hv3.trans hcl, ?_, fits_of e h4 ht⟩
        intro j hj
        have hj' : j < cs'.length := by omega
        have hcell := hat j hj
        rw [List.getElem?_eq_getElem hj'] at hcell
        have hadd : ((⟨b, o, none⟩ : Addr).add (i * sz)).add j = ⟨b, o + i * sz + j, none⟩ := by
          have e1 : ∀ (o n : Nat), (⟨b, o, none⟩ : Addr).add n = ⟨b, o + n, none⟩ := by
            intro o n
            unfold Addr.add
            split
            · rename_i hn; subst hn; rfl
            · rfl
          rw [e1, e1]
        rw [hadd] at hcell
        obtain ⟨u', hu'⟩ := htold _ (List.getElem_mem hj')
        rw [heap0_get hcell hu']
        have := congrArg (fun l => l[j]?) hv1
        simp only [vals_map, List.getElem?_map] at this
        rw [List.getElem?_eq_getElem hj'] at this
        have hjl : j < (invL cs').length := by omega
        rw [List.getElem?_eq_getElem hjl]
        have hidx : ∀ (l : List Value) (j : Nat) (h : told l) (hj : j < l.length) (hj2 : j < (invL l).length), inv l[j] = some (invL l)[j] := by
          intro l
          induction l with
          | nil => intro j h hj; cases hj
          | cons c l ih =>
            intro j h hj hj2
            obtain ⟨y, hy⟩ := h c (by simp)
            have he : invL (c :: l) = y :: invL l := by simp [invL, hy]
            cases j with
            | zero => simp [he, hy]
            | succ j => simp only [he, List.getElem_cons_succ]; exact ih j (fun v hv => h v (by simp [hv])) _ _
        rw [hidx cs' j htold hj' hjl] at hu'
        exact hu'.symm
    · cases hk
  | .arr n sz e, t, fuel, cs, x, hk, h => by
    have htold := told_of (.arr n sz e) hk h
    unfold dsOK at hk
    split at hk
    · rename_i m u hu
      simp only [Bool.and_eq_true] at hk
      obtain ⟨⟨⟨h1, h2⟩, h3⟩, h4⟩ := hk
      have h1 := Nat.eq_of_beq_eq_true h1
      have h2 := Nat.eq_of_beq_eq_true h2
      have h3 := Nat.eq_of_beq_eq_true h3
      obtain ⟨xs, n', _, _, hl, hxl, hg⟩ := DataW.trod_array hu h
      rw [h3] at hl
      rw [h2] at hg
      obtain ⟨_, _, hv3⟩ := told_vals (σ := ⟨P, id, id⟩) htold
      refine ⟨hv3.trans hl, ?_⟩
      intro i hi
      have hgq := hg i (by omega)
      have hxs : xs[i]? = some (xs[i]'(by omega)) := List.getElem?_eq_getElem _
      rw [hxs] at hgq
      have := fits_of e h4 hgq
      rwa [(told_take (told_drop htold _).1 _).2, (told_drop htold _).2] at this
    · cases hk
  | .struct fs, t, fuel, cs, x, hk, h => by
    have htold := told_of (.struct fs) hk h
    unfold dsOK at hk
    split at hk
    · rename_i fields hu
      obtain ⟨xs, n, _, _, hl, hxl, hg⟩ := DataW.trod_struct hu h
      exact fitsL_of fs (fields := fields.toList) (i := 0) (n := P.cellsOf t) (m := n) (cs := cs) hk htold (by
        intro f hfm
        obtain ⟨j, hj, hjf⟩ := List.mem_iff_getElem.1 hfm
        have hgj := hg j f (by simp only [Array.length_toList] at hj; rw [Array.getElem?_eq_getElem hj]; simpa using hjf)
        simp only [Array.length_toList] at hj
        have hxs : xs[j]? = some (xs[j]'(by omega)) := List.getElem?_eq_getElem _
        rw [hxs] at hgj
        exact ⟨_, hgj⟩)
    · cases hk
theorem fitsL_of : ∀ (fs : DSL) {fields : List Field} {i n m : Nat} {cs : List Value}, dslOK P fs fields i n = true → told cs → (∀ f ∈ fields, ∃ x : DataW H × List MemPlace, DataW.trod enc P W 0 (fun _ => true) true m f.type ((cs.drop f.offset).take (P.cellsOf f.type)) = some x) → FitsL (heap0 W) fs (invL cs)
  | .nil, fields, i, n, m, cs, hk, hl, hg => trivial
  | .cons o sz d fs, fields, i, n, m, cs, hk, hl, hg => by
    cases fields with
    | nil => simp [dslOK] at hk
    | cons f l =>
      simp only [dslOK, Bool.and_eq_true] at hk
      obtain ⟨⟨⟨⟨h0, h1⟩, h2⟩, h3⟩, h4⟩ := hk
      have h0 := Nat.eq_of_beq_eq_true h0
      have h1 := Nat.eq_of_beq_eq_true h1
      have h2 := Nat.eq_of_beq_eq_true h2
      obtain ⟨x, hx⟩ := hg f (by simp)
      rw [h1, h2] at hx
      have ta := fits_of d h3 hx
      rw [(told_take (told_drop hl _).1 _).2, (told_drop hl _).2] at ta
      exact ⟨ta, fitsL_of fs h4 hl (fun f hf => hg f (by simp [hf]))⟩
end

/-- What an argument is. -/
theorem arg_fits {t : TypeId} {v : Value} {d : DataW H} {ps : List MemPlace} {ds : DS} (hk : dsOK P ds t = true) (h : DataW.Trod enc P W 0 (fun _ => true) true t v d ps) (_ : ds.flat = true ∨ ∀ u ∈ v.cells.toList, noSpot u) :
    ∃ vs : List V, v.cells.toList = V.vals σ vs ∧ (∀ u ∈ vs, u.one = true) ∧ Fits (heap0 W) ds vs := by
  obtain ⟨fuel, hf⟩ := h
  have ht := told_of ds hk hf
  obtain ⟨h1, h2, _⟩ := told_vals (σ := σ) ht
  exact ⟨_, h1, h2, fits_of ds hk hf⟩

theorem okWide_one {t : TypeId} {v : Value} {base : Nat} (hn : ∀ fs, P.underlying t ≠ some (.struct fs)) (hn2 : ∀ n e, P.underlying t ≠ some (.array n e)) (h : Value.okWide P W .any base t v) {d : DataW H} {ps : List MemPlace} (hd : DataW.Trod enc P W 0 (fun _ => true) true t v d ps) : v.cells = #[v] := by
  obtain ⟨fuel, hf⟩ := hd
  cases v <;> try rfl
  rename_i cs
  exfalso
  unfold Value.okWide at h
  split at h
  · rename_i fs hu; exact hn _ hu
  · rename_i n e hu; exact hn2 _ _ hu
  · simp only [Cell.okWide, Cell.ok] at h
    split at h <;> simp_all

def notAgg (P : Program) (t : TypeId) : Bool :=
  match P.underlying t with
  | some (.struct _) => false
  | some (.array _ _) => false
  | _ => true

theorem okWide_leaf {t : TypeId} {v : Value} {base : Nat} (hn : notAgg P t = true) (h : Value.okWide P W .any base t v) {d : DataW H} {ps : List MemPlace} (hd : DataW.Trod enc P W 0 (fun _ => true) true t v d ps) : v.cells = #[v] :=
  okWide_one (fun fs hu => by simp [notAgg, hu] at hn) (fun n e hu => by simp [notAgg, hu] at hn) h hd

/-! ## the row's last step -/

theorem trodAll_below (hl : laidOutB P = true) {W' : World} (hb : Below W.heap.size W W') {sp : Nat → Bool} : ∀ {ts : List TypeId} {vs : List Value} {ds : List (DataW H)} {ps : List MemPlace},
    (ts.all fun t => P.readableRec t && decide (t < P.types.size)) = true → DataW.TrodAll enc P W 0 (fun _ => true) true ts vs ds ps → (∀ x ∈ ps, x.block < W.heap.size) → (∀ x ∈ ps, sp x.block = true) → DataW.TrodAll enc P W' 0 sp true ts vs ds ps
  | [], [], [], ps, _, h, _, _ => h
  | t :: ts, v :: vs, d :: ds, ps, hr, h, hlt, hsp => by
    obtain ⟨p, q, h1, h2, rfl⟩ := h
    simp only [List.all_cons, Bool.and_eq_true, decide_eq_true_eq] at hr
    refine ⟨p, q, ?_, ?_, rfl⟩
    · exact WideElems.Trod_stays hl hr.1.1 hr.1.2 h1 (fun x hx => hb.same (hlt x (by simp [hx]))) (fun x hx => hsp x (by simp [hx]))
    · exact trodAll_below hl hb (by simpa [List.all_eq_true, Bool.and_eq_true] using hr.2) h2 (fun x hx => hlt x (by simp [hx])) (fun x hx => hsp x (by simp [hx]))
  | [], _ :: _, _, _, _, h, _, _ => by simp [DataW.TrodAll] at h
  | [], [], _ :: _, _, _, h, _, _ => by simp [DataW.TrodAll] at h
  | _ :: _, [], _, _, _, h, _, _ => by simp [DataW.TrodAll] at h
  | _ :: _, _ :: _, [], _, _, h, _, _ => by simp [DataW.TrodAll] at h

theorem Sim.below {h : Heap} {w : World} (s : Sim σ W h w) : Below W.heap.size W w :=
  ⟨s.os, s.tape, s.output, s.size, s.old⟩

/-- A law's end: true, and the arguments as they were. -/
theorem law_post {fn : Func} {s : ChangeSpec} {W' : World} {args : Array Value} {ds gs : List (DataW H)} {before : List MemPlace} {tb : TypeId}
    (hW : DataW.Whole enc P fn.params.toList s.vars false W args.toList ds gs before) (hv : s.vars = []) (hl : laidOutB P = true) (hr : (fn.params.toList.all fun t => P.readableRec t && decide (t < P.types.size)) = true)
    (hs : s.fn H ds = { results := [.lit (.bool true)], args := ds }) (hrt : fn.resultTypes = #[tb]) (hb : P.underlying tb = some .bool) (hB : Below W.heap.size W W') :
    s.post enc P fn false true false false W args (.bool true) W' := by
  have hlt : ∀ p ∈ before, p.block < W.heap.size := fun p hp => hW.lt p hp
  have hW' := hW
  obtain ⟨p, q, hA, hV, rfl, hz, hn⟩ := hW'
  rw [hv] at hV
  obtain ⟨rfl, rfl⟩ := trodVars_none hV
  rw [List.append_nil] at hlt
  have hres : ∀ (b : Nat) (sp : Nat → Bool) (hd : Bool), DataW.TrodAll enc P W' b sp hd fn.resultTypes.toList ((Value.bool true).resultList fn.resultTypes.size) (s.fn H (ds ++ [])).results [] := by
    intro b sp hd
    rw [List.append_nil, hs, hrt]
    exact trodAll_mk1 (shut_bool hb true)
  have hargs : ∀ sp : Nat → Bool, (∀ x ∈ p, sp x.block = true) → DataW.TrodAll enc P W' 0 sp true fn.params.toList args.toList (s.fn H (ds ++ [])).args p := by
    intro sp hsp
    rw [List.append_nil, hs]
    exact trodAll_below hl hB hr hA hlt hsp
  have hvars : ∀ sp : Nat → Bool, DataW.TrodVars enc P W' sp s.vars (s.fn H (ds ++ [])).vars [] := by
    intro sp
    rw [List.append_nil, hs, hv]
    trivial
  have hmem : ∀ x ∈ p ++ ([] : List MemPlace), x ∈ p := fun x hx => by simpa using hx
  refine ⟨ds, [], p ++ [], [], p, [], hW, hres _ _ _, hargs _ (fun x hx => by simpa using hlt x hx), hvars _, World.keptBut_mono (fun x hx => ⟨hx, .inr (.inl (hmem x hx))⟩) (hB.frame (· ∈ p ++ [])), fun _ => ?_⟩
  have hok : ∀ (j : Nat) (t : TypeId) (r : Value), fn.resultTypes[j]? = some t → ((Value.bool true).resultList fn.resultTypes.size)[j]? = some r → Value.okWide P W' .any 0 t r := by
    have := @ok_one P W' fn (.bool true) tb hrt rfl (okWide_bool_mk hb true)
    exact this
  refine ⟨hok, _, _, ([] ++ p) ++ [], ⟨[] ++ p, [], trodAll_append (hargs _ (fun _ _ => rfl)) (hres _ _ _), hvars _, rfl, ?_, ?_⟩, ?_⟩
  · intro b off hx
    have hin : MemPlace.cell b off ∈ p := by simpa using hx
    rw [hB.frozen (hlt _ hin)]
    exact hz b off (by simpa using hin)
  · intro ha; cases ha
  · intro x hx _
    simpa using hx

theorem callsVal_enter {f : FuncId} {n : Nat} {rets : List ResultVar} {code : Code} {args : Array Value} {w : World} {R : Ending → World → Prop} (hf : Fun P f n rets code) (h : CallsVal P (.func (.func f) #[] #[]) args w R) : Calls P f args w R := by
  obtain ⟨fn, hfn, hb, hnt, hres, hname⟩ := hf.ex
  obtain ⟨g, as, hrun, hc⟩ := h
  have hrun : (callFunc f (#[] ++ args ++ #[])).run P w = .ok (.enter g as) w := by simpa [Deferred.ofValue, invoke] using hrun
  have : (callFunc f (#[] ++ args ++ #[])).run P w = .ok (.enter f args) w := by
    unfold callFunc
    simp only [Sem.run_bind, run_program, Result.andThen_ok, hfn, hname, hb]
    simp
  rw [this] at hrun
  cases hrun
  exact hc

/-- A law, from what is proved of its shallow function. -/
theorem law_calls {f : FuncId} {n : Nat} {rets : List ResultVar} {code : Code} {σ : Seat} {g : Nat} {C : List V → (V → Heap → Prop) → Heap → Prop} (hS : FnS σ W g C) (hg : σ.fn g = f) (hf : Fun σ.P f n rets code) {fn : Func} {s : ChangeSpec} {args : Array Value} {ds gs : List (DataW H)} {before : List MemPlace} {tb : TypeId}
    (hW : DataW.Whole enc σ.P fn.params.toList s.vars false W args.toList ds gs before) (hv : s.vars = []) (hl : laidOutB σ.P = true) (hr : (fn.params.toList.all fun t => σ.P.readableRec t && decide (t < σ.P.types.size)) = true)
    (hs : s.fn H ds = { results := [.lit (.bool true)], args := ds }) (hrt : fn.resultTypes = #[tb]) (hb : σ.P.underlying tb = some .bool)
    (vs : List V) (hvs : args.toList = V.vals σ vs) (wvs : ∀ v ∈ vs, v.wf) (hx : C vs (fun v _ => v = .bool true) (heap0 W)) :
    Calls σ.P f args W fun e W' => ∃ v, e = .returned v ∧ s.post enc σ.P fn false true false false W args v W' := by
  have h1 := hS vs _ (heap0 W) wvs hx W (sim0 σ W)
  rw [hg] at h1
  have h2 := callsVal_enter hf h1
  have ha : args = (V.vals σ vs).toArray := by rw [← hvs]
  rw [← ha] at h2
  refine h2.mono fun e W' ⟨r, h', he, _, hs', hk⟩ => ?_
  subst hk
  exact ⟨_, he, law_post hW hv hl hr hs hrt hb hs'.below⟩

end
end Go.Lift

namespace Go.Lift
open Go.RowKit

abbrev CTab := List (Nat × (List V → (V → Heap → Prop) → Heap → Prop))

def inTab (tab : CTab) (g : Nat) (vs : List V) (κ : V → Heap → Prop) (h : Heap) : Prop :=
  match looks tab g with
  | some C => C vs κ h
  | none => False

def methL : List (String × Nat) → String → Option Nat
  | [], _ => none
  | (n, g) :: l, m => bif n == m then some g else methL l m

def methT : List (Nat × List (String × Nat)) → Nat → String → Option Nat
  | [], _, _ => none
  | (t', l) :: ts, t, m => bif Nat.beq t' t then methL l m else methT ts t m

def mkIfc (glob : Nat → Nat) (tab : CTab) (mt : List (Nat × List (String × Nat))) : Ifc where
  glob := glob
  callV := fun v vs κ h => match v with
    | .fn g caps => chk (caps.all V.wfb) (inTab tab g (vs ++ caps) κ h)
    | _ => False
  inv := fun v m vs κ h => match v with
    | .iface t u => match methT mt t m with
      | some g => chk (V.wfb u) (inTab tab g (u :: vs) κ h)
      | none => False
    | _ => False
  ahead := fun v m => match v with
    | .iface t _ => (methT mt t m).isSome
    | _ => false
  tabs := []

/-- With package variables whose cells are known. -/
def mkIfcT (glob : Nat → Nat) (tab : CTab) (mt : List (Nat × List (String × Nat))) (tabs : List (Nat × List V)) : Ifc := { mkIfc glob tab mt with tabs := tabs }

def methB (P : Program) (t : Nat) (m : String) (f : Nat) : Bool :=
  match P.info? t, P.underlying t with
  | some info, some d => match info.methods.find? (·.name == m) with
    | some r => r.path.isEmpty && (match r.func with
      | some (g, b) => Nat.beq g f && (match d, b with
        | .pointer _, b => b
        | _, b => !b)
      | none => false)
    | none => false
  | _, _ => false

def methsB (P : Program) (fn : Nat → Nat) (t : Nat) : List (String × Nat) → Bool
  | [] => true
  | (m, g) :: l => methB P t m (fn g) && methsB P fn t l

def methTB (σ : Seat) : List (Nat × List (String × Nat)) → Bool
  | [] => true
  | (t, l) :: ts => methsB σ.P σ.fn (σ.ty t) l && methTB σ ts

theorem methsB_ok {P : Program} {fn : Nat → Nat} {t : Nat} : ∀ {l : List (String × Nat)}, methsB P fn t l = true → ∀ {m g}, methL l m = some g → methB P t m (fn g) = true
  | [], _, _, _, h => by cases h
  | (n, g') :: l, hl, m, g, h => by
    simp only [methsB, Bool.and_eq_true] at hl
    simp only [methL] at h
    cases hb : n == m with
    | true =>
      rw [hb] at h
      have := eq_of_beq hb
      subst this
      cases h
      exact hl.1
    | false => rw [hb] at h; exact methsB_ok hl.2 h

theorem methTB_ok {σ : Seat} : ∀ {mt : List (Nat × List (String × Nat))}, methTB σ mt = true → ∀ {t m g}, methT mt t m = some g → methB σ.P (σ.ty t) m (σ.fn g) = true
  | [], _, _, _, _, h => by cases h
  | (t', l) :: ts, hl, t, m, g, h => by
    simp only [methTB, Bool.and_eq_true] at hl
    simp only [methT] at h
    cases hb : Nat.beq t' t with
    | true =>
      rw [hb] at h
      have := Nat.eq_of_beq_eq_true hb
      subst this
      exact methsB_ok hl.1 h
    | false => rw [hb] at h; exact methTB_ok hl.2 h

theorem method_run {P : Program} {t : Nat} {m : String} {f : Nat} (h : methB P t m f = true) (v : Value) (n : Nat) (w : World) : (method (n + 1) t v m).run P w = .ok (f, v) w := by
  unfold methB at h
  split at h
  · rename_i info d hi hd
    split at h
    · rename_i r hr
      simp only [Bool.and_eq_true] at h
      obtain ⟨hp, h⟩ := h
      split at h
      · rename_i g b hf
        simp only [Bool.and_eq_true] at h
        obtain ⟨hg, h⟩ := h
        have := Nat.eq_of_beq_eq_true hg
        subst this
        have hpath : r.path = #[] := by simpa using hp
        have hrec : ∀ nm, (receiverAt t (.val v) b (some nm)).run P w = .ok v w := by
          intro nm
          unfold receiverAt
          simp only [Sem.run_bind, run_under hd, Result.andThen_ok]
          cases d <;> cases b <;> first | rfl | cases h
        simp [method, typeInfo, hi, hr, hpath, follow, hf, hrec]
      · cases h
    · cases h
  · cases h

theorem ahead_run {P : Program} {t : Nat} {m : String} {f : Nat} (h : methB P t m f = true) (v : Value) (n : Nat) (w : World) : (nilAhead (n + 1) t v m).run P w = .ok (some false) w := by
  unfold methB at h
  split at h
  · rename_i info d hi hd
    split at h
    · rename_i r hr
      simp only [Bool.and_eq_true] at h
      obtain ⟨hp, h⟩ := h
      split at h
      · rename_i g b hf
        simp only [Bool.and_eq_true] at h
        obtain ⟨hg, h⟩ := h
        have hpath : r.path = #[] := by simpa using hp
        cases b with
        | true => simp [nilAhead, typeInfo, hi, hr, hpath, followBlind, hf]
        | false => cases d <;> first | (cases h; done) | (simp [nilAhead, typeInfo, hi, hr, hpath, followBlind, hf, run_under hd])
      · cases h
    · cases h
  · cases h

theorem wfb_wf {v : V} (h : V.wfb v = true) : v.wf := by
  cases v <;> first | exact V.wf_one rfl | exact absurd h Bool.false_ne_true | exact List.all_eq_true.1 h

theorem inTab_ok {σ : Seat} {W0 : World} {tab : CTab} (ht : CallsOK σ W0 tab) {g : Nat} {vs : List V} {κ : V → Heap → Prop} {h : Heap} (wv : ∀ v ∈ vs, v.wf) (hx : inTab tab g vs κ h) {w : World} (s : Sim σ W0 h w) :
    CallsVal σ.P (.func (.func (σ.fn g)) #[] #[]) (V.vals σ vs).toArray w (Post σ W0 κ) := by
  unfold inTab at hx
  split at hx
  · rename_i C hC; exact callsOK_looks ht hC vs κ h wv hx w s
  · exact hx.elim

theorem mkIfc_ok {σ : Seat} {W0 : World} {gls : List (Nat × Nat)} {glob : Nat → Nat} {tab : CTab} {mt : List (Nat × List (String × Nat))} (hg : pairsOK2 glob gls = true) (hm : methTB σ mt = true) (ht : CallsOK σ W0 tab) : IfcOK σ W0 gls (mkIfc glob tab mt) := by
  refine ⟨hg, ?_, ?_, ?_, fun _ _ h => (by cases h)⟩
  · intro v vs κ h wv wvs hx w s
    unfold mkIfc at hx
    simp only at hx
    split at hx
    · rename_i g caps
      obtain ⟨hcaps, hk⟩ := chk_true hx
      have wcaps : ∀ v ∈ vs ++ caps, v.wf := by
        intro v hv
        rcases List.mem_append.1 hv with hv | hv
        · exact wvs v hv
        · exact wfb_wf (List.all_eq_true.1 hcaps v hv)
      obtain ⟨ff, as, hr, hcall⟩ := inTab_ok ht wcaps hk s
      refine ⟨ff, as, ?_, hcall⟩
      rw [← hr]
      simp [V.val, Deferred.ofValue, invoke, vals_map]
    · exact hx.elim
  · intro v m ha
    unfold mkIfc at ha
    simp only at ha
    split at ha
    · rename_i t u
      cases hmg : methT mt t m with
      | none => rw [hmg] at ha; cases ha
      | some g =>
        refine ⟨t, u, rfl, fun w => ?_⟩
        have hmr := ahead_run (methTB_ok hm hmg) (V.val σ u) (σ.P.types.size + Made.depth - 1) w
        have he : σ.P.types.size + Made.depth - 1 + 1 = σ.P.types.size + Made.depth := by
          have : 0 < Made.depth := by decide
          omega
        rw [he] at hmr
        exact hmr
    · cases ha
  · intro v m vs κ h wv wvs hx w s
    unfold mkIfc at hx
    simp only at hx
    split at hx
    · rename_i t u
      split at hx
      · rename_i g hmg
        obtain ⟨hu, hk⟩ := chk_true hx
        have wus : ∀ v ∈ u :: vs, v.wf := by
          intro v hv
          rcases List.mem_cons.1 hv with rfl | hv
          · exact wfb_wf hu
          · exact wvs v hv
        obtain ⟨ff, as, hr, hcall⟩ := inTab_ok ht wus hk s
        refine ⟨ff, as, ?_, hcall⟩
        rw [← hr]
        have hmr := method_run (methTB_ok hm hmg) (V.val σ u) (σ.P.types.size + Made.depth - 1) w
        have he : σ.P.types.size + Made.depth - 1 + 1 = σ.P.types.size + Made.depth := by
          have : 0 < Made.depth := by decide
          omega
        rw [he] at hmr
        simp [V.val, V.vals, Deferred.ofValue, invoke, callMethod, hmr]
      · exact hx.elim
    · exact hx.elim

theorem mkIfcT_ok {σ : Seat} {W0 : World} {gls : List (Nat × Nat)} {glob : Nat → Nat} {tab : CTab} {mt : List (Nat × List (String × Nat))} {tabs : List (Nat × List V)} (h : IfcOK σ W0 gls (mkIfc glob tab mt)) (ht : ∀ c l, (c, l) ∈ tabs → ∃ el fz, W0.heap[glob c / 2]? = some (.cells (V.vals σ l).toArray el fz)) : IfcOK σ W0 gls (mkIfcT glob tab mt tabs) := ⟨h.gl, h.callV, h.ahead, h.inv, ht⟩

end Go.Lift
