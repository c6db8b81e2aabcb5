/- The operation as a whole; calls; the region. -/
import Derived.Test.YtgigbjieppllgaaDoorLiftH
import Derived.Laws.BytesString
import Derived.Lib.ConvBytes
namespace Go.Lift
open Go.RowKit

section
variable {σ : Seat} {W0 : World} {h : Heap} {w : World} {E : Env} {ρ : Fr} {a : Act}

theorem bytesOf_sound : ∀ {cs : List V} {κ : List UInt8 → Prop}, bytesOf cs κ → ∃ ns : List Int, V.vals σ cs = ns.map (Value.int .u8) ∧ κ (ns.map fun n => UInt8.ofNat n.toNat) := by
  intro cs
  induction cs with
  | nil => intro κ hx; exact ⟨[], rfl, hx⟩
  | cons v cs ih =>
    intro κ hx
    cases v with
    | int k n =>
      cases k <;> first | exact hx.elim | skip
      obtain ⟨ns, hv, hk⟩ := ih hx
      exact ⟨n :: ns, by simp [V.vals, V.val, hv], by simpa using hk⟩
    | _ => exact hx.elim

theorem foldl_push : ∀ (ns : List Int) (s : List UInt8), ns.foldl (fun (r : ByteArray) n => r.push (UInt8.ofNat n.toNat)) ⟨s.toArray⟩ = ⟨(s ++ ns.map fun n => UInt8.ofNat n.toNat).toArray⟩ := by
  intro ns
  induction ns with
  | nil => intro s; simp
  | cons n ns ih =>
    intro s
    simp only [List.foldl_cons]
    have : (ByteArray.mk s.toArray).push (UInt8.ofNat n.toNat) = ⟨(s ++ [UInt8.ofNat n.toNat]).toArray⟩ := by
      simp [ByteArray.push]
    rw [this, ih]
    simp

theorem Sim.grown (s : Sim σ W0 h w) {x : HO} {o : Obj} {w' : World} (hos : w'.os = w.os) (hout : w'.output = w.output) (htape : w'.tape = w.tape) (hsize : w'.heap.size = w.heap.size + 1)
    (hold : ∀ j, j < w.heap.size → w'.heap[j]? = w.heap[j]?) (hnew : w'.heap[w.heap.size]? = some o) (hx : simO σ x o) : Sim σ W0 (h.new (2 * w.heap.size) x) w' := by
  refine ⟨hos.trans s.os, hout.trans s.output, htape.trans s.tape, by have := s.size; omega, ?_, ?_, ?_⟩
  · intro b y hy
    simp only [Heap.new] at hy
    by_cases hb : b = 2 * w.heap.size
    · subst hb; rw [if_pos rfl] at hy; cases hy
      exact ⟨_, o, rfl, hnew, hx⟩
    · rw [if_neg hb] at hy
      obtain ⟨k', o', ek', ho', hs⟩ := s.known b y hy
      have hlt : k' < w.heap.size := by
        rcases Nat.lt_or_ge k' w.heap.size with h | h
        · exact h
        · rw [Array.getElem?_eq_none h] at ho'; cases ho'
      exact ⟨k', o', ek', by rw [hold k' hlt]; exact ho', hs⟩
  · intro b hb
    have hlt := s.size
    rw [hold b (by omega)]; exact s.old b hb
  · intro b y hy hr
    simp only [Heap.new] at hy
    by_cases hb : b = 2 * w.heap.size
    · have := s.size; omega
    · rw [if_neg hb] at hy; exact s.own b y hy hr

theorem strCells_vals (st : List UInt8) : V.vals σ (strCells st) = st.map fun b => Value.int .u8 b.toNat := by
  simp [strCells, vals_map, V.val]

theorem ofStr_sound (s : Sim σ W0 h w) {src dst e : Nat} (ht : σ.P.underlying dst = some (.slice e)) (he : σ.P.underlying e = some (.int .u8)) {st : List UInt8} {u : TypeDesc} (hs : σ.P.underlying src = some u) {κ : Sl → Heap → Prop} (hx : ofStr st κ h) :
    ∃ r h' w', (convert src dst (V.val σ (.str st))).run σ.P w = .ok (V.val σ (.sl r)) w' ∧ Sim σ W0 h' w' ∧ κ r h' := by
  have hz : (ByteArray.mk st.toArray).size = st.length := ba_size st
  have hge : st.length ≤ grownCap w (ByteArray.mk st.toArray).size 0 e := by rw [hz]; exact grownCap_ge _ _ _ _
  have hx1 := hx _ hge (2 * w.heap.size) s.size_none
  refine ⟨_, _, Lib.bytesWorld w e ⟨st.toArray⟩, ?_, ?_, hx1⟩
  · have := Lib.run_convert_string_bytes w src dst e ⟨st.toArray⟩ hs ht he
    rw [hz] at this
    simp only [V.val, hz, Option.map_some, addr_vb]
    exact this
  · refine s.grown rfl rfl rfl (Lib.bytesWorld_size _ _ _) (Lib.bytesWorld_at_old w e _) (Lib.bytesWorld_at_new w e _) ⟨?_, ?_, ?_⟩
    · simp only [Lib.bytesCells, hz]
      rw [vals_map, List.map_append, ← vals_map, strCells_vals]
      simp [V.val]
    · intro v hv
      simp only [List.mem_append, strCells, List.mem_map, List.mem_replicate] at hv
      rcases hv with ⟨b, _, rfl⟩ | ⟨_, rfl⟩ <;> rfl
    · simp only [if_true]
      simp [Lib.bytesCells, hz, strCells]

theorem convPT_sound (ok : EnvOK σ W0 E) (s : Sim σ W0 h w) {src dst : Nat} {x : V} {κ : V → Heap → Prop} (hx : convPT E src dst x κ h) :
    ∃ v h' w', (convert src dst (x.val σ)).run σ.P w = .ok (V.val σ v) w' ∧ v.wf ∧ Sim σ W0 h' w' ∧ κ v h' := by
  obtain ⟨i', k', hz⟩ := withTI_ok ok hx
  clear hx
  obtain ⟨i, k, hy⟩ := withTI_ok ok hz
  clear hz
  have hx := hy
  clear hy
  obtain ⟨u, hu, _⟩ := k'.under
  have hd := k.d
  split at hx
  · rename_i kd k' n hi
    rw [hi] at hd
    have hd : σ.P.underlying dst = some (.int kd) := hd
    exact ⟨_, h, w, by simp [convert, run_under hu, run_under hd, V.val, Conv.intToInt], wf_int _ _, s, hx⟩
  · rename_i st hi
    rw [hi] at hd
    have hd : σ.P.underlying dst = some .string := hd
    refine ⟨.str st, h, w, ?_, wf_str _, s, hx⟩
    simp [convert, run_under hu, run_under hd, V.val]
  · rename_i e st hi
    rw [hi] at hd
    have hd : σ.P.underlying dst = some (.slice e) := hd
    obtain ⟨j, kj, hx⟩ := withTI_ok ok hx
    split at hx
    · rename_i hj
      have hjd := kj.d
      rw [hj] at hjd
      obtain ⟨r, h', w', hr, hs, hk⟩ := ofStr_sound s hd hjd hu hx
      exact ⟨_, h', w', hr, wf_sl _, hs, hk⟩
    · exact hx.elim
  · rename_i sl hi
    rw [hi] at hd
    have hd : σ.P.underlying dst = some .string := hd
    split at hx
    · rename_i e hi'
      have hsd := k'.d
      rw [hi'] at hsd
      have hsd : σ.P.underlying src = some (.slice e) := hsd
      obtain ⟨j, kj, hx⟩ := withTI_ok ok hx
      split at hx
      · rename_i hj
        have hjd := kj.d
        rw [hj] at hjd
        have hjd : σ.P.underlying e = some (.int .u8) := hjd
        obtain ⟨cs, hr, h1, hl, hx⟩ := cellsS_sound s hx
        obtain ⟨ns, hv, hk⟩ := bytesOf_sound (σ := σ) hx
        refine ⟨.str (ns.map fun n => UInt8.ofNat n.toNat), h, w, ?_, wf_str _, s, hk⟩
        have hr := hr w s
        simp only [V.val]
        rw [run_convert_bytes_string w src dst e _ _ _ hsd hjd hd]
        cases hp : sl.p with
        | none =>
          simp only [V.val, hp, Option.map_none, Builtin.firstCells, Sem.run_pure] at hr
          have h0 : ns = [] := by
            have : V.vals σ cs = [] := by injection hr with h1; simpa using h1.symm
            rw [hv] at this; simpa using this
          subst h0
          rfl
        | some p =>
          simp only [V.val, hp, Option.map_some, Builtin.firstCells] at hr
          simp only [Option.map_some]
          rw [run_bytesToString w p.addr sl.len sl.cap ns (by rw [← hv]; simpa using hr)]
          have := foldl_push ns []
          simp only [List.nil_append] at this
          rw [show ByteArray.empty = ⟨([] : List UInt8).toArray⟩ from rfl, this]
      · exact hx.elim
    · exact hx.elim
  · exact hx.elim

end
end Go.Lift
