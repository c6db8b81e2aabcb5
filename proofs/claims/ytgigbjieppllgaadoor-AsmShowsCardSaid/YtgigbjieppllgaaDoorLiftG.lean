/- What makes memory: new variables, slices, append, copy. -/
import Derived.Test.YtgigbjieppllgaaDoorLiftF
namespace Go.Lift
open Go.RowKit

section
variable {σ : Seat} {W0 : World} {h : Heap} {w : World} {E : Env} {ρ : Fr} {a : Act}

theorem al_sound (s : Sim σ W0 h w) {l : List V} {κ : Nat → Heap → Prop} (h1 : ∀ v ∈ l, v.one = true) (hx : al l κ h) {c : Array Value} {e : TypeId} (hc : c.toList = V.vals σ l) :
    Sim σ W0 (h.new (2 * w.heap.size) (.cells l false)) (w.alloc (.cells c e)) ∧ κ (2 * w.heap.size) (h.new (2 * w.heap.size) (.cells l false)) :=
  ⟨s.newCells hc h1, hx _ s.size_none⟩

theorem run_newVar {P : Program} (t : Nat) (v : Value) : (newVar t v).run P w = .ok ⟨w.heap.size, 0, none⟩ (w.alloc (.cells v.cells t)) := by
  simp [newVar, newRow]

theorem range_mod (z : List Value) (hz : z ≠ []) : ∀ n : Nat, (List.range (n * z.length)).map (fun i => z[i % z.length]!) = (List.replicate n z).flatten := by
  intro n
  have hl : 0 < z.length := by cases z <;> simp_all
  induction n with
  | zero => simp
  | succ n ih =>
    rw [Nat.succ_mul, List.range_add, List.map_append, ih, List.replicate_succ', List.flatten_append]
    congr 1
    simp only [List.map_map, List.flatten_cons, List.flatten_nil, List.append_nil]
    apply List.ext_getElem
    · simp
    · intro i h1 h2
      simp
      rw [Nat.mod_eq_of_lt h2]
      simp [h2]

theorem arr_range_mod (z : Array Value) (hz : 0 < z.size) (n : Nat) : ((Array.range (n * z.size)).map (fun i => z[i % z.size]!)).toList = (List.replicate n z.toList).flatten := by
  have := range_mod z.toList (by intro h; have : z.size = 0 := by rw [← Array.length_toList, h]; rfl
                                 omega) n
  rw [Array.toList_map, Array.toList_range]
  rw [Array.length_toList] at this
  rw [← this]
  apply List.map_congr_left
  intro i _
  have hlt : i % z.size < z.size := Nat.mod_lt _ hz
  simp [hlt]

theorem vals_flatRep (n : Nat) (z : List V) : V.vals σ (flatRep n z) = (List.replicate n (V.vals σ z)).flatten := by
  simp [flatRep, vals_map]

theorem one_flatRep {n : Nat} {z : List V} (hz : ∀ v ∈ z, v.one = true) : ∀ v ∈ flatRep n z, v.one = true := by
  intro v hv
  simp [flatRep] at hv
  obtain ⟨l, ⟨_, rfl⟩, hv⟩ := hv
  exact hz v hv

theorem cellsS_sound (s : Sim σ W0 h w) {size : Nat} {x : Sl} {κ : List V → Prop} (hx : cellsS size x κ h) :
    ∃ cs : List V, (∀ w, Sim σ W0 h w → (Builtin.firstCells size x.len (V.val σ (.sl x))).run σ.P w = .ok (V.vals σ cs).toArray w) ∧ (∀ v ∈ cs, v.one = true) ∧ cs.length = x.len * size ∧ κ cs := by
  unfold cellsS at hx
  cases hp : x.p with
  | none =>
    rw [hp] at hx
    refine ⟨[], ?_, by simp, by simp [hx.1], hx.2⟩
    intro w s
    simp [V.val, hp, Builtin.firstCells, V.vals]
  | some p =>
    rw [hp] at hx
    obtain ⟨cs, hl, hg, hk⟩ := hx
    have hg' : ∀ j v, cs[j]? = some v → h.get p.b (p.o + j) = some v := by
      intro j v hj
      have hlt : j < cs.length := by
        rcases Nat.lt_or_ge j cs.length with h | h
        · exact h
        · rw [List.getElem?_eq_none h] at hj; cases hj
      rw [hg j (by omega), hj]
    refine ⟨cs, ?_, ?_, hl, hk⟩
    · intro w s
      have := run_loadCells_get s hg'
      simp only [V.val, hp, Option.map_some, Builtin.firstCells]
      rw [← hl]; exact this
    · intro u hu
      obtain ⟨j, hj⟩ := List.mem_iff_getElem?.1 hu
      exact (s.get (p := p.add j) (hg' j u hj)).2.2

theorem cellsS_sub (s : Sim σ W0 h w) {size : Nat} {x : Sl} {κ : List V → Prop} (hx : cellsS size x κ h) :
    ∃ cs : List V, (∀ n, n ≤ x.len → (Builtin.firstCells size n (V.val σ (.sl x))).run σ.P w = .ok (V.vals σ (cs.take (n * size))).toArray w) ∧ (∀ v ∈ cs, v.one = true) ∧ cs.length = x.len * size ∧ κ cs := by
  unfold cellsS at hx
  cases hp : x.p with
  | none =>
    rw [hp] at hx
    refine ⟨[], ?_, by simp, by simp [hx.1], hx.2⟩
    intro n _
    simp [V.val, hp, Builtin.firstCells, V.vals]
  | some p =>
    rw [hp] at hx
    obtain ⟨cs, hl, hg, hk⟩ := hx
    have hg' : ∀ j v, cs[j]? = some v → h.get p.b (p.o + j) = some v := by
      intro j v hj
      have hlt : j < cs.length := by
        rcases Nat.lt_or_ge j cs.length with h | h
        · exact h
        · rw [List.getElem?_eq_none h] at hj; cases hj
      rw [hg j (by omega), hj]
    refine ⟨cs, ?_, ?_, hl, hk⟩
    · intro n hn
      have := run_loadCells_get s (vs := cs.take (n * size)) (p := p) (fun j v hj => hg' j v (by
        rw [List.getElem?_take] at hj
        split at hj
        · exact hj
        · cases hj))
      simp only [V.val, hp, Option.map_some, Builtin.firstCells]
      have hle : n * size ≤ cs.length := by rw [hl]; exact Nat.mul_le_mul_right _ hn
      rw [List.length_take, Nat.min_eq_left hle] at this
      exact this
    · intro u hu
      obtain ⟨j, hj⟩ := List.mem_iff_getElem?.1 hu
      exact (s.get (p := p.add j) (hg' j u hj)).2.2

theorem growBy_le (m : Nat) : ∀ (r c : Nat), c ≤ 2 * m → 256 ≤ m → Builtin.growBy m r c ≤ 2 * m := by
  intro r
  induction r with
  | zero => intro c hc _; exact hc
  | succ r ih =>
    intro c hc hm
    unfold Builtin.growBy
    split
    · exact hc
    · exact ih _ (by omega) hm

theorem nextslicecap_le {m c : Nat} (h : c < m) : Builtin.nextslicecap m c ≤ 2 * m := by
  unfold Builtin.nextslicecap
  split
  · omega
  · split
    · omega
    · exact growBy_le _ _ _ (by omega) (by omega)

theorem zeroCells_vals {z : Value} {zs : List V} (hz : z.cells.toList = V.vals σ zs) (h0 : 0 < zs.length) (n : Nat) : (Builtin.zeroCells z.cells n).toList = V.vals σ (flatRep n zs) := by
  unfold Builtin.zeroCells
  have hs : z.cells.size = zs.length := by rw [← Array.length_toList, hz, vals_map, List.length_map]
  rw [arr_range_mod _ (by omega), hz, vals_flatRep]

theorem append_sound (s : Sim σ W0 h w) {t u ty e : Nat} {j : TI} (ht : σ.P.underlying t = some (.slice e)) (kj : TIok σ.P e j) (hsz : 0 < j.size) (hu : (∃ e', σ.P.underlying u = some (.slice e')) ∨ σ.P.underlying u = some .string)
    {sl : Sl} {xv : Value} {m : Nat} {new : List V} (hlen : ∀ w, (Builtin.lenOf xv).run σ.P w = .ok m w)
    (hnew : ∀ w, Sim σ W0 h w → (Builtin.firstCells j.size m xv).run σ.P w = .ok (V.vals σ new).toArray w) (hone : ∀ v ∈ new, v.one = true) {κ : Sl → Heap → Prop}
    (hx : appS j.size j.bytes j.zero sl new m κ h) :
    ∃ r h' w', (Builtin.append_ #[t, u] ty #[V.val σ (.sl sl), xv]).run σ.P w = .ok (V.val σ (.sl r)) w' ∧ Sim σ W0 h' w' ∧ κ r h' := by
  obtain ⟨info, hi, hisz, hiby, z, hiz, hzc⟩ := kj.info
  have hti : ∀ w, (typeInfo e).run σ.P w = .ok info w := by intro w'; simp [typeInfo, hi]
  have hzv : ∀ w, (zeroValue e).run σ.P w = .ok z w := by intro w'; simp [zeroValue, hti, hiz]
  have hun : ∃ d, (∀ w, (underlying u).run σ.P w = .ok d w) ∧ ((∃ e', d = .slice e') ∨ d = .string) := by
    rcases hu with ⟨e', hu⟩ | hu
    · exact ⟨_, run_under hu, .inl ⟨_, rfl⟩⟩
    · exact ⟨_, run_under hu, .inr rfl⟩
  obtain ⟨d, hud, hdd⟩ := hun
  unfold appS at hx
  by_cases hcap : sl.len + m ≤ sl.cap
  · rw [if_pos hcap] at hx
    cases hp : sl.p with
    | none =>
      rw [hp] at hx
      obtain ⟨rfl, hk⟩ := hx
      refine ⟨_, h, w, ?_, s, hk⟩
      have hn := hnew w s
      rcases hdd with ⟨e', rfl⟩ | rfl <;>
        simp [Builtin.append_, V.val, hp, run_under ht, hud, kj.size, hlen, hcap, hn]
    | some p =>
      rw [hp] at hx
      obtain ⟨h', w', hr, hs, hk⟩ := wrL_sound s hone hx
      refine ⟨_, h', w', ?_, hs, hk⟩
      have hn := hnew w s
      rw [← addr_add] at hr
      rcases hdd with ⟨e', rfl⟩ | rfl <;>
        simp [Builtin.append_, V.val, hp, run_under ht, hud, kj.size, hlen, hcap, hn, hr]
  · rw [if_neg hcap] at hx
    obtain ⟨hb1, hb2, hx⟩ := hx
    have hf : (Question.appendCap (sl.len + m) sl.cap e).forced = false := rfl
    have hn1 : ¬ (9223372036854775807 < (sl.len : Int) + (m : Int) ∧ info.bytes = 0) := by omega
    have hn2 : ¬ (281474976710656 < Builtin.nextslicecap (sl.len + m) sl.cap * info.bytes) := by
      have h1 := nextslicecap_le (m := sl.len + m) (c := sl.cap) (by omega)
      have h2 := Nat.mul_le_mul_right info.bytes h1
      rw [hiby] at h2 ⊢
      have h3 : 2 * (sl.len + m) * j.bytes = 2 * ((sl.len + m) * j.bytes) := by rw [Nat.mul_assoc]
      omega
    let q := Question.appendCap (sl.len + m) sl.cap e
    have hge : sl.len + m ≤ q.cut (w.tape w.drawn q) := by simp [q, Question.cut]
    have sd := s.drew
    have hnw := hnew _ sd
    have main : ∀ old : List V, (∀ v ∈ old, v.one = true) → (Builtin.firstCells j.size sl.len (V.val σ (.sl sl))).run σ.P w.drew = .ok (V.vals σ old).toArray w.drew →
        (∀ c, sl.len + m ≤ c → al (old ++ new ++ flatRep (c - (sl.len + m)) j.zero) (fun b h => κ ⟨some ⟨b, 0⟩, sl.len + m, c⟩ h) h) →
        ∃ r h' w', (Builtin.append_ #[t, u] ty #[V.val σ (.sl sl), xv]).run σ.P w = .ok (V.val σ (.sl r)) w' ∧ Sim σ W0 h' w' ∧ κ r h' := by
      intro old h1 hold hx
      obtain ⟨hs, hk⟩ := al_sound sd (e := e) (c := ((V.vals σ old).toArray ++ ((V.vals σ new).toArray ++ Builtin.zeroCells z.cells (q.cut (w.tape w.drawn q) - (sl.len + m))))) (by
          intro v hv
          simp only [List.mem_append] at hv
          rcases hv with (hv | hv) | hv
          · exact h1 v hv
          · exact hone v hv
          · exact one_flatRep kj.zone v hv) (hx _ hge) (by
          have := zeroCells_vals (σ := σ) (hzc σ) (by rw [kj.zlen]; exact hsz) (q.cut (w.tape w.drawn q) - (sl.len + m))
          simp [this, vals_map])
      refine ⟨_, _, _, ?_, hs, hk⟩
      simp only [V.val] at hold
      rcases hdd with ⟨e', rfl⟩ | rfl <;>
        simp [Builtin.append_, V.val, run_under ht, hud, kj.size, hlen, hcap, hf, hti, hn1, hn2, hzv, hold, hnw, newRow, q, addr_vb]
    cases hp : sl.p with
    | none =>
      rw [hp] at hx
      obtain ⟨h0, hx⟩ := hx
      exact main [] (by simp) (by simp [V.val, hp, Builtin.firstCells, V.vals]) hx
    | some p =>
      rw [hp] at hx
      have hx' : cellsS j.size sl (fun old => ∀ c, sl.len + m ≤ c → al (old ++ new ++ flatRep (c - (sl.len + m)) j.zero) (fun b h => κ ⟨some ⟨b, 0⟩, sl.len + m, c⟩ h) h) h := by
        unfold cellsS; rw [hp]; exact hx
      obtain ⟨cs, hr, h1, _, hk⟩ := cellsS_sound s hx'
      exact main cs h1 (hr _ sd) hk

theorem appendZ_sound (s : Sim σ W0 h w) {t u ty e : Nat} {j : TI} (ht : σ.P.underlying t = some (.slice e)) (kj : TIok σ.P e j) (hsz : 0 < j.size) {ku kn : IntKind} (hu : σ.P.underlying u = some (.int ku))
    {sl : Sl} {n : Int} {κ : Sl → Heap → Prop}
    (hx : appZ j.size j.bytes j.zero sl n κ h) :
    ∃ r h' w', (Builtin.append_ #[t, u] ty #[V.val σ (.sl sl), V.val σ (.int kn n)]).run σ.P w = .ok (V.val σ (.sl r)) w' ∧ Sim σ W0 h' w' ∧ κ r h' := by
  obtain ⟨info, hi, hisz, hiby, z, hiz, hzc⟩ := kj.info
  have hti : ∀ w, (typeInfo e).run σ.P w = .ok info w := by intro w'; simp [typeInfo, hi]
  have hzv : ∀ w, (zeroValue e).run σ.P w = .ok z w := by intro w'; simp [zeroValue, hti, hiz]
  have hud : ∀ w, (underlying u).run σ.P w = .ok (.int ku) w := run_under hu
  obtain ⟨hn0, hn48, hn63, hx⟩ := hx
  obtain ⟨m, rfl⟩ : ∃ m : Nat, n = m := ⟨n.toNat, by omega⟩
  simp only [Int.toNat_natCast] at hx
  have hwr : IntKind.i64.wrap (m : Int) = m := by
    simp [IntKind.wrap, IntKind.bits, IntKind.signed, IntKind.max, IntKind.min, Int.bmod]; omega
  have hneg : ¬ ((m : Int) < 0) := by omega
  have h48 : ¬ (281474976710656 < (m : Int) * (info.bytes : Int)) := by rw [hiby]; omega
  have hone : ∀ v ∈ flatRep m j.zero, v.one = true := one_flatRep kj.zone
  have hzz := zeroCells_vals (σ := σ) (hzc σ) (by rw [kj.zlen]; exact hsz) m
  have hzz' : Builtin.zeroCells z.cells m = (V.vals σ (flatRep m j.zero)).toArray := by apply Array.ext'; rw [hzz]
  have h00 : (m * j.size = 0 ∧ flatRep m j.zero = []) ∨ ¬ m * j.size = 0 := by
    by_cases h0 : m * j.size = 0
    · have : m = 0 := by rcases Nat.mul_eq_zero.1 h0 with h | h <;> omega
      subst this
      exact .inl ⟨h0, by simp [flatRep]⟩
    · exact .inr h0
  generalize hnew : flatRep m j.zero = new at *
  unfold appS at hx
  by_cases hcap : sl.len + m ≤ sl.cap
  · rw [if_pos hcap] at hx
    cases hp : sl.p with
    | none =>
      rw [hp] at hx
      obtain ⟨rfl, hk⟩ := hx
      refine ⟨_, h, w, ?_, s, hk⟩
      have h48' := h48
      rcases h00 with ⟨h0, _⟩ | h0
      · simp [Builtin.append_, V.val, hp, run_under ht, hud, kj.size, asIntOf, asInt, hwr, hneg, hti, h48, hcap, h0]
      · simp [Builtin.append_, V.val, hp, run_under ht, hud, kj.size, asIntOf, asInt, hwr, hneg, hti, h48, hcap, h0, hzv, hzz']
    | some p =>
      rw [hp] at hx
      obtain ⟨h', w', hr, hs, hk⟩ := wrL_sound s hone hx
      refine ⟨_, h', w', ?_, hs, hk⟩
      rw [← addr_add] at hr
      rcases h00 with ⟨h0, rfl⟩ | h0
      · simp [V.vals, storeCells] at hr
        subst hr
        simp [Builtin.append_, V.val, hp, run_under ht, hud, kj.size, asIntOf, asInt, hwr, hneg, hti, h48, hcap, h0, storeCells]
      · simp [Builtin.append_, V.val, hp, run_under ht, hud, kj.size, asIntOf, asInt, hwr, hneg, hti, h48, hcap, h0, hzv, hzz', hr]
  · rw [if_neg hcap] at hx
    obtain ⟨hb1, hb2, hx⟩ := hx
    have hf : (Question.appendCap (sl.len + m) sl.cap e).forced = false := rfl
    have hn1 : ¬ (9223372036854775807 < (sl.len : Int) + (m : Int)) := by omega
    have hn2 : ¬ (281474976710656 < Builtin.nextslicecap (sl.len + m) sl.cap * info.bytes) := by
      have h1 := nextslicecap_le (m := sl.len + m) (c := sl.cap) (by omega)
      have h2 := Nat.mul_le_mul_right info.bytes h1
      rw [hiby] at h2 ⊢
      have h3 : 2 * (sl.len + m) * j.bytes = 2 * ((sl.len + m) * j.bytes) := by rw [Nat.mul_assoc]
      omega
    let q := Question.appendCap (sl.len + m) sl.cap e
    have hge : sl.len + m ≤ q.cut (w.tape w.drawn q) := by simp [q, Question.cut]
    have sd := s.drew
    have main : ∀ old : List V, (∀ v ∈ old, v.one = true) → (Builtin.firstCells j.size sl.len (V.val σ (.sl sl))).run σ.P w.drew = .ok (V.vals σ old).toArray w.drew →
        (∀ c, sl.len + m ≤ c → al (old ++ new ++ flatRep (c - (sl.len + m)) j.zero) (fun b h => κ ⟨some ⟨b, 0⟩, sl.len + m, c⟩ h) h) →
        ∃ r h' w', (Builtin.append_ #[t, u] ty #[V.val σ (.sl sl), V.val σ (.int kn (m : Int))]).run σ.P w = .ok (V.val σ (.sl r)) w' ∧ Sim σ W0 h' w' ∧ κ r h' := by
      intro old h1 hold hx
      obtain ⟨hs, hk⟩ := al_sound sd (e := e) (c := ((V.vals σ old).toArray ++ ((V.vals σ new).toArray ++ Builtin.zeroCells z.cells (q.cut (w.tape w.drawn q) - (sl.len + m))))) (by
          intro v hv
          simp only [List.mem_append] at hv
          rcases hv with (hv | hv) | hv
          · exact h1 v hv
          · exact hone v hv
          · exact one_flatRep kj.zone v hv) (hx _ hge) (by
          have := zeroCells_vals (σ := σ) (hzc σ) (by rw [kj.zlen]; exact hsz) (q.cut (w.tape w.drawn q) - (sl.len + m))
          simp [this, vals_map])
      refine ⟨_, _, _, ?_, hs, hk⟩
      simp only [V.val] at hold
      rcases h00 with ⟨h0, rfl⟩ | h0
      · simp [Builtin.append_, V.val, run_under ht, hud, kj.size, asIntOf, asInt, hwr, hneg, h48, hcap, hf, hti, hn1, hn2, hzv, hold, h0, V.vals, newRow, q, addr_vb]
      · simp [Builtin.append_, V.val, run_under ht, hud, kj.size, asIntOf, asInt, hwr, hneg, h48, hcap, hf, hti, hn1, hn2, hzv, hold, h0, hzz', newRow, q, addr_vb]
    cases hp : sl.p with
    | none =>
      rw [hp] at hx
      obtain ⟨h0, hx⟩ := hx
      exact main [] (by simp) (by simp [V.val, hp, Builtin.firstCells, V.vals]) hx
    | some p =>
      rw [hp] at hx
      have hx' : cellsS j.size sl (fun old => ∀ c, sl.len + m ≤ c → al (old ++ new ++ flatRep (c - (sl.len + m)) j.zero) (fun b h => κ ⟨some ⟨b, 0⟩, sl.len + m, c⟩ h) h) h := by
        unfold cellsS; rw [hp]; exact hx
      obtain ⟨cs, hr, h1, _, hk⟩ := cellsS_sound s hx'
      exact main cs h1 (hr _ sd) hk

end
end Go.Lift
