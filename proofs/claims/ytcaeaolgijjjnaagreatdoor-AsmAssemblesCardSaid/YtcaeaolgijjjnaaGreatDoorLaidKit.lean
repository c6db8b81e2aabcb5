/- Package variables that are listed, with what they hold. -/
import Derived.Test.YtcaeaolgijjjnaaGreatDoorLb
import Derived.LaidMore
import Derived.MakeChecks
set_option linter.unusedSimpArgs false
set_option linter.unusedVariables false

set_option linter.unusedSimpArgs false
set_option linter.unusedVariables false
set_option maxRecDepth 100000
namespace Go.Lift

theorem laid_ints {P : Program} {W : World} {rest : List (String × DataW Unit)} {name : String} {l : List Int} {k : IntKind} {g t u : Nat}
    (h : ∃ ps, DataW.LaidVars P W ((name, .agg (l.map fun x => .lit (.int k x))) :: rest) ps)
    (hg : P.globalNamed name = some g) (ht : (P.globals[g]?).map (·.type) = some t) (hu : P.underlying t = some (.array l.length u)) (hk : P.underlying u = some (.int k)) (hc : P.cellsOf u = 1) :
    ∀ (i : Nat) (x : Int), l[i]? = some x → (heap0 W).get (2 * g) i = some (.int k x) := by
  obtain ⟨ps, g', t', cs, fuel, p, q, hg', ht', hv, hd, _⟩ := h
  obtain rfl := Option.some.inj (hg.symm.trans hg')
  obtain rfl := Option.some.inj (ht.symm.trans ht')
  obtain ⟨xs, m, _, hx, hlen, hn, hel⟩ := DataW.trod_array hu hd
  intro i x hi
  have hil : i < l.length := by
    rcases Nat.lt_or_ge i l.length with h | h
    · exact h
    · rw [List.getElem?_eq_none h] at hi; cases hi
  have h0 := hel i hil
  have hxs : xs[i]? = some (xs[i]'(by omega)) := List.getElem?_eq_getElem _
  rw [hxs, hc] at h0
  obtain ⟨n, e1, e2, _⟩ := DataW.trod_int hk h0
  have hfst : (xs[i]'(by omega)).1 = .lit (.int k x) := by
    have : (xs.map (·.1)) = l.map fun x => .lit (.int k x) := by
      have := congrArg Prod.fst hx
      simpa using this.symm
    have h2 := congrArg (fun l => l[i]?) this
    simp only [List.getElem?_map, hxs, hi, Option.map_some, Option.some.injEq] at h2
    exact h2
  rw [e2] at hfst
  have hnx : n = x := by simpa using hfst
  subst hnx
  have hcs : cs.toList[i]? = some (.int k n) := by
    have := congrArg (fun l => l[0]?) e1
    rw [Nat.mul_one] at this
    rw [List.getElem?_take_of_lt (by omega), List.getElem?_drop] at this
    simpa using this
  refine heap0_get (v := .int k n) ?_ rfl
  rw [World.var?_cell hg hv i]
  simpa using hcs

/-- .. as a row of cells. -/
theorem laid_tab {P : Program} {W : World} {rest : List (String × DataW Unit)} {name : String} {l : List Int} {k : IntKind} {g t u : Nat} {σ : Seat}
    (h : ∃ ps, DataW.LaidVars P W ((name, .agg (l.map fun x => .lit (.int k x))) :: rest) ps)
    (hg : P.globalNamed name = some g) (ht : (P.globals[g]?).map (·.type) = some t) (hu : P.underlying t = some (.array l.length u)) (hk : P.underlying u = some (.int k)) (hc : P.cellsOf u = 1) (hct : P.cellsOf t = l.length) :
    ∃ el fz, W.heap[g]? = some (.cells (V.vals σ (l.map (V.int k))).toArray el fz) := by
  obtain ⟨ps, g', t', cs, fuel, p, q, hg', ht', hv, hd, _⟩ := h
  obtain rfl := Option.some.inj (hg.symm.trans hg')
  obtain rfl := Option.some.inj (ht.symm.trans ht')
  obtain ⟨xs, m, _, hx, hlen, hn, hel⟩ := DataW.trod_array hu hd
  have hall : cs.toList = l.map fun x => Value.int k x := by
    refine List.ext_getElem? (fun i => ?_)
    rw [List.getElem?_map]
    rcases Nat.lt_or_ge i l.length with hil | hil
    · have h0 := hel i hil
      have hxs : xs[i]? = some (xs[i]'(by omega)) := List.getElem?_eq_getElem _
      rw [hxs, hc] at h0
      obtain ⟨n, e1, e2, _⟩ := DataW.trod_int hk h0
      have hi : l[i]? = some l[i] := List.getElem?_eq_getElem hil
      have hfst : (xs[i]'(by omega)).1 = .lit (.int k l[i]) := by
        have : (xs.map (·.1)) = l.map fun x => .lit (.int k x) := by
          have := congrArg Prod.fst hx
          simpa using this.symm
        have h2 := congrArg (fun l => l[i]?) this
        simp only [List.getElem?_map, hxs, hi, Option.map_some, Option.some.injEq] at h2
        exact h2
      rw [e2] at hfst
      have hnx : n = l[i] := by simpa using hfst
      subst hnx
      have := congrArg (fun l => l[0]?) e1
      rw [Nat.mul_one] at this
      rw [List.getElem?_take_of_lt (by omega), List.getElem?_drop] at this
      rw [hi]
      simpa using this
    · rw [List.getElem?_eq_none hil, List.getElem?_eq_none (by rw [hlen, hct]; exact hil)]
      rfl
  unfold World.var? at hv
  rw [hg, Option.bind_some] at hv
  split at hv
  · rename_i c el fz hcc
    cases hv
    refine ⟨el, fz, ?_⟩
    rw [hcc]
    congr 2
    apply Array.ext'
    rw [hall, vals_map, List.map_map]
    rfl
  · cases hv

theorem laid_tail {P : Program} {W : World} {rest : List (String × DataW Unit)} {x : String × DataW Unit} (h : ∃ ps, DataW.LaidVars P W (x :: rest) ps) : ∃ ps, DataW.LaidVars P W rest ps := by
  obtain ⟨n, d⟩ := x
  obtain ⟨ps, g', t', cs, fuel, p, q, _, _, _, _, hr, _⟩ := h
  exact ⟨q, hr⟩

end Go.Lift
