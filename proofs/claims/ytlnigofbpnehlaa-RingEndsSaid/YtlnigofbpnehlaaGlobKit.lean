/- Package variables that are rows of numbers. -/
import Derived.Test.YtlnigofbpnehlaaLiftO
import Derived.HandedShaped
set_option linter.unusedSimpArgs false
set_option linter.unusedVariables false
set_option maxRecDepth 100000
namespace Go.Lift

theorem glob_ints {P : Program} {W : World} (hsh : W.ShapedOpen P) {g t n u : Nat} {zero : Array Value} {k : IntKind} (hg : g < P.globals.size) (h0 : ((begin P (fun _ _ => 0) default).world.heap[g]?).bind Obj.row? = some (zero, t)) (hz : zero.size = n) (hb : P.buildable t = true)
    (hts : P.cellTypes P.depth t = some (List.replicate n u)) (hu : P.underlying u = some (.int k)) : ∃ x : Nat → Int, ∀ i, i < n → (heap0 W).get g i = some (.int k (x i)) := by
  obtain ⟨cs, hcs, hsz, hrow⟩ := hsh.1 g zero t hg h0
  obtain ⟨ts, hts', _, hc⟩ := hrow hb
  rw [hts] at hts'
  cases hts'
  have key : ∀ i, i < n → ∃ x, (heap0 W).get g i = some (.int k x) := by
    intro i hi
    have hlt : i < cs.size := by omega
    obtain ⟨u', hu', hok⟩ := hc i cs[i] (Array.getElem?_eq_getElem hlt)
    have hlen : (List.replicate n u).length = n := List.length_replicate
    rw [hlen, Nat.mod_eq_of_lt hi, List.getElem?_replicate, if_pos hi] at hu'
    cases hu'
    have hv : ∃ x, cs[i] = .int k x := by
      unfold Cell.ok at hok
      rw [hu] at hok
      generalize cs[i] = v at hok
      cases v <;> simp at hok
      obtain ⟨rfl, _⟩ := hok
      exact ⟨_, rfl⟩
    obtain ⟨x, hx⟩ := hv
    refine ⟨x, ?_⟩
    simp only [Heap.get, heap0, hcs]
    rw [Array.getElem?_eq_getElem hlt, hx]
    rfl
  refine ⟨fun i => if hi : i < n then Classical.choose (key i hi) else 0, fun i hi => ?_⟩
  simp only [dif_pos hi]
  exact Classical.choose_spec (key i hi)

end Go.Lift
