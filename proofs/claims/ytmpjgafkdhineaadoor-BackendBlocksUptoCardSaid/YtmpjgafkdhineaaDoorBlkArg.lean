/- What the acts of BackendBlocks' argument are. -/
import Derived.Test.YtmpjgafkdhineaaDoorKa
import Derived.Test.YtmpjgafkdhineaaDoorKd
import Derived.Test.YtmpjgafkdhineaaDoorUptoB

set_option linter.unusedSimpArgs false
set_option linter.unusedVariables false
set_option maxRecDepth 100000
namespace Go.Back
open Go.Lift Go.Fn

def bAct : DS := .struct (.cons 0 1 (.int .i64) (.cons 1 1 (.int .i64) (.cons 2 1 (.int .i64) (.cons 3 1 .bool (.cons 4 1 (.slice 1 (.int .u8)) .nil)))))

theorem at_of {cs : List V} {o : Nat} {v : V} (h : (cs.drop o).take 1 = [v]) : cs[o]? = some v := by
  have := congrArg (fun l => l[0]?) h
  rw [List.getElem?_take_of_lt (by omega), List.getElem?_drop] at this
  simpa using this

theorem acts_of {h0 : Heap} {s : Sl} (f : s.len ≤ s.cap ∧ s.cap ≤ maxLen ∧ (s.p = none → s.cap = 0) ∧ ∀ p, s.p = some p → ∀ i, i < s.cap → ∃ cs, cs.length = 5 ∧ (∀ j, j < 5 → h0.get p.b (p.o + i * 5 + j) = cs[j]?) ∧ Fits h0 bAct cs)
    (g : Small h0 1048576 (.slice 5 bAct) [.sl s]) : ∀ i, i < s.len → BActAt h0 s i := by
  intro i hi
  obtain ⟨h1, h2, h3, h4⟩ := f
  obtain ⟨p, hp⟩ : ∃ p, s.p = some p := by
    cases hp : s.p with
    | none => have := h3 hp; omega
    | some p => exact ⟨p, rfl⟩
  obtain ⟨cs, hl, hg, F⟩ := h4 p hp i (by omega)
  have S := (g s rfl).2.2 p hp i (by omega) cs hl hg
  simp only [bAct, Fits, FitsL] at F
  simp only [bAct, Small, SmallL] at S
  obtain ⟨⟨who, e0, _⟩, ⟨bl, e1, _⟩, ⟨pa, e2, _⟩, ⟨wr, e3⟩, ⟨sl, e4, fl⟩, _⟩ := F
  obtain ⟨_, _, _, _, S4, _⟩ := S
  obtain ⟨x, H, hx, _⟩ := bytes_of fl
  have hlen := (S4 sl e4).1
  refine ⟨p, who, bl, pa, wr, sl, x, hp, ?_, ?_, ?_, ?_, ?_, H, by omega⟩
  · have := hg 0 (by omega); rw [Nat.add_zero] at this; rw [this]; exact at_of e0
  · rw [hg 1 (by omega)]; exact at_of e1
  · rw [hg 2 (by omega)]; exact at_of e2
  · rw [hg 3 (by omega)]; exact at_of e3
  · rw [hg 4 (by omega)]; exact at_of e4

end Go.Back
