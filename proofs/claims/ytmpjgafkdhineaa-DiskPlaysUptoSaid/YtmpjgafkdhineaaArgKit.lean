/- Arguments that are slices of numbers. -/
import Derived.Test.YtmpjgafkdhineaaSeqKit
import Derived.Test.YtmpjgafkdhineaaLiftO
set_option linter.unusedSimpArgs false
set_option linter.unusedVariables false
set_option maxRecDepth 100000
namespace Go.Lift

theorem ints_of {h : Heap} {s : Sl} {k : IntKind} (f : s.len ≤ s.cap ∧ s.cap ≤ maxLen ∧ (s.p = none → s.cap = 0) ∧ ∀ p, s.p = some p → ∀ i, i < s.cap → ∃ cs, cs.length = 1 ∧ (∀ j, j < 1 → h.get p.b (p.o + i * 1 + j) = cs[j]?) ∧ Fits h (.int k) cs) :
    s.len ≤ 9223372036854775807 ∧ ∀ i, i < s.len → ∃ p v, s.p = some p ∧ h.get p.b (p.o + i) = some (.int k v) ∧ (Lit.int k v).wf = true := by
  obtain ⟨h1, h2, h3, h4⟩ := f
  refine ⟨Nat.le_trans h1 h2, fun i hi => ?_⟩
  cases hp : s.p with
  | none => have := h3 hp; omega
  | some p =>
    obtain ⟨cs, _, hg, n, rfl, hw⟩ := h4 p hp i (by omega)
    exact ⟨p, n, rfl, by have := hg 0 (by omega); simpa using this, hw⟩

theorem wf_u8 {n : Int} (h : (Lit.int .u8 n).wf = true) : 0 ≤ n ∧ n ≤ 255 := by
  simpa [Lit.wf, IntKind.min, IntKind.max, IntKind.signed, IntKind.bits] using h

theorem bytes_of {h : Heap} {s : Sl} (f : s.len ≤ s.cap ∧ s.cap ≤ maxLen ∧ (s.p = none → s.cap = 0) ∧ ∀ p, s.p = some p → ∀ i, i < s.cap → ∃ cs, cs.length = 1 ∧ (∀ j, j < 1 → h.get p.b (p.o + i * 1 + j) = cs[j]?) ∧ Fits h (.int .u8) cs) :
    ∃ x : List UInt8, Held h s 1 (strCells x) ∧ x.length = s.len ∧ x.length ≤ 9223372036854775807 := by
  obtain ⟨hl, hi⟩ := ints_of f
  have key : ∀ n, n ≤ s.len → ∃ x : List UInt8, x.length = n ∧ ∀ p, s.p = some p → ∀ i v, (strCells x)[i]? = some v → h.get p.b (p.o + i) = some v := by
    intro n
    induction n with
    | zero => intro _; exact ⟨[], rfl, fun p _ i v hv => by cases hv⟩
    | succ n ih =>
      intro hn
      obtain ⟨x, hx, hr⟩ := ih (by omega)
      obtain ⟨p, v, hp, hv, hw⟩ := hi n (by omega)
      have hb := wf_u8 hw
      refine ⟨x ++ [UInt8.ofNat v.toNat], by simp [hx], fun p' hp' i v' hv' => ?_⟩
      rw [hp] at hp'; cases hp'
      rw [strCells_append] at hv'
      rcases Nat.lt_or_ge i (strCells x).length with h | h
      · rw [List.getElem?_append_left h] at hv'; exact hr p hp i v' hv'
      · rw [List.getElem?_append_right h] at hv'
        rw [strCells_length] at h hv'
        have hin : i = n := by
          rcases Nat.lt_or_ge (i - x.length) 1 with h1 | h1
          · omega
          · rw [List.getElem?_eq_none (by rw [strCells_length]; exact h1)] at hv'; cases hv'
        subst hin
        rw [hx, Nat.sub_self] at hv'
        have : v' = V.int .u8 v := by
          simp [strCells] at hv'
          rw [← hv']
          congr 1
          omega
        rw [this]; exact hv
  obtain ⟨x, hx, hr⟩ := key s.len (Nat.le_refl _)
  refine ⟨x, ⟨by rw [strCells_length, hx]; simp, hr, fun hn => ?_⟩, hx, by omega⟩
  obtain ⟨h1, h2, h3, h4⟩ := f
  have := h3 hn; omega

end Go.Lift
