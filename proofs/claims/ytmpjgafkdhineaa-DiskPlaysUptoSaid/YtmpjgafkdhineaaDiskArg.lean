/- What the acts of DiskPlays' argument are. -/
import Derived.Test.YtmpjgafkdhineaaDiskPlays
import Derived.Test.YtmpjgafkdhineaaUptoB
set_option linter.unusedSimpArgs false
set_option linter.unusedVariables false
set_option maxRecDepth 100000
namespace Go.Disk
open Go.Lift Go.Fn

def dReq : DS := .struct (.cons 0 1 (.int .i64) (.cons 1 1 .bool (.cons 2 1 (.int .i64) (.cons 3 1 (.int .i64) .nil))))
def dAct : DS := .struct (.cons 0 1 (.int .i64) (.cons 1 4 dReq (.cons 5 1 (.int .i64) (.cons 6 1 (.slice 1 (.int .u8)) .nil))))

theorem at_of {cs : List V} {o : Nat} {v : V} (h : (cs.drop o).take 1 = [v]) : cs[o]? = some v := by
  have := congrArg (fun l => l[0]?) h
  rw [List.getElem?_take_of_lt (by omega), List.getElem?_drop] at this
  simpa using this

theorem acts_of {h0 : Heap} {s : Sl} (f : s.len ≤ s.cap ∧ s.cap ≤ maxLen ∧ (s.p = none → s.cap = 0) ∧ ∀ p, s.p = some p → ∀ i, i < s.cap → ∃ cs, cs.length = 7 ∧ (∀ j, j < 7 → h0.get p.b (p.o + i * 7 + j) = cs[j]?) ∧ Fits h0 dAct cs)
    (g : Small h0 1048576 (.slice 7 dAct) [.sl s]) : ∀ i, i < s.len → ActAt h0 s i := by
  intro i hi
  obtain ⟨h1, h2, h3, h4⟩ := f
  obtain ⟨p, hp⟩ : ∃ p, s.p = some p := by
    cases hp : s.p with
    | none => have := h3 hp; omega
    | some p => exact ⟨p, rfl⟩
  obtain ⟨cs, hl, hg, F⟩ := h4 p hp i (by omega)
  have S := (g s rfl).2.2 p hp i (by omega) cs hl hg
  simp only [dAct, dReq, Fits, FitsL] at F
  simp only [dAct, dReq, Small, SmallL] at S
  obtain ⟨⟨kd, e0, _⟩, ⟨⟨id, e1, _⟩, ⟨w, e2⟩, ⟨bl, e3, _⟩, ⟨fr, e4, _⟩, _⟩, ⟨K, e5, _⟩, ⟨sl, e6, fl⟩, _⟩ := F
  obtain ⟨_, _, _, S6, _⟩ := S
  have q : ∀ {j : Nat} {v : V}, ((List.take 4 (List.drop 1 cs)).drop j).take 1 = [v] → j < 4 → cs[j + 1]? = some v := by
    intro j v h hj
    have := at_of h
    rw [List.getElem?_take_of_lt hj, List.getElem?_drop] at this
    rw [Nat.add_comm]; exact this
  obtain ⟨x, H, hx, _⟩ := bytes_of fl
  have hlen := (S6 sl e6).1
  refine ⟨p, kd, ⟨id, w, bl, fr⟩, K, sl, x, hp, ?_, ?_, ?_, ?_, ?_, ?_, ?_, H, by omega⟩
  · have := hg 0 (by omega); rw [Nat.add_zero] at this; rw [this]; exact at_of e0
  · rw [hg 1 (by omega)]; exact q e1 (by omega)
  · rw [hg 2 (by omega)]; exact q e2 (by omega)
  · rw [hg 3 (by omega)]; exact q e3 (by omega)
  · rw [hg 4 (by omega)]; exact q e4 (by omega)
  · rw [hg 5 (by omega)]; exact at_of e5
  · rw [hg 6 (by omega)]; exact at_of e6

end Go.Disk
