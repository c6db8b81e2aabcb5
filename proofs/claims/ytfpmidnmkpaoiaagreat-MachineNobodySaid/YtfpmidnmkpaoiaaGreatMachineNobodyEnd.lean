/- MachineNobody: the plain law joined to its row. PRINTED by law.py. -/
import Derived.Test.YtfpmidnmkpaoiaaGreatMachineNobody
import Derived.Test.YtfpmidnmkpaoiaaGreatGb
import Derived.Test.YtfpmidnmkpaoiaaGreatLiftO
import Derived.Test.YtfpmidnmkpaoiaaGreatRows
import Derived.ProofKit
set_option linter.unusedVariables false
set_option maxRecDepth 100000
namespace Go.Proofs.YtfpmidnmkpaoiaaGreat.machineNobody
open Go.Lift Go.Fn Go.ChangeShapes Go.WideShapes Go.RowKit

theorem own : ownKnob Tryz.prog.godebug = none := by kernel_rfl
theorem laid : laidOutB Tryz.prog = true := by kernel_rfl

def d0 : DS := .struct (.cons 0 1 (.int .i64) (.cons 1 1 (.int .i64) (.cons 2 1 (.int .i64) (.cons 3 1 (.int .u64) (.cons 4 1 (.int .u64) .nil)))))

theorem lifted (os : Os) (started : os.Started) (H : Type) (enc : TypeId × Value → H) :
    ReturnsInHanded {} Tryz.checked os 3 .any (Rows.machineNobodySpec.pre6 enc Tryz.prog Tryz.f3 Rows.machineNobodyRow.domain false) (Rows.machineNobodySpec.post enc Tryz.prog Tryz.f3 false true false false) := by
  refine returnsInHanded_of_change (C := Tryz.checked) own started (by kernel_rfl) Tryz.func3
    (ChangeSpec.witness6 (enc := enc) (C := Tryz.checked) false ⟨#[], #[.agg #[.int .i64 0, .int .i64 0, .int .i64 0, .int .u64 0, .int .u64 0]], []⟩ 8 (by kernel_rfl) (by kernel_rfl) (by kernel_rfl) (by kernel_rfl)) ?_
  intro W base args ds gs before hval0 hW hcnd _
  have hp : Tryz.f3.params = #[24] := by kernel_rfl
  have hval : ∀ (j : Nat) t v, Tryz.f3.params[j]? = some t → args[j]? = some v → Value.okWide Tryz.prog W .any base t v := hval0
  have hW2 := hW
  obtain ⟨pp, qq, hA0, _⟩ := hW2
  have hA : DataW.TrodAll enc Tryz.prog W 0 (fun _ => true) true Tryz.f3.params.toList args.toList ds pp := hA0
  rw [hp] at hA hval
  obtain ⟨v0, vs0, e0, es0, p0, q0, hargs, rfl, rfl, h0, r0⟩ := trodAll_cons hA
  obtain ⟨rfl, rfl, rfl⟩ := trodAll_nil r0
  obtain rfl : args = #[v0] := by cases args; simp_all
  have ok0 := hval 0 24 v0 rfl rfl
  obtain ⟨l0, hl0, o0, f0⟩ := arg_fits (σ := sg) (ds := d0) (by kernel_rfl) h0 (.inl (by kernel_rfl))
  obtain ⟨c0, rfl, hc0⟩ := okWide_agg_len (P := Tryz.prog) (t := 24) (by kernel_rfl) ok0
  have hv0 : Value.agg c0 = V.val sg (.agg l0) := by show Value.agg c0 = .agg (V.vals sg l0).toArray; rw [← hl0]; simp [Value.cells]
  have hn0 : l0.length = 5 := by
    have h1 : Tryz.prog.cellsOf 24 = 5 := by kernel_rfl
    have h2 : (V.vals sg l0).length = 5 := by rw [← hl0]; simp [Value.cells, hc0, h1]
    rw [vals_map, List.length_map] at h2; exact h2
  obtain ⟨y0_0, y0_1, y0_2, y0_3, y0_4, rfl⟩ : ∃ y0_0 y0_1 y0_2 y0_3 y0_4, l0 = [y0_0, y0_1, y0_2, y0_3, y0_4] := by
    match l0, hn0 with
    | [y0_0, y0_1, y0_2, y0_3, y0_4], _ => exact ⟨_, _, _, _, _, rfl⟩
  obtain ⟨⟨x0_0, g0_0, w0_0⟩, ⟨x0_1, g0_1, w0_1⟩, ⟨x0_2, g0_2, w0_2⟩, ⟨x0_3, g0_3, w0_3⟩, ⟨x0_4, g0_4, w0_4⟩, _⟩ := f0
  obtain rfl : y0_0 = _ := by simpa using g0_0
  obtain rfl : y0_1 = _ := by simpa using g0_1
  obtain rfl : y0_2 = _ := by simpa using g0_2
  obtain rfl : y0_3 = _ := by simpa using g0_3
  obtain rfl : y0_4 = _ := by simpa using g0_4
  refine law_calls (C := palisadelaw11_MachineNobody.C) (g := 144) (f := 3) palisadelaw11_MachineNobody.S (by kernel_rfl) palisadelaw11_MachineNobody.fun (fn := Tryz.f3) (s := Rows.machineNobodySpec) (tb := 4) hW rfl laid (by kernel_rfl) rfl (by kernel_rfl) (by kernel_rfl) [.agg [.int .i64 x0_0, .int .i64 x0_1, .int .i64 x0_2, .int .u64 x0_3, .int .u64 x0_4]] (by simp [V.vals, hv0]) ?_ ?_
  · intro v hv
    simp only [List.mem_cons, List.not_mem_nil, or_false] at hv
    rcases hv with rfl <;> first | exact V.wf_one rfl | assumption
  · exact Go.Machine.nobody _ _ _ _ _ _ _ (fun _ => rfl)

theorem proved : Rows.MachineNobodySaid :=
  OpenClaim.holds_of_wide 3 Tryz.f3 rfl rfl rfl rfl rfl rfl rfl ⟨rfl, rfl, rfl, rfl, rfl⟩ rfl rfl rfl rfl rfl (by kernel_rfl) Tryz.func3 (by kernel_rfl)
    (of_decide_eq_true (by kernel_rfl)) (by unfold Func.isWrapper; first | (rw [if_pos (by decide +kernel)]; kernel_rfl) | (rw [if_neg (by decide +kernel)]; exact ⟨rfl, rfl⟩))
    (fun os started H enc _ => lifted os started H enc)
#print axioms proved
end Go.Proofs.YtfpmidnmkpaoiaaGreat.machineNobody
