/- BackendNobody: the plain law joined to its row. PRINTED by law.py. -/
import Derived.Test.YtkfgkcdehmjmcaaBackNobody
import Derived.Test.YtkfgkcdehmjmcaaGb
import Derived.Test.YtkfgkcdehmjmcaaLiftO
import Derived.Test.YtkfgkcdehmjmcaaRows
import Derived.Test.YtkfgkcdehmjmcaaGc
import Derived.ProofKit
set_option linter.unusedVariables false
set_option maxRecDepth 100000
namespace Go.Proofs.Ytkfgkcdehmjmcaa.backendNobody
open Go.Lift Go.Fn Go.ChangeShapes Go.WideShapes Go.RowKit

theorem own : ownKnob Try.prog.godebug = none := by kernel_rfl
theorem laid : laidOutB Try.prog = true := by kernel_rfl

def d0 : DS := .int .i64

theorem lifted (os : Os) (started : os.Started) (H : Type) (enc : TypeId × Value → H) :
    ReturnsInHanded {} Try.checked os 3 .any (Rows.backendNobodySpec.pre6 enc Try.prog Try.f3 Rows.backendNobodyRow.domain false) (Rows.backendNobodySpec.post enc Try.prog Try.f3 false true false false) := by
  refine returnsInHanded_of_change (C := Try.checked) own started (by kernel_rfl) Try.func3
    (ChangeSpec.witness6 (enc := enc) (C := Try.checked) false ⟨#[], #[.int .i64 0], []⟩ 8 (by kernel_rfl) (by kernel_rfl) (by kernel_rfl) (by kernel_rfl)) ?_
  intro W base args ds gs before hval0 hW hcnd _
  have hp : Try.f3.params = #[3] := by kernel_rfl
  have hval : ∀ (j : Nat) t v, Try.f3.params[j]? = some t → args[j]? = some v → Value.okWide Try.prog W .any base t v := hval0
  have hW2 := hW
  obtain ⟨pp, qq, hA0, _⟩ := hW2
  have hA : DataW.TrodAll enc Try.prog W 0 (fun _ => true) true Try.f3.params.toList args.toList ds pp := hA0
  rw [hp] at hA hval
  obtain ⟨v0, vs0, e0, es0, p0, q0, hargs, rfl, rfl, h0, r0⟩ := trodAll_cons hA
  obtain ⟨rfl, rfl, rfl⟩ := trodAll_nil r0
  obtain rfl : args = #[v0] := by cases args; simp_all
  have ok0 := hval 0 3 v0 rfl rfl
  obtain ⟨l0, hl0, o0, f0⟩ := arg_fits (σ := sg) (ds := d0) (by kernel_rfl) h0 (.inl (by kernel_rfl))
  obtain ⟨x0, rfl, f0⟩ := f0
  have hv0 : v0 = V.val sg (.int .i64 x0) := by
    have hc := okWide_leaf (P := Try.prog) (t := 3) (by kernel_rfl) ok0 h0
    rw [hc] at hl0; simpa [V.vals] using hl0
  subst hv0
  refine law_calls (C := palisadelaw24_BackendNobody.C U3) (g := 286) (f := 3) (palisadelaw24_BackendNobody.S U3.ok) (by kernel_rfl) palisadelaw24_BackendNobody.fun (fn := Try.f3) (s := Rows.backendNobodySpec) (tb := 4) hW rfl laid (by kernel_rfl) rfl (by kernel_rfl) (by kernel_rfl) [.int .i64 x0] (by simp [V.vals]) ?_ ?_
  · intro v hv
    simp only [List.mem_cons, List.not_mem_nil, or_false] at hv
    rcases hv with rfl <;> first | exact V.wf_one rfl | assumption
  · simp only [palisadelaw24_BackendNobody.C]; exact Go.Back.nobody x0 (fun _ => rfl)

theorem proved : Rows.BackendNobodySaid :=
  OpenClaim.holds_of_wide 3 Try.f3 rfl rfl rfl rfl rfl rfl rfl ⟨rfl, rfl, rfl, rfl, rfl⟩ rfl rfl rfl rfl rfl (by kernel_rfl) Try.func3 (by kernel_rfl)
    (of_decide_eq_true (by kernel_rfl)) (by unfold Func.isWrapper; first | (rw [if_pos (by decide +kernel)]; kernel_rfl) | (rw [if_neg (by decide +kernel)]; exact ⟨rfl, rfl⟩))
    (fun os started H enc _ => lifted os started H enc)
#print axioms proved
end Go.Proofs.Ytkfgkcdehmjmcaa.backendNobody
