/- DiskOrder: the plain law joined to its row. PRINTED by law.py. -/
import Derived.Test.YtlnigofbpnehlaaDiskU
import Derived.Test.YtlnigofbpnehlaaDiskOrder
import Derived.Test.YtlnigofbpnehlaaArgKit
import Derived.Test.YtlnigofbpnehlaaGb
import Derived.Test.YtlnigofbpnehlaaLiftO
import Derived.Test.YtlnigofbpnehlaaRows
import Derived.Test.YtlnigofbpnehlaaGc
import Derived.ProofKit
set_option linter.unusedVariables false
set_option maxRecDepth 100000
namespace Go.Proofs.Ytlnigofbpnehlaa.diskOrder
open Go.Lift Go.Fn Go.ChangeShapes Go.WideShapes Go.RowKit

theorem own : ownKnob Try.prog.godebug = none := by kernel_rfl
theorem laid : laidOutB Try.prog = true := by kernel_rfl

def d0 : DS := .slice 1 (.int .i64)

theorem lifted (os : Os) (started : os.Started) (H : Type) (enc : TypeId × Value → H) :
    ReturnsInHanded {} Try.checked os 8 .any (Rows.diskOrderSpec.pre6 enc Try.prog Try.f8 Rows.diskOrderRow.domain false) (Rows.diskOrderSpec.post enc Try.prog Try.f8 false true false false) := by
  refine returnsInHanded_of_change (C := Try.checked) own started (by kernel_rfl) Try.func8
    (ChangeSpec.witness6 (enc := enc) (C := Try.checked) false ⟨#[], #[.slice none 0 0], []⟩ 8 (by kernel_rfl) (by kernel_rfl) (by kernel_rfl) (by kernel_rfl)) ?_
  intro W base args ds gs before hval0 hW hcnd _
  have hp : Try.f8.params = #[82] := by kernel_rfl
  have hval : ∀ (j : Nat) t v, Try.f8.params[j]? = some t → args[j]? = some v → Value.okWide Try.prog W .any base t v := hval0
  have hW2 := hW
  obtain ⟨pp, qq, hA0, _⟩ := hW2
  have hA : DataW.TrodAll enc Try.prog W 0 (fun _ => true) true Try.f8.params.toList args.toList ds pp := hA0
  rw [hp] at hA hval
  obtain ⟨v0, vs0, e0, es0, p0, q0, hargs, rfl, rfl, h0, r0⟩ := trodAll_cons hA
  obtain ⟨rfl, rfl, rfl⟩ := trodAll_nil r0
  obtain rfl : args = #[v0] := by cases args; simp_all
  have ok0 := hval 0 82 v0 rfl rfl
  have ht0 : Try.prog.underlying 82 = some (.slice 3) := by kernel_rfl
  obtain ⟨l0, hl0, o0, f0⟩ := arg_fits (σ := sg) (ds := d0) (by kernel_rfl) h0 (.inr (noSpot_of_okWide ht0 ok0))
  obtain ⟨x0, rfl, f0⟩ := f0
  have hv0 : v0 = V.val sg (.sl x0) := by
    have hc := okWide_leaf (P := Try.prog) (t := 82) (by kernel_rfl) ok0 h0
    rw [hc] at hl0; simpa [V.vals] using hl0
  subst hv0
  refine law_calls (C := palisadelaw12_DiskOrder.C U3) (g := 90) (f := 8) (palisadelaw12_DiskOrder.S U3.ok) (by kernel_rfl) palisadelaw12_DiskOrder.fun (fn := Try.f8) (s := Rows.diskOrderSpec) (tb := 4) hW rfl laid (by kernel_rfl) rfl (by kernel_rfl) (by kernel_rfl) [.sl x0] (by simp [V.vals]) ?_ ?_
  · intro v hv
    simp only [List.mem_cons, List.not_mem_nil, or_false] at hv
    rcases hv with rfl <;> first | exact V.wf_one rfl | assumption
  · exact Go.Disk.order Go.Disk.duU x0 _ (fun i hi => by obtain ⟨p, v, h1, h2, _⟩ := (ints_of f0).2 i hi; exact ⟨p, v, h1, h2⟩) (ints_of f0).1 _ (fun _ => rfl)

theorem proved : Rows.DiskOrderSaid :=
  OpenClaim.holds_of_wide 8 Try.f8 rfl rfl rfl rfl rfl rfl rfl ⟨rfl, rfl, rfl, rfl, rfl⟩ rfl rfl rfl rfl rfl (by kernel_rfl) Try.func8 (by kernel_rfl)
    (of_decide_eq_true (by kernel_rfl)) (by unfold Func.isWrapper; first | (rw [if_pos (by decide +kernel)]; kernel_rfl) | (rw [if_neg (by decide +kernel)]; exact ⟨rfl, rfl⟩))
    (fun os started H enc _ => lifted os started H enc)
#print axioms proved
end Go.Proofs.Ytlnigofbpnehlaa.diskOrder
