/- VtimerOnce: the plain law joined to its row. PRINTED by law.py. -/
import Derived.Test.YtfpmidnmkpaoiaaVtimerOnce
import Derived.Test.YtfpmidnmkpaoiaaArgKit
import Derived.Test.YtfpmidnmkpaoiaaGb
import Derived.Test.YtfpmidnmkpaoiaaLiftO
import Derived.Test.YtfpmidnmkpaoiaaRows
import Derived.ProofKit
set_option linter.unusedVariables false
set_option maxRecDepth 100000
namespace Go.Proofs.Ytfpmidnmkpaoiaa.vtimerOnce
open Go.Lift Go.Fn Go.ChangeShapes Go.WideShapes Go.RowKit

theorem own : ownKnob Try.prog.godebug = none := by kernel_rfl
theorem laid : laidOutB Try.prog = true := by kernel_rfl

def d0 : DS := .int .u64
def d1 : DS := .int .u64
def d2 : DS := .slice 1 (.int .u64)

theorem lifted (os : Os) (started : os.Started) (H : Type) (enc : TypeId × Value → H) :
    ReturnsInHanded {} Try.checked os 3 .any (Rows.vtimerOnceSpec.pre6 enc Try.prog Try.f3 Rows.vtimerOnceRow.domain false) (Rows.vtimerOnceSpec.post enc Try.prog Try.f3 false true false false) := by
  refine returnsInHanded_of_change (C := Try.checked) own started (by kernel_rfl) Try.func3
    (ChangeSpec.witness6 (enc := enc) (C := Try.checked) false ⟨#[], #[.int .u64 0, .int .u64 0, .slice none 0 0], []⟩ 8 (by kernel_rfl) (by kernel_rfl) (by kernel_rfl) (by kernel_rfl)) ?_
  intro W base args ds gs before hval0 hW hcnd _
  have hp : Try.f3.params = #[22, 22, 23] := by kernel_rfl
  have hval : ∀ (j : Nat) t v, Try.f3.params[j]? = some t → args[j]? = some v → Value.okWide Try.prog W .any base t v := hval0
  have hW2 := hW
  obtain ⟨pp, qq, hA0, _⟩ := hW2
  have hA : DataW.TrodAll enc Try.prog W 0 (fun _ => true) true Try.f3.params.toList args.toList ds pp := hA0
  rw [hp] at hA hval
  obtain ⟨v0, vs0, e0, es0, p0, q0, hargs, rfl, rfl, h0, r0⟩ := trodAll_cons hA
  obtain ⟨v1, vs1, e1, es1, p1, q1, rfl, rfl, rfl, h1, r1⟩ := trodAll_cons r0
  obtain ⟨v2, vs2, e2, es2, p2, q2, rfl, rfl, rfl, h2, r2⟩ := trodAll_cons r1
  obtain ⟨rfl, rfl, rfl⟩ := trodAll_nil r2
  obtain rfl : args = #[v0, v1, v2] := by cases args; simp_all
  have ok0 := hval 0 22 v0 rfl rfl
  obtain ⟨l0, hl0, o0, f0⟩ := arg_fits (σ := sg) (ds := d0) (by kernel_rfl) h0 (.inl (by kernel_rfl))
  obtain ⟨x0, rfl, f0⟩ := f0
  have hv0 : v0 = V.val sg (.int .u64 x0) := by
    have hc := okWide_leaf (P := Try.prog) (t := 22) (by kernel_rfl) ok0 h0
    rw [hc] at hl0; simpa [V.vals] using hl0
  have ok1 := hval 1 22 v1 rfl rfl
  obtain ⟨l1, hl1, o1, f1⟩ := arg_fits (σ := sg) (ds := d1) (by kernel_rfl) h1 (.inl (by kernel_rfl))
  obtain ⟨x1, rfl, f1⟩ := f1
  have hv1 : v1 = V.val sg (.int .u64 x1) := by
    have hc := okWide_leaf (P := Try.prog) (t := 22) (by kernel_rfl) ok1 h1
    rw [hc] at hl1; simpa [V.vals] using hl1
  have ok2 := hval 2 23 v2 rfl rfl
  have ht2 : Try.prog.underlying 23 = some (.slice 22) := by kernel_rfl
  obtain ⟨l2, hl2, o2, f2⟩ := arg_fits (σ := sg) (ds := d2) (by kernel_rfl) h2 (.inr (noSpot_of_okWide ht2 ok2))
  obtain ⟨x2, rfl, f2⟩ := f2
  have hv2 : v2 = V.val sg (.sl x2) := by
    have hc := okWide_leaf (P := Try.prog) (t := 23) (by kernel_rfl) ok2 h2
    rw [hc] at hl2; simpa [V.vals] using hl2
  subst hv0
  subst hv1
  subst hv2
  refine law_calls (C := palisadelaw21_VtimerOnce.C) (g := 101) (f := 3) palisadelaw21_VtimerOnce.S (by kernel_rfl) palisadelaw21_VtimerOnce.fun (fn := Try.f3) (s := Rows.vtimerOnceSpec) (tb := 4) hW rfl laid (by kernel_rfl) rfl (by kernel_rfl) (by kernel_rfl) [.int .u64 x0, .int .u64 x1, .sl x2] (by simp [V.vals]) ?_ ?_
  · intro v hv
    simp only [List.mem_cons, List.not_mem_nil, or_false] at hv
    rcases hv with rfl | rfl | rfl <;> first | exact V.wf_one rfl | assumption
  · exact Go.Vtimer.once x0 x1 x2 _ (fun i hi => by obtain ⟨p, v, h1, h2, _⟩ := (ints_of f2).2 i hi; exact ⟨p, v, h1, h2⟩) _ (fun _ => rfl)

theorem proved : Rows.VtimerOnceSaid :=
  OpenClaim.holds_of_wide 3 Try.f3 rfl rfl rfl rfl rfl rfl rfl ⟨rfl, rfl, rfl, rfl, rfl⟩ rfl rfl rfl rfl rfl (by kernel_rfl) Try.func3 (by kernel_rfl)
    (of_decide_eq_true (by kernel_rfl)) (by unfold Func.isWrapper; first | (rw [if_pos (by decide +kernel)]; kernel_rfl) | (rw [if_neg (by decide +kernel)]; exact ⟨rfl, rfl⟩))
    (fun os started H enc _ => lifted os started H enc)
#print axioms proved
end Go.Proofs.Ytfpmidnmkpaoiaa.vtimerOnce
