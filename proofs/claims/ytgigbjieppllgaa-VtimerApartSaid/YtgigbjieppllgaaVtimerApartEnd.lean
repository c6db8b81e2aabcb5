/- VtimerApart: the plain law joined to its row. PRINTED by law.py. -/
import Derived.Test.YtgigbjieppllgaaVtimerApart
import Derived.Test.YtgigbjieppllgaaArgKit
import Derived.Test.YtgigbjieppllgaaGb
import Derived.Test.YtgigbjieppllgaaLiftO
import Derived.Test.YtgigbjieppllgaaRows
import Derived.ProofKit
set_option linter.unusedVariables false
set_option maxRecDepth 100000
namespace Go.Proofs.Ytgigbjieppllgaa.vtimerApart
open Go.Lift Go.Fn Go.ChangeShapes Go.WideShapes Go.RowKit

theorem own : ownKnob Try.prog.godebug = none := by kernel_rfl
theorem laid : laidOutB Try.prog = true := by kernel_rfl

def d0 : DS := .slice 1 (.int .u64)
def d1 : DS := .int .i64

theorem lifted (os : Os) (started : os.Started) (H : Type) (enc : TypeId × Value → H) :
    ReturnsInHanded {} Try.checked os 3 .any (Rows.vtimerApartSpec.pre6 enc Try.prog Try.f3 Rows.vtimerApartRow.domain false) (Rows.vtimerApartSpec.post enc Try.prog Try.f3 false true false false) := by
  refine returnsInHanded_of_change (C := Try.checked) own started (by kernel_rfl) Try.func3
    (ChangeSpec.witness6 (enc := enc) (C := Try.checked) false ⟨#[], #[.slice none 0 0, .int .i64 0], []⟩ 8 (by kernel_rfl) (by kernel_rfl) (by kernel_rfl) (by kernel_rfl)) ?_
  intro W base args ds gs before hval0 hW hcnd _
  have hp : Try.f3.params = #[22, 3] := by kernel_rfl
  have hval : ∀ (j : Nat) t v, Try.f3.params[j]? = some t → args[j]? = some v → Value.okWide Try.prog W .any base t v := hval0
  have hW2 := hW
  obtain ⟨pp, qq, hA0, _⟩ := hW2
  have hA : DataW.TrodAll enc Try.prog W 0 (fun _ => true) true Try.f3.params.toList args.toList ds pp := hA0
  rw [hp] at hA hval
  obtain ⟨v0, vs0, e0, es0, p0, q0, hargs, rfl, rfl, h0, r0⟩ := trodAll_cons hA
  obtain ⟨v1, vs1, e1, es1, p1, q1, rfl, rfl, rfl, h1, r1⟩ := trodAll_cons r0
  obtain ⟨rfl, rfl, rfl⟩ := trodAll_nil r1
  obtain rfl : args = #[v0, v1] := by cases args; simp_all
  have ok0 := hval 0 22 v0 rfl rfl
  have ht0 : Try.prog.underlying 22 = some (.slice 27) := by kernel_rfl
  obtain ⟨l0, hl0, o0, f0⟩ := arg_fits (σ := sg) (ds := d0) (by kernel_rfl) h0 (.inr (noSpot_of_okWide ht0 ok0))
  obtain ⟨x0, rfl, f0⟩ := f0
  have hv0 : v0 = V.val sg (.sl x0) := by
    have hc := okWide_leaf (P := Try.prog) (t := 22) (by kernel_rfl) ok0 h0
    rw [hc] at hl0; simpa [V.vals] using hl0
  have ok1 := hval 1 3 v1 rfl rfl
  obtain ⟨l1, hl1, o1, f1⟩ := arg_fits (σ := sg) (ds := d1) (by kernel_rfl) h1 (.inl (by kernel_rfl))
  obtain ⟨x1, rfl, f1⟩ := f1
  have hv1 : v1 = V.val sg (.int .i64 x1) := by
    have hc := okWide_leaf (P := Try.prog) (t := 3) (by kernel_rfl) ok1 h1
    rw [hc] at hl1; simpa [V.vals] using hl1
  subst hv0
  subst hv1
  refine law_calls (C := palisadelaw21_VtimerApart.C) (g := 333) (f := 3) palisadelaw21_VtimerApart.S (by kernel_rfl) palisadelaw21_VtimerApart.fun (fn := Try.f3) (s := Rows.vtimerApartSpec) (tb := 4) hW rfl laid (by kernel_rfl) rfl (by kernel_rfl) (by kernel_rfl) [.sl x0, .int .i64 x1] (by simp [V.vals]) ?_ ?_
  · intro v hv
    simp only [List.mem_cons, List.not_mem_nil, or_false] at hv
    rcases hv with rfl | rfl <;> first | exact V.wf_one rfl | assumption
  · simp only [palisadelaw21_VtimerApart.C]; exact Go.Vtimer.apart x0 x1 _ (fun i hi => by obtain ⟨p, v, h1, h2, _⟩ := (ints_of f0).2 i hi; exact ⟨p, v, h1, h2⟩) _ (fun _ => rfl)

theorem proved : Rows.VtimerApartSaid :=
  OpenClaim.holds_of_wide 3 Try.f3 rfl rfl rfl rfl rfl rfl rfl ⟨rfl, rfl, rfl, rfl, rfl⟩ rfl rfl rfl rfl rfl (by kernel_rfl) Try.func3 (by kernel_rfl)
    (of_decide_eq_true (by kernel_rfl)) (by unfold Func.isWrapper; first | (rw [if_pos (by decide +kernel)]; kernel_rfl) | (rw [if_neg (by decide +kernel)]; exact ⟨rfl, rfl⟩))
    (fun os started H enc _ => lifted os started H enc)
#print axioms proved
end Go.Proofs.Ytgigbjieppllgaa.vtimerApart
