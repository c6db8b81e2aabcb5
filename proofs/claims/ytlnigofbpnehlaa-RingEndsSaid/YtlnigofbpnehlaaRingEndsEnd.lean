/- RingEnds: the plain law joined to its row. PRINTED by law.py. -/
import Derived.Test.YtlnigofbpnehlaaRingU
import Derived.Test.YtlnigofbpnehlaaRingEnds
import Derived.Test.YtlnigofbpnehlaaArgKit
import Derived.Test.YtlnigofbpnehlaaGlobKit
import Derived.Test.YtlnigofbpnehlaaGb
import Derived.Test.YtlnigofbpnehlaaLiftO
import Derived.Test.YtlnigofbpnehlaaRows
import Derived.Test.YtlnigofbpnehlaaGc
import Derived.ProofKit
set_option linter.unusedVariables false
set_option maxRecDepth 100000
namespace Go.Proofs.Ytlnigofbpnehlaa.ringEnds
open Go.Lift Go.Fn Go.ChangeShapes Go.WideShapes Go.RowKit

theorem own : ownKnob Try.prog.godebug = none := by kernel_rfl
theorem laid : laidOutB Try.prog = true := by kernel_rfl

def d0 : DS := .slice 1 (.int .u8)
def d1 : DS := .int .i64
def d2 : DS := .int .u64

theorem lifted (os : Os) (started : os.Started) (H : Type) (enc : TypeId × Value → H) :
    ReturnsInHanded {} Try.checked os 12 .any (Rows.ringEndsSpec.pre6 enc Try.prog Try.f12 Rows.ringEndsRow.domain false) (Rows.ringEndsSpec.post enc Try.prog Try.f12 false true false false) := by
  refine returnsInHanded_of_change_shaped (C := Try.checked) own started (by kernel_rfl) Try.func12
    (ChangeSpec.witness6 (enc := enc) (C := Try.checked) false ⟨#[], #[.slice none 0 0, .int .i64 0, .int .u64 0], []⟩ 8 (by kernel_rfl) (by kernel_rfl) (by kernel_rfl) (by kernel_rfl)) ?_
  intro W base args ds gs before hval0 hW hcnd _ hsh _
  have hp : Try.f12.params = #[62, 3, 70] := by kernel_rfl
  have hval : ∀ (j : Nat) t v, Try.f12.params[j]? = some t → args[j]? = some v → Value.okWide Try.prog W .any base t v := hval0
  have hW2 := hW
  obtain ⟨pp, qq, hA0, _⟩ := hW2
  have hA : DataW.TrodAll enc Try.prog W 0 (fun _ => true) true Try.f12.params.toList args.toList ds pp := hA0
  rw [hp] at hA hval
  obtain ⟨v0, vs0, e0, es0, p0, q0, hargs, rfl, rfl, h0, r0⟩ := trodAll_cons hA
  obtain ⟨v1, vs1, e1, es1, p1, q1, rfl, rfl, rfl, h1, r1⟩ := trodAll_cons r0
  obtain ⟨v2, vs2, e2, es2, p2, q2, rfl, rfl, rfl, h2, r2⟩ := trodAll_cons r1
  obtain ⟨rfl, rfl, rfl⟩ := trodAll_nil r2
  obtain rfl : args = #[v0, v1, v2] := by cases args; simp_all
  have ok0 := hval 0 62 v0 rfl rfl
  have ht0 : Try.prog.underlying 62 = some (.slice 5) := by kernel_rfl
  obtain ⟨l0, hl0, o0, f0⟩ := arg_fits (σ := sg) (ds := d0) (by kernel_rfl) h0 (.inr (noSpot_of_okWide ht0 ok0))
  obtain ⟨x0, rfl, f0⟩ := f0
  have hv0 : v0 = V.val sg (.sl x0) := by
    have hc := okWide_leaf (P := Try.prog) (t := 62) (by kernel_rfl) ok0 h0
    rw [hc] at hl0; simpa [V.vals] using hl0
  have ok1 := hval 1 3 v1 rfl rfl
  obtain ⟨l1, hl1, o1, f1⟩ := arg_fits (σ := sg) (ds := d1) (by kernel_rfl) h1 (.inl (by kernel_rfl))
  obtain ⟨x1, rfl, f1⟩ := f1
  have hv1 : v1 = V.val sg (.int .i64 x1) := by
    have hc := okWide_leaf (P := Try.prog) (t := 3) (by kernel_rfl) ok1 h1
    rw [hc] at hl1; simpa [V.vals] using hl1
  have ok2 := hval 2 70 v2 rfl rfl
  obtain ⟨l2, hl2, o2, f2⟩ := arg_fits (σ := sg) (ds := d2) (by kernel_rfl) h2 (.inl (by kernel_rfl))
  obtain ⟨x2, rfl, f2⟩ := f2
  have hv2 : v2 = V.val sg (.int .u64 x2) := by
    have hc := okWide_leaf (P := Try.prog) (t := 70) (by kernel_rfl) ok2 h2
    rw [hc] at hl2; simpa [V.vals] using hl2
  subst hv0
  subst hv1
  subst hv2
  refine law_calls (C := palisadelaw23_RingEnds.C U3) (g := 80) (f := 12) (palisadelaw23_RingEnds.S U3.ok) (by kernel_rfl) palisadelaw23_RingEnds.fun (fn := Try.f12) (s := Rows.ringEndsSpec) (tb := 4) hW rfl laid (by kernel_rfl) rfl (by kernel_rfl) (by kernel_rfl) [.sl x0, .int .i64 x1, .int .u64 x2] (by simp [V.vals]) ?_ ?_
  · intro v hv
    simp only [List.mem_cons, List.not_mem_nil, or_false] at hv
    rcases hv with rfl | rfl | rfl <;> first | exact V.wf_one rfl | assumption
  · obtain ⟨z, H, h1, h2⟩ := bytes_of f0; obtain ⟨x, w⟩ := glob_ints (P := Try.prog) hsh (g := 0) (t := 46) (n := 4) (u := 3) (k := .i64) (zero := #[.int .i64 0, .int .i64 0, .int .i64 0, .int .i64 0]) (by decide +kernel) (by kernel_rfl) rfl (by kernel_rfl) (by kernel_rfl) (by kernel_rfl); exact Go.Ring.ends Go.Ring.ruU (x := x) (fun i hi => w i hi) x0 x1 x2 H f0.1 _ (fun _ => rfl)

theorem proved : Rows.RingEndsSaid :=
  OpenClaim.holds_of_wide 12 Try.f12 rfl rfl rfl rfl rfl rfl rfl ⟨rfl, rfl, rfl, rfl, rfl⟩ rfl rfl rfl rfl rfl (by kernel_rfl) Try.func12 (by kernel_rfl)
    (of_decide_eq_true (by kernel_rfl)) (by unfold Func.isWrapper; first | (rw [if_pos (by decide +kernel)]; kernel_rfl) | (rw [if_neg (by decide +kernel)]; exact ⟨rfl, rfl⟩))
    (fun os started H enc _ => lifted os started H enc)
#print axioms proved
end Go.Proofs.Ytlnigofbpnehlaa.ringEnds
