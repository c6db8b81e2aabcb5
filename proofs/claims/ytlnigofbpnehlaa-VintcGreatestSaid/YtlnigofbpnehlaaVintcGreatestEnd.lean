/- VintcGreatest: the plain law joined to its row. PRINTED by law.py. -/
import Derived.Test.YtlnigofbpnehlaaVintcGreatest
import Derived.Test.YtlnigofbpnehlaaGb
import Derived.Test.YtlnigofbpnehlaaLiftO
import Derived.Test.YtlnigofbpnehlaaRows
import Derived.ProofKit
set_option linter.unusedVariables false
set_option maxRecDepth 100000
namespace Go.Proofs.Ytlnigofbpnehlaa.vintcGreatest
open Go.Lift Go.Fn Go.ChangeShapes Go.WideShapes Go.RowKit

theorem own : ownKnob Try.prog.godebug = none := by kernel_rfl
theorem laid : laidOutB Try.prog = true := by kernel_rfl

def d0 : DS := .arr 16 1 (.int .i64)
def d1 : DS := .int .i64
def d2 : DS := .int .i64

theorem lifted (os : Os) (started : os.Started) (H : Type) (enc : TypeId × Value → H) :
    ReturnsInHanded {} Try.checked os 4 .any (Rows.vintcGreatestSpec.pre6 enc Try.prog Try.f4 Rows.vintcGreatestRow.domain false) (Rows.vintcGreatestSpec.post enc Try.prog Try.f4 false true false false) := by
  refine returnsInHanded_of_change (C := Try.checked) own started (by kernel_rfl) Try.func4
    (ChangeSpec.witness6 (enc := enc) (C := Try.checked) false ⟨#[], #[.agg #[.int .i64 0, .int .i64 0, .int .i64 0, .int .i64 0, .int .i64 0, .int .i64 0, .int .i64 0, .int .i64 0, .int .i64 0, .int .i64 0, .int .i64 0, .int .i64 0, .int .i64 0, .int .i64 0, .int .i64 0, .int .i64 0], .int .i64 0, .int .i64 0], []⟩ 8 (by kernel_rfl) (by kernel_rfl) (by kernel_rfl) (by kernel_rfl)) ?_
  intro W base args ds gs before hval0 hW hcnd _
  have hp : Try.f4.params = #[37, 3, 3] := by kernel_rfl
  have hval : ∀ (j : Nat) t v, Try.f4.params[j]? = some t → args[j]? = some v → Value.okWide Try.prog W .any base t v := hval0
  have hW2 := hW
  obtain ⟨pp, qq, hA0, _⟩ := hW2
  have hA : DataW.TrodAll enc Try.prog W 0 (fun _ => true) true Try.f4.params.toList args.toList ds pp := hA0
  rw [hp] at hA hval
  obtain ⟨v0, vs0, e0, es0, p0, q0, hargs, rfl, rfl, h0, r0⟩ := trodAll_cons hA
  obtain ⟨v1, vs1, e1, es1, p1, q1, rfl, rfl, rfl, h1, r1⟩ := trodAll_cons r0
  obtain ⟨v2, vs2, e2, es2, p2, q2, rfl, rfl, rfl, h2, r2⟩ := trodAll_cons r1
  obtain ⟨rfl, rfl, rfl⟩ := trodAll_nil r2
  obtain rfl : args = #[v0, v1, v2] := by cases args; simp_all
  have ok0 := hval 0 37 v0 rfl rfl
  obtain ⟨l0, hl0, o0, f0⟩ := arg_fits (σ := sg) (ds := d0) (by kernel_rfl) h0 (.inl (by kernel_rfl))
  obtain ⟨c0, rfl, hc0⟩ := okWide_agg_len (P := Try.prog) (t := 37) (by kernel_rfl) ok0
  have hv0 : Value.agg c0 = V.val sg (.agg l0) := by show Value.agg c0 = .agg (V.vals sg l0).toArray; rw [← hl0]; simp [Value.cells]
  have hn0 : l0.length = 16 := by
    have h1 : Try.prog.cellsOf 37 = 16 := by kernel_rfl
    have h2 : (V.vals sg l0).length = 16 := by rw [← hl0]; simp [Value.cells, hc0, h1]
    rw [vals_map, List.length_map] at h2; exact h2
  obtain ⟨y0_0, y0_1, y0_2, y0_3, y0_4, y0_5, y0_6, y0_7, y0_8, y0_9, y0_10, y0_11, y0_12, y0_13, y0_14, y0_15, rfl⟩ : ∃ y0_0 y0_1 y0_2 y0_3 y0_4 y0_5 y0_6 y0_7 y0_8 y0_9 y0_10 y0_11 y0_12 y0_13 y0_14 y0_15, l0 = [y0_0, y0_1, y0_2, y0_3, y0_4, y0_5, y0_6, y0_7, y0_8, y0_9, y0_10, y0_11, y0_12, y0_13, y0_14, y0_15] := by
    match l0, hn0 with
    | [y0_0, y0_1, y0_2, y0_3, y0_4, y0_5, y0_6, y0_7, y0_8, y0_9, y0_10, y0_11, y0_12, y0_13, y0_14, y0_15], _ => exact ⟨_, _, _, _, _, _, _, _, _, _, _, _, _, _, _, _, rfl⟩
  obtain ⟨x0_0, g0_0, w0_0⟩ := f0.2 0 (by omega)
  obtain ⟨x0_1, g0_1, w0_1⟩ := f0.2 1 (by omega)
  obtain ⟨x0_2, g0_2, w0_2⟩ := f0.2 2 (by omega)
  obtain ⟨x0_3, g0_3, w0_3⟩ := f0.2 3 (by omega)
  obtain ⟨x0_4, g0_4, w0_4⟩ := f0.2 4 (by omega)
  obtain ⟨x0_5, g0_5, w0_5⟩ := f0.2 5 (by omega)
  obtain ⟨x0_6, g0_6, w0_6⟩ := f0.2 6 (by omega)
  obtain ⟨x0_7, g0_7, w0_7⟩ := f0.2 7 (by omega)
  obtain ⟨x0_8, g0_8, w0_8⟩ := f0.2 8 (by omega)
  obtain ⟨x0_9, g0_9, w0_9⟩ := f0.2 9 (by omega)
  obtain ⟨x0_10, g0_10, w0_10⟩ := f0.2 10 (by omega)
  obtain ⟨x0_11, g0_11, w0_11⟩ := f0.2 11 (by omega)
  obtain ⟨x0_12, g0_12, w0_12⟩ := f0.2 12 (by omega)
  obtain ⟨x0_13, g0_13, w0_13⟩ := f0.2 13 (by omega)
  obtain ⟨x0_14, g0_14, w0_14⟩ := f0.2 14 (by omega)
  obtain ⟨x0_15, g0_15, w0_15⟩ := f0.2 15 (by omega)
  obtain rfl : y0_0 = _ := by simpa using g0_0
  obtain rfl : y0_1 = _ := by simpa using g0_1
  obtain rfl : y0_2 = _ := by simpa using g0_2
  obtain rfl : y0_3 = _ := by simpa using g0_3
  obtain rfl : y0_4 = _ := by simpa using g0_4
  obtain rfl : y0_5 = _ := by simpa using g0_5
  obtain rfl : y0_6 = _ := by simpa using g0_6
  obtain rfl : y0_7 = _ := by simpa using g0_7
  obtain rfl : y0_8 = _ := by simpa using g0_8
  obtain rfl : y0_9 = _ := by simpa using g0_9
  obtain rfl : y0_10 = _ := by simpa using g0_10
  obtain rfl : y0_11 = _ := by simpa using g0_11
  obtain rfl : y0_12 = _ := by simpa using g0_12
  obtain rfl : y0_13 = _ := by simpa using g0_13
  obtain rfl : y0_14 = _ := by simpa using g0_14
  obtain rfl : y0_15 = _ := by simpa using g0_15
  have ok1 := hval 1 3 v1 rfl rfl
  obtain ⟨l1, hl1, o1, f1⟩ := arg_fits (σ := sg) (ds := d1) (by kernel_rfl) h1 (.inl (by kernel_rfl))
  obtain ⟨x1, rfl, f1⟩ := f1
  have hv1 : v1 = V.val sg (.int .i64 x1) := by
    have hc := okWide_leaf (P := Try.prog) (t := 3) (by kernel_rfl) ok1 h1
    rw [hc] at hl1; simpa [V.vals] using hl1
  have ok2 := hval 2 3 v2 rfl rfl
  obtain ⟨l2, hl2, o2, f2⟩ := arg_fits (σ := sg) (ds := d2) (by kernel_rfl) h2 (.inl (by kernel_rfl))
  obtain ⟨x2, rfl, f2⟩ := f2
  have hv2 : v2 = V.val sg (.int .i64 x2) := by
    have hc := okWide_leaf (P := Try.prog) (t := 3) (by kernel_rfl) ok2 h2
    rw [hc] at hl2; simpa [V.vals] using hl2
  subst hv1
  subst hv2
  refine law_calls (C := palisadelaw20_VintcGreatest.C) (g := 65) (f := 4) palisadelaw20_VintcGreatest.S (by kernel_rfl) palisadelaw20_VintcGreatest.fun (fn := Try.f4) (s := Rows.vintcGreatestSpec) (tb := 4) hW rfl laid (by kernel_rfl) rfl (by kernel_rfl) (by kernel_rfl) [.agg [.int .i64 x0_0, .int .i64 x0_1, .int .i64 x0_2, .int .i64 x0_3, .int .i64 x0_4, .int .i64 x0_5, .int .i64 x0_6, .int .i64 x0_7, .int .i64 x0_8, .int .i64 x0_9, .int .i64 x0_10, .int .i64 x0_11, .int .i64 x0_12, .int .i64 x0_13, .int .i64 x0_14, .int .i64 x0_15], .int .i64 x1, .int .i64 x2] (by simp [V.vals, hv0]) ?_ ?_
  · intro v hv
    simp only [List.mem_cons, List.not_mem_nil, or_false] at hv
    rcases hv with rfl | rfl | rfl <;> first | exact V.wf_one rfl | assumption
  · exact Go.Vintc.greatest [x0_0, x0_1, x0_2, x0_3, x0_4, x0_5, x0_6, x0_7, x0_8, x0_9, x0_10, x0_11, x0_12, x0_13, x0_14, x0_15] rfl x1 x2 _ _ (fun _ => rfl)

theorem proved : Rows.VintcGreatestSaid :=
  OpenClaim.holds_of_wide 4 Try.f4 rfl rfl rfl rfl rfl rfl rfl ⟨rfl, rfl, rfl, rfl, rfl⟩ rfl rfl rfl rfl rfl (by kernel_rfl) Try.func4 (by kernel_rfl)
    (of_decide_eq_true (by kernel_rfl)) (by unfold Func.isWrapper; first | (rw [if_pos (by decide +kernel)]; kernel_rfl) | (rw [if_neg (by decide +kernel)]; exact ⟨rfl, rfl⟩))
    (fun os started H enc _ => lifted os started H enc)
#print axioms proved
end Go.Proofs.Ytlnigofbpnehlaa.vintcGreatest
