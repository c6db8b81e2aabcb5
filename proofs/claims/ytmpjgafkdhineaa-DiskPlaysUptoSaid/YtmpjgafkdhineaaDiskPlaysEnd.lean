/- DiskPlays: the plain law joined to its row. PRINTED by law.py. -/
import Derived.Test.YtmpjgafkdhineaaDiskArg
import Derived.Test.YtmpjgafkdhineaaDiskU
import Derived.Test.YtmpjgafkdhineaaGb
import Derived.Test.YtmpjgafkdhineaaLiftO
import Derived.Test.YtmpjgafkdhineaaRows
import Derived.Test.YtmpjgafkdhineaaGc
import Derived.ProofKit
import Derived.SevenTiedAt
import Derived.LaidMore
import Derived.MakeChecks
import Derived.Deep.DeepHandedRow
import Derived.Deep.DeepWitnessRowRef
import Derived.Test.YtmpjgafkdhineaaUptoKit
import Derived.Test.YtmpjgafkdhineaaUptoB
set_option linter.unusedVariables false
set_option maxRecDepth 100000
namespace Go.Proofs.Ytmpjgafkdhineaa.diskPlays
open Go.Lift Go.Fn Go.ChangeShapes Go.WideShapes Go.RowKit

theorem own : ownKnob Try.prog.godebug = none := by kernel_rfl
theorem laid : laidOutB Try.prog = true := by kernel_rfl

def d0 : DS := .int .i64
def d1 : DS := .slice 7 (.struct (.cons 0 1 (.int .i64) (.cons 1 4 (.struct (.cons 0 1 (.int .i64) (.cons 1 1 (.bool) (.cons 2 1 (.int .i64) (.cons 3 1 (.int .i64) .nil))))) (.cons 5 1 (.int .i64) (.cons 6 1 (.slice 1 (.int .u8)) .nil)))))
def laids : List (String × DataW Unit) := []
theorem door_met (os : Os) (args : Array Value) : laidMetH Try.prog laids ((World.doorLaid Try.prog 400 os).forCall (fun _ _ => 0) ⟨#[], args, []⟩).memory :=
  laidMetH_of_parts3 (fuel := 8) (laidMet_of_run' 8 (by kernel_rfl) (by kernel_rfl)) (by kernel_rfl) (by kernel_rfl)

def zargs : Array Value := #[.int .i64 0, .slice none 0 0]

set_option maxRecDepth 100000 in
theorem lifted (os : Os) (started : os.Started) (H : Type) (enc : TypeId × Value → H) (F : Stop.Interp) :
    ReturnsInHanded {} Try.checked os 3 .any ((Rows.OpenSpec.upto Rows.diskPlaysSpec).preRow enc Try.prog Try.f3 Rows.diskPlaysUptoRow.domain false Rows.diskPlaysUptoRow.laid) (((Rows.OpenSpec.upto Rows.diskPlaysSpec).at F).post enc Try.prog Try.f3 false true false false) := by
  have hall : ((DataW.whole enc Try.prog ((World.doorLaid Try.prog 400 os).forCall (fun _ _ => 0) ⟨#[], zargs, []⟩).memory Try.f3.params.toList Rows.diskPlaysSpec.vars false zargs.toList 8).map fun x => Rows.uptoSmall H (x.1 ++ x.2.1)) = some true := by kernel_rfl
  obtain ⟨x, hx, hs⟩ := Option.map_eq_some_iff.1 hall
  refine returnsInHanded_of_row (C := Try.checked) (s := Rows.OpenSpec.upto Rows.diskPlaysSpec) own started (by kernel_rfl) Try.func3
    (witness_row_atRef (enc := enc) (C := Try.checked) false (World.doorLaid Try.prog 400 os) zargs rfl (by kernel_rfl) (by kernel_rfl) (by kernel_rfl)
      (OpenSpec.preRow_of_cond 8 hx rfl (fun k hk => by cases hk; exact hs) (by kernel_rfl) (door_met os _))) ?_
  intro W base args ds gs before hval0 hW hcnd hbnd _ hL _ _
  have hp : Try.f3.params = #[3, 22] := by kernel_rfl
  have hval : ∀ (j : Nat) t v, Try.f3.params[j]? = some t → args[j]? = some v → Value.okWide Try.prog W .any base t v := hval0
  have hW2 := hW
  obtain ⟨pp, qq, hA0, _⟩ := hW2
  have hA : DataW.TrodAll enc Try.prog W 0 (fun _ => true) true Try.f3.params.toList args.toList ds pp := hA0
  rw [hp] at hA hval
  obtain ⟨v0, vs0, e0, es0, p0, q0, hargs, rfl, rfl, h0, r0⟩ := trodAll_cons hA
  obtain ⟨v1, vs1, e1, es1, p1, q1, rfl, rfl, rfl, h1, r1⟩ := trodAll_cons r0
  obtain ⟨rfl, rfl, rfl⟩ := trodAll_nil r1
  obtain rfl : args = #[v0, v1] := by cases args; simp_all
  have hb0 : Rows.uptoBulk e0 ≤ 1048576 := small_part (hbnd _ rfl) (List.mem_append_left _ (by simp))
  have hb1 : Rows.uptoBulk e1 ≤ 1048576 := small_part (hbnd _ rfl) (List.mem_append_left _ (by simp))
  have ok0 := hval 0 3 v0 rfl rfl
  obtain ⟨l0, hl0, o0, f0, g0⟩ := arg_fits2 (σ := sg) (ds := d0) (by kernel_rfl) h0
  obtain ⟨x0, rfl, f0⟩ := f0
  have hv0 : v0 = V.val sg (.int .i64 x0) := by
    have hc := okWide_leaf (P := Try.prog) (t := 3) (by kernel_rfl) ok0 h0
    rw [hc] at hl0; simpa [V.vals] using hl0
  have ok1 := hval 1 22 v1 rfl rfl
  obtain ⟨l1, hl1, o1, f1, g1⟩ := arg_fits2 (σ := sg) (ds := d1) (by kernel_rfl) h1
  obtain ⟨x1, rfl, f1⟩ := f1
  have hv1 : v1 = V.val sg (.sl x1) := by
    have hc := okWide_leaf (P := Try.prog) (t := 22) (by kernel_rfl) ok1 h1
    rw [hc] at hl1; simpa [V.vals] using hl1
  subst hv0
  subst hv1
  refine law_calls (C := palisadelaw12_DiskPlays.C U3) (g := 91) (f := 3) (palisadelaw12_DiskPlays.S U3.ok) (by kernel_rfl) palisadelaw12_DiskPlays.fun (fn := Try.f3) (s := Rows.diskPlaysSpec) (tb := 4) hW rfl laid (by kernel_rfl) rfl (by kernel_rfl) (by kernel_rfl) [.int .i64 x0, .sl x1] (by simp [V.vals]) ?_ ?_
  · intro v hv
    simp only [List.mem_cons, List.not_mem_nil, or_false] at hv
    rcases hv with rfl | rfl <;> first | exact V.wf_one rfl | assumption
  · exact Go.Disk.plays Go.Disk.duU x0 x1 _ (Nat.le_trans f1.1 f1.2.1) (Go.Disk.acts_of f1 (g1 _ hb1)) _ (fun _ => rfl)

theorem proved : Rows.DiskPlaysUptoSaid :=
  OpenClaim.holds_of_cond 3 Try.f3 rfl rfl rfl rfl rfl rfl rfl ⟨rfl, rfl, rfl, rfl, rfl⟩ rfl rfl rfl rfl rfl (by kernel_rfl) Try.func3 (by kernel_rfl)
    (of_decide_eq_true (by kernel_rfl)) (by unfold Func.isWrapper; first | (rw [if_pos (by decide +kernel)]; kernel_rfl) | (rw [if_neg (by decide +kernel)]; exact ⟨rfl, rfl⟩))
    (fun os started H enc _ F => by rw [OpenClaim.pre_eq_preRow]; exact lifted os started H enc F)
#print axioms proved
end Go.Proofs.Ytmpjgafkdhineaa.diskPlays
