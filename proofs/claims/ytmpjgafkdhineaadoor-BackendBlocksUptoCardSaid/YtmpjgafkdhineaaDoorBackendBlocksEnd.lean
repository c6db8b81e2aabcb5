/- BackendBlocks: the plain law joined to its row. PRINTED by law.py. -/
import Derived.Test.YtmpjgafkdhineaaDoorBackUB
import Derived.Test.YtmpjgafkdhineaaDoorDiskU
import Derived.Test.YtmpjgafkdhineaaDoorBlkArg
import Derived.Test.YtmpjgafkdhineaaDoorGb
import Derived.Test.YtmpjgafkdhineaaDoorLb
import Derived.Test.YtmpjgafkdhineaaDoorRows
import Derived.Test.YtmpjgafkdhineaaDoorGc
import Derived.Test.YtmpjgafkdhineaaDoorLaidKit
import Derived.Test.YtmpjgafkdhineaaDoorCards
import Derived.Test.YtmpjgafkdhineaaDoorTie
import Derived.ProofKit
import Derived.SevenTiedAt
import Derived.LaidMore
import Derived.MakeChecks
import Derived.Deep.DeepHandedRow
import Derived.Deep.DeepWitnessRowRef
import Derived.Test.YtmpjgafkdhineaaDoorUptoKit
import Derived.Test.YtmpjgafkdhineaaDoorUptoB

set_option linter.unusedVariables false
set_option maxRecDepth 100000
namespace Go.Proofs.YtmpjgafkdhineaaDoor.backendBlocks
open Go.Lift Go.Fn Go.ChangeShapes Go.WideShapes Go.RowKit

theorem own : ownKnob Tryd.prog.godebug = none := by kernel_rfl
theorem laid : laidOutB Tryd.prog = true := by kernel_rfl

def d0 : DS := .slice 5 (.struct (.cons 0 1 (.int .i64) (.cons 1 1 (.int .i64) (.cons 2 1 (.int .i64) (.cons 3 1 (.bool) (.cons 4 1 (.slice 1 (.int .u8)) .nil))))))
def laids : List (String × DataW Unit) := [("palisade/word.widths", Rows.laid_palisade_word_widths)]
theorem door_met (os : Os) (args : Array Value) : laidMetH Tryd.prog laids ((World.doorLaid Tryd.prog 400 os).forCall (fun _ _ => 0) ⟨#[], args, []⟩).memory :=
  laidMetH_of_parts3 (fuel := 8) (laidMet_of_run' 8 (by kernel_rfl) (by kernel_rfl)) (by kernel_rfl) (by kernel_rfl)

def zargs : Array Value := #[.slice none 0 0]

set_option maxRecDepth 100000 in
theorem lifted (os : Os) (started : os.Started) (H : Type) (enc : TypeId × Value → H) (F : Stop.Interp) :
    ReturnsInHanded {} Tryd.checked os 3 .any ((Rows.OpenSpec.upto Rows.backendBlocksSpec).preRow enc Tryd.prog Tryd.f3 Rows.backendBlocksUptoRow.domain false Rows.backendBlocksUptoRow.laid) (((Rows.OpenSpec.upto Rows.backendBlocksSpec).at F).post enc Tryd.prog Tryd.f3 false true false false) := by
  have hall : ((DataW.whole enc Tryd.prog ((World.doorLaid Tryd.prog 400 os).forCall (fun _ _ => 0) ⟨#[], zargs, []⟩).memory Tryd.f3.params.toList Rows.backendBlocksSpec.vars false zargs.toList 8).map fun x => Rows.uptoSmall H (x.1 ++ x.2.1)) = some true := by kernel_rfl
  obtain ⟨x, hx, hs⟩ := Option.map_eq_some_iff.1 hall
  refine returnsInHanded_of_row (C := Tryd.checked) (s := Rows.OpenSpec.upto Rows.backendBlocksSpec) own started (by kernel_rfl) Tryd.func3
    (witness_row_atRef (enc := enc) (C := Tryd.checked) false (World.doorLaid Tryd.prog 400 os) zargs rfl (by kernel_rfl) (by kernel_rfl) (by kernel_rfl)
      (OpenSpec.preRow_of_cond 8 hx rfl (fun k hk => by cases hk; exact hs) (by kernel_rfl) (door_met os _))) ?_
  intro W base args ds gs before hval0 hW hcnd hbnd _ hL _ _
  have hp : Tryd.f3.params = #[22] := by kernel_rfl
  have hval : ∀ (j : Nat) t v, Tryd.f3.params[j]? = some t → args[j]? = some v → Value.okWide Tryd.prog W .any base t v := hval0
  have hW2 := hW
  obtain ⟨pp, qq, hA0, _⟩ := hW2
  have hA : DataW.TrodAll enc Tryd.prog W 0 (fun _ => true) true Tryd.f3.params.toList args.toList ds pp := hA0
  rw [hp] at hA hval
  rw [MakeChecks.laidMetH_plain _ _ _ (by kernel_rfl)] at hL
  have hL : ∃ ps, DataW.LaidVars Tryd.prog W laids ps := by obtain ⟨ps, h, _⟩ := hL; exact ⟨ps, h⟩
  obtain ⟨v0, vs0, e0, es0, p0, q0, hargs, rfl, rfl, h0, r0⟩ := trodAll_cons hA
  obtain ⟨rfl, rfl, rfl⟩ := trodAll_nil r0
  obtain rfl : args = #[v0] := by cases args; simp_all
  have hb0 : Rows.uptoBulk e0 ≤ 1048576 := small_part (hbnd _ rfl) (List.mem_append_left _ (by simp))
  have ok0 := hval 0 22 v0 rfl rfl
  obtain ⟨l0, hl0, o0, f0, g0⟩ := arg_fits2 (σ := sg) (ds := d0) (by kernel_rfl) h0
  obtain ⟨x0, rfl, f0⟩ := f0
  have hv0 : v0 = V.val sg (.sl x0) := by
    have hc := okWide_leaf (P := Tryd.prog) (t := 22) (by kernel_rfl) ok0 h0
    rw [hc] at hl0; simpa [V.vals] using hl0
  subst hv0
  refine law_calls (C := zf41.C U3) (g := 349) (f := 3) (zf41.S U3.ok) (by kernel_rfl) zf41.fun (fn := Tryd.f3) (s := Rows.backendBlocksSpec) (tb := 4) hW rfl laid (by kernel_rfl) rfl (by kernel_rfl) (by kernel_rfl) [.sl x0] (by simp [V.vals]) ?_ ?_
  · intro v hv
    simp only [List.mem_cons, List.not_mem_nil, or_false] at hv
    rcases hv with rfl <;> first | exact V.wf_one rfl | assumption
  · have hw0 := laid_ints (l := [1, 0, 4, 8]) (k := .i64) (g := 0) (t := 183) (u := 3) hL (by kernel_rfl) (by kernel_rfl) (by kernel_rfl) (by kernel_rfl) (by kernel_rfl); have w : Go.Mem.Wid U3 (heap0 W) (fun i => [1, 0, 4, 8].getD i 0) := fun i hi => hw0 i _ (by have : i = 0 ∨ i = 1 ∨ i = 2 ∨ i = 3 := (by omega); rcases this with rfl | rfl | rfl | rfl <;> rfl); simp only [zf41.C]; exact Go.Back.blocks Go.Back.guU Go.Disk.duU w (by decide) (by decide) x0 (Nat.le_trans f0.1 f0.2.1) (Go.Back.acts_of f0 (g0 _ hb0)) (fun _ => rfl)

theorem row_proved : Rows.BackendBlocksUptoSaid :=
  OpenClaim.holds_of_cond 3 Tryd.f3 rfl rfl rfl rfl rfl rfl rfl ⟨rfl, rfl, rfl, rfl, rfl⟩ rfl rfl rfl rfl rfl (by kernel_rfl) Tryd.func3 (by kernel_rfl)
    (of_decide_eq_true (by kernel_rfl)) (by unfold Func.isWrapper; first | (rw [if_pos (by decide +kernel)]; kernel_rfl) | (rw [if_neg (by decide +kernel)]; exact ⟨rfl, rfl⟩))
    (fun os started H enc _ F => by rw [OpenClaim.pre_eq_preRow]; exact lifted os started H enc F)
theorem proved : Rows.BackendBlocksUptoCardSaid :=
  Claim7.holds_tied_plain_at .later [] [.data] true (true, "82b6fa756d1c0545a0cdce5527fbcd30f0a95987fad14cb603e8bb345fbf6b6c") false
    row_proved (fun _ h => by cases h) (by kernel_rfl) (fun _ h => by cases h) backendBlocksUpto_row_tie rfl ⟨rfl, rfl⟩ (by kernel_rfl) rfl
    (fun f fn hf hfn => by
      obtain rfl : f = 3 := Option.some.inj ((show Tryd.prog.funcNamed "palisade/palisadelaw24.BackendBlocks" = some 3 by kernel_rfl).symm.trans hf) |>.symm
      obtain rfl : fn = Tryd.f3 := (Option.some.inj (Tryd.func3.symm.trans hfn)).symm
      exact ⟨by kernel_rfl, fun j t ht => by
        rw [show Tryd.f3.params = #[22] by kernel_rfl] at ht
        have hm : t ∈ [22] := by simpa using Array.mem_of_getElem? ht
        have hall : ([22].all fun u => !Tryd.prog.wantsStandIn u) = true := by kernel_rfl
        exact (show Tryd.prog.wantsStandIn t = false by simpa using List.all_eq_true.1 hall t hm)⟩)
    (by kernel_rfl)
#print axioms proved
end Go.Proofs.YtmpjgafkdhineaaDoor.backendBlocks
