/- HartNobody: the plain law joined to its row. PRINTED by law.py. -/
import Derived.Test.YthapldoonognpaaGreatDoorHartNobody
import Derived.Test.YthapldoonognpaaGreatDoorGb
import Derived.Test.YthapldoonognpaaGreatDoorLiftO
import Derived.Test.YthapldoonognpaaGreatDoorRows
import Derived.Test.YthapldoonognpaaGreatDoorGc
import Derived.Test.YthapldoonognpaaGreatDoorLaidKit
import Derived.Test.YthapldoonognpaaGreatDoorCards
import Derived.Test.YthapldoonognpaaGreatDoorTie
import Derived.ProofKit
import Derived.SevenTiedAt
import Derived.Deep.DeepHandedRow
import Derived.Deep.DeepWitnessRowRef
import Derived.Test.YthapldoonognpaaGreatDoorUptoKit
set_option linter.unusedVariables false
set_option maxRecDepth 100000
namespace Go.Proofs.YthapldoonognpaaGreatDoor.hartNobody
open Go.Lift Go.Fn Go.ChangeShapes Go.WideShapes Go.RowKit

theorem own : ownKnob Tryz.prog.godebug = none := by kernel_rfl
theorem laid : laidOutB Tryz.prog = true := by kernel_rfl

def d0 : DS := .struct (.cons 0 18 (.struct (.cons 0 16 (.arr 16 1 (.int .u64)) (.cons 16 1 (.int .u64) (.cons 17 1 (.int .i64) .nil)))) (.cons 18 12 (.arr 12 1 (.int .u64)) (.cons 30 1 (.slice 5 (.struct (.cons 0 1 (.int .i64) (.cons 1 1 (.int .i64) (.cons 2 1 (.int .i64) (.cons 3 1 (.int .i64) (.cons 4 1 (.int .i64) .nil))))))) (.cons 31 1 (.slice 1 (.int .u32)) (.cons 32 1 (.slice 2 (.struct (.cons 0 1 (.int .u64) (.cons 1 1 (.int .u64) .nil)))) (.cons 33 1 (.int .i64) .nil))))))
def laids : List (String × DataW Unit) := [("palisade/word.widths", Rows.laid_palisade_word_widths)]
theorem door_met (os : Os) (args : Array Value) : laidMetH Tryz.prog laids ((World.doorLaid Tryz.prog 400 os).forCall (fun _ _ => 0) ⟨#[], args, []⟩).memory :=
  laidMetH_of_parts3 (fuel := 8) (laidMet_of_run' 8 (by kernel_rfl) (by kernel_rfl)) (by kernel_rfl) (by kernel_rfl)

def zargs : Array Value := #[.agg #[.int .u64 0, .int .u64 0, .int .u64 0, .int .u64 0, .int .u64 0, .int .u64 0, .int .u64 0, .int .u64 0, .int .u64 0, .int .u64 0, .int .u64 0, .int .u64 0, .int .u64 0, .int .u64 0, .int .u64 0, .int .u64 0, .int .u64 0, .int .i64 0, .int .u64 0, .int .u64 0, .int .u64 0, .int .u64 0, .int .u64 0, .int .u64 0, .int .u64 0, .int .u64 0, .int .u64 0, .int .u64 0, .int .u64 0, .int .u64 0, .slice none 0 0, .slice none 0 0, .slice none 0 0, .int .i64 0]]

set_option maxRecDepth 100000 in
theorem lifted (os : Os) (started : os.Started) (H : Type) (enc : TypeId × Value → H) (F : Stop.Interp) :
    ReturnsInHanded {} Tryz.checked os 3 .any ((Rows.OpenSpec.upto Rows.hartNobodySpec).preRow enc Tryz.prog Tryz.f3 Rows.hartNobodyUptoRow.domain false Rows.hartNobodyUptoRow.laid) (((Rows.OpenSpec.upto Rows.hartNobodySpec).at F).post enc Tryz.prog Tryz.f3 false true false false) := by
  have hall : ((DataW.whole enc Tryz.prog ((World.doorLaid Tryz.prog 400 os).forCall (fun _ _ => 0) ⟨#[], zargs, []⟩).memory Tryz.f3.params.toList Rows.hartNobodySpec.vars false zargs.toList 8).map fun x => Rows.uptoSmall H (x.1 ++ x.2.1)) = some true := by kernel_rfl
  obtain ⟨x, hx, hs⟩ := Option.map_eq_some_iff.1 hall
  refine returnsInHanded_of_row (C := Tryz.checked) (s := Rows.OpenSpec.upto Rows.hartNobodySpec) own started (by kernel_rfl) Tryz.func3
    (witness_row_atRef (enc := enc) (C := Tryz.checked) false (World.doorLaid Tryz.prog 400 os) zargs rfl (by kernel_rfl) (by kernel_rfl) (by kernel_rfl)
      (OpenSpec.preRow_of_cond 8 hx rfl (fun k hk => by cases hk; exact hs) (by kernel_rfl) (door_met os _))) ?_
  intro W base args ds gs before hval0 hW hcnd hbnd _ hL _ _
  have hp : Tryz.f3.params = #[31] := by kernel_rfl
  have hval : ∀ (j : Nat) t v, Tryz.f3.params[j]? = some t → args[j]? = some v → Value.okWide Tryz.prog W .any base t v := hval0
  have hW2 := hW
  obtain ⟨pp, qq, hA0, _⟩ := hW2
  have hA : DataW.TrodAll enc Tryz.prog W 0 (fun _ => true) true Tryz.f3.params.toList args.toList ds pp := hA0
  rw [hp] at hA hval
  rw [MakeChecks.laidMetH_plain _ _ _ (by kernel_rfl)] at hL
  have hL : ∃ ps, DataW.LaidVars Tryz.prog W laids ps := by obtain ⟨ps, h, _⟩ := hL; exact ⟨ps, h⟩
  obtain ⟨v0, vs0, e0, es0, p0, q0, hargs, rfl, rfl, h0, r0⟩ := trodAll_cons hA
  obtain ⟨rfl, rfl, rfl⟩ := trodAll_nil r0
  obtain rfl : args = #[v0] := by cases args; simp_all
  have ok0 := hval 0 31 v0 rfl rfl
  obtain ⟨l0, hl0, o0, f0⟩ := arg_fits (σ := sg) (ds := d0) (by kernel_rfl) h0 (.inr (noSpot_agg (P := Tryz.prog) (t := 31) (by kernel_rfl) ok0))
  obtain ⟨c0, rfl, hc0⟩ := okWide_agg_len (P := Tryz.prog) (t := 31) (by kernel_rfl) ok0
  have hv0 : Value.agg c0 = V.val sg (.ago l0) := by show Value.agg c0 = .agg (V.vals sg l0).toArray; rw [← hl0]; simp [Value.cells]
  have hn0 : l0.length = 34 := by
    have h1 : Tryz.prog.cellsOf 31 = 34 := by kernel_rfl
    have h2 : (V.vals sg l0).length = 34 := by rw [← hl0]; simp [Value.cells, hc0, h1]
    rw [vals_map, List.length_map] at h2; exact h2
  refine law_calls (C := palisadelaw09_HartNobody.C U3) (g := 254) (f := 3) (palisadelaw09_HartNobody.S U3.ok) (by kernel_rfl) palisadelaw09_HartNobody.fun (fn := Tryz.f3) (s := Rows.hartNobodySpec) (tb := 4) hW rfl laid (by kernel_rfl) rfl (by kernel_rfl) (by kernel_rfl) [.ago l0] (by simp [V.vals, hv0]) ?_ ?_
  · intro v hv
    simp only [List.mem_cons, List.not_mem_nil, or_false] at hv
    rcases hv with rfl <;> first | exact V.wf_one rfl | assumption
  · have hw0 := laid_ints (l := [1, 0, 4, 8]) (k := .i64) (g := 0) (t := 144) (u := 3) hL (by kernel_rfl) (by kernel_rfl) (by kernel_rfl) (by kernel_rfl) (by kernel_rfl); have w : Go.Mem.Wid U3 (heap0 W) (fun i => [1, 0, 4, 8].getD i 0) := fun i hi => hw0 i _ (by have : i = 0 ∨ i = 1 ∨ i = 2 ∨ i = 3 := (by omega); rcases this with rfl | rfl | rfl | rfl <;> rfl); obtain ⟨u0, hu0⟩ := h0; exact Go.Hart.nobody w (by decide) (by decide) hn0 f0 (fun s hs => Nat.le_trans (slice_len (i := 2) (o := 30) (by kernel_rfl) hu0 hl0 hs) (small_part (hbnd _ rfl) (List.mem_append_left _ (List.mem_singleton.2 rfl)))) (fun s hs => Nat.le_trans (slice_len (i := 3) (o := 31) (by kernel_rfl) hu0 hl0 hs) (small_part (hbnd _ rfl) (List.mem_append_left _ (List.mem_singleton.2 rfl)))) (fun _ => rfl)

theorem row_proved : Rows.HartNobodyUptoSaid :=
  OpenClaim.holds_of_cond 3 Tryz.f3 rfl rfl rfl rfl rfl rfl rfl ⟨rfl, rfl, rfl, rfl, rfl⟩ rfl rfl rfl rfl rfl (by kernel_rfl) Tryz.func3 (by kernel_rfl)
    (of_decide_eq_true (by kernel_rfl)) (by unfold Func.isWrapper; first | (rw [if_pos (by decide +kernel)]; kernel_rfl) | (rw [if_neg (by decide +kernel)]; exact ⟨rfl, rfl⟩))
    (fun os started H enc _ F => by rw [OpenClaim.pre_eq_preRow]; exact lifted os started H enc F)
theorem proved : Rows.HartNobodyUptoCardSaid :=
  Claim7.holds_tied_plain_at .later [] [.data] true (true, "a7c614b441c06649a920f170e1a817c6f3258133312cb79b8e344227a89c68ec") false
    row_proved (fun _ h => by cases h) (by kernel_rfl) (fun _ h => by cases h) hartNobodyUpto_row_tie rfl ⟨rfl, rfl⟩ (by kernel_rfl) rfl
    (fun f fn hf hfn => by
      obtain rfl : f = 3 := Option.some.inj ((show Tryz.prog.funcNamed "palisade/palisadelaw09.HartNobody" = some 3 by kernel_rfl).symm.trans hf) |>.symm
      obtain rfl : fn = Tryz.f3 := (Option.some.inj (Tryz.func3.symm.trans hfn)).symm
      exact ⟨by kernel_rfl, fun j t ht => by
        rw [show Tryz.f3.params = #[31] by kernel_rfl] at ht
        have hm : t ∈ [31] := by simpa using Array.mem_of_getElem? ht
        have hall : ([31].all fun u => !Tryz.prog.wantsStandIn u) = true := by kernel_rfl
        exact (show Tryz.prog.wantsStandIn t = false by simpa using List.all_eq_true.1 hall t hm)⟩)
    (by kernel_rfl)
#print axioms proved
end Go.Proofs.YthapldoonognpaaGreatDoor.hartNobody
