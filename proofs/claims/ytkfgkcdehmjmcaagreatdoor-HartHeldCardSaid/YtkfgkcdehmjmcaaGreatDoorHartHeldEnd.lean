/- HartHeld: the plain law joined to its row. PRINTED by law.py. -/
import Derived.Test.YtkfgkcdehmjmcaaGreatDoorHartHU
import Derived.Test.YtkfgkcdehmjmcaaGreatDoorGb
import Derived.Test.YtkfgkcdehmjmcaaGreatDoorLiftO
import Derived.Test.YtkfgkcdehmjmcaaGreatDoorRows
import Derived.Test.YtkfgkcdehmjmcaaGreatDoorGc
import Derived.Test.YtkfgkcdehmjmcaaGreatDoorLaidKit
import Derived.Test.YtkfgkcdehmjmcaaGreatDoorCards
import Derived.Test.YtkfgkcdehmjmcaaGreatDoorTie
import Derived.ProofKit
import Derived.SevenTiedAt
set_option linter.unusedVariables false
set_option maxRecDepth 100000
namespace Go.Proofs.YtkfgkcdehmjmcaaGreatDoor.hartHeld
open Go.Lift Go.Fn Go.ChangeShapes Go.WideShapes Go.RowKit

theorem own : ownKnob Tryz.prog.godebug = none := by kernel_rfl
theorem laid : laidOutB Tryz.prog = true := by kernel_rfl

def d0 : DS := .struct (.cons 0 18 (.struct (.cons 0 16 (.arr 16 1 (.int .u64)) (.cons 16 1 (.int .u64) (.cons 17 1 (.int .i64) .nil)))) (.cons 18 12 (.arr 12 1 (.int .u64)) (.cons 30 1 (.slice 5 (.struct (.cons 0 1 (.int .i64) (.cons 1 1 (.int .i64) (.cons 2 1 (.int .i64) (.cons 3 1 (.int .i64) (.cons 4 1 (.int .i64) .nil))))))) (.cons 31 1 (.slice 1 (.int .u32)) (.cons 32 1 (.slice 2 (.struct (.cons 0 1 (.int .u64) (.cons 1 1 (.int .u64) .nil)))) (.cons 33 1 (.int .i64) .nil))))))
def d1 : DS := .int .u64
def d2 : DS := .bool
def laids : List (String × DataW Unit) := [("palisade/word.widths", Rows.laid_palisade_word_widths)]
theorem door_met (os : Os) (args : Array Value) : laidMetH Tryz.prog laids ((World.doorLaid Tryz.prog 400 os).forCall (fun _ _ => 0) ⟨#[], args, []⟩).memory :=
  laidMetH_of_parts3 (fuel := 8) (laidMet_of_run' 8 (by kernel_rfl) (by kernel_rfl)) (by kernel_rfl) (by kernel_rfl)

theorem lifted (os : Os) (started : os.Started) (H : Type) (enc : TypeId × Value → H) :
    ReturnsInHanded {} Tryz.checked os 4 .any (fun w args => (Rows.hartHeldSpec.pre enc Tryz.prog Tryz.f4 [] false w args ∧ laidMetH Tryz.prog laids w) ∧ sizedMet enc Tryz.prog Tryz.f4 (OpenSpec.ofChange Rows.hartHeldSpec) false w args) (Rows.hartHeldSpec.post enc Tryz.prog Tryz.f4 false true false false) := by
  refine returnsInHanded_of_change_and (C := Tryz.checked) (X := fun w _ => laidMetH Tryz.prog laids w) (fun _ _ _ hh h => h.of_heap hh) own started (by kernel_rfl) Tryz.func4
    (ChangeSpec.witness_shaped (enc := enc) (C := Tryz.checked) (os := os) (X := fun w _ => laidMetH Tryz.prog laids w) false (World.doorLaid Tryz.prog 400 os) #[.agg #[.int .u64 0, .int .u64 0, .int .u64 0, .int .u64 0, .int .u64 0, .int .u64 0, .int .u64 0, .int .u64 0, .int .u64 0, .int .u64 0, .int .u64 0, .int .u64 0, .int .u64 0, .int .u64 0, .int .u64 0, .int .u64 0, .int .u64 0, .int .i64 0, .int .u64 0, .int .u64 0, .int .u64 0, .int .u64 0, .int .u64 0, .int .u64 0, .int .u64 0, .int .u64 0, .int .u64 0, .int .u64 0, .int .u64 0, .int .u64 0, .slice none 0 0, .slice none 0 0, .slice none 0 0, .int .i64 0], .int .u64 0, .bool false] 8 rfl (World.shaped_of_RefB (by kernel_rfl) (by kernel_rfl)) (by kernel_rfl) (by kernel_rfl) (by kernel_rfl) (door_met os _)) ?_
  intro W base args ds gs before hval0 hW hcnd _ hL _
  have hp : Tryz.f4.params = #[31, 22, 4] := by kernel_rfl
  have hval : ∀ (j : Nat) t v, Tryz.f4.params[j]? = some t → args[j]? = some v → Value.okWide Tryz.prog W .any base t v := hval0
  have hW2 := hW
  obtain ⟨pp, qq, hA0, _⟩ := hW2
  have hA : DataW.TrodAll enc Tryz.prog W 0 (fun _ => true) true Tryz.f4.params.toList args.toList ds pp := hA0
  rw [hp] at hA hval
  rw [MakeChecks.laidMetH_plain _ _ _ (by kernel_rfl)] at hL
  have hL : ∃ ps, DataW.LaidVars Tryz.prog W laids ps := by obtain ⟨ps, h, _⟩ := hL; exact ⟨ps, h⟩
  obtain ⟨v0, vs0, e0, es0, p0, q0, hargs, rfl, rfl, h0, r0⟩ := trodAll_cons hA
  obtain ⟨v1, vs1, e1, es1, p1, q1, rfl, rfl, rfl, h1, r1⟩ := trodAll_cons r0
  obtain ⟨v2, vs2, e2, es2, p2, q2, rfl, rfl, rfl, h2, r2⟩ := trodAll_cons r1
  obtain ⟨rfl, rfl, rfl⟩ := trodAll_nil r2
  obtain rfl : args = #[v0, v1, v2] := by cases args; simp_all
  have ok0 := hval 0 31 v0 rfl rfl
  obtain ⟨l0, hl0, o0, f0⟩ := arg_fits (σ := sg) (ds := d0) (by kernel_rfl) h0 (.inr (noSpot_agg (P := Tryz.prog) (t := 31) (by kernel_rfl) ok0))
  obtain ⟨c0, rfl, hc0⟩ := okWide_agg_len (P := Tryz.prog) (t := 31) (by kernel_rfl) ok0
  have hv0 : Value.agg c0 = V.val sg (.ago l0) := by show Value.agg c0 = .agg (V.vals sg l0).toArray; rw [← hl0]; simp [Value.cells]
  have hn0 : l0.length = 34 := by
    have h1 : Tryz.prog.cellsOf 31 = 34 := by kernel_rfl
    have h2 : (V.vals sg l0).length = 34 := by rw [← hl0]; simp [Value.cells, hc0, h1]
    rw [vals_map, List.length_map] at h2; exact h2
  have ok1 := hval 1 22 v1 rfl rfl
  obtain ⟨l1, hl1, o1, f1⟩ := arg_fits (σ := sg) (ds := d1) (by kernel_rfl) h1 (.inl (by kernel_rfl))
  obtain ⟨x1, rfl, f1⟩ := f1
  have hv1 : v1 = V.val sg (.int .u64 x1) := by
    have hc := okWide_leaf (P := Tryz.prog) (t := 22) (by kernel_rfl) ok1 h1
    rw [hc] at hl1; simpa [V.vals] using hl1
  have ok2 := hval 2 4 v2 rfl rfl
  obtain ⟨l2, hl2, o2, f2⟩ := arg_fits (σ := sg) (ds := d2) (by kernel_rfl) h2 (.inl (by kernel_rfl))
  obtain ⟨x2, rfl⟩ := f2
  have hv2 : v2 = V.val sg (.bool x2) := by
    have hc := okWide_leaf (P := Tryz.prog) (t := 4) (by kernel_rfl) ok2 h2
    rw [hc] at hl2; simpa [V.vals] using hl2
  subst hv1
  subst hv2
  refine law_calls (C := palisadelaw09_HartHeld.C U3) (g := 232) (f := 4) (palisadelaw09_HartHeld.S U3.ok) (by kernel_rfl) palisadelaw09_HartHeld.fun (fn := Tryz.f4) (s := Rows.hartHeldSpec) (tb := 4) hW rfl laid (by kernel_rfl) rfl (by kernel_rfl) (by kernel_rfl) [.ago l0, .int .u64 x1, .bool x2] (by simp [V.vals, hv0]) ?_ ?_
  · intro v hv
    simp only [List.mem_cons, List.not_mem_nil, or_false] at hv
    rcases hv with rfl | rfl | rfl <;> first | exact V.wf_one rfl | assumption
  · have hw0 := laid_ints (l := [1, 0, 4, 8]) (k := .i64) (g := 0) (t := 153) (u := 3) hL (by kernel_rfl) (by kernel_rfl) (by kernel_rfl) (by kernel_rfl) (by kernel_rfl); have w : Go.Mem.Wid U3 (heap0 W) (fun i => [1, 0, 4, 8].getD i 0) := fun i hi => hw0 i _ (by have : i = 0 ∨ i = 1 ∨ i = 2 ∨ i = 3 := (by omega); rcases this with rfl | rfl | rfl | rfl <;> rfl); exact Go.Hart.held Go.Hart.huU Go.Hart.hlU Go.Hart.huU' Go.Hart.hbU w (by decide) (by decide) hn0 (fun i hi => Go.Hart.state_regs f0 i hi) (Go.Hart.state_mode f0) (wf_u64 f1) x2 (fun _ => rfl)

theorem row_proved : Rows.HartHeldSaid :=
  OpenClaim.holds_of_wide 4 Tryz.f4 rfl rfl rfl rfl rfl rfl rfl ⟨rfl, rfl, rfl, rfl, rfl⟩ rfl rfl rfl rfl rfl (by kernel_rfl) Tryz.func4 (by kernel_rfl)
    (of_decide_eq_true (by kernel_rfl)) (by unfold Func.isWrapper; first | (rw [if_pos (by decide +kernel)]; kernel_rfl) | (rw [if_neg (by decide +kernel)]; exact ⟨rfl, rfl⟩))
    (fun os started H enc _ => lifted os started H enc)
theorem proved : Rows.HartHeldCardSaid :=
  Claim7.holds_tied_plain_at .later [] [.data] true (true, "092dbe2db9402e6b433402f389d15c009a9cfb72eb1553d4a98fb647e04aae57") false
    row_proved (fun _ h => by cases h) (by kernel_rfl) (fun _ h => by cases h) hartHeld_row_tie rfl ⟨rfl, rfl⟩ (by kernel_rfl) rfl
    (fun f fn hf hfn => by
      obtain rfl : f = 4 := Option.some.inj ((show Tryz.prog.funcNamed "palisade/palisadelaw09.HartHeld" = some 4 by kernel_rfl).symm.trans hf) |>.symm
      obtain rfl : fn = Tryz.f4 := (Option.some.inj (Tryz.func4.symm.trans hfn)).symm
      exact ⟨by kernel_rfl, fun j t ht => by
        rw [show Tryz.f4.params = #[31, 22, 4] by kernel_rfl] at ht
        have hm : t ∈ [31, 22, 4] := by simpa using Array.mem_of_getElem? ht
        have hall : ([31, 22, 4].all fun u => !Tryz.prog.wantsStandIn u) = true := by kernel_rfl
        exact (show Tryz.prog.wantsStandIn t = false by simpa using List.all_eq_true.1 hall t hm)⟩)
    (by kernel_rfl)
#print axioms proved
end Go.Proofs.YtkfgkcdehmjmcaaGreatDoor.hartHeld
