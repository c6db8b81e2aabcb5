/- HyperNobody: the plain law joined to its row. PRINTED by law.py. -/
import Derived.Test.YtlkkhigljcdbiaaGreatDoorHyperNobody
import Derived.Test.YtlkkhigljcdbiaaGreatDoorGb
import Derived.Test.YtlkkhigljcdbiaaGreatDoorLiftO
import Derived.Test.YtlkkhigljcdbiaaGreatDoorRows
import Derived.Test.YtlkkhigljcdbiaaGreatDoorLaidKit
import Derived.Test.YtlkkhigljcdbiaaGreatDoorCards
import Derived.Test.YtlkkhigljcdbiaaGreatDoorTie
import Derived.ProofKit
import Derived.SevenTiedAt
set_option linter.unusedVariables false
set_option maxRecDepth 100000
namespace Go.Proofs.YtlkkhigljcdbiaaGreatDoor.hyperNobody
open Go.Lift Go.Fn Go.ChangeShapes Go.WideShapes Go.RowKit

theorem own : ownKnob Tryz.prog.godebug = none := by kernel_rfl
theorem laid : laidOutB Tryz.prog = true := by kernel_rfl

def d0 : DS := .int .i64
def d1 : DS := .slice 1 (.int .u8)
def laids : List (String × DataW Unit) := [("palisade/word.widths", Rows.laid_palisade_word_widths), ("palisade/entry.places", Rows.laid_palisade_entry_places)]
theorem door_met (os : Os) (args : Array Value) : laidMetH Tryz.prog laids ((World.doorLaid Tryz.prog 400 os).forCall (fun _ _ => 0) ⟨#[], args, []⟩).memory :=
  laidMetH_of_parts3 (fuel := 8) (laidMet_of_run' 8 (by kernel_rfl) (by kernel_rfl)) (by kernel_rfl) (by kernel_rfl)

theorem lifted (os : Os) (started : os.Started) (H : Type) (enc : TypeId × Value → H) :
    ReturnsInHanded {} Tryz.checked os 3 .any (fun w args => (Rows.hyperNobodySpec.pre enc Tryz.prog Tryz.f3 [] false w args ∧ laidMetH Tryz.prog laids w) ∧ sizedMet enc Tryz.prog Tryz.f3 (OpenSpec.ofChange Rows.hyperNobodySpec) false w args) (Rows.hyperNobodySpec.post enc Tryz.prog Tryz.f3 false true false false) := by
  refine returnsInHanded_of_change_and (C := Tryz.checked) (X := fun w _ => laidMetH Tryz.prog laids w) (fun _ _ _ hh h => h.of_heap hh) own started (by kernel_rfl) Tryz.func3
    (ChangeSpec.witness_shaped (enc := enc) (C := Tryz.checked) (os := os) (X := fun w _ => laidMetH Tryz.prog laids w) false (World.doorLaid Tryz.prog 400 os) #[.int .i64 0, .slice none 0 0] 8 rfl (World.shaped_of_RefB (by kernel_rfl) (by kernel_rfl)) (by kernel_rfl) (by kernel_rfl) (by kernel_rfl) (door_met os _)) ?_
  intro W base args ds gs before hval0 hW hcnd _ hL _
  have hp : Tryz.f3.params = #[3, 22] := by kernel_rfl
  have hval : ∀ (j : Nat) t v, Tryz.f3.params[j]? = some t → args[j]? = some v → Value.okWide Tryz.prog W .any base t v := hval0
  have hW2 := hW
  obtain ⟨pp, qq, hA0, _⟩ := hW2
  have hA : DataW.TrodAll enc Tryz.prog W 0 (fun _ => true) true Tryz.f3.params.toList args.toList ds pp := hA0
  rw [hp] at hA hval
  rw [MakeChecks.laidMetH_plain _ _ _ (by kernel_rfl)] at hL
  have hL : ∃ ps, DataW.LaidVars Tryz.prog W laids ps := by obtain ⟨ps, h, _⟩ := hL; exact ⟨ps, h⟩
  obtain ⟨v0, vs0, e0, es0, p0, q0, hargs, rfl, rfl, h0, r0⟩ := trodAll_cons hA
  obtain ⟨v1, vs1, e1, es1, p1, q1, rfl, rfl, rfl, h1, r1⟩ := trodAll_cons r0
  obtain ⟨rfl, rfl, rfl⟩ := trodAll_nil r1
  obtain rfl : args = #[v0, v1] := by cases args; simp_all
  have ok0 := hval 0 3 v0 rfl rfl
  obtain ⟨l0, hl0, o0, f0⟩ := arg_fits (σ := sg) (ds := d0) (by kernel_rfl) h0 (.inl (by kernel_rfl))
  obtain ⟨x0, rfl, f0⟩ := f0
  have hv0 : v0 = V.val sg (.int .i64 x0) := by
    have hc := okWide_leaf (P := Tryz.prog) (t := 3) (by kernel_rfl) ok0 h0
    rw [hc] at hl0; simpa [V.vals] using hl0
  have ok1 := hval 1 22 v1 rfl rfl
  have ht1 : Tryz.prog.underlying 22 = some (.slice 5) := by kernel_rfl
  obtain ⟨l1, hl1, o1, f1⟩ := arg_fits (σ := sg) (ds := d1) (by kernel_rfl) h1 (.inr (noSpot_of_okWide ht1 ok1))
  obtain ⟨x1, rfl, f1⟩ := f1
  have hv1 : v1 = V.val sg (.sl x1) := by
    have hc := okWide_leaf (P := Tryz.prog) (t := 22) (by kernel_rfl) ok1 h1
    rw [hc] at hl1; simpa [V.vals] using hl1
  subst hv0
  subst hv1
  refine law_calls (C := palisadelaw26_HyperNobody.C) (g := 332) (f := 3) palisadelaw26_HyperNobody.S (by kernel_rfl) palisadelaw26_HyperNobody.fun (fn := Tryz.f3) (s := Rows.hyperNobodySpec) (tb := 4) hW rfl laid (by kernel_rfl) rfl (by kernel_rfl) (by kernel_rfl) [.int .i64 x0, .sl x1] (by simp [V.vals]) ?_ ?_
  · intro v hv
    simp only [List.mem_cons, List.not_mem_nil, or_false] at hv
    rcases hv with rfl | rfl <;> first | exact V.wf_one rfl | assumption
  · have hw1 := laid_ints (l := [0, 1, 2, 3, 4, 5, 6]) (k := .i64) (g := 0) (t := 488) (u := 3) (laid_tail hL) (by kernel_rfl) (by kernel_rfl) (by kernel_rfl) (by kernel_rfl) (by kernel_rfl); have hw0 := laid_ints (l := [1, 0, 4, 8]) (k := .i64) (g := 1) (t := 291) (u := 3) hL (by kernel_rfl) (by kernel_rfl) (by kernel_rfl) (by kernel_rfl) (by kernel_rfl); simp only [palisadelaw26_HyperNobody.C]; exact Go.Hyper.nobody x0 x1 (fun _ => rfl)

end Go.Proofs.YtlkkhigljcdbiaaGreatDoor.hyperNobody
