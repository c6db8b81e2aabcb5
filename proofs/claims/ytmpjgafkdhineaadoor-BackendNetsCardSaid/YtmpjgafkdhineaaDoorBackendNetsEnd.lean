/- BackendNets: the plain law joined to its row. PRINTED by law.py. -/
import Derived.Test.YtmpjgafkdhineaaDoorBackUN
import Derived.Test.YtmpjgafkdhineaaDoorKa
import Derived.Test.YtmpjgafkdhineaaDoorGb
import Derived.Test.YtmpjgafkdhineaaDoorLb
import Derived.Test.YtmpjgafkdhineaaDoorRows
import Derived.Test.YtmpjgafkdhineaaDoorGc
import Derived.Test.YtmpjgafkdhineaaDoorLaidKit
import Derived.Test.YtmpjgafkdhineaaDoorCards
import Derived.Test.YtmpjgafkdhineaaDoorTie
import Derived.ProofKit
import Derived.SevenTiedAt
import Derived.LaidMore
import Derived.MakeChecks

set_option linter.unusedVariables false
set_option maxRecDepth 100000
namespace Go.Proofs.YtmpjgafkdhineaaDoor.backendNets
open Go.Lift Go.Fn Go.ChangeShapes Go.WideShapes Go.RowKit

theorem own : ownKnob Tryd.prog.godebug = none := by kernel_rfl
theorem laid : laidOutB Tryd.prog = true := by kernel_rfl

def d0 : DS := .slice 1 (.int .u8)
def d1 : DS := .int .i64
def d2 : DS := .bool
def laids : List (String × DataW Unit) := [("palisade/word.widths", Rows.laid_palisade_word_widths)]
theorem door_met (os : Os) (args : Array Value) : laidMetH Tryd.prog laids ((World.doorLaid Tryd.prog 400 os).forCall (fun _ _ => 0) ⟨#[], args, []⟩).memory :=
  laidMetH_of_parts3 (fuel := 8) (laidMet_of_run' 8 (by kernel_rfl) (by kernel_rfl)) (by kernel_rfl) (by kernel_rfl)

theorem lifted (os : Os) (started : os.Started) (H : Type) (enc : TypeId × Value → H) :
    ReturnsInHanded {} Tryd.checked os 4 .any (fun w args => (Rows.backendNetsSpec.pre enc Tryd.prog Tryd.f4 [] false w args ∧ laidMetH Tryd.prog laids w) ∧ sizedMet enc Tryd.prog Tryd.f4 (OpenSpec.ofChange Rows.backendNetsSpec) false w args) (Rows.backendNetsSpec.post enc Tryd.prog Tryd.f4 false true false false) := by
  refine returnsInHanded_of_change_and (C := Tryd.checked) (X := fun w _ => laidMetH Tryd.prog laids w) (fun _ _ _ hh h => h.of_heap hh) own started (by kernel_rfl) Tryd.func4
    (ChangeSpec.witness_shaped (enc := enc) (C := Tryd.checked) (os := os) (X := fun w _ => laidMetH Tryd.prog laids w) false (World.doorLaid Tryd.prog 400 os) #[.slice none 0 0, .int .i64 0, .bool false] 8 rfl (World.shaped_of_RefB (by kernel_rfl) (by kernel_rfl)) (by kernel_rfl) (by kernel_rfl) (by kernel_rfl) (door_met os _)) ?_
  intro W base args ds gs before hval0 hW hcnd _ hL _
  have hp : Tryd.f4.params = #[26, 3, 4] := by kernel_rfl
  have hval : ∀ (j : Nat) t v, Tryd.f4.params[j]? = some t → args[j]? = some v → Value.okWide Tryd.prog W .any base t v := hval0
  have hW2 := hW
  obtain ⟨pp, qq, hA0, _⟩ := hW2
  have hA : DataW.TrodAll enc Tryd.prog W 0 (fun _ => true) true Tryd.f4.params.toList args.toList ds pp := hA0
  rw [hp] at hA hval
  rw [MakeChecks.laidMetH_plain _ _ _ (by kernel_rfl)] at hL
  have hL : ∃ ps, DataW.LaidVars Tryd.prog W laids ps := by obtain ⟨ps, h, _⟩ := hL; exact ⟨ps, h⟩
  obtain ⟨v0, vs0, e0, es0, p0, q0, hargs, rfl, rfl, h0, r0⟩ := trodAll_cons hA
  obtain ⟨v1, vs1, e1, es1, p1, q1, rfl, rfl, rfl, h1, r1⟩ := trodAll_cons r0
  obtain ⟨v2, vs2, e2, es2, p2, q2, rfl, rfl, rfl, h2, r2⟩ := trodAll_cons r1
  obtain ⟨rfl, rfl, rfl⟩ := trodAll_nil r2
  obtain rfl : args = #[v0, v1, v2] := by cases args; simp_all
  have ok0 := hval 0 26 v0 rfl rfl
  have ht0 : Tryd.prog.underlying 26 = some (.slice 5) := by kernel_rfl
  obtain ⟨l0, hl0, o0, f0⟩ := arg_fits (σ := sg) (ds := d0) (by kernel_rfl) h0 (.inr (noSpot_of_okWide ht0 ok0))
  obtain ⟨x0, rfl, f0⟩ := f0
  have hv0 : v0 = V.val sg (.sl x0) := by
    have hc := okWide_leaf (P := Tryd.prog) (t := 26) (by kernel_rfl) ok0 h0
    rw [hc] at hl0; simpa [V.vals] using hl0
  have ok1 := hval 1 3 v1 rfl rfl
  obtain ⟨l1, hl1, o1, f1⟩ := arg_fits (σ := sg) (ds := d1) (by kernel_rfl) h1 (.inl (by kernel_rfl))
  obtain ⟨x1, rfl, f1⟩ := f1
  have hv1 : v1 = V.val sg (.int .i64 x1) := by
    have hc := okWide_leaf (P := Tryd.prog) (t := 3) (by kernel_rfl) ok1 h1
    rw [hc] at hl1; simpa [V.vals] using hl1
  have ok2 := hval 2 4 v2 rfl rfl
  obtain ⟨l2, hl2, o2, f2⟩ := arg_fits (σ := sg) (ds := d2) (by kernel_rfl) h2 (.inl (by kernel_rfl))
  obtain ⟨x2, rfl⟩ := f2
  have hv2 : v2 = V.val sg (.bool x2) := by
    have hc := okWide_leaf (P := Tryd.prog) (t := 4) (by kernel_rfl) ok2 h2
    rw [hc] at hl2; simpa [V.vals] using hl2
  subst hv0
  subst hv1
  subst hv2
  refine law_calls (C := zf31.C U3) (g := 356) (f := 4) (zf31.S U3.ok) (by kernel_rfl) zf31.fun (fn := Tryd.f4) (s := Rows.backendNetsSpec) (tb := 4) hW rfl laid (by kernel_rfl) rfl (by kernel_rfl) (by kernel_rfl) [.sl x0, .int .i64 x1, .bool x2] (by simp [V.vals]) ?_ ?_
  · intro v hv
    simp only [List.mem_cons, List.not_mem_nil, or_false] at hv
    rcases hv with rfl | rfl | rfl <;> first | exact V.wf_one rfl | assumption
  · have hw0 := laid_ints (l := [1, 0, 4, 8]) (k := .i64) (g := 0) (t := 183) (u := 3) hL (by kernel_rfl) (by kernel_rfl) (by kernel_rfl) (by kernel_rfl) (by kernel_rfl); have w : Go.Mem.Wid U3 (heap0 W) (fun i => [1, 0, 4, 8].getD i 0) := fun i hi => hw0 i _ (by have : i = 0 ∨ i = 1 ∨ i = 2 ∨ i = 3 := (by omega); rcases this with rfl | rfl | rfl | rfl <;> rfl); simp only [zf31.C]; obtain ⟨xt, Ht, _⟩ := bytes_of f0; exact Go.Back.nets Go.Back.guU Go.Back.guU2 Go.Back.nuU w (by decide) x0 x1 x2 Ht f0.1 (fun _ => rfl)

theorem row_proved : Rows.BackendNetsSaid :=
  OpenClaim.holds_of_wide 4 Tryd.f4 rfl rfl rfl rfl rfl rfl rfl ⟨rfl, rfl, rfl, rfl, rfl⟩ rfl rfl rfl rfl rfl (by kernel_rfl) Tryd.func4 (by kernel_rfl)
    (of_decide_eq_true (by kernel_rfl)) (by unfold Func.isWrapper; first | (rw [if_pos (by decide +kernel)]; kernel_rfl) | (rw [if_neg (by decide +kernel)]; exact ⟨rfl, rfl⟩))
    (fun os started H enc _ => lifted os started H enc)
theorem proved : Rows.BackendNetsCardSaid :=
  Claim7.holds_tied_plain_at .later [] [.data] true (true, "82b6fa756d1c0545a0cdce5527fbcd30f0a95987fad14cb603e8bb345fbf6b6c") false
    row_proved (fun _ h => by cases h) (by kernel_rfl) (fun _ h => by cases h) backendNets_row_tie rfl ⟨rfl, rfl⟩ (by kernel_rfl) rfl
    (fun f fn hf hfn => by
      obtain rfl : f = 4 := Option.some.inj ((show Tryd.prog.funcNamed "palisade/palisadelaw24.BackendNets" = some 4 by kernel_rfl).symm.trans hf) |>.symm
      obtain rfl : fn = Tryd.f4 := (Option.some.inj (Tryd.func4.symm.trans hfn)).symm
      exact ⟨by kernel_rfl, fun j t ht => by
        rw [show Tryd.f4.params = #[26, 3, 4] by kernel_rfl] at ht
        have hm : t ∈ [26, 3, 4] := by simpa using Array.mem_of_getElem? ht
        have hall : ([26, 3, 4].all fun u => !Tryd.prog.wantsStandIn u) = true := by kernel_rfl
        exact (show Tryd.prog.wantsStandIn t = false by simpa using List.all_eq_true.1 hall t hm)⟩)
    (by kernel_rfl)
#print axioms proved
end Go.Proofs.YtmpjgafkdhineaaDoor.backendNets
