/- AsmAssembles: the plain law joined to its row. PRINTED by law.py. -/
import Derived.Test.YtcaeaolgijjjnaaGreatDoorKe
import Derived.Test.YtcaeaolgijjjnaaGreatDoorGb
import Derived.Test.YtcaeaolgijjjnaaGreatDoorLb
import Derived.Test.YtcaeaolgijjjnaaGreatDoorRows
import Derived.Test.YtcaeaolgijjjnaaGreatDoorGc
import Derived.Test.YtcaeaolgijjjnaaGreatDoorLaidKit
import Derived.Test.YtcaeaolgijjjnaaGreatDoorCards
import Derived.Test.YtcaeaolgijjjnaaGreatDoorTie
import Derived.Test.YtcaeaolgijjjnaaGreatDoorShapeKit
import Derived.ProofKit
import Derived.Deep.DeepLaidRun
import Derived.SevenTiedAt
import Derived.LaidMore
import Derived.MakeChecks
set_option linter.unusedSimpArgs false
set_option linter.unusedVariables false

set_option linter.unusedVariables false
set_option maxRecDepth 100000
namespace Go.Proofs.YtcaeaolgijjjnaaGreatDoor.asmAssembles
open Go.Lift Go.Fn Go.ChangeShapes Go.WideShapes Go.RowKit

theorem own : ownKnob Tryz.prog.godebug = none := by kernel_rfl
theorem laid : laidOutB Tryz.prog = true := by kernel_rfl

def d0 : DS := .str
def d1 : DS := .int .u64
def d2 : DS := .str
def laids : List (String × DataW Unit) := [("math/bits.deBruijn32tab", Rows.laid_math_bits_deBruijn32tab), ("math/bits.deBruijn64tab", Rows.laid_math_bits_deBruijn64tab), ("internal/strconv.uint64pow10", Rows.laid_internal_strconv_uint64pow10), ("unicode/utf8.acceptRanges", Rows.laid_unicode_utf8_acceptRanges), ("errors.errorType", Rows.laid_errors_errorType), ("strconv.ErrRange", Rows.laid_strconv_ErrRange), ("strconv.ErrSyntax", Rows.laid_strconv_ErrSyntax), ("unicode.White_Space", Rows.laid_unicode_White_Space), ("strings.asciiSpace", Rows.laid_strings_asciiSpace), ("unicode/utf8.first", Rows.laid_unicode_utf8_first)]
def laidsP : List (String × DataW Unit) := [("math/bits.deBruijn32tab", Rows.laid_math_bits_deBruijn32tab), ("math/bits.deBruijn64tab", Rows.laid_math_bits_deBruijn64tab), ("internal/strconv.uint64pow10", Rows.laid_internal_strconv_uint64pow10), ("unicode/utf8.acceptRanges", Rows.laid_unicode_utf8_acceptRanges), ("strconv.ErrRange", Rows.laid_strconv_ErrRange), ("strconv.ErrSyntax", Rows.laid_strconv_ErrSyntax), ("unicode.White_Space", Rows.laid_unicode_White_Space), ("strings.asciiSpace", Rows.laid_strings_asciiSpace), ("unicode/utf8.first", Rows.laid_unicode_utf8_first)]
/-- A start for the witness: the world behind the door's run, the table of first bytes laid besides. -/
noncomputable def wit (os : Os) : World := { World.doorLaid Tryz.prog 400 os with heap := (World.doorLaid Tryz.prog 400 os).heap.modify 7 (fun o => match o with | .cells _ t fz => .cells (Go.Pinned.utf8FirstZ.map fun n : Nat => Value.int .u8 (n : Int)).toArray t fz | o => o) }
theorem door_met (os : Os) (args : Array Value) : laidMetH Tryz.prog laids ((wit os).forCall (fun _ _ => 0) ⟨#[], args, []⟩).memory :=
  laidMetH_of_parts3 (fuel := 8) (laidMet_of_run3 8 (by kernel_rfl) (by kernel_rfl) (by kernel_rfl)) (by kernel_rfl) (by kernel_rfl)

def spL : List Int := 0 :: 0 :: 0 :: 0 :: 0 :: 0 :: 0 :: 0 :: 0 :: 1 :: 1 :: 1 :: 1 :: 1 :: 0 :: 0 :: 0 :: 0 :: 0 :: 0 :: 0 :: 0 :: 0 :: 0 :: 0 :: 0 :: 0 :: 0 :: 0 :: 0 :: 0 :: 0 :: 1 :: 0 :: 0 :: 0 :: 0 :: 0 :: 0 :: 0 :: 0 :: 0 :: 0 :: 0 :: 0 :: 0 :: 0 :: 0 :: 0 :: 0 :: 0 :: 0 :: 0 :: 0 :: 0 :: 0 :: 0 :: 0 :: 0 :: 0 :: 0 :: 0 :: 0 :: 0 :: 0 :: 0 :: 0 :: 0 :: 0 :: 0 :: 0 :: 0 :: 0 :: 0 :: 0 :: 0 :: 0 :: 0 :: 0 :: 0 :: 0 :: 0 :: 0 :: 0 :: 0 :: 0 :: 0 :: 0 :: 0 :: 0 :: 0 :: 0 :: 0 :: 0 :: 0 :: 0 :: 0 :: 0 :: 0 :: 0 :: 0 :: 0 :: 0 :: 0 :: 0 :: 0 :: 0 :: 0 :: 0 :: 0 :: 0 :: 0 :: 0 :: 0 :: 0 :: 0 :: 0 :: 0 :: 0 :: 0 :: 0 :: 0 :: 0 :: 0 :: 0 :: 0 :: 0 :: 0 :: 0 :: 0 :: 0 :: 0 :: 0 :: 0 :: 0 :: 0 :: 0 :: 0 :: 0 :: 0 :: 0 :: 0 :: 0 :: 0 :: 0 :: 0 :: 0 :: 0 :: 0 :: 0 :: 0 :: 0 :: 0 :: 0 :: 0 :: 0 :: 0 :: 0 :: 0 :: 0 :: 0 :: 0 :: 0 :: 0 :: 0 :: 0 :: 0 :: 0 :: 0 :: 0 :: 0 :: 0 :: 0 :: 0 :: 0 :: 0 :: 0 :: 0 :: 0 :: 0 :: 0 :: 0 :: 0 :: 0 :: 0 :: 0 :: 0 :: 0 :: 0 :: 0 :: 0 :: 0 :: 0 :: 0 :: 0 :: 0 :: 0 :: 0 :: 0 :: 0 :: 0 :: 0 :: 0 :: 0 :: 0 :: 0 :: 0 :: 0 :: 0 :: 0 :: 0 :: 0 :: 0 :: 0 :: 0 :: 0 :: 0 :: 0 :: 0 :: 0 :: 0 :: 0 :: 0 :: 0 :: 0 :: 0 :: 0 :: 0 :: 0 :: 0 :: 0 :: 0 :: 0 :: 0 :: 0 :: 0 :: 0 :: 0 :: 0 :: 0 :: 0 :: 0 :: 0 :: 0 :: 0 :: 0 :: 0 :: 0 :: 0 :: 0 :: 0 :: 0 :: 0 :: 0 :: 0 :: 0 :: []

theorem spTab (c : Nat) (hc : c < 256) : spL[c]? = some (if Lib.isSp (UInt8.ofNat c) then 1 else 0) := by
  have key : ∀ c : Fin 256, spL[c.val]? = some (if Lib.isSp (UInt8.ofNat c.val) then 1 else 0) := by decide +kernel
  exact key ⟨c, hc⟩

theorem tabsOK {W : World} {m : Int} {el0 : TypeId} {fz0 : Nat × Nat} (hL : ∃ ps, DataW.LaidVars Tryz.prog W laidsP ps) (hm : W.heap[4]? = some (.cells #[.int .i64 m] el0 fz0)) (hH : handlesMet Tryz.prog [("errors.errorType", Rows.laid_errors_errorType)] W) : ∀ c l, (c, l) ∈ Go.Asm.tsE m → ∃ el fz, W.heap[gl2 c / 2]? = some (.cells (V.vals sg l).toArray el fz) := by
  intro c l hm2
  rcases List.mem_cons.1 hm2 with h1 | h1
  · obtain ⟨rfl, rfl⟩ : c = 3 ∧ l = Lib.pow10Tab.map (V.int .u64) := ⟨congrArg Prod.fst h1, congrArg Prod.snd h1⟩
    exact laid_tab (l := Lib.pow10Tab) (k := .u64) (g := 3) (t := 202) (u := 22) (laid_tail (laid_tail hL)) (by kernel_rfl) (by kernel_rfl) (by kernel_rfl) (by kernel_rfl) (by kernel_rfl) (by kernel_rfl)
  · rcases List.mem_cons.1 h1 with h1 | h1
    · obtain ⟨rfl, rfl⟩ : c = 5 ∧ l = [V.int .i64 m] := ⟨congrArg Prod.fst h1, congrArg Prod.snd h1⟩
      exact ⟨el0, fz0, hm⟩
    · have h1 := List.mem_singleton.1 h1
      obtain ⟨rfl, rfl⟩ : c = 6 ∧ l = [V.iface 10 (.agg [.ptr (some ⟨24, 40⟩)])] := ⟨congrArg Prod.fst h1, congrArg Prod.snd h1⟩
      rw [Go.Asm.err_vals]
      exact Go.Asm.err_cell hH


theorem lifted (os : Os) (started : os.Started) (H : Type) (enc : TypeId × Value → H) :
    ReturnsInHanded {} Tryz.checked os 3 .any (fun w args => (Rows.asmAssemblesSpec.pre enc Tryz.prog Tryz.f3 [] false w args ∧ laidMetH Tryz.prog laids w) ∧ sizedMet enc Tryz.prog Tryz.f3 (OpenSpec.ofChange Rows.asmAssemblesSpec) false w args) (Rows.asmAssemblesSpec.post enc Tryz.prog Tryz.f3 false true false false) := by
  refine handed_and_shaped (C := Tryz.checked) (X := fun w _ => laidMetH Tryz.prog laids w) (fun _ _ _ hh h => h.of_heap hh) own started (by kernel_rfl) Tryz.func3
    (ChangeSpec.witness_shaped (enc := enc) (C := Tryz.checked) (os := os) (X := fun w _ => laidMetH Tryz.prog laids w) false (wit os) #[.string ⟨#[]⟩, .int .u64 0, .string ⟨#[]⟩] 8 rfl (World.shaped_of_RefB (by kernel_rfl) (by kernel_rfl)) (by kernel_rfl) (by kernel_rfl) (by kernel_rfl) (door_met os _)) ?_
  intro W base args ds gs before hval0 hW hcnd _ hL hsh _
  have hp : Tryz.f3.params = #[9, 22, 9] := by kernel_rfl
  have hval : ∀ (j : Nat) t v, Tryz.f3.params[j]? = some t → args[j]? = some v → Value.okWide Tryz.prog W .any base t v := hval0
  have hW2 := hW
  obtain ⟨pp, qq, hA0, _⟩ := hW2
  have hA : DataW.TrodAll enc Tryz.prog W 0 (fun _ => true) true Tryz.f3.params.toList args.toList ds pp := hA0
  rw [hp] at hA hval
  have hLH : laidMet Tryz.prog laidsP W ∧ handlesMet Tryz.prog [("errors.errorType", Rows.laid_errors_errorType)] W := by
    have e1 : laids.filter (fun x => x.2.handleName?.isSome) = [("errors.errorType", Rows.laid_errors_errorType)] := by kernel_rfl
    have e2 : laids.filter (fun x => x.2.handleName?.isNone) = laidsP := by kernel_rfl
    unfold laidMetH at hL
    rw [e1, e2] at hL
    exact hL
  have hL : ∃ ps, DataW.LaidVars Tryz.prog W laidsP ps := by obtain ⟨ps, h, _⟩ := hLH.1; exact ⟨ps, h⟩
  obtain ⟨v0, vs0, e0, es0, p0, q0, hargs, rfl, rfl, h0, r0⟩ := trodAll_cons hA
  obtain ⟨v1, vs1, e1, es1, p1, q1, rfl, rfl, rfl, h1, r1⟩ := trodAll_cons r0
  obtain ⟨v2, vs2, e2, es2, p2, q2, rfl, rfl, rfl, h2, r2⟩ := trodAll_cons r1
  obtain ⟨rfl, rfl, rfl⟩ := trodAll_nil r2
  obtain rfl : args = #[v0, v1, v2] := by cases args; simp_all
  have ok0 := hval 0 9 v0 rfl rfl
  obtain ⟨l0, hl0, o0, f0⟩ := arg_fits (σ := sg) (ds := d0) (by kernel_rfl) h0 (.inl (by kernel_rfl))
  obtain ⟨x0, rfl, f0⟩ := f0
  have hv0 : v0 = V.val sg (.str x0) := by
    have hc := okWide_leaf (P := Tryz.prog) (t := 9) (by kernel_rfl) ok0 h0
    rw [hc] at hl0; simpa [V.vals] using hl0
  have ok1 := hval 1 22 v1 rfl rfl
  obtain ⟨l1, hl1, o1, f1⟩ := arg_fits (σ := sg) (ds := d1) (by kernel_rfl) h1 (.inl (by kernel_rfl))
  obtain ⟨x1, rfl, f1⟩ := f1
  have hv1 : v1 = V.val sg (.int .u64 x1) := by
    have hc := okWide_leaf (P := Tryz.prog) (t := 22) (by kernel_rfl) ok1 h1
    rw [hc] at hl1; simpa [V.vals] using hl1
  have ok2 := hval 2 9 v2 rfl rfl
  obtain ⟨l2, hl2, o2, f2⟩ := arg_fits (σ := sg) (ds := d2) (by kernel_rfl) h2 (.inl (by kernel_rfl))
  obtain ⟨x2, rfl, f2⟩ := f2
  have hv2 : v2 = V.val sg (.str x2) := by
    have hc := okWide_leaf (P := Tryz.prog) (t := 9) (by kernel_rfl) ok2 h2
    rw [hc] at hl2; simpa [V.vals] using hl2
  subst hv0
  subst hv1
  subst hv2
  obtain ⟨m, el, fz, hm⟩ := glob_one (P := Tryz.prog) hsh (g := 4) (t := 3) (u := 3) (k := .i64) (zero := #[.int .i64 0]) (by decide +kernel) (by kernel_rfl) rfl (by kernel_rfl) (by kernel_rfl) (by kernel_rfl)
  refine law_calls (C := zf29.C (UT (Go.Asm.tsE m) 10)) (g := 378) (f := 3) (zf29.S (UT.ok (tabsOK hL hm hLH.2) 10)) (by kernel_rfl) zf29.fun (fn := Tryz.f3) (s := Rows.asmAssemblesSpec) (tb := 4) hW rfl laid (by kernel_rfl) rfl (by kernel_rfl) (by kernel_rfl) [.str x0, .int .u64 x1, .str x2] (by simp [V.vals]) ?_ ?_
  · intro v hv
    simp only [List.mem_cons, List.not_mem_nil, or_false] at hv
    rcases hv with rfl | rfl | rfl <;> first | exact V.wf_one rfl | assumption
  · have hw8 := laid_ints (l := spL) (k := .u8) (g := 1) (t := 96) (u := 5) (laid_tail (laid_tail (laid_tail (laid_tail (laid_tail (laid_tail (laid_tail hL))))))) (by kernel_rfl) (by kernel_rfl) (by kernel_rfl) (by kernel_rfl) (by kernel_rfl); simp only [zf29.C]; have hb : 0 ≤ x1 ∧ x1 ≤ 18446744073709551615 := wf_u64 f1; obtain ⟨b, rfl⟩ : ∃ b : Nat, x1 = (b : Int) := ⟨x1.toNat, by omega⟩; exact Go.Asm.assembles ⟨fun c hc => hw8 c _ (spTab c hc), Go.Asm.one_UTE m 10⟩ (Go.Asm.err_UTE m 10) (Go.Insn.decUT _ 10) (fun _ => rfl)

theorem row_proved : Rows.AsmAssemblesSaid :=
  OpenClaim.holds_of_wide 3 Tryz.f3 rfl rfl rfl rfl rfl rfl rfl ⟨rfl, rfl, rfl, rfl, rfl⟩ rfl rfl rfl rfl rfl (by kernel_rfl) Tryz.func3 (by kernel_rfl)
    (of_decide_eq_true (by kernel_rfl)) (by unfold Func.isWrapper; first | (rw [if_pos (by decide +kernel)]; kernel_rfl) | (rw [if_neg (by decide +kernel)]; exact ⟨rfl, rfl⟩))
    (fun os started H enc _ => lifted os started H enc)
theorem proved : Rows.AsmAssemblesCardSaid :=
  Claim7.holds_tied_plain_at .later [] [.data, .data, .data, .data, .handle, .sentinel, .sentinel, .listed, .data, .pinned] true (true, "a87dd2bc74e240da5a2324b3b5bed7633988d4658f72b5f2c36bb80e81b7d689") true
    row_proved (fun _ h => by cases h) (by kernel_rfl) (fun _ h => by cases h) asmAssembles_row_tie rfl ⟨rfl, rfl⟩ (by kernel_rfl) rfl
    (fun f fn hf hfn => by
      obtain rfl : f = 3 := Option.some.inj ((show Tryz.prog.funcNamed "palisade/palisadelaw03.AsmAssembles" = some 3 by kernel_rfl).symm.trans hf) |>.symm
      obtain rfl : fn = Tryz.f3 := (Option.some.inj (Tryz.func3.symm.trans hfn)).symm
      exact ⟨by kernel_rfl, fun j t ht => by
        rw [show Tryz.f3.params = #[9, 22, 9] by kernel_rfl] at ht
        have hm : t ∈ [9, 22, 9] := by simpa using Array.mem_of_getElem? ht
        have hall : ([9, 22, 9].all fun u => !Tryz.prog.wantsStandIn u) = true := by kernel_rfl
        exact (show Tryz.prog.wantsStandIn t = false by simpa using List.all_eq_true.1 hall t hm)⟩)
    (by kernel_rfl)
#print axioms proved
end Go.Proofs.YtcaeaolgijjjnaaGreatDoor.asmAssembles
