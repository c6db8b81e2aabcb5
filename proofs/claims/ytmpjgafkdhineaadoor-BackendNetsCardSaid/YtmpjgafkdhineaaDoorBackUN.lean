/- What a guest's methods, and a net's closure, answer by the tables. -/
import Derived.Test.YtmpjgafkdhineaaDoorKd
import Derived.Test.YtmpjgafkdhineaaDoorGc

set_option linter.unusedSimpArgs false
set_option linter.unusedVariables false
set_option maxRecDepth 100000
namespace Go.Back
open Go.Lift Go.Fn

theorem inv_mk {glob : Nat → Nat} {tab : CTab} {mt : List (Nat × List (String × Nat))} {t g : Nat} {u : V} {m : String} {vs : List V} {κ : V → Heap → Prop} {h : Heap} (hm : methT mt t m = some g) (hu : V.wfb u = true) (hx : inTab tab g (u :: vs) κ h) : (mkIfc glob tab mt).inv (.iface t u) m vs κ h := by
  simp only [mkIfc, hm, hu]
  exact hx

theorem mLoad : methT mtT 4 "Load" = some 297 := by decide
theorem mStore : methT mtT 4 "Store" = some 299 := by decide
theorem mBytes : methT mtT 4 "Bytes" = some 295 := by decide
theorem mPut : methT mtT 4 "Put" = some 298 := by decide
theorem guU : GU U3 U2 := ⟨rfl, fun _ => by show (methT mtT 4 "Put").isSome = true; rw [mPut]; rfl, fun _ _ _ _ _ hx => inv_mk mLoad rfl hx, fun _ _ _ _ _ _ hx => inv_mk mStore rfl hx, fun _ _ _ _ _ hx => inv_mk mBytes rfl hx, fun _ _ _ _ _ hx => inv_mk mPut rfl hx⟩
theorem guU2 : GU U2 U1 := ⟨rfl, fun _ => by show (methT mtT 4 "Put").isSome = true; rw [mPut]; rfl, fun _ _ _ _ _ hx => inv_mk mLoad rfl hx, fun _ _ _ _ _ _ hx => inv_mk mStore rfl hx, fun _ _ _ _ _ hx => inv_mk mBytes rfl hx, fun _ _ _ _ _ hx => inv_mk mPut rfl hx⟩
theorem nuU : NU U3 U2 := ⟨fun _ _ _ _ _ _ hx => hx⟩

end Go.Back
