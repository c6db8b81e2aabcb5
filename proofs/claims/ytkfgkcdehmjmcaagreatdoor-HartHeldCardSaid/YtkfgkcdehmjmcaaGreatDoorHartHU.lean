/- HartHeld: what is reached by methods and by the table. -/
import Derived.Test.YtkfgkcdehmjmcaaGreatDoorHartU
import Derived.Test.YtkfgkcdehmjmcaaGreatDoorHartHeld
set_option linter.unusedSimpArgs false
set_option linter.unusedVariables false
set_option maxRecDepth 100000
namespace Go.Hart
open Go.Lift Go.Fn

theorem mStore : methT mtT 3 "Store" = some 253 := by decide
theorem mHold : methT mtT 3 "Hold" = some 252 := by decide
theorem mHeld : methT mtT 3 "Held" = some 251 := by decide
theorem huU' : HU U2 U1 := ⟨rfl, fun _ _ _ _ _ hx => inv_mk mLoad rfl hx, fun _ _ _ _ _ _ _ hx => inv_mk mTranslate rfl hx⟩
theorem hlU : HL U3 U2 := ⟨rfl, fun _ _ _ hx => hx, fun _ _ _ hx => hx⟩
theorem hbU : HB U2 U1 := ⟨fun _ _ _ _ _ _ hx => inv_mk mStore rfl hx, fun _ _ _ _ hx => inv_mk mHold rfl hx, fun _ _ _ _ hx => inv_mk mHeld rfl hx⟩

end Go.Hart
