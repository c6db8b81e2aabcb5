/- What the guest's methods do, by the tables. -/
import Derived.Test.YtpebofbnkfpakaaDoorRingA
import Derived.Test.YtpebofbnkfpakaaDoorGc
set_option linter.unusedSimpArgs false
set_option linter.unusedVariables false
set_option maxRecDepth 100000
namespace Go.Ring
open Go.Lift Go.Fn

theorem inv_mk {glob : Nat → Nat} {tab : CTab} {mt : List (Nat × List (String × Nat))} {t g : Nat} {u : V} {m : String} {vs : List V} {κ : V → Heap → Prop} {h : Heap} (hm : methT mt t m = some g) (hu : V.wfb u = true) (hx : inTab tab g (u :: vs) κ h) : (mkIfc glob tab mt).inv (.iface t u) m vs κ h := by
  simp only [mkIfc, hm, hu]
  exact hx

theorem mLoad : methT mtT 1 "Load" = some 95 := by decide
theorem mStore : methT mtT 1 "Store" = some 97 := by decide

theorem ruU : RU U3 U2 := ⟨fun m a w κ h hx => inv_mk mLoad rfl hx, fun m a w v κ h hx => inv_mk mStore rfl hx⟩

end Go.Ring
