/- What the closures of the disk answer, by the tables. -/
import Derived.Test.YtmpjgafkdhineaaDoorKa
import Derived.Test.YtmpjgafkdhineaaDoorGc

set_option linter.unusedSimpArgs false
set_option linter.unusedVariables false
set_option maxRecDepth 100000
namespace Go.Disk
open Go.Lift Go.Fn

theorem duU : DU U3 := ⟨fun _ _ _ _ hx => hx, fun _ _ _ _ hx => hx, fun _ _ _ hx => hx⟩

end Go.Disk
