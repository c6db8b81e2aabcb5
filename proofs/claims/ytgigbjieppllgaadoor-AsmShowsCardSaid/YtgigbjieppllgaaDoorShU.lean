/- How deep Decimal may call itself, by the tables. -/
import Derived.Test.YtgigbjieppllgaaDoorShL
import Derived.Test.YtgigbjieppllgaaDoorGc
set_option linter.unusedSimpArgs false
set_option linter.unusedVariables false
set_option maxRecDepth 100000
namespace Go.Insn
open Go.Lift Go.Fn

def ts : List (Nat × List V) := [(3, Lib.pow10Tab.map (V.int .u64))]

theorem decU : ∀ n, DecAt n (UT ts n)
  | 0 => trivial
  | n + 1 => ⟨UT ts n, decU n, fun _ _ _ hx => hx⟩

theorem powU : (3, Lib.pow10Tab.map (V.int .u64)) ∈ (UT ts 10).tabs := List.mem_singleton.2 rfl

end Go.Insn
