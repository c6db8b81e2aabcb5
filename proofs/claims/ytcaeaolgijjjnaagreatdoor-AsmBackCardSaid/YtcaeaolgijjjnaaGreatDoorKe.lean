/- How deep Decimal may call itself, whatever the tables. -/
import Derived.Test.YtcaeaolgijjjnaaGreatDoorKb
import Derived.Test.YtcaeaolgijjjnaaGreatDoorGc
import Derived.Test.YtcaeaolgijjjnaaGreatDoorKd

set_option linter.unusedSimpArgs false
set_option linter.unusedVariables false
set_option maxRecDepth 100000
namespace Go.Insn
open Go.Lift Go.Fn

end Go.Insn

set_option linter.unusedSimpArgs false
set_option linter.unusedVariables false
set_option maxRecDepth 100000
namespace Go.Asm
open Go.Lift Go.Fn Go.Insn

def tsM (m : Int) : List (Nat × List V) := [(3, Lib.pow10Tab.map (V.int .u64)), (5, [V.int .i64 m])]

theorem tabs_UT (ts : List (Nat × List V)) : ∀ n, (UT ts n).tabs = ts
  | 0 => rfl
  | _ + 1 => rfl

theorem one_UT (m : Int) (n : Nat) : oneTab (UT (tsM m) n) 5 := ⟨m, by rw [tabs_UT]; exact List.mem_cons_of_mem _ (List.mem_singleton.2 rfl)⟩

theorem pow_UT (m : Int) (n : Nat) : (3, Lib.pow10Tab.map (V.int .u64)) ∈ (UT (tsM m) n).tabs := by rw [tabs_UT]; exact List.mem_cons_self

end Go.Asm
