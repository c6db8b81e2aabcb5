/- How deep Decimal may call itself, whatever the tables. -/
import Derived.Test.YtcaeaolgijjjnaaGreatDoorKb
import Derived.Test.YtcaeaolgijjjnaaGreatDoorGc
import Derived.Test.YtcaeaolgijjjnaaGreatDoorKd
import Derived.Test.YtcaeaolgijjjnaaGreatDoorRows
import Derived.KernelRfl
import Derived.LaidHandle
set_option linter.unusedSimpArgs false
set_option linter.unusedVariables false

set_option linter.unusedSimpArgs false
set_option linter.unusedVariables false
set_option maxRecDepth 100000
namespace Go.Insn
open Go.Lift Go.Fn

theorem decUT (ts : List (Nat × List V)) : ∀ n, DecAt n (UT ts n)
  | 0 => trivial
  | n + 1 => ⟨UT ts n, decUT ts n, fun _ _ _ hx => hx⟩

end Go.Insn

set_option linter.unusedSimpArgs false
set_option linter.unusedVariables false
set_option maxRecDepth 100000
namespace Go.Asm
open Go.Lift Go.Fn Go.Insn

theorem tabs_UT (ts : List (Nat × List V)) : ∀ n, (UT ts n).tabs = ts
  | 0 => rfl
  | _ + 1 => rfl

end Go.Asm

set_option linter.unusedSimpArgs false
set_option linter.unusedVariables false
set_option maxRecDepth 100000
namespace Go.Asm
open Go Go.Proofs Go.Lift Go.Fn Go.Insn

theorem err_rt : (Tryz.prog.cutTypes.find? (·.1 == "internal/reflectlite.rtype")).map (·.2) = some 121 := by kernel_rfl
theorem err_row : ((List.range 260).filter fun t => Tryz.prog.rowNamed t [101, 114, 114, 111, 114]) = [40] := by kernel_rfl
theorem err_size : Tryz.prog.types.size = 260 := by kernel_rfl
theorem err_glob : Tryz.prog.globalNamed "errors.errorType" = some 0 := by kernel_rfl

theorem err_cell {W : World} (h : handlesMet Tryz.prog [("errors.errorType", Go.Proofs.YtcaeaolgijjjnaaGreatDoor.Rows.laid_errors_errorType)] W) : ∃ el fz, W.heap[0]? = some (.cells #[.iface 121 (.agg #[.pointer (some ⟨12, 40, none⟩)])] el fz) := by
  obtain ⟨name, u, ty, e1, e2, e3, e4, e5⟩ := h _ (List.mem_singleton.2 rfl)
  have en : name = [101, 114, 114, 111, 114] := (Option.some.inj e1).symm
  subst en
  obtain rfl := Option.some.inj (err_rt.symm.trans e2)
  have hm : ty ∈ (List.range 260).filter fun t => Tryz.prog.rowNamed t [101, 114, 114, 111, 114] := List.mem_filter.2 ⟨List.mem_range.2 (by rw [← err_size]; exact e3), e4⟩
  rw [err_row] at hm
  obtain rfl := List.mem_singleton.1 hm
  have hh : typeHandle Tryz.prog 40 = .pointer (some ⟨12, 40, none⟩) := by kernel_rfl
  rw [hh] at e5
  unfold World.var? at e5
  rw [show Tryz.prog.globalNamed ("errors.errorType", Go.Proofs.YtcaeaolgijjjnaaGreatDoor.Rows.laid_errors_errorType).1 = some 0 from err_glob, Option.bind_some] at e5
  cases hw : W.heap[0]? with
  | none => rw [hw] at e5; cases e5
  | some o =>
    rw [hw] at e5
    cases o <;> first | cases e5 | skip
    exact ⟨_, _, rfl⟩

def tsE (m : Int) : List (Nat × List V) := [(3, Lib.pow10Tab.map (V.int .u64)), (5, [V.int .i64 m]), (6, [V.iface 10 (.agg [.ptr (some ⟨24, 40⟩)])])]

theorem one_UTE (m : Int) (n : Nat) : oneTab (UT (tsE m) n) 5 := ⟨m, by rw [tabs_UT]; exact List.mem_cons_of_mem _ List.mem_cons_self⟩
theorem err_UTE (m : Int) (n : Nat) : errTab (UT (tsE m) n) := by
  unfold errTab; rw [tabs_UT]; exact List.mem_cons_of_mem _ (List.mem_cons_of_mem _ (List.mem_singleton.2 rfl))
theorem err_vals : (V.vals sg [V.iface 10 (.agg [.ptr (some ⟨24, 40⟩)])]).toArray = #[.iface 121 (.agg #[.pointer (some ⟨12, 40, none⟩)])] := by kernel_rfl

end Go.Asm
