/- The seat's tables. PRINTED by lift.py. -/
import Derived.Test.YtgigbjieppllgaaLiftN
import Derived.Test.YtgigbjieppllgaaFa
import Derived.Test.YtgigbjieppllgaaProg
set_option linter.unusedVariables false
set_option maxRecDepth 100000
namespace Go.Fn
open Go.Lift

noncomputable def tisT : List (Nat × TI) := [
  (3, { d := .leaf (.int .i64), size := 1, bytes := 8, zero := [.int .i64 0], leaves := none, eq := false }),
  (4, { d := .leaf .bool, size := 1, bytes := 1, zero := [.bool false], leaves := none, eq := false }),
  (22, { d := .slice 27, size := 1, bytes := 24, zero := [.sl ⟨none, 0, 0⟩], leaves := none, eq := false }),
  (23, { d := .ptr 40, size := 1, bytes := 8, zero := [.ptr none], leaves := none, eq := false }),
  (27, { d := .leaf (.int .u64), size := 1, bytes := 8, zero := [.int .u64 0], leaves := none, eq := false }),
  (29, { d := .slice 3, size := 1, bytes := 24, zero := [.sl ⟨none, 0, 0⟩], leaves := none, eq := false }),
  (38, { d := .map 3 41, size := 1, bytes := 8, zero := [.map none], leaves := none, eq := false }),
  (40, { d := .struct [(0, 38)], size := 1, bytes := 8, zero := [.map none], leaves := some [.map], eq := false }),
  (41, { d := .ptr 45, size := 1, bytes := 8, zero := [.ptr none], leaves := none, eq := false }),
  (45, { d := .struct [(0, 27), (1, 4), (2, 27), (3, 4), (4, 27)], size := 5, bytes := 40, zero := [.int .u64 0, .bool false, .int .u64 0, .bool false, .int .u64 0], leaves := some [.int .u64, .bool, .int .u64, .bool, .int .u64], eq := true })]

def fnsT : List (Nat × Nat) := [(3, 333), (5, 99), (6, 130), (7, 131), (8, 128), (9, 126), (10, 103), (13, 100), (14, 132), (15, 125)]

def tysT : List (Nat × Nat) := []

def glsT : List (Nat × Nat) := []

def rtsT : List (Nat × RT) := []

def backs (l : List (Nat × Nat)) (g : Nat) : Nat :=
  match l with
  | [] => 0
  | (a, b) :: l => bif Nat.beq b g then a else backs l g

noncomputable def sg : Seat := ⟨Go.Proofs.Try.prog, backs fnsT, backs tysT⟩

theorem seatTis : tisOK sg.P tisT = true := by kernel_rfl
theorem seatFns : pairsOK sg.fn fnsT = true := by kernel_rfl
theorem seatTys : pairsOK sg.ty tysT = true := by kernel_rfl
theorem seatMixed : sg.P.follows .mixedOrders = true := by kernel_rfl
theorem seatOK : SeatOK sg tisT fnsT tysT := ⟨seatMixed, seatTis, seatFns, seatTys⟩

end Go.Fn
