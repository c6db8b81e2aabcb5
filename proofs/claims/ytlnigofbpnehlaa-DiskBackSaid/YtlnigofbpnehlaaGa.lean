/- The seat's tables. PRINTED by lift.py. -/
import Derived.Test.YtlnigofbpnehlaaLiftN
import Derived.Test.YtlnigofbpnehlaaFa
import Derived.Test.YtlnigofbpnehlaaProg
set_option linter.unusedVariables false
set_option maxRecDepth 100000
namespace Go.Fn
open Go.Lift

noncomputable def tisT : List (Nat × TI) := [
  (3, ⟨.leaf (.int .i64), 1, 8, [.int .i64 0], none, false⟩),
  (4, ⟨.leaf .bool, 1, 1, [.bool false], none, false⟩),
  (5, ⟨.leaf (.int .u8), 1, 1, [.int .u8 0], none, false⟩),
  (9, ⟨.leaf .str, 1, 16, [.str []], none, false⟩),
  (62, ⟨.slice 5, 1, 24, [.sl ⟨none, 0, 0⟩], none, false⟩),
  (63, ⟨.ptr 110, 1, 8, [.ptr none], none, false⟩),
  (66, ⟨.ptr 114, 1, 8, [.ptr none], none, false⟩),
  (70, ⟨.leaf (.int .u64), 1, 8, [.int .u64 0], none, false⟩),
  (73, ⟨.struct [(0, 3), (1, 4), (2, 3), (3, 3)], 4, 32, [.int .i64 0, .bool false, .int .i64 0, .int .i64 0], some [.int .i64, .bool, .int .i64, .int .i64], true⟩),
  (76, ⟨.slice 73, 1, 24, [.sl ⟨none, 0, 0⟩], none, false⟩),
  (108, ⟨.map 3 62, 1, 8, [.map none], none, false⟩),
  (110, ⟨.struct [(0, 3), (1, 108), (2, 76)], 3, 40, [.int .i64 0, .map none, .sl ⟨none, 0, 0⟩], some [.int .i64, .map, .sl], false⟩),
  (114, ⟨.struct [(0, 62)], 1, 24, [.sl ⟨none, 0, 0⟩], some [.sl], false⟩)]

def fnsT : List (Nat × Nat) := [(7, 89), (30, 85), (31, 28), (32, 33), (33, 82), (34, 88), (35, 38), (36, 40), (37, 87), (43, 86), (48, 50), (63, 32), (64, 36), (65, 81), (66, 3), (67, 29), (68, 55), (69, 71), (70, 56), (71, 37), (72, 39), (74, 73), (75, 57), (76, 58), (83, 2), (84, 31), (85, 70), (86, 72)]

def tysT : List (Nat × Nat) := []

def glsT : List (Nat × Nat) := []

def rtsT : List (Nat × RT) := [(4, .single (.one (.bool)))]

def backs (l : List (Nat × Nat)) (g : Nat) : Nat :=
  match l with
  | [] => 0
  | (a, b) :: l => bif Nat.beq b g then a else backs l g

noncomputable def sg : Seat := ⟨Go.Proofs.Try.prog, backs fnsT, backs tysT⟩

theorem seatTis : tisOK sg.P tisT = true := by kernel_rfl
theorem seatFns : pairsOK sg.fn fnsT = true := by kernel_rfl
theorem seatTys : pairsOK sg.ty tysT = true := by kernel_rfl
theorem seatMixed : sg.P.follows .mixedOrders = true := by kernel_rfl
theorem seatOK : SeatOK sg tisT fnsT tysT := ⟨seatMixed, seatTis, seatFns, seatTys⟩

end Go.Fn
