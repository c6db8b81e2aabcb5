/- The seat's tables. PRINTED by lift.py. -/
import Derived.Test.YtpebofbnkfpakaaDoorLiftN
import Derived.Test.YtpebofbnkfpakaaDoorFa
import Derived.Test.YtpebofbnkfpakaaDoorProg
set_option linter.unusedVariables false
set_option maxRecDepth 100000
namespace Go.Fn
open Go.Lift

noncomputable def tisT : List (Nat × TI) := [
  (2, ⟨.leaf (.int .i64), 1, 8, [.int .i64 0], none, false⟩),
  (3, ⟨.leaf (.int .i64), 1, 8, [.int .i64 0], none, false⟩),
  (4, ⟨.leaf .bool, 1, 1, [.bool false], none, false⟩),
  (5, ⟨.leaf (.int .u8), 1, 1, [.int .u8 0], none, false⟩),
  (21, ⟨.leaf (.int .i32), 1, 4, [.int .i32 0], none, false⟩),
  (22, ⟨.slice 3, 1, 24, [.sl ⟨none, 0, 0⟩], none, false⟩),
  (23, ⟨.leaf (.int .u64), 1, 8, [.int .u64 0], none, false⟩),
  (24, ⟨.ptr 50, 1, 8, [.ptr none], none, false⟩),
  (28, ⟨.ptr 53, 1, 8, [.ptr none], none, false⟩),
  (31, ⟨.leaf (.int .u64), 1, 8, [.int .u64 0], none, false⟩),
  (34, ⟨.slice 40, 1, 24, [.sl ⟨none, 0, 0⟩], none, false⟩),
  (36, ⟨.struct [(0, 3), (1, 34)], 2, 32, [.int .i64 0, .sl ⟨none, 0, 0⟩], some [.int .i64, .sl], false⟩),
  (40, ⟨.struct [(0, 31), (1, 3), (2, 4)], 3, 24, [.int .u64 0, .int .i64 0, .bool false], some [.int .u64, .int .i64, .bool], true⟩),
  (48, ⟨.slice 5, 1, 24, [.sl ⟨none, 0, 0⟩], none, false⟩),
  (50, ⟨.struct [(0, 48)], 1, 24, [.sl ⟨none, 0, 0⟩], some [.sl], false⟩),
  (53, ⟨.struct [(0, 31), (1, 31), (2, 31), (3, 31), (4, 4)], 5, 40, [.int .u64 0, .int .u64 0, .int .u64 0, .int .u64 0, .bool false], some [.int .u64, .int .u64, .int .u64, .int .u64, .bool], true⟩),
  (58, ⟨.iface, 1, 16, [.nilif], none, false⟩),
  (62, ⟨.struct [(0, 58), (1, 4)], 2, 24, [.nilif, .bool false], some [.any, .bool], false⟩),
  (66, ⟨.struct [(0, 31), (1, 31)], 2, 16, [.int .u64 0, .int .u64 0], some [.int .u64, .int .u64], true⟩),
  (67, ⟨.slice 66, 1, 24, [.sl ⟨none, 0, 0⟩], none, false⟩),
  (73, ⟨.array 4 3, 4, 32, [.int .i64 0, .int .i64 0, .int .i64 0, .int .i64 0], some [.int .i64, .int .i64, .int .i64, .int .i64], false⟩),
  (74, ⟨.array 4 31, 4, 32, [.int .u64 0, .int .u64 0, .int .u64 0, .int .u64 0], some [.int .u64, .int .u64, .int .u64, .int .u64], false⟩)]

def fnsT : List (Nat × Nat) := [(3, 219), (5, 28), (6, 35), (7, 218), (8, 97), (9, 77), (10, 78), (11, 95), (12, 52), (13, 34), (14, 59), (15, 96), (16, 30), (17, 74), (18, 76), (19, 94), (20, 31), (21, 32), (22, 93), (23, 75), (24, 2)]

def tysT : List (Nat × Nat) := [(24, 1)]

def glsT : List (Nat × Nat) := [(0, 1)]

def rtsT : List (Nat × RT) := [(25, .single (.one (.int .i64))), (42, .multi [.one (.int .u64), .one (.int .i64)])]

def backs (l : List (Nat × Nat)) (g : Nat) : Nat :=
  match l with
  | [] => 0
  | (a, b) :: l => bif Nat.beq b g then a else backs l g

noncomputable def sg : Seat := ⟨Go.Proofs.Tryd.prog, backs fnsT, backs tysT⟩

theorem seatTis : tisOK sg.P tisT = true := by kernel_rfl
theorem seatFns : pairsOK sg.fn fnsT = true := by kernel_rfl
theorem seatTys : pairsOK sg.ty tysT = true := by kernel_rfl
theorem seatMixed : sg.P.follows .mixedOrders = true := by kernel_rfl
theorem seatOK : SeatOK sg tisT fnsT tysT := ⟨seatMixed, seatTis, seatFns, seatTys⟩

end Go.Fn
