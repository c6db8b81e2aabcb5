/- The seat's tables. PRINTED by lift.py. -/
import Derived.Test.YtlnigofbpnehlaaLiftN
import Derived.Test.YtlnigofbpnehlaaFa
import Derived.Test.YtlnigofbpnehlaaProg
set_option linter.unusedVariables false
set_option maxRecDepth 100000
namespace Go.Fn
open Go.Lift

noncomputable def tisT : List (Nat × TI) := [
  (2, ⟨.leaf (.int .i64), 1, 8, [.int .i64 0], none, false⟩),
  (3, ⟨.leaf (.int .i64), 1, 8, [.int .i64 0], none, false⟩),
  (4, ⟨.leaf .bool, 1, 1, [.bool false], none, false⟩),
  (5, ⟨.leaf (.int .u8), 1, 1, [.int .u8 0], none, false⟩),
  (21, ⟨.leaf (.int .i32), 1, 4, [.int .i32 0], none, false⟩),
  (38, ⟨.leaf (.int .u64), 1, 8, [.int .u64 0], none, false⟩),
  (46, ⟨.array 4 3, 4, 32, [.int .i64 0, .int .i64 0, .int .i64 0, .int .i64 0], some [.int .i64, .int .i64, .int .i64, .int .i64], false⟩),
  (62, ⟨.slice 5, 1, 24, [.sl ⟨none, 0, 0⟩], none, false⟩),
  (63, ⟨.ptr 110, 1, 8, [.ptr none], none, false⟩),
  (66, ⟨.ptr 114, 1, 8, [.ptr none], none, false⟩),
  (70, ⟨.leaf (.int .u64), 1, 8, [.int .u64 0], none, false⟩),
  (108, ⟨.map 3 62, 1, 8, [.map none], none, false⟩),
  (110, ⟨.struct [(0, 3), (1, 108), (2, 76)], 3, 40, [.int .i64 0, .map none, .sl ⟨none, 0, 0⟩], some [.int .i64, .map, .sl], false⟩),
  (114, ⟨.struct [(0, 62)], 1, 24, [.sl ⟨none, 0, 0⟩], some [.sl], false⟩),
  (117, ⟨.struct [(0, 3), (1, 3), (2, 3), (3, 70), (4, 70)], 5, 40, [.int .i64 0, .int .i64 0, .int .i64 0, .int .u64 0, .int .u64 0], some [.int .i64, .int .i64, .int .i64, .int .u64, .int .u64], true⟩),
  (118, ⟨.ptr 120, 1, 8, [.ptr none], none, false⟩),
  (120, ⟨.struct [(0, 70), (1, 70), (2, 70), (3, 70), (4, 4)], 5, 40, [.int .u64 0, .int .u64 0, .int .u64 0, .int .u64 0, .bool false], some [.int .u64, .int .u64, .int .u64, .int .u64, .bool], true⟩),
  (121, ⟨.slice 118, 1, 24, [.sl ⟨none, 0, 0⟩], none, false⟩),
  (122, ⟨.slice 138, 1, 24, [.sl ⟨none, 0, 0⟩], none, false⟩),
  (124, ⟨.struct [(0, 3), (1, 122)], 2, 32, [.int .i64 0, .sl ⟨none, 0, 0⟩], some [.int .i64, .sl], false⟩),
  (130, ⟨.slice 165, 1, 24, [.sl ⟨none, 0, 0⟩], none, false⟩),
  (132, ⟨.struct [(0, 3), (1, 130)], 2, 32, [.int .i64 0, .sl ⟨none, 0, 0⟩], some [.int .i64, .sl], false⟩),
  (138, ⟨.struct [(0, 70), (1, 3), (2, 4)], 3, 24, [.int .u64 0, .int .i64 0, .bool false], some [.int .u64, .int .i64, .bool], true⟩),
  (157, ⟨.iface, 1, 16, [.nilif], none, false⟩),
  (161, ⟨.struct [(0, 157), (1, 4)], 2, 24, [.nilif, .bool false], some [.any, .bool], false⟩),
  (165, ⟨.struct [(0, 70), (1, 3), (2, 4)], 3, 24, [.int .u64 0, .int .i64 0, .bool false], some [.int .u64, .int .i64, .bool], true⟩),
  (166, ⟨.struct [(0, 70), (1, 70)], 2, 16, [.int .u64 0, .int .u64 0], some [.int .u64, .int .u64], true⟩),
  (167, ⟨.slice 166, 1, 24, [.sl ⟨none, 0, 0⟩], none, false⟩),
  (176, ⟨.array 4 70, 4, 32, [.int .u64 0, .int .u64 0, .int .u64 0, .int .u64 0], some [.int .u64, .int .u64, .int .u64, .int .u64], false⟩)]

def fnsT : List (Nat × Nat) := [(11, 79), (12, 80), (31, 28), (32, 33), (36, 40), (43, 86), (49, 77), (50, 52), (51, 53), (52, 78), (53, 35), (63, 32), (64, 36), (67, 29), (68, 55), (72, 39), (74, 73), (75, 57), (76, 58), (78, 30), (79, 74), (80, 76), (81, 34), (83, 2), (84, 31), (86, 72), (87, 75), (104, 95), (105, 97), (106, 59), (107, 94), (108, 96), (109, 93)]

def tysT : List (Nat × Nat) := [(66, 1)]

def glsT : List (Nat × Nat) := [(0, 1)]

def rtsT : List (Nat × RT) := [(4, .single (.one (.bool))), (24, .single (.one (.int .i64))), (172, .multi [.one (.int .u64), .one (.int .i64)])]

def backs (l : List (Nat × Nat)) (g : Nat) : Nat :=
  match l with
  | [] => 0
  | (a, b) :: l => bif Nat.beq b g then a else backs l g

noncomputable def sg : Seat := ⟨Go.Proofs.Try.prog, backs fnsT, backs tysT⟩

theorem seatTis : tisOK sg.P tisT = true := by kernel_rfl
theorem seatFns : pairsOK sg.fn fnsT = true := by kernel_rfl
theorem seatTys : pairsOK sg.ty tysT = true := by kernel_rfl
theorem seatMixed : sg.P.follows .mixedOrders = true := by kernel_rfl
theorem seatOK : SeatOK sg tisT fnsT tysT := ⟨seatMixed, seatTis, seatFns, seatTys⟩

end Go.Fn
