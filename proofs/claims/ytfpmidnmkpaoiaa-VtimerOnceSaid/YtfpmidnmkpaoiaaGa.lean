/- The seat's tables. PRINTED by lift.py. -/
import Derived.Test.YtfpmidnmkpaoiaaLiftN
import Derived.Test.YtfpmidnmkpaoiaaFa
import Derived.Test.YtfpmidnmkpaoiaaProg
set_option linter.unusedVariables false
set_option maxRecDepth 100000
namespace Go.Fn
open Go.Lift

noncomputable def tisT : List (Nat × TI) := [
  (3, ⟨.leaf (.int .i64), 1, 8, [.int .i64 0], none, false⟩),
  (4, ⟨.leaf .bool, 1, 1, [.bool false], none, false⟩),
  (5, ⟨.leaf (.int .u8), 1, 1, [.int .u8 0], none, false⟩),
  (9, ⟨.leaf .str, 1, 16, [.str []], none, false⟩),
  (22, ⟨.leaf (.int .u64), 1, 8, [.int .u64 0], none, false⟩),
  (23, ⟨.slice 22, 1, 24, [.sl ⟨none, 0, 0⟩], none, false⟩),
  (24, ⟨.ptr 39, 1, 8, [.ptr none], none, false⟩),
  (28, ⟨.slice 3, 1, 24, [.sl ⟨none, 0, 0⟩], none, false⟩),
  (30, ⟨.leaf (.int .u64), 1, 8, [.int .u64 0], none, false⟩),
  (36, ⟨.struct [(0, 3), (1, 3), (2, 22)], 3, 24, [.int .i64 0, .int .i64 0, .int .u64 0], some [.int .i64, .int .i64, .int .u64], true⟩),
  (37, ⟨.map 3 43, 1, 8, [.map none], none, false⟩),
  (39, ⟨.struct [(0, 37)], 1, 8, [.map none], some [.map], false⟩),
  (40, ⟨.slice 24, 1, 24, [.sl ⟨none, 0, 0⟩], none, false⟩),
  (43, ⟨.ptr 47, 1, 8, [.ptr none], none, false⟩),
  (47, ⟨.struct [(0, 22), (1, 4), (2, 22), (3, 4), (4, 22)], 5, 40, [.int .u64 0, .bool false, .int .u64 0, .bool false, .int .u64 0], some [.int .u64, .bool, .int .u64, .bool, .int .u64], true⟩),
  (65, ⟨.leaf (.int .u64), 1, 8, [.int .u64 0], none, false⟩)]

def fnsT : List (Nat × Nat) := [(3, 101), (4, 104), (5, 99), (6, 130), (7, 131), (8, 105), (9, 126), (10, 133), (11, 102), (12, 103), (13, 127), (14, 128), (15, 100), (16, 132), (17, 125), (18, 124), (19, 107), (20, 110), (21, 112), (22, 123), (23, 116), (24, 117), (25, 118), (26, 109), (27, 119), (28, 120), (30, 106), (31, 111), (32, 121), (33, 122), (34, 115), (35, 114), (36, 108), (37, 113)]

def tysT : List (Nat × Nat) := []

def glsT : List (Nat × Nat) := []

def rtsT : List (Nat × RT) := []

def backs (l : List (Nat × Nat)) (g : Nat) : Nat :=
  match l with
  | [] => 0
  | (a, b) :: l => bif Nat.beq b g then a else backs l g

noncomputable def sg : Seat := ⟨Go.Proofs.Try.prog, backs fnsT, backs tysT⟩

theorem seatTis : tisOK sg.P tisT = true := by kernel_rfl
theorem seatFns : pairsOK sg.fn fnsT = true := by kernel_rfl
theorem seatTys : pairsOK sg.ty tysT = true := by kernel_rfl
theorem seatMixed : sg.P.follows .mixedOrders = true := by kernel_rfl
theorem seatOK : SeatOK sg tisT fnsT tysT := ⟨seatMixed, seatTis, seatFns, seatTys⟩

end Go.Fn
