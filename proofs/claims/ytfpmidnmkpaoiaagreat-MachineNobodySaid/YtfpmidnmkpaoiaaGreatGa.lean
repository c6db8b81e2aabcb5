/- The seat's tables. PRINTED by lift.py. -/
import Derived.Test.YtfpmidnmkpaoiaaGreatLiftN
import Derived.Test.YtfpmidnmkpaoiaaGreatFa
import Derived.Test.YtfpmidnmkpaoiaaGreatProg
set_option linter.unusedVariables false
set_option maxRecDepth 100000
namespace Go.Fn
open Go.Lift

noncomputable def tisT : List (Nat × TI) := [
  (3, ⟨.leaf (.int .i64), 1, 8, [.int .i64 0], none, false⟩),
  (4, ⟨.leaf .bool, 1, 1, [.bool false], none, false⟩),
  (22, ⟨.leaf (.int .u64), 1, 8, [.int .u64 0], none, false⟩),
  (24, ⟨.struct [(0, 3), (1, 3), (2, 3), (3, 22), (4, 22)], 5, 40, [.int .i64 0, .int .i64 0, .int .i64 0, .int .u64 0, .int .u64 0], some [.int .i64, .int .i64, .int .i64, .int .u64, .int .u64], true⟩),
  (25, ⟨.ptr 29, 1, 8, [.ptr none], none, false⟩),
  (26, ⟨.ptr 101, 1, 8, [.ptr none], none, false⟩),
  (27, ⟨.slice 57, 1, 24, [.sl ⟨none, 0, 0⟩], none, false⟩),
  (29, ⟨.struct [(0, 26), (1, 27)], 2, 32, [.ptr none, .sl ⟨none, 0, 0⟩], some [.ptr, .sl], false⟩),
  (30, ⟨.slice 25, 1, 24, [.sl ⟨none, 0, 0⟩], none, false⟩),
  (33, ⟨.struct [(0, 31), (16, 22), (17, 3)], 18, 144, z_palisade_api_Regs, none, false⟩),
  (34, ⟨.ptr 72, 1, 8, [.ptr none], none, false⟩),
  (36, ⟨.struct [(0, 3), (1, 33), (19, 34), (20, 3)], 21, 168, z_palisade_machine_Context, none, false⟩),
  (43, ⟨.struct [(0, 3), (1, 22), (2, 22)], 3, 24, [.int .i64 0, .int .u64 0, .int .u64 0], some [.int .i64, .int .u64, .int .u64], true⟩),
  (45, ⟨.struct [(0, 3), (1, 43), (4, 4), (5, 4)], 6, 40, [.int .i64 0, .int .i64 0, .int .u64 0, .int .u64 0, .bool false, .bool false], some [.int .i64, .int .i64, .int .u64, .int .u64, .bool, .bool], true⟩),
  (54, ⟨.slice 3, 1, 24, [.sl ⟨none, 0, 0⟩], none, false⟩),
  (57, ⟨.ptr 65, 1, 8, [.ptr none], none, false⟩),
  (60, ⟨.ptr 105, 1, 8, [.ptr none], none, false⟩),
  (61, ⟨.map 3 73, 1, 8, [.map none], none, false⟩),
  (63, ⟨.struct [(0, 4), (1, 22)], 2, 16, [.bool false, .int .u64 0], some [.bool, .int .u64], true⟩),
  (65, ⟨.struct [(0, 26), (1, 25), (2, 36), (23, 4), (24, 60), (25, 61), (26, 63)], 28, 224, z_palisade_machine_core, none, false⟩),
  (70, ⟨.array 12 22, 12, 96, z_12_uint64, some [.int .u64, .int .u64, .int .u64, .int .u64, .int .u64, .int .u64, .int .u64, .int .u64, .int .u64, .int .u64, .int .u64, .int .u64], false⟩),
  (72, ⟨.struct [(0, 4), (1, 70)], 13, 104, z_palisade_csr_File, some [.bool, .int .u64, .int .u64, .int .u64, .int .u64, .int .u64, .int .u64, .int .u64, .int .u64, .int .u64, .int .u64, .int .u64, .int .u64], false⟩),
  (73, ⟨.slice 75, 1, 24, [.sl ⟨none, 0, 0⟩], none, false⟩),
  (75, ⟨.struct [(0, 3), (1, 22), (2, 4)], 3, 24, [.int .i64 0, .int .u64 0, .bool false], some [.int .i64, .int .u64, .bool], true⟩),
  (77, ⟨.struct [(0, 3), (1, 4), (2, 4), (3, 4), (4, 4), (5, 3)], 6, 24, [.int .i64 0, .bool false, .bool false, .bool false, .bool false, .int .i64 0], some [.int .i64, .bool, .bool, .bool, .bool, .int .i64], true⟩),
  (101, ⟨.struct [(0, 99)], 1, 24, [.sl ⟨none, 0, 0⟩], some [.sl], false⟩)]

def fnsT : List (Nat × Nat) := [(3, 144), (4, 136), (5, 137), (6, 138), (7, 139), (8, 134), (9, 140), (10, 142), (11, 141), (12, 143), (13, 135)]

def tysT : List (Nat × Nat) := [(57, 2)]

def glsT : List (Nat × Nat) := []

def rtsT : List (Nat × RT) := []

def backs (l : List (Nat × Nat)) (g : Nat) : Nat :=
  match l with
  | [] => 0
  | (a, b) :: l => bif Nat.beq b g then a else backs l g

noncomputable def sg : Seat := ⟨Go.Proofs.Tryz.prog, backs fnsT, backs tysT⟩

theorem seatTis : tisOK sg.P tisT = true := by kernel_rfl
theorem seatFns : pairsOK sg.fn fnsT = true := by kernel_rfl
theorem seatTys : pairsOK sg.ty tysT = true := by kernel_rfl
theorem seatMixed : sg.P.follows .mixedOrders = true := by kernel_rfl
theorem seatOK : SeatOK sg tisT fnsT tysT := ⟨seatMixed, seatTis, seatFns, seatTys⟩

end Go.Fn
