/- The seat's tables. PRINTED by lift.py. -/
import Derived.Test.YthapldoonognpaaGreatDoorLiftN
import Derived.Test.YthapldoonognpaaGreatDoorFa
import Derived.Test.YthapldoonognpaaGreatDoorProg
set_option linter.unusedVariables false
set_option maxRecDepth 100000
namespace Go.Fn
open Go.Lift

noncomputable def tisT : List (Nat × TI) := [
  (2, { d := .leaf (.int .i64), size := 1, bytes := 8, zero := [.int .i64 0], leaves := none, eq := false }),
  (3, { d := .leaf (.int .i64), size := 1, bytes := 8, zero := [.int .i64 0], leaves := none, eq := false }),
  (4, { d := .leaf .bool, size := 1, bytes := 1, zero := [.bool false], leaves := none, eq := false }),
  (5, { d := .leaf (.int .u8), size := 1, bytes := 1, zero := [.int .u8 0], leaves := none, eq := false }),
  (21, { d := .leaf (.int .i32), size := 1, bytes := 4, zero := [.int .i32 0], leaves := none, eq := false }),
  (22, { d := .leaf (.int .u64), size := 1, bytes := 8, zero := [.int .u64 0], leaves := none, eq := false }),
  (23, { d := .array 16 22, size := 16, bytes := 128, zero := z_16_uint64, leaves := some [.int .u64, .int .u64, .int .u64, .int .u64, .int .u64, .int .u64, .int .u64, .int .u64, .int .u64, .int .u64, .int .u64, .int .u64, .int .u64, .int .u64, .int .u64, .int .u64], eq := false }),
  (25, ⟨.struct [(0, 23), (16, 22), (17, 3)], 18, 144, z_palisade_api_Regs, none, false, some (.struct (.cons 0 16 (.arr 16 1 (.leaf (.int .u64))) (.cons 16 1 (.leaf (.int .u64)) (.cons 17 1 (.leaf (.int .i64)) .nil))))⟩),
  (26, { d := .array 12 22, size := 12, bytes := 96, zero := z_12_uint64, leaves := some [.int .u64, .int .u64, .int .u64, .int .u64, .int .u64, .int .u64, .int .u64, .int .u64, .int .u64, .int .u64, .int .u64, .int .u64], eq := false }),
  (27, { d := .slice 65, size := 1, bytes := 24, zero := [.sl ⟨none, 0, 0⟩], leaves := none, eq := false }),
  (28, { d := .slice 61, size := 1, bytes := 24, zero := [.sl ⟨none, 0, 0⟩], leaves := none, eq := false }),
  (29, { d := .slice 58, size := 1, bytes := 24, zero := [.sl ⟨none, 0, 0⟩], leaves := none, eq := false }),
  (31, { d := .struct [(0, 25), (18, 26), (30, 27), (31, 28), (32, 29), (33, 3)], size := 34, bytes := 320, zero := z_palisade_palisadelaw09_State, leaves := none, eq := false }),
  (32, { d := .ptr 47, size := 1, bytes := 8, zero := [.ptr none], leaves := none, eq := false }),
  (34, { d := .ptr 69, size := 1, bytes := 8, zero := [.ptr none], leaves := none, eq := false }),
  (39, { d := .struct [(0, 3), (1, 22), (2, 22)], size := 3, bytes := 24, zero := [.int .i64 0, .int .u64 0, .int .u64 0], leaves := some [.int .i64, .int .u64, .int .u64], eq := true }),
  (41, { d := .struct [(0, 3), (1, 39), (4, 4), (5, 4)], size := 6, bytes := 40, zero := [.int .i64 0, .int .i64 0, .int .u64 0, .int .u64 0, .bool false, .bool false], leaves := some [.int .i64, .int .i64, .int .u64, .int .u64, .bool, .bool], eq := true }),
  (45, { d := .ptr 25, size := 1, bytes := 8, zero := [.ptr none], leaves := none, eq := false }),
  (47, { d := .struct [(0, 4), (1, 26)], size := 13, bytes := 104, zero := z_palisade_csr_File, leaves := some [.bool, .int .u64, .int .u64, .int .u64, .int .u64, .int .u64, .int .u64, .int .u64, .int .u64, .int .u64, .int .u64, .int .u64, .int .u64], eq := false }),
  (49, { d := .ptr 87, size := 1, bytes := 8, zero := [.ptr none], leaves := none, eq := false }),
  (52, { d := .ptr 89, size := 1, bytes := 8, zero := [.ptr none], leaves := none, eq := false }),
  (58, { d := .struct [(0, 22), (1, 22)], size := 2, bytes := 16, zero := [.int .u64 0, .int .u64 0], leaves := some [.int .u64, .int .u64], eq := true }),
  (61, { d := .leaf (.int .u32), size := 1, bytes := 4, zero := [.int .u32 0], leaves := none, eq := false }),
  (65, { d := .struct [(0, 3), (1, 3), (2, 3), (3, 3), (4, 3)], size := 5, bytes := 40, zero := [.int .i64 0, .int .i64 0, .int .i64 0, .int .i64 0, .int .i64 0], leaves := some [.int .i64, .int .i64, .int .i64, .int .i64, .int .i64], eq := true }),
  (69, { d := .struct [(0, 49), (1, 3), (2, 4), (3, 22)], size := 4, bytes := 32, zero := [.ptr none, .int .i64 0, .bool false, .int .u64 0], leaves := some [.ptr, .int .i64, .bool, .int .u64], eq := false }),
  (72, { d := .iface, size := 1, bytes := 16, zero := [.nilif], leaves := none, eq := false }),
  (76, { d := .struct [(0, 45), (1, 32), (2, 72), (3, 61), (4, 65), (9, 22), (10, 41)], size := 16, bytes := 128, zero := z_palisade_hart_hart, leaves := some [.ptr, .ptr, .any, .int .u32, .int .i64, .int .i64, .int .i64, .int .i64, .int .i64, .int .u64, .int .i64, .int .i64, .int .u64, .int .u64, .bool, .bool], eq := false }),
  (78, { d := .struct [(0, 39), (3, 4), (4, 3)], size := 5, bytes := 40, zero := [.int .i64 0, .int .u64 0, .int .u64 0, .bool false, .int .i64 0], leaves := some [.int .i64, .int .u64, .int .u64, .bool, .int .i64], eq := true }),
  (82, { d := .map 3 81, size := 1, bytes := 8, zero := [.map none], leaves := none, eq := false }),
  (85, { d := .slice 5, size := 1, bytes := 24, zero := [.sl ⟨none, 0, 0⟩], leaves := none, eq := false }),
  (87, { d := .struct [(0, 85)], size := 1, bytes := 24, zero := [.sl ⟨none, 0, 0⟩], leaves := some [.sl], eq := false }),
  (89, { d := .struct [(0, 85)], size := 1, bytes := 24, zero := [.sl ⟨none, 0, 0⟩], leaves := some [.sl], eq := false }),
  (91, { d := .struct [(0, 26)], size := 12, bytes := 96, zero := z_12_uint64, leaves := some [.int .u64, .int .u64, .int .u64, .int .u64, .int .u64, .int .u64, .int .u64, .int .u64, .int .u64, .int .u64, .int .u64, .int .u64], eq := false }),
  (101, { d := .ptr 218, size := 1, bytes := 8, zero := [.ptr none], leaves := none, eq := false }),
  (102, { d := .slice 210, size := 1, bytes := 24, zero := [.sl ⟨none, 0, 0⟩], leaves := none, eq := false }),
  (103, { d := .slice 35, size := 1, bytes := 24, zero := [.sl ⟨none, 0, 0⟩], leaves := none, eq := false }),
  (105, { d := .struct [(0, 52), (1, 3), (2, 3), (3, 3), (4, 101), (5, 102), (6, 4), (7, 22), (8, 103)], size := 9, bytes := 104, zero := z_palisade_palisaderef09_Bus, leaves := some [.ptr, .int .i64, .int .i64, .int .i64, .ptr, .sl, .bool, .int .u64, .sl], eq := false }),
  (120, { d := .leaf (.int .u64), size := 1, bytes := 8, zero := [.int .u64 0], leaves := none, eq := false }),
  (144, { d := .array 4 3, size := 4, bytes := 32, zero := [.int .i64 0, .int .i64 0, .int .i64 0, .int .i64 0], leaves := some [.int .i64, .int .i64, .int .i64, .int .i64], eq := false }),
  (147, { d := .map 3 3, size := 1, bytes := 8, zero := [.map none], leaves := none, eq := false }),
  (155, { d := .struct [(0, 3), (1, 4)], size := 2, bytes := 16, zero := [.int .i64 0, .bool false], leaves := some [.int .i64, .bool], eq := true }),
  (156, { d := .slice 155, size := 1, bytes := 24, zero := [.sl ⟨none, 0, 0⟩], leaves := none, eq := false }),
  (158, { d := .slice 3, size := 1, bytes := 24, zero := [.sl ⟨none, 0, 0⟩], leaves := none, eq := false })]

def fnsT : List (Nat × Nat) := [(3, 254), (4, 231), (5, 188), (6, 28), (7, 42), (8, 141), (9, 221), (10, 97), (11, 64), (12, 228), (13, 217), (14, 229), (15, 230), (16, 163), (18, 185), (20, 59), (21, 96), (22, 60), (23, 63), (24, 226), (25, 227), (26, 222), (27, 162), (28, 213), (30, 165), (33, 168), (34, 182), (36, 146), (37, 147), (38, 148), (39, 149), (40, 150), (41, 151), (42, 152), (43, 153), (44, 154), (45, 155), (46, 156), (47, 157), (48, 158), (49, 159), (50, 160), (51, 161), (53, 31), (54, 32), (55, 93), (56, 47), (57, 223), (58, 225), (60, 172), (61, 175), (62, 176), (63, 181), (79, 2), (80, 224), (81, 170), (82, 171), (83, 174), (84, 169), (85, 179), (86, 180), (91, 173), (92, 178), (95, 177), (117, 95), (119, 94)]

def tysT : List (Nat × Nat) := [(34, 3)]

def glsT : List (Nat × Nat) := [(0, 1)]

def rtsT : List (Nat × RT) := []

def backs (l : List (Nat × Nat)) (g : Nat) : Nat :=
  match l with
  | [] => 0
  | (a, b) :: l => bif Nat.beq b g then a else backs l g

noncomputable def sg : Seat := ⟨Go.Proofs.Tryz.prog, backs fnsT, backs tysT⟩

theorem seatTis : tisOK sg.P tisT = true := by kernel_rfl
theorem seatFns : pairsOK sg.fn fnsT = true := by kernel_rfl
theorem seatTys : pairsOK sg.ty tysT = true := by kernel_rfl
theorem seatMixed : sg.P.follows .mixedOrders = true := by kernel_rfl
theorem seatOK : SeatOK sg tisT fnsT tysT := ⟨seatMixed, seatTis, seatFns, seatTys⟩

end Go.Fn
