/- The seat's tables. PRINTED by lift.py. -/
import Derived.Test.YtkfgkcdehmjmcaaGreatDoorLiftN
import Derived.Test.YtkfgkcdehmjmcaaGreatDoorFa
import Derived.Test.YtkfgkcdehmjmcaaGreatDoorProg
set_option linter.unusedVariables false
set_option maxRecDepth 100000
namespace Go.Fn
open Go.Lift

noncomputable def tisT : List (Nat × TI) := [
  (2, { d := .leaf (.int .i64), size := 1, bytes := 8, zero := [.int .i64 0], leaves := none, eq := false }),
  (3, { d := .leaf (.int .i64), size := 1, bytes := 8, zero := [.int .i64 0], leaves := none, eq := false }),
  (4, { d := .leaf .bool, size := 1, bytes := 1, zero := [.bool false], leaves := none, eq := false }),
  (5, { d := .leaf (.int .u8), size := 1, bytes := 1, zero := [.int .u8 0], leaves := none, eq := false }),
  (21, { d := .leaf (.int .i32), size := 1, bytes := 4, zero := [.int .i32 0], leaves := none, eq := false }),
  (22, { d := .leaf (.int .u64), size := 1, bytes := 8, zero := [.int .u64 0], leaves := none, eq := false }),
  (23, { d := .array 16 22, size := 16, bytes := 128, zero := z_16_uint64, leaves := some [.int .u64, .int .u64, .int .u64, .int .u64, .int .u64, .int .u64, .int .u64, .int .u64, .int .u64, .int .u64, .int .u64, .int .u64, .int .u64, .int .u64, .int .u64, .int .u64], eq := false }),
  (25, ⟨.struct [(0, 23), (16, 22), (17, 3)], 18, 144, z_palisade_api_Regs, none, false, some (.struct (.cons 0 16 (.arr 16 1 (.leaf (.int .u64))) (.cons 16 1 (.leaf (.int .u64)) (.cons 17 1 (.leaf (.int .i64)) .nil))))⟩),
  (26, { d := .array 12 22, size := 12, bytes := 96, zero := z_12_uint64, leaves := some [.int .u64, .int .u64, .int .u64, .int .u64, .int .u64, .int .u64, .int .u64, .int .u64, .int .u64, .int .u64, .int .u64, .int .u64], eq := false }),
  (27, { d := .slice 50, size := 1, bytes := 24, zero := [.sl ⟨none, 0, 0⟩], leaves := none, eq := false }),
  (28, { d := .slice 59, size := 1, bytes := 24, zero := [.sl ⟨none, 0, 0⟩], leaves := none, eq := false }),
  (29, { d := .slice 72, size := 1, bytes := 24, zero := [.sl ⟨none, 0, 0⟩], leaves := none, eq := false }),
  (31, { d := .struct [(0, 25), (18, 26), (30, 27), (31, 28), (32, 29), (33, 3)], size := 34, bytes := 320, zero := z_palisade_palisadelaw09_State, leaves := none, eq := false }),
  (32, { d := .ptr 47, size := 1, bytes := 8, zero := [.ptr none], leaves := none, eq := false }),
  (34, { d := .ptr 53, size := 1, bytes := 8, zero := [.ptr none], leaves := none, eq := false }),
  (39, { d := .struct [(0, 3), (1, 22), (2, 22)], size := 3, bytes := 24, zero := [.int .i64 0, .int .u64 0, .int .u64 0], leaves := some [.int .i64, .int .u64, .int .u64], eq := true }),
  (41, { d := .struct [(0, 3), (1, 39), (4, 4), (5, 4)], size := 6, bytes := 40, zero := [.int .i64 0, .int .i64 0, .int .u64 0, .int .u64 0, .bool false, .bool false], leaves := some [.int .i64, .int .i64, .int .u64, .int .u64, .bool, .bool], eq := true }),
  (42, { d := .leaf (.int .i64), size := 1, bytes := 8, zero := [.int .i64 0], leaves := none, eq := false }),
  (45, { d := .ptr 25, size := 1, bytes := 8, zero := [.ptr none], leaves := none, eq := false }),
  (47, { d := .struct [(0, 4), (1, 26)], size := 13, bytes := 104, zero := z_palisade_csr_File, leaves := some [.bool, .int .u64, .int .u64, .int .u64, .int .u64, .int .u64, .int .u64, .int .u64, .int .u64, .int .u64, .int .u64, .int .u64, .int .u64], eq := false }),
  (50, { d := .struct [(0, 3), (1, 3), (2, 3), (3, 3), (4, 3)], size := 5, bytes := 40, zero := [.int .i64 0, .int .i64 0, .int .i64 0, .int .i64 0, .int .i64 0], leaves := some [.int .i64, .int .i64, .int .i64, .int .i64, .int .i64], eq := true }),
  (51, { d := .ptr 103, size := 1, bytes := 8, zero := [.ptr none], leaves := none, eq := false }),
  (53, { d := .struct [(0, 51), (1, 3), (2, 4), (3, 22)], size := 4, bytes := 32, zero := [.ptr none, .int .i64 0, .bool false, .int .u64 0], leaves := some [.ptr, .int .i64, .bool, .int .u64], eq := false }),
  (59, { d := .leaf (.int .u32), size := 1, bytes := 4, zero := [.int .u32 0], leaves := none, eq := false }),
  (66, { d := .ptr 105, size := 1, bytes := 8, zero := [.ptr none], leaves := none, eq := false }),
  (72, { d := .struct [(0, 22), (1, 22)], size := 2, bytes := 16, zero := [.int .u64 0, .int .u64 0], leaves := some [.int .u64, .int .u64], eq := true }),
  (80, { d := .iface, size := 1, bytes := 16, zero := [.nilif], leaves := none, eq := false }),
  (84, { d := .struct [(0, 45), (1, 32), (2, 80), (3, 59), (4, 50), (9, 22), (10, 41)], size := 16, bytes := 128, zero := z_palisade_hart_hart, leaves := some [.ptr, .ptr, .any, .int .u32, .int .i64, .int .i64, .int .i64, .int .i64, .int .i64, .int .u64, .int .i64, .int .i64, .int .u64, .int .u64, .bool, .bool], eq := false }),
  (86, { d := .struct [(0, 39), (3, 4), (4, 3)], size := 5, bytes := 40, zero := [.int .i64 0, .int .u64 0, .int .u64 0, .bool false, .int .i64 0], leaves := some [.int .i64, .int .u64, .int .u64, .bool, .int .i64], eq := true }),
  (89, { d := .func, size := 1, bytes := 8, zero := [.nilfn], leaves := none, eq := false }),
  (90, { d := .map 3 89, size := 1, bytes := 8, zero := [.map none], leaves := none, eq := false }),
  (93, { d := .slice 5, size := 1, bytes := 24, zero := [.sl ⟨none, 0, 0⟩], leaves := none, eq := false }),
  (103, { d := .struct [(0, 93)], size := 1, bytes := 24, zero := [.sl ⟨none, 0, 0⟩], leaves := some [.sl], eq := false }),
  (105, { d := .struct [(0, 93)], size := 1, bytes := 24, zero := [.sl ⟨none, 0, 0⟩], leaves := some [.sl], eq := false }),
  (107, { d := .struct [(0, 26)], size := 12, bytes := 96, zero := z_12_uint64, leaves := some [.int .u64, .int .u64, .int .u64, .int .u64, .int .u64, .int .u64, .int .u64, .int .u64, .int .u64, .int .u64, .int .u64, .int .u64], eq := false }),
  (112, { d := .ptr 224, size := 1, bytes := 8, zero := [.ptr none], leaves := none, eq := false }),
  (113, { d := .slice 216, size := 1, bytes := 24, zero := [.sl ⟨none, 0, 0⟩], leaves := none, eq := false }),
  (114, { d := .slice 35, size := 1, bytes := 24, zero := [.sl ⟨none, 0, 0⟩], leaves := none, eq := false }),
  (116, { d := .struct [(0, 66), (1, 3), (2, 3), (3, 3), (4, 112), (5, 113), (6, 4), (7, 22), (8, 114)], size := 9, bytes := 104, zero := z_palisade_palisaderef09_Bus, leaves := some [.ptr, .int .i64, .int .i64, .int .i64, .ptr, .sl, .bool, .int .u64, .sl], eq := false }),
  (129, { d := .leaf (.int .u64), size := 1, bytes := 8, zero := [.int .u64 0], leaves := none, eq := false }),
  (131, { d := .array 3 3, size := 3, bytes := 24, zero := [.int .i64 0, .int .i64 0, .int .i64 0], leaves := some [.int .i64, .int .i64, .int .i64], eq := false }),
  (145, { d := .array 8 3, size := 8, bytes := 64, zero := z_8_int, leaves := some [.int .i64, .int .i64, .int .i64, .int .i64, .int .i64, .int .i64, .int .i64, .int .i64], eq := false }),
  (153, { d := .array 4 3, size := 4, bytes := 32, zero := [.int .i64 0, .int .i64 0, .int .i64 0, .int .i64 0], leaves := some [.int .i64, .int .i64, .int .i64, .int .i64], eq := false }),
  (155, { d := .map 3 3, size := 1, bytes := 8, zero := [.map none], leaves := none, eq := false }),
  (163, { d := .struct [(0, 3), (1, 4)], size := 2, bytes := 16, zero := [.int .i64 0, .bool false], leaves := some [.int .i64, .bool], eq := true }),
  (164, { d := .slice 163, size := 1, bytes := 24, zero := [.sl ⟨none, 0, 0⟩], leaves := none, eq := false }),
  (166, { d := .slice 3, size := 1, bytes := 24, zero := [.sl ⟨none, 0, 0⟩], leaves := none, eq := false }),
  (182, { d := .struct [(0, 3), (1, 4), (2, 4), (3, 4), (4, 4), (5, 3)], size := 6, bytes := 24, zero := [.int .i64 0, .bool false, .bool false, .bool false, .bool false, .int .i64 0], leaves := some [.int .i64, .bool, .bool, .bool, .bool, .int .i64], eq := true })]

def fnsT : List (Nat × Nat) := [(4, 232), (8, 231), (9, 188), (10, 95), (12, 97), (14, 28), (15, 42), (16, 141), (17, 221), (18, 64), (19, 228), (20, 217), (21, 229), (22, 230), (23, 163), (24, 184), (25, 185), (27, 59), (28, 94), (29, 162), (30, 213), (31, 96), (32, 31), (34, 60), (35, 63), (36, 226), (37, 227), (38, 222), (39, 164), (40, 165), (41, 166), (42, 167), (43, 168), (44, 182), (45, 183), (46, 146), (47, 147), (48, 148), (49, 149), (50, 150), (51, 151), (52, 152), (53, 153), (54, 154), (55, 155), (56, 156), (57, 157), (58, 158), (59, 159), (60, 160), (61, 161), (63, 32), (64, 93), (65, 47), (66, 223), (67, 225), (68, 145), (69, 172), (70, 175), (71, 176), (72, 181), (73, 196), (74, 195), (75, 197), (76, 201), (77, 199), (78, 203), (79, 202), (85, 198), (88, 2), (89, 224), (90, 170), (91, 171), (92, 174), (93, 169), (94, 179), (95, 180), (96, 200), (100, 173), (101, 178), (104, 177), (121, 251), (122, 252), (123, 234), (124, 253), (125, 250)]

def tysT : List (Nat × Nat) := [(34, 3), (51, 1)]

def glsT : List (Nat × Nat) := [(0, 1)]

def rtsT : List (Nat × RT) := [(0, .multi []), (4, .single (.one (.bool))), (42, .single (.one (.int .i64))), (54, .multi [.one (.int .u64), .one (.int .i64)]), (86, .single (.agg [(.int .i64), (.int .u64), (.int .u64), .bool, (.int .i64)])), (120, .multi [.one (.int .u64), .agg [(.int .i64), (.int .u64), (.int .u64)]])]

def backs (l : List (Nat × Nat)) (g : Nat) : Nat :=
  match l with
  | [] => 0
  | (a, b) :: l => bif Nat.beq b g then a else backs l g

noncomputable def sg : Seat := ⟨Go.Proofs.Tryz.prog, backs fnsT, backs tysT⟩

theorem seatTis : tisOK sg.P tisT = true := by kernel_rfl
theorem seatFns : pairsOK sg.fn fnsT = true := by kernel_rfl
theorem seatTys : pairsOK sg.ty tysT = true := by kernel_rfl
theorem seatMixed : sg.P.follows .mixedOrders = true := by kernel_rfl
theorem seatOK : SeatOK sg tisT fnsT tysT := ⟨seatMixed, seatTis, seatFns, seatTys⟩

end Go.Fn
