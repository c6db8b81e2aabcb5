/- The seat's tables. PRINTED by lift.py. -/
import Derived.Test.YtlkkhigljcdbiaaGreatDoorLiftN
import Derived.Test.YtlkkhigljcdbiaaGreatDoorFa
import Derived.Test.YtlkkhigljcdbiaaGreatDoorProg
set_option linter.unusedVariables false
set_option maxRecDepth 100000
namespace Go.Fn
open Go.Lift

noncomputable def tisT : List (Nat × TI) := [
  (3, { d := .leaf (.int .i64), size := 1, bytes := 8, zero := [.int .i64 0], leaves := none, eq := false }),
  (4, { d := .leaf .bool, size := 1, bytes := 1, zero := [.bool false], leaves := none, eq := false }),
  (22, { d := .slice 5, size := 1, bytes := 24, zero := [.sl ⟨none, 0, 0⟩], leaves := none, eq := false }),
  (23, { d := .ptr 35, size := 1, bytes := 8, zero := [.ptr none], leaves := none, eq := false }),
  (24, { d := .ptr 187, size := 1, bytes := 8, zero := [.ptr none], leaves := none, eq := false }),
  (25, { d := .ptr 274, size := 1, bytes := 8, zero := [.ptr none], leaves := none, eq := false }),
  (26, { d := .ptr 244, size := 1, bytes := 8, zero := [.ptr none], leaves := none, eq := false }),
  (27, { d := .ptr 168, size := 1, bytes := 8, zero := [.ptr none], leaves := none, eq := false }),
  (28, { d := .ptr 304, size := 1, bytes := 8, zero := [.ptr none], leaves := none, eq := false }),
  (29, { d := .ptr 181, size := 1, bytes := 8, zero := [.ptr none], leaves := none, eq := false }),
  (30, { d := .ptr 174, size := 1, bytes := 8, zero := [.ptr none], leaves := none, eq := false }),
  (31, { d := .leaf (.int .u64), size := 1, bytes := 8, zero := [.int .u64 0], leaves := none, eq := false }),
  (32, { d := .map 3 72, size := 1, bytes := 8, zero := [.map none], leaves := none, eq := false }),
  (33, { d := .slice 197, size := 1, bytes := 24, zero := [.sl ⟨none, 0, 0⟩], leaves := none, eq := false }),
  (35, { d := .struct [(0, 24), (1, 25), (2, 26), (3, 27), (4, 28), (5, 29), (6, 30), (7, 3), (8, 31), (9, 32), (10, 3), (11, 33)], size := 12, bytes := 112, zero := z_palisade_hyper_Hyper, leaves := some [.ptr, .ptr, .ptr, .ptr, .ptr, .ptr, .ptr, .int .i64, .int .u64, .map, .int .i64, .sl], eq := false }),
  (36, { d := .slice 23, size := 1, bytes := 24, zero := [.sl ⟨none, 0, 0⟩], leaves := none, eq := false }),
  (41, { d := .struct [(0, 3), (1, 3), (2, 3), (3, 3), (4, 3), (5, 3), (6, 22)], size := 7, bytes := 72, zero := z_palisade_hyper_Spec, leaves := some [.int .i64, .int .i64, .int .i64, .int .i64, .int .i64, .int .i64, .sl], eq := false }),
  (43, { d := .struct [(0, 3), (1, 31), (2, 31)], size := 3, bytes := 24, zero := [.int .i64 0, .int .u64 0, .int .u64 0], leaves := some [.int .i64, .int .u64, .int .u64], eq := true }),
  (45, { d := .struct [(0, 3), (1, 3), (2, 3), (3, 43)], size := 6, bytes := 48, zero := [.int .i64 0, .int .i64 0, .int .i64 0, .int .i64 0, .int .u64 0, .int .u64 0], leaves := some [.int .i64, .int .i64, .int .i64, .int .i64, .int .u64, .int .u64], eq := true }),
  (49, { d := .array 16 31, size := 16, bytes := 128, zero := z_16_uint64, leaves := some [.int .u64, .int .u64, .int .u64, .int .u64, .int .u64, .int .u64, .int .u64, .int .u64, .int .u64, .int .u64, .int .u64, .int .u64, .int .u64, .int .u64, .int .u64, .int .u64], eq := false }),
  (51, ⟨.struct [(0, 49), (16, 31), (17, 3)], 18, 144, z_palisade_api_Regs, none, false, some (.struct (.cons 0 16 (.arr 16 1 (.leaf (.int .u64))) (.cons 16 1 (.leaf (.int .u64)) (.cons 17 1 (.leaf (.int .i64)) .nil))))⟩),
  (60, { d := .ptr 153, size := 1, bytes := 8, zero := [.ptr none], leaves := none, eq := false }),
  (67, { d := .slice 3, size := 1, bytes := 24, zero := [.sl ⟨none, 0, 0⟩], leaves := none, eq := false }),
  (72, { d := .ptr 82, size := 1, bytes := 8, zero := [.ptr none], leaves := none, eq := false }),
  (74, { d := .ptr 278, size := 1, bytes := 8, zero := [.ptr none], leaves := none, eq := false }),
  (75, { d := .slice 86, size := 1, bytes := 24, zero := [.sl ⟨none, 0, 0⟩], leaves := none, eq := false }),
  (80, { d := .ptr 238, size := 1, bytes := 8, zero := [.ptr none], leaves := none, eq := false }),
  (82, { d := .struct [(0, 3), (1, 3), (2, 74), (3, 75), (4, 76), (5, 60), (6, 77), (7, 79), (11, 80), (12, 3), (13, 3), (14, 3)], size := 15, bytes := 136, zero := z_palisade_hyper_guest, leaves := some [.int .i64, .int .i64, .ptr, .sl, .ptr, .ptr, .ptr, .ptr, .ptr, .ptr, .ptr, .ptr, .int .i64, .int .i64, .int .i64], eq := false }),
  (86, { d := .ptr 94, size := 1, bytes := 8, zero := [.ptr none], leaves := none, eq := false }),
  (92, { d := .ptr 230, size := 1, bytes := 8, zero := [.ptr none], leaves := none, eq := false }),
  (94, { d := .struct [(0, 92), (1, 4), (2, 4), (3, 4)], size := 4, bytes := 16, zero := [.ptr none, .bool false, .bool false, .bool false], leaves := some [.ptr, .bool, .bool, .bool], eq := false }),
  (137, { d := .struct [(0, 3), (1, 4), (2, 3), (3, 3)], size := 4, bytes := 32, zero := [.int .i64 0, .bool false, .int .i64 0, .int .i64 0], leaves := some [.int .i64, .bool, .int .i64, .int .i64], eq := true }),
  (153, { d := .struct [(0, 4), (1, 22), (2, 22), (3, 151)], size := 7, bytes := 88, zero := z_palisade_console_Console, leaves := some [.bool, .sl, .sl, .int .i64, .int .i64, .int .i64, .int .i64], eq := false }),
  (168, { d := .struct [(0, 67), (1, 166)], size := 2, bytes := 48, zero := [.sl ⟨none, 0, 0⟩, .sl ⟨none, 0, 0⟩], leaves := some [.sl, .sl], eq := false }),
  (187, { d := .struct [(0, 125), (1, 185)], size := 2, bytes := 32, zero := [.ptr none, .sl ⟨none, 0, 0⟩], leaves := some [.ptr, .sl], eq := false }),
  (244, { d := .struct [(0, 3), (1, 241), (2, 242)], size := 3, bytes := 40, zero := [.int .i64 0, .map none, .sl ⟨none, 0, 0⟩], leaves := some [.int .i64, .map, .sl], eq := false }),
  (274, { d := .struct [(0, 3), (1, 3), (2, 271), (3, 271), (4, 272), (21, 272), (38, 3)], size := 39, bytes := 312, zero := z_palisade_frames_Frames, leaves := none, eq := false })]

def fnsT : List (Nat × Nat) := [(3, 332), (4, 314), (5, 315), (6, 317), (7, 318), (8, 319), (9, 320), (10, 321), (11, 322), (12, 323), (13, 324), (14, 325), (15, 326), (16, 327), (17, 328), (18, 329), (19, 330), (20, 331), (21, 313), (37, 316)]

def tysT : List (Nat × Nat) := []

def glsT : List (Nat × Nat) := []

def rtsT : List (Nat × RT) := []

def backs (l : List (Nat × Nat)) (g : Nat) : Nat :=
  match l with
  | [] => 0
  | (a, b) :: l => bif Nat.beq b g then a else backs l g

noncomputable def sg : Seat := ⟨Go.Proofs.Tryz.prog, backs fnsT, backs tysT⟩

theorem seatTis : tisOK sg.P tisT = true := by kernel_rfl
theorem seatFns : pairsOK sg.fn fnsT = true := by kernel_rfl
theorem seatTys : pairsOK sg.ty tysT = true := by kernel_rfl
theorem seatMixed : sg.P.follows .mixedOrders = true := by kernel_rfl
theorem seatOK : SeatOK sg tisT fnsT tysT := ⟨seatMixed, seatTis, seatFns, seatTys⟩

end Go.Fn
