/- The seat's tables. PRINTED by lift.py. -/
import Derived.Test.YtgfnnjnmomifjaaDoorLiftN
import Derived.Test.YtgfnnjnmomifjaaDoorFa
import Derived.Test.YtgfnnjnmomifjaaDoorProg
set_option linter.unusedVariables false
set_option maxRecDepth 100000
namespace Go.Fn
open Go.Lift

noncomputable def tisT : List (Nat × TI) := [
  (2, { d := .leaf (.int .i64), size := 1, bytes := 8, zero := [.int .i64 0], leaves := none, eq := false }),
  (3, { d := .leaf (.int .i64), size := 1, bytes := 8, zero := [.int .i64 0], leaves := none, eq := false }),
  (4, { d := .leaf .bool, size := 1, bytes := 1, zero := [.bool false], leaves := none, eq := false }),
  (5, { d := .leaf (.int .u8), size := 1, bytes := 1, zero := [.int .u8 0], leaves := none, eq := false }),
  (9, { d := .leaf .str, size := 1, bytes := 16, zero := [.str []], leaves := none, eq := false }),
  (21, { d := .leaf (.int .i32), size := 1, bytes := 4, zero := [.int .i32 0], leaves := none, eq := false }),
  (22, { d := .slice 5, size := 1, bytes := 24, zero := [.sl ⟨none, 0, 0⟩], leaves := none, eq := false }),
  (23, { d := .ptr 41, size := 1, bytes := 8, zero := [.ptr none], leaves := none, eq := false }),
  (25, { d := .ptr 108, size := 1, bytes := 8, zero := [.ptr none], leaves := none, eq := false }),
  (27, { d := .ptr 110, size := 1, bytes := 8, zero := [.ptr none], leaves := none, eq := false }),
  (28, { d := .leaf (.int .i64), size := 1, bytes := 8, zero := [.int .i64 0], leaves := none, eq := false }),
  (31, { d := .ptr 149, size := 1, bytes := 8, zero := [.ptr none], leaves := none, eq := false }),
  (32, { d := .ptr 169, size := 1, bytes := 8, zero := [.ptr none], leaves := none, eq := false }),
  (33, { d := .ptr 141, size := 1, bytes := 8, zero := [.ptr none], leaves := none, eq := false }),
  (34, { d := .ptr 137, size := 1, bytes := 8, zero := [.ptr none], leaves := none, eq := false }),
  (35, { d := .ptr 84, size := 1, bytes := 8, zero := [.ptr none], leaves := none, eq := false }),
  (36, { d := .array 2 35, size := 2, bytes := 16, zero := [.ptr none, .ptr none], leaves := some [.ptr, .ptr], eq := false }),
  (37, { d := .array 2 31, size := 2, bytes := 16, zero := [.ptr none, .ptr none], leaves := some [.ptr, .ptr], eq := false }),
  (38, { d := .ptr 126, size := 1, bytes := 8, zero := [.ptr none], leaves := none, eq := false }),
  (39, { d := .array 2 38, size := 2, bytes := 16, zero := [.ptr none, .ptr none], leaves := some [.ptr, .ptr], eq := false }),
  (41, { d := .struct [(0, 32), (1, 33), (2, 34), (3, 36), (5, 37), (7, 39)], size := 9, bytes := 72, zero := z_palisade_palisadelaw24_World, leaves := some [.ptr, .ptr, .ptr, .ptr, .ptr, .ptr, .ptr, .ptr, .ptr], eq := false }),
  (45, { d := .leaf (.int .u64), size := 1, bytes := 8, zero := [.int .u64 0], leaves := none, eq := false }),
  (48, { d := .struct [(0, 45), (1, 3), (2, 4)], size := 3, bytes := 24, zero := [.int .u64 0, .int .i64 0, .bool false], leaves := some [.int .u64, .int .i64, .bool], eq := true }),
  (49, { d := .slice 48, size := 1, bytes := 24, zero := [.sl ⟨none, 0, 0⟩], leaves := none, eq := false }),
  (60, { d := .slice 86, size := 1, bytes := 24, zero := [.sl ⟨none, 0, 0⟩], leaves := none, eq := false }),
  (64, { d := .slice 3, size := 1, bytes := 24, zero := [.sl ⟨none, 0, 0⟩], leaves := none, eq := false }),
  (84, { d := .struct [(0, 32), (1, 3), (2, 3)], size := 3, bytes := 24, zero := [.ptr none, .int .i64 0, .int .i64 0], leaves := some [.ptr, .int .i64, .int .i64], eq := false }),
  (106, { d := .struct [(0, 3), (1, 3), (2, 3), (3, 3)], size := 4, bytes := 32, zero := [.int .i64 0, .int .i64 0, .int .i64 0, .int .i64 0], leaves := some [.int .i64, .int .i64, .int .i64, .int .i64], eq := true }),
  (108, { d := .struct [(0, 4), (1, 22), (2, 22), (3, 106)], size := 7, bytes := 88, zero := z_palisade_console_Console, leaves := some [.bool, .sl, .sl, .int .i64, .int .i64, .int .i64, .int .i64], eq := false }),
  (110, { d := .struct [(0, 31), (1, 25)], size := 2, bytes := 16, zero := [.ptr none, .ptr none], leaves := some [.ptr, .ptr], eq := false }),
  (113, { d := .iface, size := 1, bytes := 16, zero := [.nilif], leaves := none, eq := false }),
  (116, { d := .struct [(0, 3), (1, 49)], size := 2, bytes := 32, zero := [.int .i64 0, .sl ⟨none, 0, 0⟩], leaves := some [.int .i64, .sl], eq := false }),
  (124, { d := .map 3 165, size := 1, bytes := 8, zero := [.map none], leaves := none, eq := false }),
  (126, { d := .struct [(0, 31), (1, 34), (2, 3), (3, 3), (4, 33), (5, 3), (6, 3), (7, 124)], size := 8, bytes := 64, zero := z_palisade_backend_Block, leaves := some [.ptr, .ptr, .int .i64, .int .i64, .ptr, .int .i64, .int .i64, .map], eq := false }),
  (135, { d := .map 3 22, size := 1, bytes := 8, zero := [.map none], leaves := none, eq := false }),
  (137, { d := .struct [(0, 3), (1, 135), (2, 60)], size := 3, bytes := 40, zero := [.int .i64 0, .map none, .sl ⟨none, 0, 0⟩], leaves := some [.int .i64, .map, .sl], eq := false }),
  (138, { d := .map 3 3, size := 1, bytes := 8, zero := [.map none], leaves := none, eq := false }),
  (139, { d := .array 17 3, size := 17, bytes := 136, zero := z_17_int, leaves := none, eq := false }),
  (141, { d := .struct [(0, 3), (1, 3), (2, 138), (3, 138), (4, 139), (21, 139), (38, 3)], size := 39, bytes := 312, zero := z_palisade_frames_Frames, leaves := none, eq := false }),
  (149, { d := .struct [(0, 45), (1, 45), (2, 45), (3, 45), (4, 4)], size := 5, bytes := 40, zero := [.int .u64 0, .int .u64 0, .int .u64 0, .int .u64 0, .bool false], leaves := some [.int .u64, .int .u64, .int .u64, .int .u64, .bool], eq := true }),
  (169, { d := .struct [(0, 22)], size := 1, bytes := 24, zero := [.sl ⟨none, 0, 0⟩], leaves := some [.sl], eq := false }),
  (172, { d := .struct [(0, 116), (2, 3)], size := 3, bytes := 40, zero := [.int .i64 0, .sl ⟨none, 0, 0⟩, .int .i64 0], leaves := some [.int .i64, .sl, .int .i64], eq := false }),
  (175, { d := .iface, size := 1, bytes := 16, zero := [.nilif], leaves := none, eq := false }),
  (179, { d := .struct [(0, 175), (1, 4)], size := 2, bytes := 24, zero := [.nilif, .bool false], leaves := some [.any, .bool], eq := false }),
  (188, { d := .struct [(0, 45), (1, 45)], size := 2, bytes := 16, zero := [.int .u64 0, .int .u64 0], leaves := some [.int .u64, .int .u64], eq := true }),
  (189, { d := .slice 188, size := 1, bytes := 24, zero := [.sl ⟨none, 0, 0⟩], leaves := none, eq := false }),
  (202, { d := .array 4 45, size := 4, bytes := 32, zero := [.int .u64 0, .int .u64 0, .int .u64 0, .int .u64 0], leaves := some [.int .u64, .int .u64, .int .u64, .int .u64], eq := false }),
  (203, { d := .array 4 3, size := 4, bytes := 32, zero := [.int .i64 0, .int .i64 0, .int .i64 0, .int .i64 0], leaves := some [.int .i64, .int .i64, .int .i64, .int .i64], eq := false })]

def fnsT : List (Nat × Nat) := [(3, 311), (9, 265), (10, 308), (11, 285), (12, 309), (13, 298), (14, 301), (15, 284), (16, 302), (17, 295), (18, 310), (21, 297), (25, 35), (27, 299), (38, 28), (39, 259), (40, 85), (41, 263), (42, 264), (43, 291), (44, 33), (45, 280), (46, 258), (47, 287), (48, 292), (49, 312), (50, 294), (51, 40), (52, 58), (54, 77), (57, 78), (58, 274), (59, 95), (60, 29), (62, 260), (64, 34), (65, 97), (69, 267), (73, 55), (79, 261), (80, 262), (81, 50), (82, 32), (83, 293), (84, 39), (85, 30), (86, 74), (87, 76), (90, 59), (91, 94), (92, 96), (95, 31), (100, 2), (101, 75), (104, 93), (123, 296)]

def tysT : List (Nat × Nat) := [(35, 4)]

def glsT : List (Nat × Nat) := [(0, 1)]

def rtsT : List (Nat × RT) := [(3, .single (.one (.int .i64))), (28, .single (.one (.int .i64))), (53, .multi [.one (.sl), .one (.int .i64)]), (58, .multi [.one (.int .u64), .one (.int .i64)])]

def backs (l : List (Nat × Nat)) (g : Nat) : Nat :=
  match l with
  | [] => 0
  | (a, b) :: l => bif Nat.beq b g then a else backs l g

noncomputable def sg : Seat := ⟨Go.Proofs.Tryd.prog, backs fnsT, backs tysT⟩

theorem seatTis : tisOK sg.P tisT = true := by kernel_rfl
theorem seatFns : pairsOK sg.fn fnsT = true := by kernel_rfl
theorem seatTys : pairsOK sg.ty tysT = true := by kernel_rfl
theorem seatMixed : sg.P.follows .mixedOrders = true := by kernel_rfl
theorem seatOK : SeatOK sg tisT fnsT tysT := ⟨seatMixed, seatTis, seatFns, seatTys⟩

end Go.Fn
