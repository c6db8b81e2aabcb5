/- The seat's tables. PRINTED by lift.py. -/
import Derived.Test.YtkfgkcdehmjmcaaLiftN
import Derived.Test.YtkfgkcdehmjmcaaFa
import Derived.Test.YtkfgkcdehmjmcaaProg
set_option linter.unusedVariables false
set_option maxRecDepth 100000
namespace Go.Fn
open Go.Lift

noncomputable def tisT : List (Nat × TI) := [
  (2, { d := .leaf (.int .i64), size := 1, bytes := 8, zero := [.int .i64 0], leaves := none, eq := false }),
  (3, { d := .leaf (.int .i64), size := 1, bytes := 8, zero := [.int .i64 0], leaves := none, eq := false }),
  (4, { d := .leaf .bool, size := 1, bytes := 1, zero := [.bool false], leaves := none, eq := false }),
  (5, { d := .leaf (.int .u8), size := 1, bytes := 1, zero := [.int .u8 0], leaves := none, eq := false }),
  (21, { d := .leaf (.int .i32), size := 1, bytes := 4, zero := [.int .i32 0], leaves := none, eq := false }),
  (22, { d := .ptr 41, size := 1, bytes := 8, zero := [.ptr none], leaves := none, eq := false }),
  (24, { d := .ptr 30, size := 1, bytes := 8, zero := [.ptr none], leaves := none, eq := false }),
  (25, { d := .ptr 121, size := 1, bytes := 8, zero := [.ptr none], leaves := none, eq := false }),
  (26, { d := .ptr 118, size := 1, bytes := 8, zero := [.ptr none], leaves := none, eq := false }),
  (27, { d := .ptr 114, size := 1, bytes := 8, zero := [.ptr none], leaves := none, eq := false }),
  (28, { d := .map 3 88, size := 1, bytes := 8, zero := [.map none], leaves := none, eq := false }),
  (30, { d := .struct [(0, 25), (1, 26), (2, 3), (3, 3), (4, 27), (5, 3), (6, 3), (7, 28)], size := 8, bytes := 64, zero := z_palisade_backend_Block, leaves := some [.ptr, .ptr, .int .i64, .int .i64, .ptr, .int .i64, .int .i64, .map], eq := false }),
  (31, { d := .slice 24, size := 1, bytes := 24, zero := [.sl ⟨none, 0, 0⟩], leaves := none, eq := false }),
  (32, { d := .leaf (.int .i64), size := 1, bytes := 8, zero := [.int .i64 0], leaves := none, eq := false }),
  (35, { d := .ptr 67, size := 1, bytes := 8, zero := [.ptr none], leaves := none, eq := false }),
  (36, { d := .ptr 110, size := 1, bytes := 8, zero := [.ptr none], leaves := none, eq := false }),
  (37, { d := .array 2 35, size := 2, bytes := 16, zero := [.ptr none, .ptr none], leaves := some [.ptr, .ptr], eq := false }),
  (38, { d := .array 2 25, size := 2, bytes := 16, zero := [.ptr none, .ptr none], leaves := some [.ptr, .ptr], eq := false }),
  (39, { d := .array 2 24, size := 2, bytes := 16, zero := [.ptr none, .ptr none], leaves := some [.ptr, .ptr], eq := false }),
  (41, { d := .struct [(0, 36), (1, 27), (2, 26), (3, 37), (5, 38), (7, 39)], size := 9, bytes := 72, zero := z_palisade_palisadelaw24_World, leaves := some [.ptr, .ptr, .ptr, .ptr, .ptr, .ptr, .ptr, .ptr, .ptr], eq := false }),
  (45, { d := .ptr 48, size := 1, bytes := 8, zero := [.ptr none], leaves := none, eq := false }),
  (46, { d := .ptr 151, size := 1, bytes := 8, zero := [.ptr none], leaves := none, eq := false }),
  (48, { d := .struct [(0, 25), (1, 25), (2, 46), (3, 3)], size := 4, bytes := 32, zero := [.ptr none, .ptr none, .ptr none, .int .i64 0], leaves := some [.ptr, .ptr, .ptr, .int .i64], eq := false }),
  (49, { d := .slice 45, size := 1, bytes := 24, zero := [.sl ⟨none, 0, 0⟩], leaves := none, eq := false }),
  (50, { d := .ptr 53, size := 1, bytes := 8, zero := [.ptr none], leaves := none, eq := false }),
  (51, { d := .ptr 159, size := 1, bytes := 8, zero := [.ptr none], leaves := none, eq := false }),
  (53, { d := .struct [(0, 25), (1, 51)], size := 2, bytes := 16, zero := [.ptr none, .ptr none], leaves := some [.ptr, .ptr], eq := false }),
  (54, { d := .slice 50, size := 1, bytes := 24, zero := [.sl ⟨none, 0, 0⟩], leaves := none, eq := false }),
  (67, { d := .struct [(0, 36), (1, 3), (2, 3)], size := 3, bytes := 24, zero := [.ptr none, .int .i64 0, .int .i64 0], leaves := some [.ptr, .int .i64, .int .i64], eq := false }),
  (71, { d := .leaf (.int .u64), size := 1, bytes := 8, zero := [.int .u64 0], leaves := none, eq := false }),
  (73, { d := .iface, size := 1, bytes := 16, zero := [.nilif], leaves := none, eq := false }),
  (75, { d := .slice 107, size := 1, bytes := 24, zero := [.sl ⟨none, 0, 0⟩], leaves := none, eq := false }),
  (77, { d := .struct [(0, 3), (1, 75)], size := 2, bytes := 32, zero := [.int .i64 0, .sl ⟨none, 0, 0⟩], leaves := some [.int .i64, .sl], eq := false }),
  (81, { d := .struct [(0, 3), (1, 4), (2, 3), (3, 3)], size := 4, bytes := 32, zero := [.int .i64 0, .bool false, .int .i64 0, .int .i64 0], leaves := some [.int .i64, .bool, .int .i64, .int .i64], eq := true }),
  (88, { d := .struct [(0, 77), (2, 3), (3, 4)], size := 4, bytes := 48, zero := [.int .i64 0, .sl ⟨none, 0, 0⟩, .int .i64 0, .bool false], leaves := some [.int .i64, .sl, .int .i64, .bool], eq := false }),
  (92, { d := .slice 5, size := 1, bytes := 24, zero := [.sl ⟨none, 0, 0⟩], leaves := none, eq := false }),
  (100, { d := .struct [(0, 3), (1, 92)], size := 2, bytes := 32, zero := [.int .i64 0, .sl ⟨none, 0, 0⟩], leaves := some [.int .i64, .sl], eq := false }),
  (107, { d := .struct [(0, 71), (1, 3), (2, 4)], size := 3, bytes := 24, zero := [.int .u64 0, .int .i64 0, .bool false], leaves := some [.int .u64, .int .i64, .bool], eq := true }),
  (110, { d := .struct [(0, 92)], size := 1, bytes := 24, zero := [.sl ⟨none, 0, 0⟩], leaves := some [.sl], eq := false }),
  (111, { d := .map 3 3, size := 1, bytes := 8, zero := [.map none], leaves := none, eq := false }),
  (112, { d := .array 17 3, size := 17, bytes := 136, zero := z_17_int, leaves := none, eq := false }),
  (114, { d := .struct [(0, 3), (1, 3), (2, 111), (3, 111), (4, 112), (21, 112), (38, 3)], size := 39, bytes := 312, zero := z_palisade_frames_Frames, leaves := none, eq := false }),
  (115, { d := .map 3 92, size := 1, bytes := 8, zero := [.map none], leaves := none, eq := false }),
  (116, { d := .slice 81, size := 1, bytes := 24, zero := [.sl ⟨none, 0, 0⟩], leaves := none, eq := false }),
  (118, { d := .struct [(0, 3), (1, 115), (2, 116)], size := 3, bytes := 40, zero := [.int .i64 0, .map none, .sl ⟨none, 0, 0⟩], leaves := some [.int .i64, .map, .sl], eq := false }),
  (121, { d := .struct [(0, 71), (1, 71), (2, 71), (3, 71), (4, 4)], size := 5, bytes := 40, zero := [.int .u64 0, .int .u64 0, .int .u64 0, .int .u64 0, .bool false], leaves := some [.int .u64, .int .u64, .int .u64, .int .u64, .bool], eq := true }),
  (123, { d := .iface, size := 1, bytes := 16, zero := [.nilif], leaves := none, eq := false }),
  (127, { d := .struct [(0, 123), (1, 4)], size := 2, bytes := 24, zero := [.nilif, .bool false], leaves := some [.any, .bool], eq := false }),
  (140, { d := .struct [(0, 71), (1, 71)], size := 2, bytes := 16, zero := [.int .u64 0, .int .u64 0], leaves := some [.int .u64, .int .u64], eq := true }),
  (141, { d := .slice 140, size := 1, bytes := 24, zero := [.sl ⟨none, 0, 0⟩], leaves := none, eq := false }),
  (146, { d := .struct [(0, 77), (2, 3)], size := 3, bytes := 40, zero := [.int .i64 0, .sl ⟨none, 0, 0⟩, .int .i64 0], leaves := some [.int .i64, .sl, .int .i64], eq := false }),
  (148, { d := .slice 3, size := 1, bytes := 24, zero := [.sl ⟨none, 0, 0⟩], leaves := none, eq := false }),
  (149, { d := .slice 154, size := 1, bytes := 24, zero := [.sl ⟨none, 0, 0⟩], leaves := none, eq := false }),
  (151, { d := .struct [(0, 148), (1, 149)], size := 2, bytes := 48, zero := [.sl ⟨none, 0, 0⟩, .sl ⟨none, 0, 0⟩], leaves := some [.sl, .sl], eq := false }),
  (154, { d := .leaf .chan, size := 1, bytes := 8, zero := [.chan none], leaves := none, eq := false }),
  (157, { d := .struct [(0, 3), (1, 3), (2, 3), (3, 3)], size := 4, bytes := 32, zero := [.int .i64 0, .int .i64 0, .int .i64 0, .int .i64 0], leaves := some [.int .i64, .int .i64, .int .i64, .int .i64], eq := true }),
  (159, { d := .struct [(0, 4), (1, 92), (2, 92), (3, 157)], size := 7, bytes := 88, zero := z_palisade_console_Console, leaves := some [.bool, .sl, .sl, .int .i64, .int .i64, .int .i64, .int .i64], eq := false }),
  (168, { d := .array 4 71, size := 4, bytes := 32, zero := [.int .u64 0, .int .u64 0, .int .u64 0, .int .u64 0], leaves := some [.int .u64, .int .u64, .int .u64, .int .u64], eq := false }),
  (193, { d := .array 4 3, size := 4, bytes := 32, zero := [.int .i64 0, .int .i64 0, .int .i64 0, .int .i64 0], leaves := some [.int .i64, .int .i64, .int .i64, .int .i64], eq := false })]

def fnsT : List (Nat × Nat) := [(3, 286), (4, 265), (5, 275), (6, 276), (7, 277), (8, 278), (9, 281), (10, 283), (11, 284), (12, 264), (13, 285), (14, 28), (15, 259), (16, 85), (17, 263), (18, 35), (19, 266), (20, 77), (21, 269), (22, 273), (23, 78), (24, 274), (25, 272), (26, 279), (27, 280), (28, 257), (29, 287), (30, 290), (31, 267), (36, 258), (37, 292), (38, 294), (39, 50), (40, 262), (41, 34), (42, 30), (43, 74), (44, 76), (45, 268), (46, 271), (47, 82), (48, 270), (49, 282), (50, 289), (51, 288), (52, 291), (53, 293), (54, 29), (55, 260), (56, 261), (57, 75), (58, 36), (59, 81), (60, 3), (61, 58), (62, 70), (85, 295), (86, 296), (87, 297), (88, 298), (89, 299), (90, 40), (91, 95), (92, 33), (93, 97), (94, 32), (95, 39), (96, 59), (97, 94), (98, 96), (99, 2), (100, 31), (101, 93)]

def tysT : List (Nat × Nat) := [(35, 4)]

def glsT : List (Nat × Nat) := [(0, 1)]

def rtsT : List (Nat × RT) := [(3, .single (.one (.int .i64))), (4, .single (.one (.bool))), (32, .single (.one (.int .i64))), (131, .multi [.one (.sl), .one (.int .i64)]), (133, .multi [.one (.int .i64), .one (.bool)]), (161, .multi [.one (.int .u64), .one (.int .i64)])]

def backs (l : List (Nat × Nat)) (g : Nat) : Nat :=
  match l with
  | [] => 0
  | (a, b) :: l => bif Nat.beq b g then a else backs l g

noncomputable def sg : Seat := ⟨Go.Proofs.Try.prog, backs fnsT, backs tysT⟩

theorem seatTis : tisOK sg.P tisT = true := by kernel_rfl
theorem seatFns : pairsOK sg.fn fnsT = true := by kernel_rfl
theorem seatTys : pairsOK sg.ty tysT = true := by kernel_rfl
theorem seatMixed : sg.P.follows .mixedOrders = true := by kernel_rfl
theorem seatOK : SeatOK sg tisT fnsT tysT := ⟨seatMixed, seatTis, seatFns, seatTys⟩

end Go.Fn
