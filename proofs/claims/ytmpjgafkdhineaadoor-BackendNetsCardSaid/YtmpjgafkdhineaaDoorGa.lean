/- The seat's tables. PRINTED by lift.py. -/
import Derived.Test.YtmpjgafkdhineaaDoorLb
import Derived.Test.YtmpjgafkdhineaaDoorFa
import Derived.Test.YtmpjgafkdhineaaDoorProg

set_option linter.unusedVariables false
set_option maxRecDepth 100000
namespace Go.Fn
open Go.Lift

noncomputable def tisT : List (Nat × TI) := [
  (2, { d := .leaf (.int .i64), size := 1, bytes := 8, zero := [.int .i64 0], leaves := none, eq := false }),
  (3, { d := .leaf (.int .i64), size := 1, bytes := 8, zero := [.int .i64 0], leaves := none, eq := false }),
  (4, { d := .leaf .bool, size := 1, bytes := 1, zero := [.bool false], leaves := none, eq := false }),
  (5, { d := .leaf (.int .u8), size := 1, bytes := 1, zero := [.int .u8 0], leaves := none, eq := false }),
  (9, { d := .leaf .str, size := 1, bytes := 16, zero := [.str []], leaves := none, eq := false }),
  (21, { d := .leaf (.int .i32), size := 1, bytes := 4, zero := [.int .i32 0], leaves := none, eq := false }),
  (23, { d := .ptr 40, size := 1, bytes := 8, zero := [.ptr none], leaves := none, eq := false }),
  (26, { d := .slice 5, size := 1, bytes := 24, zero := [.sl ⟨none, 0, 0⟩], leaves := none, eq := false }),
  (30, { d := .ptr 54, size := 1, bytes := 8, zero := [.ptr none], leaves := none, eq := false }),
  (31, { d := .ptr 148, size := 1, bytes := 8, zero := [.ptr none], leaves := none, eq := false }),
  (32, { d := .ptr 115, size := 1, bytes := 8, zero := [.ptr none], leaves := none, eq := false }),
  (33, { d := .ptr 111, size := 1, bytes := 8, zero := [.ptr none], leaves := none, eq := false }),
  (34, { d := .array 2 30, size := 2, bytes := 16, zero := [.ptr none, .ptr none], leaves := some [.ptr, .ptr], eq := false }),
  (35, { d := .ptr 131, size := 1, bytes := 8, zero := [.ptr none], leaves := none, eq := false }),
  (36, { d := .array 2 35, size := 2, bytes := 16, zero := [.ptr none, .ptr none], leaves := some [.ptr, .ptr], eq := false }),
  (37, { d := .ptr 97, size := 1, bytes := 8, zero := [.ptr none], leaves := none, eq := false }),
  (38, { d := .array 2 37, size := 2, bytes := 16, zero := [.ptr none, .ptr none], leaves := some [.ptr, .ptr], eq := false }),
  (40, { d := .struct [(0, 31), (1, 32), (2, 33), (3, 34), (5, 36), (7, 38)], size := 9, bytes := 72, zero := zf63, leaves := some [.ptr, .ptr, .ptr, .ptr, .ptr, .ptr, .ptr, .ptr, .ptr], eq := false }),
  (41, { d := .leaf (.int .i64), size := 1, bytes := 8, zero := [.int .i64 0], leaves := none, eq := false }),
  (43, { d := .leaf (.int .u64), size := 1, bytes := 8, zero := [.int .u64 0], leaves := none, eq := false }),
  (45, { d := .slice 80, size := 1, bytes := 24, zero := [.sl ⟨none, 0, 0⟩], leaves := none, eq := false }),
  (49, { d := .slice 57, size := 1, bytes := 24, zero := [.sl ⟨none, 0, 0⟩], leaves := none, eq := false }),
  (54, { d := .struct [(0, 31), (1, 3), (2, 3)], size := 3, bytes := 24, zero := [.ptr none, .int .i64 0, .int .i64 0], leaves := some [.ptr, .int .i64, .int .i64], eq := false }),
  (69, { d := .slice 3, size := 1, bytes := 24, zero := [.sl ⟨none, 0, 0⟩], leaves := none, eq := false }),
  (70, { d := .ptr 127, size := 1, bytes := 8, zero := [.ptr none], leaves := none, eq := false }),
  (75, { d := .ptr 133, size := 1, bytes := 8, zero := [.ptr none], leaves := none, eq := false }),
  (80, { d := .struct [(0, 43), (1, 3), (2, 4)], size := 3, bytes := 24, zero := [.int .u64 0, .int .i64 0, .bool false], leaves := some [.int .u64, .int .i64, .bool], eq := true }),
  (93, { d := .iface, size := 1, bytes := 16, zero := [.nilif], leaves := none, eq := false }),
  (95, { d := .map 3 121, size := 1, bytes := 8, zero := [.map none], leaves := none, eq := false }),
  (97, { d := .struct [(0, 35), (1, 33), (2, 3), (3, 3), (4, 32), (5, 3), (6, 3), (7, 95)], size := 8, bytes := 64, zero := zf61, leaves := some [.ptr, .ptr, .int .i64, .int .i64, .ptr, .int .i64, .int .i64, .map], eq := false }),
  (99, { d := .struct [(0, 3), (1, 45)], size := 2, bytes := 32, zero := [.int .i64 0, .sl ⟨none, 0, 0⟩], leaves := some [.int .i64, .sl], eq := false }),
  (109, { d := .map 3 26, size := 1, bytes := 8, zero := [.map none], leaves := none, eq := false }),
  (111, { d := .struct [(0, 3), (1, 109), (2, 49)], size := 3, bytes := 40, zero := [.int .i64 0, .map none, .sl ⟨none, 0, 0⟩], leaves := some [.int .i64, .map, .sl], eq := false }),
  (112, { d := .map 3 3, size := 1, bytes := 8, zero := [.map none], leaves := none, eq := false }),
  (113, { d := .array 17 3, size := 17, bytes := 136, zero := zf60, leaves := none, eq := false }),
  (115, { d := .struct [(0, 3), (1, 3), (2, 112), (3, 112), (4, 113), (21, 113), (38, 3)], size := 39, bytes := 312, zero := zf62, leaves := none, eq := false }),
  (125, { d := .slice 128, size := 1, bytes := 24, zero := [.sl ⟨none, 0, 0⟩], leaves := none, eq := false }),
  (127, { d := .struct [(0, 69), (1, 125)], size := 2, bytes := 48, zero := [.sl ⟨none, 0, 0⟩, .sl ⟨none, 0, 0⟩], leaves := some [.sl, .sl], eq := false }),
  (128, { d := .leaf .chan, size := 1, bytes := 8, zero := [.chan none], leaves := none, eq := false }),
  (131, { d := .struct [(0, 43), (1, 43), (2, 43), (3, 43), (4, 4)], size := 5, bytes := 40, zero := [.int .u64 0, .int .u64 0, .int .u64 0, .int .u64 0, .bool false], leaves := some [.int .u64, .int .u64, .int .u64, .int .u64, .bool], eq := true }),
  (133, { d := .struct [(0, 35), (1, 35), (2, 70), (3, 3)], size := 4, bytes := 32, zero := [.ptr none, .ptr none, .ptr none, .int .i64 0], leaves := some [.ptr, .ptr, .ptr, .int .i64], eq := false }),
  (142, { d := .struct [(0, 3), (1, 26)], size := 2, bytes := 32, zero := [.int .i64 0, .sl ⟨none, 0, 0⟩], leaves := some [.int .i64, .sl], eq := false }),
  (148, { d := .struct [(0, 26)], size := 1, bytes := 24, zero := [.sl ⟨none, 0, 0⟩], leaves := some [.sl], eq := false }),
  (151, { d := .iface, size := 1, bytes := 16, zero := [.nilif], leaves := none, eq := false }),
  (155, { d := .struct [(0, 151), (1, 4)], size := 2, bytes := 24, zero := [.nilif, .bool false], leaves := some [.any, .bool], eq := false }),
  (164, { d := .struct [(0, 43), (1, 43)], size := 2, bytes := 16, zero := [.int .u64 0, .int .u64 0], leaves := some [.int .u64, .int .u64], eq := true }),
  (165, { d := .slice 164, size := 1, bytes := 24, zero := [.sl ⟨none, 0, 0⟩], leaves := none, eq := false }),
  (175, { d := .struct [(0, 99), (2, 3)], size := 3, bytes := 40, zero := [.int .i64 0, .sl ⟨none, 0, 0⟩, .int .i64 0], leaves := some [.int .i64, .sl, .int .i64], eq := false }),
  (182, { d := .array 4 43, size := 4, bytes := 32, zero := [.int .u64 0, .int .u64 0, .int .u64 0, .int .u64 0], leaves := some [.int .u64, .int .u64, .int .u64, .int .u64], eq := false }),
  (183, { d := .array 4 3, size := 4, bytes := 32, zero := [.int .i64 0, .int .i64 0, .int .i64 0, .int .i64 0], leaves := some [.int .i64, .int .i64, .int .i64, .int .i64], eq := false })]

def fnsT : List (Nat × Nat) := [(4, 356), (5, 265), (6, 298), (7, 301), (15, 297), (16, 302), (17, 295), (18, 351), (19, 35), (20, 352), (21, 299), (22, 281), (23, 353), (24, 283), (25, 28), (26, 259), (27, 85), (28, 263), (29, 264), (30, 33), (32, 77), (35, 78), (36, 274), (37, 29), (39, 260), (40, 55), (43, 40), (47, 95), (48, 350), (49, 34), (50, 97), (51, 279), (52, 280), (53, 257), (54, 287), (55, 290), (56, 267), (57, 282), (58, 354), (59, 312), (60, 355), (61, 262), (62, 50), (63, 32), (64, 30), (65, 74), (66, 76), (69, 31), (71, 39), (75, 58), (77, 59), (78, 94), (79, 96), (80, 289), (81, 288), (82, 261), (83, 2), (84, 75), (88, 93), (104, 296)]

def tysT : List (Nat × Nat) := [(30, 4)]

def glsT : List (Nat × Nat) := [(0, 1)]

def rtsT : List (Nat × RT) := [(3, .single (.one (.int .i64))), (41, .single (.one (.int .i64))), (62, .multi [.one (.int .u64), .one (.int .i64)]), (66, .multi [.one (.sl), .one (.int .i64)])]

def backs (l : List (Nat × Nat)) (g : Nat) : Nat :=
  match l with
  | [] => 0
  | (a, b) :: l => bif Nat.beq b g then a else backs l g

noncomputable def sg : Seat := ⟨Go.Proofs.Tryd.prog, backs fnsT, backs tysT⟩

theorem seatTis : tisOK sg.P tisT = true := by kernel_rfl
theorem seatFns : pairsOK sg.fn fnsT = true := by kernel_rfl
theorem seatTys : pairsOK sg.ty tysT = true := by kernel_rfl
theorem seatMixed : sg.P.follows .mixedOrders = true := by kernel_rfl
theorem seatOK : SeatOK sg tisT fnsT tysT := ⟨seatMixed, seatTis, seatFns, seatTys⟩

end Go.Fn
