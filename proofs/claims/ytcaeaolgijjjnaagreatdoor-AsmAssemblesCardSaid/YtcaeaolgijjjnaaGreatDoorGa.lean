/- The seat's tables. PRINTED by lift.py. -/
import Derived.Test.YtcaeaolgijjjnaaGreatDoorLb
import Derived.Test.YtcaeaolgijjjnaaGreatDoorFa
import Derived.Test.YtcaeaolgijjjnaaGreatDoorProg
set_option linter.unusedSimpArgs false
set_option linter.unusedVariables false

set_option linter.unusedVariables false
set_option maxRecDepth 100000
namespace Go.Fn
open Go.Lift

noncomputable def tisT : List (Nat × TI) := [
  (3, { d := .leaf (.int .i64), size := 1, bytes := 8, zero := [.int .i64 0], leaves := none, eq := false }),
  (4, { d := .leaf .bool, size := 1, bytes := 1, zero := [.bool false], leaves := none, eq := false }),
  (5, { d := .leaf (.int .u8), size := 1, bytes := 1, zero := [.int .u8 0], leaves := none, eq := false }),
  (9, { d := .leaf .str, size := 1, bytes := 16, zero := [.str []], leaves := none, eq := false }),
  (21, { d := .leaf (.int .i32), size := 1, bytes := 4, zero := [.int .i32 0], leaves := none, eq := false }),
  (22, { d := .leaf (.int .u64), size := 1, bytes := 8, zero := [.int .u64 0], leaves := none, eq := false }),
  (23, { d := .slice 31, size := 1, bytes := 24, zero := [.sl ⟨none, 0, 0⟩], leaves := none, eq := false }),
  (24, { d := .leaf (.int .i64), size := 1, bytes := 8, zero := [.int .i64 0], leaves := none, eq := false }),
  (31, { d := .leaf (.int .u32), size := 1, bytes := 4, zero := [.int .u32 0], leaves := none, eq := false }),
  (34, { d := .slice 5, size := 1, bytes := 24, zero := [.sl ⟨none, 0, 0⟩], leaves := none, eq := false }),
  (40, { d := .iface, size := 1, bytes := 16, zero := [.nilif], leaves := none, eq := false }),
  (44, { d := .struct [(0, 3)], size := 1, bytes := 8, zero := [.int .i64 0], leaves := some [.int .i64], eq := true }),
  (46, { d := .ptr 44, size := 1, bytes := 8, zero := [.ptr none], leaves := none, eq := false }),
  (47, { d := .ptr 24, size := 1, bytes := 8, zero := [.ptr none], leaves := none, eq := false }),
  (48, { d := .slice 54, size := 1, bytes := 24, zero := [.sl ⟨none, 0, 0⟩], leaves := none, eq := false }),
  (52, { d := .struct [(0, 3), (1, 3), (2, 3), (3, 3), (4, 3)], size := 5, bytes := 40, zero := [.int .i64 0, .int .i64 0, .int .i64 0, .int .i64 0, .int .i64 0], leaves := some [.int .i64, .int .i64, .int .i64, .int .i64, .int .i64], eq := true }),
  (54, { d := .struct [(0, 3), (1, 9), (2, 3), (3, 4), (4, 52), (9, 9), (10, 31)], size := 11, bytes := 104, zero := zf80, leaves := some [.int .i64, .str, .int .i64, .bool, .int .i64, .int .i64, .int .i64, .int .i64, .int .i64, .str, .int .u32], eq := true }),
  (59, { d := .slice 118, size := 1, bytes := 24, zero := [.sl ⟨none, 0, 0⟩], leaves := none, eq := false }),
  (60, { d := .map 9 3, size := 1, bytes := 8, zero := [.map none], leaves := none, eq := false }),
  (62, { d := .struct [(0, 59), (1, 60), (2, 3)], size := 3, bytes := 40, zero := [.sl ⟨none, 0, 0⟩, .map none, .int .i64 0], leaves := some [.sl, .map, .int .i64], eq := false }),
  (66, { d := .slice 9, size := 1, bytes := 24, zero := [.sl ⟨none, 0, 0⟩], leaves := none, eq := false }),
  (68, { d := .map 21 3, size := 1, bytes := 8, zero := [.map none], leaves := none, eq := false }),
  (100, { d := .slice 3, size := 1, bytes := 24, zero := [.sl ⟨none, 0, 0⟩], leaves := none, eq := false }),
  (116, { d := .ptr 52, size := 1, bytes := 8, zero := [.ptr none], leaves := none, eq := false }),
  (118, { d := .struct [(0, 3), (1, 3), (2, 31), (3, 116), (4, 9)], size := 5, bytes := 48, zero := [.int .i64 0, .int .i64 0, .int .u32 0, .ptr none, .str []], leaves := some [.int .i64, .int .i64, .int .u32, .ptr, .str], eq := false }),
  (139, { d := .leaf (.int .u64), size := 1, bytes := 8, zero := [.int .u64 0], leaves := none, eq := false }),
  (142, { d := .map 3 3, size := 1, bytes := 8, zero := [.map none], leaves := none, eq := false }),
  (162, { d := .struct [(0, 3), (1, 4)], size := 2, bytes := 16, zero := [.int .i64 0, .bool false], leaves := some [.int .i64, .bool], eq := true }),
  (163, { d := .slice 162, size := 1, bytes := 24, zero := [.sl ⟨none, 0, 0⟩], leaves := none, eq := false }),
  (194, { d := .ptr 3, size := 1, bytes := 8, zero := [.ptr none], leaves := none, eq := false }),
  (195, { d := .map 21 194, size := 1, bytes := 8, zero := [.map none], leaves := none, eq := false })]

def fnsT : List (Nat × Nat) := [(3, 378), (4, 379), (5, 380), (6, 361), (7, 374), (8, 375), (9, 376), (10, 377), (11, 341), (12, 360), (13, 405), (14, 372), (15, 373), (16, 228), (17, 182), (18, 335), (19, 336), (20, 339), (21, 340), (22, 358), (23, 359), (28, 371), (29, 226), (30, 227), (31, 222), (32, 172), (33, 175), (34, 176), (35, 181), (37, 384), (39, 338), (43, 357), (44, 381), (45, 382), (46, 383), (47, 386), (48, 388), (49, 398), (50, 401), (51, 364), (55, 365), (56, 367), (57, 368), (58, 369), (59, 370), (60, 223), (61, 225), (62, 170), (63, 171), (64, 174), (65, 169), (66, 179), (67, 180), (70, 337), (73, 404), (76, 385), (77, 387), (78, 397), (79, 394), (80, 396), (81, 399), (82, 400), (83, 363), (84, 366), (85, 345), (86, 346), (87, 224), (88, 173), (89, 178), (98, 402), (99, 403), (106, 391), (114, 393), (115, 395), (117, 362), (118, 334), (119, 177), (130, 390), (133, 392), (141, 389)]

def tysT : List (Nat × Nat) := [(9, 8), (24, 5), (44, 6), (46, 7), (47, 9), (121, 10)]

def glsT : List (Nat × Nat) := [(0, 6), (1, 4), (3, 3), (4, 5)]

def rtsT : List (Nat × RT) := []

def backs (l : List (Nat × Nat)) (g : Nat) : Nat :=
  match l with
  | [] => 0
  | (a, b) :: l => bif Nat.beq b g then a else backs l g

noncomputable def sg : Seat := ⟨Go.Proofs.Tryz.prog, backs fnsT, backs tysT⟩

theorem seatTis : tisOK sg.P tisT = true := by kernel_rfl
theorem seatFns : pairsOK sg.fn fnsT = true := by kernel_rfl
theorem seatTys : pairsOK sg.ty tysT = true := by kernel_rfl
theorem seatMixed : sg.P.follows .mixedOrders = true := by kernel_rfl
theorem seatOK : SeatOK sg tisT fnsT tysT := ⟨seatMixed, seatTis, seatFns, seatTys⟩

end Go.Fn
