/- The seat's tables. PRINTED by lift.py. -/
import Derived.Test.YtgigbjieppllgaaDoorLiftN
import Derived.Test.YtgigbjieppllgaaDoorFa
import Derived.Test.YtgigbjieppllgaaDoorProg
set_option linter.unusedVariables false
set_option maxRecDepth 100000
namespace Go.Fn
open Go.Lift

noncomputable def tisT : List (Nat × TI) := [
  (3, { d := .leaf (.int .i64), size := 1, bytes := 8, zero := [.int .i64 0], leaves := none, eq := false }),
  (4, { d := .leaf .bool, size := 1, bytes := 1, zero := [.bool false], leaves := none, eq := false }),
  (5, { d := .leaf (.int .u8), size := 1, bytes := 1, zero := [.int .u8 0], leaves := none, eq := false }),
  (9, { d := .leaf .str, size := 1, bytes := 16, zero := [.str []], leaves := none, eq := false }),
  (21, { d := .leaf (.int .i32), size := 1, bytes := 4, zero := [.int .i32 0], leaves := none, eq := false }),
  (22, { d := .leaf (.int .u32), size := 1, bytes := 4, zero := [.int .u32 0], leaves := none, eq := false }),
  (26, { d := .struct [(0, 3), (1, 3), (2, 3), (3, 3), (4, 3)], size := 5, bytes := 40, zero := [.int .i64 0, .int .i64 0, .int .i64 0, .int .i64 0, .int .i64 0], leaves := some [.int .i64, .int .i64, .int .i64, .int .i64, .int .i64], eq := true }),
  (31, { d := .slice 9, size := 1, bytes := 24, zero := [.sl ⟨none, 0, 0⟩], leaves := none, eq := false }),
  (33, { d := .map 21 3, size := 1, bytes := 8, zero := [.map none], leaves := none, eq := false }),
  (48, { d := .slice 3, size := 1, bytes := 24, zero := [.sl ⟨none, 0, 0⟩], leaves := none, eq := false }),
  (50, { d := .slice 5, size := 1, bytes := 24, zero := [.sl ⟨none, 0, 0⟩], leaves := none, eq := false }),
  (62, { d := .leaf (.int .u64), size := 1, bytes := 8, zero := [.int .u64 0], leaves := none, eq := false }),
  (64, { d := .leaf (.int .u64), size := 1, bytes := 8, zero := [.int .u64 0], leaves := none, eq := false }),
  (67, { d := .map 3 3, size := 1, bytes := 8, zero := [.map none], leaves := none, eq := false }),
  (81, { d := .struct [(0, 3), (1, 4)], size := 2, bytes := 16, zero := [.int .i64 0, .bool false], leaves := some [.int .i64, .bool], eq := true }),
  (82, { d := .slice 81, size := 1, bytes := 24, zero := [.sl ⟨none, 0, 0⟩], leaves := none, eq := false })]

def fnsT : List (Nat × Nat) := [(3, 348), (4, 341), (5, 347), (6, 182), (7, 335), (8, 336), (9, 339), (10, 340), (11, 344), (12, 334), (13, 342), (14, 345), (15, 346), (16, 172), (17, 175), (18, 176), (19, 181), (23, 338), (27, 222), (28, 343), (29, 228), (30, 170), (31, 171), (32, 174), (33, 169), (34, 179), (35, 180), (38, 337), (41, 226), (42, 227), (43, 173), (44, 178), (53, 223), (54, 225), (55, 177), (61, 224)]

def tysT : List (Nat × Nat) := []

def glsT : List (Nat × Nat) := [(0, 4), (2, 3)]

def rtsT : List (Nat × RT) := []

def backs (l : List (Nat × Nat)) (g : Nat) : Nat :=
  match l with
  | [] => 0
  | (a, b) :: l => bif Nat.beq b g then a else backs l g

noncomputable def sg : Seat := ⟨Go.Proofs.Tryd.prog, backs fnsT, backs tysT⟩

theorem seatTis : tisOK sg.P tisT = true := by kernel_rfl
theorem seatFns : pairsOK sg.fn fnsT = true := by kernel_rfl
theorem seatTys : pairsOK sg.ty tysT = true := by kernel_rfl
theorem seatMixed : sg.P.follows .mixedOrders = true := by kernel_rfl
theorem seatOK : SeatOK sg tisT fnsT tysT := ⟨seatMixed, seatTis, seatFns, seatTys⟩

end Go.Fn
