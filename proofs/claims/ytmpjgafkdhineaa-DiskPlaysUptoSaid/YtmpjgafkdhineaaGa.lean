/- The seat's tables. PRINTED by lift.py. -/
import Derived.Test.YtmpjgafkdhineaaLiftN
import Derived.Test.YtmpjgafkdhineaaFa
import Derived.Test.YtmpjgafkdhineaaProg
set_option linter.unusedVariables false
set_option maxRecDepth 100000
namespace Go.Fn
open Go.Lift

noncomputable def tisT : List (Nat × TI) := [
  (3, { d := .leaf (.int .i64), size := 1, bytes := 8, zero := [.int .i64 0], leaves := none, eq := false }),
  (4, { d := .leaf .bool, size := 1, bytes := 1, zero := [.bool false], leaves := none, eq := false }),
  (5, { d := .leaf (.int .u8), size := 1, bytes := 1, zero := [.int .u8 0], leaves := none, eq := false }),
  (9, { d := .leaf .str, size := 1, bytes := 16, zero := [.str []], leaves := none, eq := false }),
  (22, { d := .slice 41, size := 1, bytes := 24, zero := [.sl ⟨none, 0, 0⟩], leaves := none, eq := false }),
  (23, { d := .ptr 66, size := 1, bytes := 8, zero := [.ptr none], leaves := none, eq := false }),
  (27, { d := .ptr 69, size := 1, bytes := 8, zero := [.ptr none], leaves := none, eq := false }),
  (30, { d := .ptr 71, size := 1, bytes := 8, zero := [.ptr none], leaves := none, eq := false }),
  (38, { d := .struct [(0, 3), (1, 4), (2, 3), (3, 3)], size := 4, bytes := 32, zero := [.int .i64 0, .bool false, .int .i64 0, .int .i64 0], leaves := some [.int .i64, .bool, .int .i64, .int .i64], eq := true }),
  (39, { d := .slice 5, size := 1, bytes := 24, zero := [.sl ⟨none, 0, 0⟩], leaves := none, eq := false }),
  (41, { d := .struct [(0, 3), (1, 38), (5, 3), (6, 39)], size := 7, bytes := 72, zero := z_palisade_palisadelaw12_Act, leaves := some [.int .i64, .int .i64, .bool, .int .i64, .int .i64, .int .i64, .sl], eq := false }),
  (44, { d := .struct [(0, 3), (1, 4), (2, 3), (3, 3)], size := 4, bytes := 32, zero := [.int .i64 0, .bool false, .int .i64 0, .int .i64 0], leaves := some [.int .i64, .bool, .int .i64, .int .i64], eq := true }),
  (52, { d := .leaf (.int .u64), size := 1, bytes := 8, zero := [.int .u64 0], leaves := none, eq := false }),
  (61, { d := .struct [(0, 39)], size := 1, bytes := 24, zero := [.sl ⟨none, 0, 0⟩], leaves := some [.sl], eq := false }),
  (63, { d := .map 3 39, size := 1, bytes := 8, zero := [.map none], leaves := none, eq := false }),
  (64, { d := .slice 38, size := 1, bytes := 24, zero := [.sl ⟨none, 0, 0⟩], leaves := none, eq := false }),
  (66, { d := .struct [(0, 3), (1, 63), (2, 64)], size := 3, bytes := 40, zero := [.int .i64 0, .map none, .sl ⟨none, 0, 0⟩], leaves := some [.int .i64, .map, .sl], eq := false }),
  (67, { d := .slice 44, size := 1, bytes := 24, zero := [.sl ⟨none, 0, 0⟩], leaves := none, eq := false }),
  (69, { d := .struct [(0, 39), (1, 67)], size := 2, bytes := 48, zero := [.sl ⟨none, 0, 0⟩, .sl ⟨none, 0, 0⟩], leaves := some [.sl, .sl], eq := false }),
  (71, { d := .struct [(0, 39)], size := 1, bytes := 24, zero := [.sl ⟨none, 0, 0⟩], leaves := some [.sl], eq := false })]

def fnsT : List (Nat × Nat) := [(3, 91), (4, 85), (5, 41), (6, 28), (7, 42), (8, 43), (9, 82), (10, 45), (11, 88), (12, 83), (13, 86), (14, 46), (15, 33), (16, 48), (17, 87), (18, 49), (19, 51), (20, 40), (21, 36), (22, 81), (23, 3), (24, 44), (25, 29), (26, 55), (27, 71), (28, 56), (29, 73), (30, 57), (31, 58), (32, 32), (33, 47), (34, 38), (35, 50), (36, 39), (37, 70), (38, 31), (39, 72), (40, 2), (41, 37)]

def tysT : List (Nat × Nat) := []

def glsT : List (Nat × Nat) := []

def rtsT : List (Nat × RT) := [(4, .single (.one (.bool)))]

def backs (l : List (Nat × Nat)) (g : Nat) : Nat :=
  match l with
  | [] => 0
  | (a, b) :: l => bif Nat.beq b g then a else backs l g

noncomputable def sg : Seat := ⟨Go.Proofs.Try.prog, backs fnsT, backs tysT⟩

theorem seatTis : tisOK sg.P tisT = true := by kernel_rfl
theorem seatFns : pairsOK sg.fn fnsT = true := by kernel_rfl
theorem seatTys : pairsOK sg.ty tysT = true := by kernel_rfl
theorem seatMixed : sg.P.follows .mixedOrders = true := by kernel_rfl
theorem seatOK : SeatOK sg tisT fnsT tysT := ⟨seatMixed, seatTis, seatFns, seatTys⟩

end Go.Fn
