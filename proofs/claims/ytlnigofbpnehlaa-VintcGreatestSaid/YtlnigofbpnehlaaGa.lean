/- The seat's tables. PRINTED by lift.py. -/
import Derived.Test.YtlnigofbpnehlaaLiftN
import Derived.Test.YtlnigofbpnehlaaFa
import Derived.Test.YtlnigofbpnehlaaProg
set_option linter.unusedVariables false
set_option maxRecDepth 100000
namespace Go.Fn
open Go.Lift

noncomputable def tisT : List (Nat × TI) := [
  (3, ⟨.leaf (.int .i64), 1, 8, [.int .i64 0], none, false⟩),
  (4, ⟨.leaf .bool, 1, 1, [.bool false], none, false⟩),
  (22, ⟨.slice 29, 1, 24, [.sl ⟨none, 0, 0⟩], none, false⟩),
  (23, ⟨.ptr 48, 1, 8, [.ptr none], none, false⟩),
  (27, ⟨.array 17 3, 17, 136, z_17_int, none, false⟩),
  (29, ⟨.struct [(0, 3), (1, 3), (2, 3), (3, 3), (4, 4)], 5, 40, [.int .i64 0, .int .i64 0, .int .i64 0, .int .i64 0, .bool false], some [.int .i64, .int .i64, .int .i64, .int .i64, .bool], true⟩),
  (37, ⟨.array 16 3, 16, 128, z_16_int, some [.int .i64, .int .i64, .int .i64, .int .i64, .int .i64, .int .i64, .int .i64, .int .i64, .int .i64, .int .i64, .int .i64, .int .i64, .int .i64, .int .i64, .int .i64, .int .i64], false⟩),
  (38, ⟨.leaf (.int .u64), 1, 8, [.int .u64 0], none, false⟩),
  (42, ⟨.array 4 4, 4, 4, [.bool false, .bool false, .bool false, .bool false], some [.bool, .bool, .bool, .bool], false⟩),
  (44, ⟨.struct [(0, 4), (1, 3), (2, 3), (3, 42)], 7, 32, z_palisade_vintc_source, some [.bool, .int .i64, .int .i64, .bool, .bool, .bool, .bool], false⟩),
  (45, ⟨.array 17 44, 119, 544, z_17_palisade_vintc_source, none, false⟩),
  (46, ⟨.array 4 3, 4, 32, [.int .i64 0, .int .i64 0, .int .i64 0, .int .i64 0], some [.int .i64, .int .i64, .int .i64, .int .i64], false⟩),
  (48, ⟨.struct [(0, 3), (1, 45), (120, 46), (124, 42)], 128, 592, z_palisade_vintc_Intc, none, false⟩),
  (49, ⟨.slice 23, 1, 24, [.sl ⟨none, 0, 0⟩], none, false⟩),
  (51, ⟨.ptr 61, 1, 8, [.ptr none], none, false⟩),
  (58, ⟨.struct [(0, 4), (1, 3), (2, 3), (3, 42)], 7, 32, z_palisade_vintc_source, some [.bool, .int .i64, .int .i64, .bool, .bool, .bool, .bool], false⟩),
  (59, ⟨.array 17 58, 119, 544, z_17_palisade_vintc_source, none, false⟩),
  (61, ⟨.struct [(0, 3), (1, 59), (120, 46), (124, 42)], 128, 592, z_palisade_vintc_Intc, none, false⟩)]

def fnsT : List (Nat × Nat) := [(3, 18), (4, 65), (5, 22), (6, 69), (13, 4), (14, 8), (15, 10), (16, 12), (17, 13), (18, 15), (19, 16), (20, 17), (21, 19), (22, 20), (23, 21), (24, 23), (25, 24), (26, 68), (27, 26), (28, 66), (29, 25), (54, 7), (55, 5), (56, 9), (57, 11), (58, 14), (59, 6), (60, 27), (61, 67), (62, 54), (82, 1)]

def tysT : List (Nat × Nat) := []

def backs (l : List (Nat × Nat)) (g : Nat) : Nat :=
  match l with
  | [] => 0
  | (a, b) :: l => bif Nat.beq b g then a else backs l g

noncomputable def sg : Seat := ⟨Go.Proofs.Try.prog, backs fnsT, backs tysT⟩

theorem seatTis : tisOK sg.P tisT = true := by kernel_rfl
theorem seatFns : pairsOK sg.fn fnsT = true := by kernel_rfl
theorem seatTys : pairsOK sg.ty tysT = true := by kernel_rfl
theorem seatMixed : sg.P.follows .mixedOrders = true := by kernel_rfl
theorem seatOK : SeatOK sg tisT fnsT tysT := ⟨seatMixed, seatTis, seatFns, seatTys⟩

end Go.Fn
