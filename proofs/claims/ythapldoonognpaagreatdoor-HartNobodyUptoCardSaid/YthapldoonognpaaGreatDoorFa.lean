/- The shallow functions. PRINTED by lift.py. -/
import Derived.Test.YthapldoonognpaaGreatDoorLiftB
set_option linter.unusedVariables false
set_option maxRecDepth 100000
namespace Go.Fn
open Go.Lift

def z_palisade_api_Regs : List V := [.int .u64 0, .int .u64 0, .int .u64 0, .int .u64 0, .int .u64 0, .int .u64 0, .int .u64 0, .int .u64 0, .int .u64 0, .int .u64 0, .int .u64 0, .int .u64 0, .int .u64 0, .int .u64 0, .int .u64 0, .int .u64 0, .int .u64 0, .int .i64 0]
def z_palisade_csr_File : List V := [.bool false, .int .u64 0, .int .u64 0, .int .u64 0, .int .u64 0, .int .u64 0, .int .u64 0, .int .u64 0, .int .u64 0, .int .u64 0, .int .u64 0, .int .u64 0, .int .u64 0]
def z_16_uint64 : List V := [.int .u64 0, .int .u64 0, .int .u64 0, .int .u64 0, .int .u64 0, .int .u64 0, .int .u64 0, .int .u64 0, .int .u64 0, .int .u64 0, .int .u64 0, .int .u64 0, .int .u64 0, .int .u64 0, .int .u64 0, .int .u64 0]
def z_12_uint64 : List V := [.int .u64 0, .int .u64 0, .int .u64 0, .int .u64 0, .int .u64 0, .int .u64 0, .int .u64 0, .int .u64 0, .int .u64 0, .int .u64 0, .int .u64 0, .int .u64 0]
def z_palisade_palisadelaw09_State : List V := [.int .u64 0, .int .u64 0, .int .u64 0, .int .u64 0, .int .u64 0, .int .u64 0, .int .u64 0, .int .u64 0, .int .u64 0, .int .u64 0, .int .u64 0, .int .u64 0, .int .u64 0, .int .u64 0, .int .u64 0, .int .u64 0, .int .u64 0, .int .i64 0, .int .u64 0, .int .u64 0, .int .u64 0, .int .u64 0, .int .u64 0, .int .u64 0, .int .u64 0, .int .u64 0, .int .u64 0, .int .u64 0, .int .u64 0, .int .u64 0, .sl ⟨none, 0, 0⟩, .sl ⟨none, 0, 0⟩, .sl ⟨none, 0, 0⟩, .int .i64 0]
def z_palisade_hart_hart : List V := [.ptr none, .ptr none, .nilif, .int .u32 0, .int .i64 0, .int .i64 0, .int .i64 0, .int .i64 0, .int .i64 0, .int .u64 0, .int .i64 0, .int .i64 0, .int .u64 0, .int .u64 0, .bool false, .bool false]
def z_palisade_palisaderef09_Bus : List V := [.ptr none, .int .i64 0, .int .i64 0, .int .i64 0, .ptr none, .sl ⟨none, 0, 0⟩, .bool false, .int .u64 0, .sl ⟨none, 0, 0⟩]

def mem_New (a1 : Int) (Q : (Option Ptr) → Int → Heap → Prop) (h : Heap) : Prop :=
  br (decide (a1 < 1)) (Q none 2 h) (br (decide (a1 > 65536)) (Q none 2 h) (mkSl 1 [.int .u8 0] (IntKind.i64.wrap (a1 * 256)) (IntKind.i64.wrap (a1 * 256)) (fun s1 h => al [.sl s1] (fun b2 h => Q (some (⟨b2, 0⟩ : Ptr)) 0 h) h) h))

def palisaderef04_New (a1 : Int) (Q : (Option Ptr) → Int → Heap → Prop) (h : Heap) : Prop :=
  br (decide (a1 < 1)) (Q none 2 h) (br (decide (a1 > 65536)) (Q none 2 h) (mkSl 1 [.int .u8 0] (IntKind.i64.wrap (a1 * 256)) (IntKind.i64.wrap (a1 * 256)) (fun s1 h => al [.sl s1] (fun b2 h => Q (some (⟨b2, 0⟩ : Ptr)) 0 h) h) h))

def csr_New (a1 : Int) (Q : (Option Ptr) → Heap → Prop) (h : Heap) : Prop :=
  al [.bool true, .int .u64 0, .int .u64 0, .int .u64 0, .int .u64 0, .int .u64 0, .int .u64 0, .int .u64 0, .int .u64 0, .int .u64 0, .int .u64 0, .int .u64 0, .int .u64 0] (fun b1 h => ix 11 12 (fun n2 => wr (((⟨b1, 0⟩ : Ptr).add 1).add (n2 * 1)) (.int .u64 (IntKind.u64.wrap a1)) (fun h => Q (some (⟨b1, 0⟩ : Ptr)) h) h)) h

def palisaderef08_New (a1 : Int) (Q : (Option Ptr) → Heap → Prop) (h : Heap) : Prop :=
  al [.int .u64 0, .int .u64 0, .int .u64 0, .int .u64 0, .int .u64 0, .int .u64 0, .int .u64 0, .int .u64 0, .int .u64 0, .int .u64 0, .int .u64 0, .int .u64 0] (fun b1 h => ix 11 12 (fun n2 => wr (((⟨b1, 0⟩ : Ptr).add 0).add (n2 * 1)) (.int .u64 (IntKind.u64.wrap a1)) (fun h => Q (some (⟨b1, 0⟩ : Ptr)) h) h)) h

def mem_Memory_none (a1 : Option Ptr) (Q : Bool → Heap → Prop) (h : Heap) : Prop :=
  br a1.isNone (Q true h) (der a1 (fun p1 => rdSl (p1.add 0) (fun x2 => Q x2.p.isNone h) h))

def mem_Memory_part_c1 (a1 : Ptr) (a2 : Ptr) (a3 : Ptr) (Q : Bool → Heap → Prop) (h : Heap) : Prop :=
  rdI .i64 a1 (fun x1 => rdP a2 (fun x2 => der x2 (fun p3 => rdSl (p3.add 0) (fun x4 => br (decide (x1 ≤ ((x4.len : Nat) : Int))) (rdI .u64 a3 (fun x5 => rdP a2 (fun x6 => der x6 (fun p7 => rdSl (p7.add 0) (fun x8 => rdI .i64 a1 (fun x9 => Q (decide (x5 ≤ (IntKind.u64.wrap (IntKind.i64.wrap (((x8.len : Nat) : Int) - x9))))) h) h) h)) h) h) (Q false h)) h)) h) h

def mem_Memory_part (a1 : Option Ptr) (a2 : Int) (a3 : Int) (Q : Sl → Int → Heap → Prop) (h : Heap) : Prop :=
  al [.ptr a1] (fun b1 h => al [.int .u64 a2] (fun b2 h => al [.int .i64 a3] (fun b3 h => rdP (⟨b1, 0⟩ : Ptr) (fun x4 => mem_Memory_none x4 (fun r5 h => br r5 (Q ⟨none, 0, 0⟩ 1 h) (rdI .i64 (⟨b3, 0⟩ : Ptr) (fun x6 => br (decide (x6 < 0)) (Q ⟨none, 0, 0⟩ 2 h) (mem_Memory_part_c1 (⟨b3, 0⟩ : Ptr) (⟨b1, 0⟩ : Ptr) (⟨b2, 0⟩ : Ptr) (fun r7 h => br (!r7) (Q ⟨none, 0, 0⟩ 12 h) (rdI .u64 (⟨b2, 0⟩ : Ptr) (fun x8 => rdI .i64 (⟨b3, 0⟩ : Ptr) (fun x9 => rdP (⟨b1, 0⟩ : Ptr) (fun x10 => der x10 (fun p11 => rdSl (p11.add 0) (fun x12 => rdI .u64 (⟨b2, 0⟩ : Ptr) (fun x13 => sb (IntKind.i64.wrap ((IntKind.i64.wrap x8) + x9)) x12.cap (fun n14 => sb (IntKind.i64.wrap ((IntKind.i64.wrap x8) + x9)) n14 (fun n15 => sb x13 n15 (fun n16 => Q ⟨slp x12.p (n16 * 1) n16 n14, n15 - n16, n14 - n16⟩ 0 h)))) h) h)) h) h) h)) h)) h)) h) h) h) h) h

def mem_Memory_number.j5  (a1 : Option Ptr) (a2 : Int) (a3 : Int) (Q : Sl → Int → Heap → Prop) (h : Heap) : Prop :=
  nz (IntKind.u64.wrap a3) (br ((a2.tmod (IntKind.u64.wrap a3)) != 0) (Q ⟨none, 0, 0⟩ 11 h) (mem_Memory_part a1 a2 a3 (fun r1 r2 h => Q r1 r2 h) h))

def mem_Memory_number (a1 : Option Ptr) (a2 : Int) (a3 : Int) (Q : Sl → Int → Heap → Prop) (h : Heap) : Prop :=
  mem_Memory_none a1 (fun r1 h => br r1 (Q ⟨none, 0, 0⟩ 1 h) (br (a3 != 1) (br (a3 != 4) (br (a3 != 8) (Q ⟨none, 0, 0⟩ 2 h) (mem_Memory_number.j5 a1 a2 a3 Q h)) (mem_Memory_number.j5 a1 a2 a3 Q h)) (mem_Memory_number.j5 a1 a2 a3 Q h))) h

def word_known.j6 (U : Ifc) (I2 : Int → Int → Int → Int → Int → Int → Heap → Prop) (a1 : Int) (a2 : Int) (a3 : Int) (a4 : Int) (a5 : Int) (a6 : Int) (Q : Bool → Heap → Prop) (h : Heap) : Prop :=
  I2 a1 a2 a3 a4 a5 (IntKind.i64.wrap (a6 + 1)) h

def word_known.b2 (U : Ifc)  (I2 : Int → Int → Int → Int → Int → Int → Heap → Prop) (a1 : Int) (a2 : Int) (a3 : Int) (a4 : Int) (a5 : Int) (a6 : Int) (Q : Bool → Heap → Prop) (h : Heap) : Prop :=
  br (decide (a6 < 4)) (ix a6 4 (fun n1 => ∃ x3, ([.int .i64 a2, .int .i64 a3, .int .i64 a4, .int .i64 a5] : List V)[n1 * 1]? = some (.int .i64 x3) ∧ br (x3 == a1) (br (decide (x3 > 0)) (Q true h) (word_known.j6 U I2 a1 a2 a3 a4 a5 a6 Q h)) (word_known.j6 U I2 a1 a2 a3 a4 a5 a6 Q h))) (Q false h)

def word_known.j2 (U : Ifc)  (a1 : Int) (a2 : Int) (a3 : Int) (a4 : Int) (a5 : Int) (a6 : Int) (Q : Bool → Heap → Prop) (h : Heap) : Prop :=
  ∀ I : Int → Int → Int → Int → Int → Int → Heap → Prop, (∀ a1 a2 a3 a4 a5 a6 h, word_known.b2 U  I a1 a2 a3 a4 a5 a6 Q h → I a1 a2 a3 a4 a5 a6 h) → I a1 a2 a3 a4 a5 a6 h

def word_known (U : Ifc) (a1 : Int) (Q : Bool → Heap → Prop) (h : Heap) : Prop :=
  rdI .i64 ((⟨U.glob 1, 0⟩ : Ptr).add 0) (fun x1 => rdI .i64 ((⟨U.glob 1, 0⟩ : Ptr).add 1) (fun x2 => rdI .i64 ((⟨U.glob 1, 0⟩ : Ptr).add 2) (fun x3 => rdI .i64 ((⟨U.glob 1, 0⟩ : Ptr).add 3) (fun x4 => word_known.j2 U a1 x1 x2 x3 x4 0 Q h) h) h) h) h

def word_Store.b5 (U : Ifc)  (I5 : Int → Sl → Int → Int → Heap → Prop) (a1 : Int) (a2 : Sl) (a3 : Int) (a4 : Int) (Q : Sl → Heap → Prop) (h : Heap) : Prop :=
  br (decide (a4 < a3)) (nneg (IntKind.i64.wrap (8 * a4)) (ix a4 a2.len (fun n1 => der a2.p (fun p2 => wr (p2.add (n1 * 1)) (.int .u8 (IntKind.u8.wrap (shrI .u64 a1 (IntKind.i64.wrap (8 * a4))))) (fun h => I5 a1 a2 a3 (IntKind.i64.wrap (a4 + 1)) h) h)))) (Q a2 h)

def word_Store.j5 (U : Ifc)  (a1 : Int) (a2 : Sl) (a3 : Int) (a4 : Int) (Q : Sl → Heap → Prop) (h : Heap) : Prop :=
  ∀ I : Int → Sl → Int → Int → Heap → Prop, (∀ a1 a2 a3 a4 h, word_Store.b5 U  I a1 a2 a3 a4 Q h → I a1 a2 a3 a4 h) → I a1 a2 a3 a4 h

def word_Store (U : Ifc) (a1 : Int) (a2 : Int) (Q : Sl → Heap → Prop) (h : Heap) : Prop :=
  word_known U a2 (fun r1 h => br (!r1) (Q ⟨none, 0, 0⟩ h) (mkSl 1 [.int .u8 0] a2 a2 (fun s2 h => word_Store.j5 U a1 s2 ((s2.len : Nat) : Int) 0 Q h) h)) h

def mem_Memory_Store (U : Ifc) (a1 : Option Ptr) (a2 : Int) (a3 : Int) (a4 : Int) (Q : Int → Heap → Prop) (h : Heap) : Prop :=
  mem_Memory_number a1 a2 a3 (fun r1 r2 h => br (r2 == 0) (word_Store U a4 a3 (fun r3 h => cellsS 1 r3 (fun cs4 => copyS 1 r1 cs4 r3.len (fun x5 h => Q r2 h) h) h) h) (Q r2 h)) h

def palisaderef04_Memory_lies (a1 : Option Ptr) (a2 : Int) (a3 : Int) (Q : Bool → Heap → Prop) (h : Heap) : Prop :=
  der a1 (fun p1 => rdSl (p1.add 0) (fun x2 => br (decide (a3 ≤ ((x2.len : Nat) : Int))) (der a1 (fun p3 => rdSl (p3.add 0) (fun x4 => Q (decide (a2 ≤ (IntKind.u64.wrap (IntKind.i64.wrap (((x4.len : Nat) : Int) - a3))))) h) h)) (Q false h)) h)

def palisaderef04_Memory_wrong.j3  (a1 : Option Ptr) (a2 : Int) (a3 : Int) (Q : Int → Heap → Prop) (h : Heap) : Prop :=
  nz (IntKind.u64.wrap a3) (br ((a2.tmod (IntKind.u64.wrap a3)) != 0) (Q 11 h) (palisaderef04_Memory_lies a1 a2 a3 (fun r1 h => br (!r1) (Q 12 h) (Q 0 h)) h))

def palisaderef04_Memory_wrong (a1 : Option Ptr) (a2 : Int) (a3 : Int) (Q : Int → Heap → Prop) (h : Heap) : Prop :=
  br (a3 != 1) (br (a3 != 4) (br (a3 != 8) (Q 2 h) (palisaderef04_Memory_wrong.j3 a1 a2 a3 Q h)) (palisaderef04_Memory_wrong.j3 a1 a2 a3 Q h)) (palisaderef04_Memory_wrong.j3 a1 a2 a3 Q h)

def palisaderef01_Store.b5  (I5 : Int → Int → Sl → Int → Heap → Prop) (a1 : Int) (a2 : Int) (a3 : Sl) (a4 : Int) (Q : Sl → Heap → Prop) (h : Heap) : Prop :=
  br (decide (a4 < a2)) (nneg (IntKind.u64.wrap (IntKind.i64.wrap (8 * a4))) (al [.int .u8 (IntKind.u8.wrap (shrI .u64 a1 (IntKind.u64.wrap (IntKind.i64.wrap (8 * a4)))))] (fun b1 h => rdN (1 * 1) (⟨b1, 0⟩ : Ptr) (fun cs3 => appS 1 1 [.int .u8 0] a3 cs3 1 (fun s2 h => I5 a1 a2 s2 (IntKind.i64.wrap (a4 + 1)) h) h) h) h)) (Q a3 h)

def palisaderef01_Store.j5  (a1 : Int) (a2 : Int) (a3 : Sl) (a4 : Int) (Q : Sl → Heap → Prop) (h : Heap) : Prop :=
  ∀ I : Int → Int → Sl → Int → Heap → Prop, (∀ a1 a2 a3 a4 h, palisaderef01_Store.b5  I a1 a2 a3 a4 Q h → I a1 a2 a3 a4 h) → I a1 a2 a3 a4 h

def palisaderef01_Store.j3  (a1 : Int) (a2 : Int) (Q : Sl → Heap → Prop) (h : Heap) : Prop :=
  palisaderef01_Store.j5 a1 a2 ⟨none, 0, 0⟩ 0 Q h

def palisaderef01_Store (a1 : Int) (a2 : Int) (Q : Sl → Heap → Prop) (h : Heap) : Prop :=
  br (a2 != 1) (br (a2 != 4) (br (a2 != 8) (Q ⟨none, 0, 0⟩ h) (palisaderef01_Store.j3 a1 a2 Q h)) (palisaderef01_Store.j3 a1 a2 Q h)) (palisaderef01_Store.j3 a1 a2 Q h)

def palisaderef04_Memory_Store.b6  (I6 : (Option Ptr) → Int → Sl → Int → Heap → Prop) (a1 : Option Ptr) (a2 : Int) (a3 : Sl) (a4 : Int) (Q : Int → Heap → Prop) (h : Heap) : Prop :=
  br (decide (a4 < ((a3.len : Nat) : Int))) (der a1 (fun p1 => rdSl (p1.add 0) (fun x2 => ix a4 a3.len (fun n3 => der a3.p (fun p4 => rdI .u8 (p4.add (n3 * 1)) (fun x5 => ix (IntKind.i64.wrap ((IntKind.i64.wrap a2) + a4)) x2.len (fun n6 => der x2.p (fun p7 => wr (p7.add (n6 * 1)) (.int .u8 x5) (fun h => I6 a1 a2 a3 (IntKind.i64.wrap (a4 + 1)) h) h))) h))) h)) (Q 0 h)

def palisaderef04_Memory_Store.j6  (a1 : Option Ptr) (a2 : Int) (a3 : Sl) (a4 : Int) (Q : Int → Heap → Prop) (h : Heap) : Prop :=
  ∀ I : (Option Ptr) → Int → Sl → Int → Heap → Prop, (∀ a1 a2 a3 a4 h, palisaderef04_Memory_Store.b6  I a1 a2 a3 a4 Q h → I a1 a2 a3 a4 h) → I a1 a2 a3 a4 h

def palisaderef04_Memory_Store (a1 : Option Ptr) (a2 : Int) (a3 : Int) (a4 : Int) (Q : Int → Heap → Prop) (h : Heap) : Prop :=
  palisaderef04_Memory_wrong a1 a2 a3 (fun r1 h => br (r1 != 0) (Q r1 h) (palisaderef01_Store a4 a3 (fun r2 h => palisaderef04_Memory_Store.j6 a1 a2 r2 0 Q h) h)) h

def palisaderef02_Shape.j4   (Q : Int → Heap → Prop) (h : Heap) : Prop :=
  Q 2 h

def palisaderef02_Shape.j9  (a1 : Int) (Q : Int → Heap → Prop) (h : Heap) : Prop :=
  br (a1 == 22) (Q 5 h) (br (a1 == 35) (Q 5 h) (br (a1 == 45) (Q 6 h) (br (decide (a1 ≥ 41)) (br (decide (a1 ≤ 44)) (Q 0 h) (Q (-1) h)) (Q (-1) h))))

def palisaderef02_Shape.j7  (a1 : Int) (Q : Int → Heap → Prop) (h : Heap) : Prop :=
  br (decide (a1 ≥ 29)) (br (decide (a1 ≤ 34)) (Q 4 h) (palisaderef02_Shape.j9 a1 Q h)) (palisaderef02_Shape.j9 a1 Q h)

def palisaderef02_Shape.j5  (a1 : Int) (Q : Int → Heap → Prop) (h : Heap) : Prop :=
  br (decide (a1 ≥ 26)) (br (decide (a1 ≤ 28)) (Q 3 h) (palisaderef02_Shape.j7 a1 Q h)) (palisaderef02_Shape.j7 a1 Q h)

def palisaderef02_Shape.j3  (a1 : Int) (Q : Int → Heap → Prop) (h : Heap) : Prop :=
  br (decide (a1 ≥ 14)) (br (decide (a1 ≤ 21)) (palisaderef02_Shape.j4 Q h) (br (decide (a1 ≥ 23)) (br (decide (a1 ≤ 25)) (palisaderef02_Shape.j4 Q h) (br (a1 == 36) (palisaderef02_Shape.j4 Q h) (br (decide (a1 ≥ 46)) (br (decide (a1 ≤ 48)) (palisaderef02_Shape.j4 Q h) (palisaderef02_Shape.j5 a1 Q h)) (palisaderef02_Shape.j5 a1 Q h)))) (br (a1 == 36) (palisaderef02_Shape.j4 Q h) (br (decide (a1 ≥ 46)) (br (decide (a1 ≤ 48)) (palisaderef02_Shape.j4 Q h) (palisaderef02_Shape.j5 a1 Q h)) (palisaderef02_Shape.j5 a1 Q h))))) (br (decide (a1 ≥ 23)) (br (decide (a1 ≤ 25)) (palisaderef02_Shape.j4 Q h) (br (a1 == 36) (palisaderef02_Shape.j4 Q h) (br (decide (a1 ≥ 46)) (br (decide (a1 ≤ 48)) (palisaderef02_Shape.j4 Q h) (palisaderef02_Shape.j5 a1 Q h)) (palisaderef02_Shape.j5 a1 Q h)))) (br (a1 == 36) (palisaderef02_Shape.j4 Q h) (br (decide (a1 ≥ 46)) (br (decide (a1 ≤ 48)) (palisaderef02_Shape.j4 Q h) (palisaderef02_Shape.j5 a1 Q h)) (palisaderef02_Shape.j5 a1 Q h))))

def palisaderef02_Shape (a1 : Int) (Q : Int → Heap → Prop) (h : Heap) : Prop :=
  br (decide (a1 ≥ 1)) (br (decide (a1 ≤ 13)) (Q 1 h) (br (decide (a1 ≥ 37)) (br (decide (a1 ≤ 40)) (Q 1 h) (palisaderef02_Shape.j3 a1 Q h)) (palisaderef02_Shape.j3 a1 Q h))) (br (decide (a1 ≥ 37)) (br (decide (a1 ≤ 40)) (Q 1 h) (palisaderef02_Shape.j3 a1 Q h)) (palisaderef02_Shape.j3 a1 Q h))

def palisaderef02_reg (a1 : Int) (Q : Bool → Heap → Prop) (h : Heap) : Prop :=
  br (decide (a1 ≥ 0)) (Q (decide (a1 ≤ 15)) h) (Q false h)

def palisaderef01_Fits (a1 : Int) (a2 : Int) (Q : Bool → Heap → Prop) (h : Heap) : Prop :=
  br (decide (a2 ≥ 1)) (br (decide (a2 ≤ 63)) (nneg (IntKind.u64.wrap (IntKind.i64.wrap (a2 - 1))) (br (decide (a1 ≥ (IntKind.i64.wrap (0 - (shlI .i64 1 (IntKind.u64.wrap (IntKind.i64.wrap (a2 - 1)))))))) (nneg (IntKind.u64.wrap (IntKind.i64.wrap (a2 - 1))) (Q (decide (a1 ≤ (IntKind.i64.wrap ((shlI .i64 1 (IntKind.u64.wrap (IntKind.i64.wrap (a2 - 1)))) - 1)))) h)) (Q false h))) (Q false h)) (Q false h)

def palisaderef02_imm.j5  (a1 : Int) (a2 : Int) (Q : Bool → Heap → Prop) (h : Heap) : Prop :=
  palisaderef02_Shape a1 (fun r1 h => br (r1 == 2) (palisaderef01_Fits a2 14 (fun r2 h => Q r2 h) h) (br (r1 == 3) (palisaderef01_Fits a2 14 (fun r3 h => Q r3 h) h) (br (r1 == 4) (palisaderef01_Fits a2 14 (fun r4 h => Q r4 h) h) (br (r1 == 5) (palisaderef01_Fits a2 18 (fun r5 h => Q r5 h) h) (Q (a2 == 0) h))))) h

def palisaderef02_imm.j3  (a1 : Int) (a2 : Int) (Q : Bool → Heap → Prop) (h : Heap) : Prop :=
  br (decide (a1 ≥ 46)) (br (decide (a1 ≤ 48)) (br (decide (a2 ≥ 0)) (Q (decide (a2 ≤ 4095)) h) (Q false h)) (palisaderef02_imm.j5 a1 a2 Q h)) (palisaderef02_imm.j5 a1 a2 Q h)

def palisaderef02_imm (a1 : Int) (a2 : Int) (Q : Bool → Heap → Prop) (h : Heap) : Prop :=
  br (decide (a1 ≥ 18)) (br (decide (a1 ≤ 20)) (br (decide (a2 ≥ 0)) (Q (decide (a2 ≤ 63)) h) (Q false h)) (palisaderef02_imm.j3 a1 a2 Q h)) (palisaderef02_imm.j3 a1 a2 Q h)

def palisaderef02_Valid.j3   (Q : Bool → Heap → Prop) (h : Heap) : Prop :=
  Q false h

def palisaderef02_Valid.j7  (a1 : Ptr) (a2 : Bool) (a3 : Bool) (a4 : Bool) (Q : Bool → Heap → Prop) (h : Heap) : Prop :=
  br a2 (br a3 (br a4 (Q true h) (rdI .i64 (a1.add 3) (fun x1 => Q (x1 == 0) h) h)) (rdI .i64 (a1.add 2) (fun x2 => br (x2 == 0) (br a4 (Q true h) (rdI .i64 (a1.add 3) (fun x3 => Q (x3 == 0) h) h)) (Q false h)) h)) (rdI .i64 (a1.add 1) (fun x4 => br (x4 == 0) (br a3 (br a4 (Q true h) (rdI .i64 (a1.add 3) (fun x5 => Q (x5 == 0) h) h)) (rdI .i64 (a1.add 2) (fun x6 => br (x6 == 0) (br a4 (Q true h) (rdI .i64 (a1.add 3) (fun x7 => Q (x7 == 0) h) h)) (Q false h)) h)) (Q false h)) h)

def palisaderef02_Valid.j6  (a1 : Ptr) (a2 : Int) (a3 : Bool) (a4 : Bool) (Q : Bool → Heap → Prop) (h : Heap) : Prop :=
  br (a2 == 1) (rdI .i64 (a1.add 0) (fun x1 => br (x1 != 37) (palisaderef02_Valid.j7 a1 a3 a4 true Q h) (br (a2 == 3) (palisaderef02_Valid.j7 a1 a3 a4 true Q h) (palisaderef02_Valid.j7 a1 a3 a4 (a2 == 4) Q h))) h) (br (a2 == 3) (palisaderef02_Valid.j7 a1 a3 a4 true Q h) (palisaderef02_Valid.j7 a1 a3 a4 (a2 == 4) Q h))

def palisaderef02_Valid.j5  (a1 : Ptr) (a2 : Int) (a3 : Bool) (Q : Bool → Heap → Prop) (h : Heap) : Prop :=
  br (a2 != 0) (palisaderef02_Valid.j6 a1 a2 a3 (a2 != 5) Q h) (palisaderef02_Valid.j6 a1 a2 a3 false Q h)

def palisaderef02_Valid.j4  (a1 : Ptr) (a2 : Int) (Q : Bool → Heap → Prop) (h : Heap) : Prop :=
  br (a2 == 1) (palisaderef02_Valid.j5 a1 a2 true Q h) (br (a2 == 2) (palisaderef02_Valid.j5 a1 a2 true Q h) (palisaderef02_Valid.j5 a1 a2 (a2 == 5) Q h))

def palisaderef02_Valid (a1 : Int) (a2 : Int) (a3 : Int) (a4 : Int) (a5 : Int) (Q : Bool → Heap → Prop) (h : Heap) : Prop :=
  al [.int .i64 a1, .int .i64 a2, .int .i64 a3, .int .i64 a4, .int .i64 a5] (fun b1 h => rdI .i64 ((⟨b1, 0⟩ : Ptr).add 0) (fun x2 => palisaderef02_Shape x2 (fun r3 h => br (decide (r3 < 0)) (palisaderef02_Valid.j3 Q h) (rdI .i64 ((⟨b1, 0⟩ : Ptr).add 1) (fun x4 => palisaderef02_reg x4 (fun r5 h => br (!r5) (palisaderef02_Valid.j3 Q h) (rdI .i64 ((⟨b1, 0⟩ : Ptr).add 2) (fun x6 => palisaderef02_reg x6 (fun r7 h => br (!r7) (palisaderef02_Valid.j3 Q h) (rdI .i64 ((⟨b1, 0⟩ : Ptr).add 3) (fun x8 => palisaderef02_reg x8 (fun r9 h => br (!r9) (palisaderef02_Valid.j3 Q h) (rdI .i64 ((⟨b1, 0⟩ : Ptr).add 0) (fun x10 => rdI .i64 ((⟨b1, 0⟩ : Ptr).add 4) (fun x11 => palisaderef02_imm x10 x11 (fun r12 h => br (!r12) (palisaderef02_Valid.j3 Q h) (palisaderef02_Valid.j4 (⟨b1, 0⟩ : Ptr) r3 Q h)) h) h) h)) h) h)) h) h)) h) h)) h) h) h

def palisaderef01_Place.j2  (a1 : Int) (Q : Int → Heap → Prop) (h : Heap) : Prop :=
  Q a1 h

def palisaderef01_Place.j5 (I4 : Int → Int → Int → Int → Int → Heap → Prop) (a1 : Int) (a2 : Int) (a3 : Int) (a4 : Int) (a5 : Int) (Q : Int → Heap → Prop) (h : Heap) : Prop :=
  I4 a1 a2 a3 a4 (IntKind.i64.wrap (a5 + 1)) h

def palisaderef01_Place.b4  (I4 : Int → Int → Int → Int → Int → Heap → Prop) (a1 : Int) (a2 : Int) (a3 : Int) (a4 : Int) (a5 : Int) (Q : Int → Heap → Prop) (h : Heap) : Prop :=
  br (decide (a5 < a4)) (nneg (IntKind.u64.wrap (IntKind.i64.wrap (a3 + a5))) (nneg (IntKind.u64.wrap a5) (br ((ibits .and .i64 (shrI .i64 a2 (IntKind.u64.wrap a5)) 1) == 1) (palisaderef01_Place.j5 I4 (ibits .or .u32 (ibits .andNot .u32 a1 (shlI .u32 1 (IntKind.u64.wrap (IntKind.i64.wrap (a3 + a5))))) (shlI .u32 1 (IntKind.u64.wrap (IntKind.i64.wrap (a3 + a5))))) a2 a3 a4 a5 Q h) (palisaderef01_Place.j5 I4 (ibits .andNot .u32 a1 (shlI .u32 1 (IntKind.u64.wrap (IntKind.i64.wrap (a3 + a5))))) a2 a3 a4 a5 Q h)))) (Q a1 h)

def palisaderef01_Place.j4  (a1 : Int) (a2 : Int) (a3 : Int) (a4 : Int) (a5 : Int) (Q : Int → Heap → Prop) (h : Heap) : Prop :=
  ∀ I : Int → Int → Int → Int → Int → Heap → Prop, (∀ a1 a2 a3 a4 a5 h, palisaderef01_Place.b4  I a1 a2 a3 a4 a5 Q h → I a1 a2 a3 a4 a5 h) → I a1 a2 a3 a4 a5 h

def palisaderef01_Place (a1 : Int) (a2 : Int) (a3 : Int) (a4 : Int) (Q : Int → Heap → Prop) (h : Heap) : Prop :=
  br (decide (a3 < 0)) (palisaderef01_Place.j2 a1 Q h) (br (decide (a3 > 31)) (palisaderef01_Place.j2 a1 Q h) (br (decide (a4 < 1)) (palisaderef01_Place.j2 a1 Q h) (br (decide (a4 > 32)) (palisaderef01_Place.j2 a1 Q h) (br (decide ((IntKind.i64.wrap (a3 + a4)) > 32)) (palisaderef01_Place.j2 a1 Q h) (palisaderef01_Place.j4 a1 a2 a3 a4 0 Q h)))))

def palisaderef02_Encode.j9  (a1 : Ptr) (a2 : Int) (Q : Int → Int → Heap → Prop) (h : Heap) : Prop :=
  rdI .i64 (a1.add 4) (fun x1 => palisaderef01_Place a2 x1 0 14 (fun r2 h => Q r2 0 h) h) h

def palisaderef02_Encode (a1 : Int) (a2 : Int) (a3 : Int) (a4 : Int) (a5 : Int) (Q : Int → Int → Heap → Prop) (h : Heap) : Prop :=
  al [.int .i64 a1, .int .i64 a2, .int .i64 a3, .int .i64 a4, .int .i64 a5] (fun b1 h => rdI .i64 ((⟨b1, 0⟩ : Ptr).add 0) (fun x2 => rdI .i64 ((⟨b1, 0⟩ : Ptr).add 1) (fun x3 => rdI .i64 ((⟨b1, 0⟩ : Ptr).add 2) (fun x4 => rdI .i64 ((⟨b1, 0⟩ : Ptr).add 3) (fun x5 => rdI .i64 ((⟨b1, 0⟩ : Ptr).add 4) (fun x6 => palisaderef02_Valid x2 x3 x4 x5 x6 (fun r7 h => br (!r7) (Q 0 10 h) (rdI .i64 ((⟨b1, 0⟩ : Ptr).add 0) (fun x8 => palisaderef01_Place 0 x8 26 6 (fun r9 h => rdI .i64 ((⟨b1, 0⟩ : Ptr).add 1) (fun x10 => palisaderef01_Place r9 x10 22 4 (fun r11 h => rdI .i64 ((⟨b1, 0⟩ : Ptr).add 0) (fun x12 => palisaderef02_Shape x12 (fun r13 h => br (r13 == 5) (rdI .i64 ((⟨b1, 0⟩ : Ptr).add 4) (fun x14 => palisaderef01_Place r11 x14 0 18 (fun r15 h => Q r15 0 h) h) h) (rdI .i64 ((⟨b1, 0⟩ : Ptr).add 2) (fun x16 => palisaderef01_Place r11 x16 18 4 (fun r17 h => rdI .i64 ((⟨b1, 0⟩ : Ptr).add 3) (fun x18 => palisaderef01_Place r17 x18 14 4 (fun r19 h => palisaderef02_Encode.j9 (⟨b1, 0⟩ : Ptr) r19 Q h) h) h) h) h)) h) h) h) h) h) h)) h) h) h) h) h) h) h

def csr_File_none (a1 : Option Ptr) (Q : Bool → Heap → Prop) (h : Heap) : Prop :=
  br a1.isNone (Q true h) (der a1 (fun p1 => rdB (p1.add 0) (fun x2 => Q (!x2) h) h))

def csr_known (a1 : Int) (Q : Bool → Heap → Prop) (h : Heap) : Prop :=
  br (decide (a1 ≥ 0)) (Q (decide (a1 < 12)) h) (Q false h)

def csr_File_Set (a1 : Option Ptr) (a2 : Int) (a3 : Int) (Q : Int → Heap → Prop) (h : Heap) : Prop :=
  csr_File_none a1 (fun r1 h => br r1 (Q 1 h) (csr_known a2 (fun r2 h => br (!r2) (Q 2 h) (der a1 (fun p3 => ix a2 12 (fun n4 => wr ((p3.add 1).add (n4 * 1)) (.int .u64 a3) (fun h => Q 0 h) h)))) h)) h

def palisaderef08_File_Set (a1 : Option Ptr) (a2 : Int) (a3 : Int) (Q : Int → Heap → Prop) (h : Heap) : Prop :=
  br (decide (a2 < 0)) (Q 2 h) (br (decide (a2 ≥ 12)) (Q 2 h) (der a1 (fun p1 => ix a2 12 (fun n2 => wr ((p1.add 0).add (n2 * 1)) (.int .u64 a3) (fun h => Q 0 h) h))))

def palisadelaw09_bus (a1 : Option Ptr) (a2 : Int) (Q : (Option Ptr) → Heap → Prop) (h : Heap) : Prop :=
  br (decide (a2 < 0)) (al [.ptr a1, .int .i64 0, .int .i64 a2, .int .i64 0, .ptr none, .sl ⟨none, 0, 0⟩, .bool false, .int .u64 0, .sl ⟨none, 0, 0⟩] (fun b1 h => Q (some (⟨b1, 0⟩ : Ptr)) h) h) (al [.ptr a1, .int .i64 1, .int .i64 a2, .int .i64 0, .ptr none, .sl ⟨none, 0, 0⟩, .bool false, .int .u64 0, .sl ⟨none, 0, 0⟩] (fun b2 h => Q (some (⟨b2, 0⟩ : Ptr)) h) h)

def palisadelaw09_both.j5 (U : Ifc)   (Q : (Option Ptr) → (Option Ptr) → (Option Ptr) → (Option Ptr) → Bool → Heap → Prop) (h : Heap) : Prop :=
  Q none none none none false h

def palisadelaw09_both.j8 (U : Ifc) (I7 : Ptr → (Option Ptr) → (Option Ptr) → (Option Ptr) → (Option Ptr) → Int → Heap → Prop) (a1 : Ptr) (a2 : Option Ptr) (a3 : Option Ptr) (a4 : Option Ptr) (a5 : Option Ptr) (a6 : Int) (Q : (Option Ptr) → (Option Ptr) → (Option Ptr) → (Option Ptr) → Bool → Heap → Prop) (h : Heap) : Prop :=
  I7 a1 a2 a3 a4 a5 (IntKind.i64.wrap (a6 + 1)) h

def palisadelaw09_both.j15 (U : Ifc) (I14 : Ptr → (Option Ptr) → (Option Ptr) → (Option Ptr) → (Option Ptr) → Sl → Int → Heap → Prop) (a1 : Ptr) (a2 : Option Ptr) (a3 : Option Ptr) (a4 : Option Ptr) (a5 : Option Ptr) (a6 : Sl) (a7 : Int) (Q : (Option Ptr) → (Option Ptr) → (Option Ptr) → (Option Ptr) → Bool → Heap → Prop) (h : Heap) : Prop :=
  I14 a1 a2 a3 a4 a5 a6 (IntKind.i64.wrap (a7 + 1)) h

def palisadelaw09_both.j20 (U : Ifc) (I19 : Ptr → (Option Ptr) → (Option Ptr) → (Option Ptr) → (Option Ptr) → Sl → Int → Heap → Prop) (a1 : Ptr) (a2 : Option Ptr) (a3 : Option Ptr) (a4 : Option Ptr) (a5 : Option Ptr) (a6 : Sl) (a7 : Int) (Q : (Option Ptr) → (Option Ptr) → (Option Ptr) → (Option Ptr) → Bool → Heap → Prop) (h : Heap) : Prop :=
  I19 a1 a2 a3 a4 a5 a6 (IntKind.i64.wrap (a7 + 1)) h

def palisadelaw09_both.b25 (U : Ifc)  (I25 : Ptr → (Option Ptr) → (Option Ptr) → (Option Ptr) → (Option Ptr) → Int → Heap → Prop) (a1 : Ptr) (a2 : Option Ptr) (a3 : Option Ptr) (a4 : Option Ptr) (a5 : Option Ptr) (a6 : Int) (Q : (Option Ptr) → (Option Ptr) → (Option Ptr) → (Option Ptr) → Bool → Heap → Prop) (h : Heap) : Prop :=
  br (decide (a6 < 12)) (ix a6 12 (fun n1 => rdI .u64 ((a1.add 18).add (n1 * 1)) (fun x2 => csr_File_Set a4 a6 x2 (fun r3 h => ix a6 12 (fun n4 => rdI .u64 ((a1.add 18).add (n4 * 1)) (fun x5 => palisaderef08_File_Set a5 a6 x5 (fun r6 h => I25 a1 a2 a3 a4 a5 (IntKind.i64.wrap (a6 + 1)) h) h) h)) h) h)) (rdI .i64 (a1.add 33) (fun x7 => rdI .i64 (a1.add 33) (fun x8 => (ck (a1.add 33) [.int .i64 x8] 0 h ∧ ((al [.ptr a2, .int .i64 x7, .bool false, .int .u64 0] (fun b9 h => ck (a1.add 33) [.int .i64 x8] 0 h ∧ (palisadelaw09_bus a3 x8 (fun r10 h => Q a4 a5 (some (⟨b9, 0⟩ : Ptr)) r10 true h) h)) h) ∧ (palisadelaw09_bus a3 x8 (fun r11 h => al [.ptr a2, .int .i64 x7, .bool false, .int .u64 0] (fun b12 h => Q a4 a5 (some (⟨b12, 0⟩ : Ptr)) r11 true h) h) h))) ∧ (palisadelaw09_bus a3 x8 (fun r13 h => ck (a1.add 33) [.int .i64 x7] 0 h ∧ (al [.ptr a2, .int .i64 x7, .bool false, .int .u64 0] (fun b14 h => Q a4 a5 (some (⟨b14, 0⟩ : Ptr)) r13 true h) h)) h)) h) h)

def palisadelaw09_both.j25 (U : Ifc)  (a1 : Ptr) (a2 : Option Ptr) (a3 : Option Ptr) (a4 : Option Ptr) (a5 : Option Ptr) (a6 : Int) (Q : (Option Ptr) → (Option Ptr) → (Option Ptr) → (Option Ptr) → Bool → Heap → Prop) (h : Heap) : Prop :=
  ∀ I : Ptr → (Option Ptr) → (Option Ptr) → (Option Ptr) → (Option Ptr) → Int → Heap → Prop, (∀ a1 a2 a3 a4 a5 a6 h, palisadelaw09_both.b25 U  I a1 a2 a3 a4 a5 a6 Q h → I a1 a2 a3 a4 a5 a6 h) → I a1 a2 a3 a4 a5 a6 h

def palisadelaw09_both.b19 (U : Ifc)  (I19 : Ptr → (Option Ptr) → (Option Ptr) → (Option Ptr) → (Option Ptr) → Sl → Int → Heap → Prop) (a1 : Ptr) (a2 : Option Ptr) (a3 : Option Ptr) (a4 : Option Ptr) (a5 : Option Ptr) (a6 : Sl) (a7 : Int) (Q : (Option Ptr) → (Option Ptr) → (Option Ptr) → (Option Ptr) → Bool → Heap → Prop) (h : Heap) : Prop :=
  br (decide (a7 < ((a6.len : Nat) : Int))) (rdI .u64 ((a1.add 0).add 16) (fun x1 => nz 3072 (nz 4 (ix a7 a6.len (fun n2 => der a6.p (fun p3 => rdI .u32 (p3.add (n2 * 1)) (fun x4 => mem_Memory_Store U a2 (IntKind.u64.wrap ((IntKind.u64.wrap ((IntKind.u64.wrap ((x1.tmod 3072).tdiv 4)) * 4)) + (IntKind.u64.wrap (4 * (IntKind.u64.wrap a7))))) 4 (IntKind.u64.wrap x4) (fun r5 h => ix a7 a6.len (fun n6 => der a6.p (fun p7 => rdI .u32 (p7.add (n6 * 1)) (fun x8 => palisaderef04_Memory_Store a3 (IntKind.u64.wrap ((IntKind.u64.wrap ((IntKind.u64.wrap ((x1.tmod 3072).tdiv 4)) * 4)) + (IntKind.u64.wrap (4 * (IntKind.u64.wrap a7))))) 4 (IntKind.u64.wrap x8) (fun r9 h => palisadelaw09_both.j20 U I19 a1 a2 a3 a4 a5 a6 a7 Q h) h) h))) h) h))))) h) (palisadelaw09_both.j25 U a1 a2 a3 a4 a5 0 Q h)

def palisadelaw09_both.j19 (U : Ifc)  (a1 : Ptr) (a2 : Option Ptr) (a3 : Option Ptr) (a4 : Option Ptr) (a5 : Option Ptr) (a6 : Sl) (a7 : Int) (Q : (Option Ptr) → (Option Ptr) → (Option Ptr) → (Option Ptr) → Bool → Heap → Prop) (h : Heap) : Prop :=
  ∀ I : Ptr → (Option Ptr) → (Option Ptr) → (Option Ptr) → (Option Ptr) → Sl → Int → Heap → Prop, (∀ a1 a2 a3 a4 a5 a6 a7 h, palisadelaw09_both.b19 U  I a1 a2 a3 a4 a5 a6 a7 Q h → I a1 a2 a3 a4 a5 a6 a7 h) → I a1 a2 a3 a4 a5 a6 a7 h

def palisadelaw09_both.b14 (U : Ifc)  (I14 : Ptr → (Option Ptr) → (Option Ptr) → (Option Ptr) → (Option Ptr) → Sl → Int → Heap → Prop) (a1 : Ptr) (a2 : Option Ptr) (a3 : Option Ptr) (a4 : Option Ptr) (a5 : Option Ptr) (a6 : Sl) (a7 : Int) (Q : (Option Ptr) → (Option Ptr) → (Option Ptr) → (Option Ptr) → Bool → Heap → Prop) (h : Heap) : Prop :=
  rdSl (a1.add 30) (fun x1 => br (decide (a7 < ((x1.len : Nat) : Int))) (rdSl (a1.add 30) (fun x2 => ix a7 x2.len (fun n3 => der x2.p (fun p4 => rdI .i64 ((p4.add (n3 * 5)).add 0) (fun x5 => rdI .i64 ((p4.add (n3 * 5)).add 1) (fun x6 => rdI .i64 ((p4.add (n3 * 5)).add 2) (fun x7 => rdI .i64 ((p4.add (n3 * 5)).add 3) (fun x8 => rdI .i64 ((p4.add (n3 * 5)).add 4) (fun x9 => palisaderef02_Encode x5 x6 x7 x8 x9 (fun r10 r11 h => sb ((a6.len : Nat) : Int) a6.cap (fun n12 => sb ((a6.len : Nat) : Int) n12 (fun n13 => al [.int .u32 r10] (fun b14 h => rdN (1 * 1) (⟨b14, 0⟩ : Ptr) (fun cs16 => appS 1 4 [.int .u32 0] ⟨slp a6.p (0 * 1) 0 n12, n13 - 0, n12 - 0⟩ cs16 1 (fun s15 h => palisadelaw09_both.j15 U I14 a1 a2 a3 a4 a5 s15 a7 Q h) h) h) h))) h) h) h) h) h) h))) h) (palisadelaw09_both.j19 U a1 a2 a3 a4 a5 a6 0 Q h)) h

def palisadelaw09_both.j14 (U : Ifc)  (a1 : Ptr) (a2 : Option Ptr) (a3 : Option Ptr) (a4 : Option Ptr) (a5 : Option Ptr) (a6 : Sl) (a7 : Int) (Q : (Option Ptr) → (Option Ptr) → (Option Ptr) → (Option Ptr) → Bool → Heap → Prop) (h : Heap) : Prop :=
  ∀ I : Ptr → (Option Ptr) → (Option Ptr) → (Option Ptr) → (Option Ptr) → Sl → Int → Heap → Prop, (∀ a1 a2 a3 a4 a5 a6 a7 h, palisadelaw09_both.b14 U  I a1 a2 a3 a4 a5 a6 a7 Q h → I a1 a2 a3 a4 a5 a6 a7 h) → I a1 a2 a3 a4 a5 a6 a7 h

def palisadelaw09_both.b7 (U : Ifc)  (I7 : Ptr → (Option Ptr) → (Option Ptr) → (Option Ptr) → (Option Ptr) → Int → Heap → Prop) (a1 : Ptr) (a2 : Option Ptr) (a3 : Option Ptr) (a4 : Option Ptr) (a5 : Option Ptr) (a6 : Int) (Q : (Option Ptr) → (Option Ptr) → (Option Ptr) → (Option Ptr) → Bool → Heap → Prop) (h : Heap) : Prop :=
  rdSl (a1.add 32) (fun x1 => br (decide (a6 < ((x1.len : Nat) : Int))) (rdSl (a1.add 32) (fun x2 => ix a6 x2.len (fun n3 => der x2.p (fun p4 => rdI .u64 ((p4.add (n3 * 2)).add 0) (fun x5 => nz 3072 (nz 8 (rdSl (a1.add 32) (fun x6 => ix a6 x6.len (fun n7 => der x6.p (fun p8 => rdI .u64 ((p8.add (n7 * 2)).add 1) (fun x9 => mem_Memory_Store U a2 (IntKind.u64.wrap ((IntKind.u64.wrap ((x5.tmod 3072).tdiv 8)) * 8)) 8 x9 (fun r10 h => rdSl (a1.add 32) (fun x11 => ix a6 x11.len (fun n12 => der x11.p (fun p13 => rdI .u64 ((p13.add (n12 * 2)).add 1) (fun x14 => palisaderef04_Memory_Store a3 (IntKind.u64.wrap ((IntKind.u64.wrap ((x5.tmod 3072).tdiv 8)) * 8)) 8 x14 (fun r15 h => palisadelaw09_both.j8 U I7 a1 a2 a3 a4 a5 a6 Q h) h) h))) h) h) h))) h))) h))) h) (rdSl (a1.add 31) (fun x16 => palisadelaw09_both.j14 U a1 a2 a3 a4 a5 x16 0 Q h) h)) h

def palisadelaw09_both.j7 (U : Ifc)  (a1 : Ptr) (a2 : Option Ptr) (a3 : Option Ptr) (a4 : Option Ptr) (a5 : Option Ptr) (a6 : Int) (Q : (Option Ptr) → (Option Ptr) → (Option Ptr) → (Option Ptr) → Bool → Heap → Prop) (h : Heap) : Prop :=
  ∀ I : Ptr → (Option Ptr) → (Option Ptr) → (Option Ptr) → (Option Ptr) → Int → Heap → Prop, (∀ a1 a2 a3 a4 a5 a6 h, palisadelaw09_both.b7 U  I a1 a2 a3 a4 a5 a6 Q h → I a1 a2 a3 a4 a5 a6 h) → I a1 a2 a3 a4 a5 a6 h

def palisadelaw09_both.j6 (U : Ifc)  (a1 : Ptr) (a2 : Option Ptr) (a3 : Option Ptr) (a4 : Option Ptr) (a5 : Option Ptr) (Q : (Option Ptr) → (Option Ptr) → (Option Ptr) → (Option Ptr) → Bool → Heap → Prop) (h : Heap) : Prop :=
  palisadelaw09_both.j7 U a1 a2 a3 a4 a5 0 Q h

def palisadelaw09_both (U : Ifc) (a1 : List V) (Q : (Option Ptr) → (Option Ptr) → (Option Ptr) → (Option Ptr) → Bool → Heap → Prop) (h : Heap) : Prop :=
  a1.length = 34 ∧ al a1 (fun b1 h => mem_New 12 (fun r2 r3 h => palisaderef04_New 12 (fun r4 r5 h => csr_New 0 (fun r6 h => palisaderef08_New 0 (fun r7 h => br (r3 != 0) (palisadelaw09_both.j5 U Q h) (br r2.isNone (palisadelaw09_both.j5 U Q h) (br r6.isNone (palisadelaw09_both.j5 U Q h) (palisadelaw09_both.j6 U (⟨b1, 0⟩ : Ptr) r2 r4 r6 r7 Q h)))) h) h) h) h) h

def csr_File_Clone (a1 : Option Ptr) (Q : (Option Ptr) → Heap → Prop) (h : Heap) : Prop :=
  csr_File_none a1 (fun r1 h => br r1 (Q none h) (der a1 (fun p2 => rdB (p2.add 0) (fun x3 => rdI .u64 (p2.add 1) (fun x4 => rdI .u64 (p2.add 2) (fun x5 => rdI .u64 (p2.add 3) (fun x6 => rdI .u64 (p2.add 4) (fun x7 => rdI .u64 (p2.add 5) (fun x8 => rdI .u64 (p2.add 6) (fun x9 => rdI .u64 (p2.add 7) (fun x10 => rdI .u64 (p2.add 8) (fun x11 => rdI .u64 (p2.add 9) (fun x12 => rdI .u64 (p2.add 10) (fun x13 => rdI .u64 (p2.add 11) (fun x14 => rdI .u64 (p2.add 12) (fun x15 => al z_palisade_csr_File (fun b16 h => wrL [.bool x3, .int .u64 x4, .int .u64 x5, .int .u64 x6, .int .u64 x7, .int .u64 x8, .int .u64 x9, .int .u64 x10, .int .u64 x11, .int .u64 x12, .int .u64 x13, .int .u64 x14, .int .u64 x15] (⟨b16, 0⟩ : Ptr) 0 (fun h => Q (some (⟨b16, 0⟩ : Ptr)) h) h) h) h) h) h) h) h) h) h) h) h) h) h) h) h))) h

def hart_Step.j2  (a1 : Ptr) (Q : Int → Int → Int → Int → Bool → Bool → Int → Heap → Prop) (h : Heap) : Prop :=
  wrL [.int .i64 0, .int .i64 0, .int .u64 0, .int .u64 0, .bool false, .bool false] a1 0 (fun h => rdI .i64 (a1.add 0) (fun x1 => rdI .i64 (a1.add 1) (fun x2 => rdI .u64 (a1.add 2) (fun x3 => rdI .u64 (a1.add 3) (fun x4 => rdB (a1.add 4) (fun x5 => rdB (a1.add 5) (fun x6 => Q x1 x2 x3 x4 x5 x6 1 h) h) h) h) h) h) h) h

def hart_Step (a1 : Option Ptr) (a2 : Option Ptr) (a3 : V) (Q : Int → Int → Int → Int → Bool → Bool → Int → Heap → Prop) (h : Heap) : Prop :=
  al [.int .i64 0, .int .i64 0, .int .u64 0, .int .u64 0, .bool false, .bool false] (fun b1 h => br a1.isNone (hart_Step.j2 (⟨b1, 0⟩ : Ptr) Q h) (isNil a3 (fun c2 => br c2 (hart_Step.j2 (⟨b1, 0⟩ : Ptr) Q h) (csr_File_Clone a2 (fun r3 h => br r3.isNone (hart_Step.j2 (⟨b1, 0⟩ : Ptr) Q h) (der a1 (fun p4 => ix 0 16 (fun n5 => wr ((p4.add 0).add (n5 * 1)) (.int .u64 0) (fun h => chk (V.one a3) (al [.ptr a1, .ptr a2, a3, .int .u32 0, .int .i64 0, .int .i64 0, .int .i64 0, .int .i64 0, .int .i64 0, .int .u64 0, .int .i64 0, .int .i64 0, .int .u64 0, .int .u64 0, .bool false, .bool false] (fun b6 h => False) h)) h)))) h)))) h

def palisadelaw09_HartNobody.j9 (U : Ifc)  (a1 : Ptr) (a2 : Ptr) (a3 : Ptr) (a4 : Int) (a5 : Ptr) (a6 : Int) (a7 : Ptr) (a8 : Int) (a9 : Ptr) (a10 : Int) (Q : Bool → Heap → Prop) (h : Heap) : Prop :=
  al [.int .i64 0, .int .i64 0, .int .u64 0, .int .u64 0, .bool false, .bool false] (fun b1 h => wrL [.int .i64 0, .int .i64 0, .int .u64 0, .int .u64 0, .bool false, .bool false] (⟨b1, 0⟩ : Ptr) 0 (fun h => rdI .i64 (a3.add 0) (fun x2 => rdI .i64 (a3.add 1) (fun x3 => rdI .u64 (a3.add 2) (fun x4 => rdI .u64 (a3.add 3) (fun x5 => rdB (a3.add 4) (fun x6 => rdB (a3.add 5) (fun x7 => rdI .i64 ((⟨b1, 0⟩ : Ptr).add 0) (fun x8 => rdI .i64 ((⟨b1, 0⟩ : Ptr).add 1) (fun x9 => rdI .u64 ((⟨b1, 0⟩ : Ptr).add 2) (fun x10 => rdI .u64 ((⟨b1, 0⟩ : Ptr).add 3) (fun x11 => rdB ((⟨b1, 0⟩ : Ptr).add 4) (fun x12 => rdB ((⟨b1, 0⟩ : Ptr).add 5) (fun x13 => br (eqL [x2 == x8, eqL [x3 == x9, x4 == x10, x5 == x11], x6 == x12, x7 == x13]) (br (a4 == 1) (rdI .i64 (a5.add 0) (fun x14 => rdI .i64 (a5.add 1) (fun x15 => rdI .u64 (a5.add 2) (fun x16 => rdI .u64 (a5.add 3) (fun x17 => rdB (a5.add 4) (fun x18 => rdB (a5.add 5) (fun x19 => rdI .i64 ((⟨b1, 0⟩ : Ptr).add 0) (fun x20 => rdI .i64 ((⟨b1, 0⟩ : Ptr).add 1) (fun x21 => rdI .u64 ((⟨b1, 0⟩ : Ptr).add 2) (fun x22 => rdI .u64 ((⟨b1, 0⟩ : Ptr).add 3) (fun x23 => rdB ((⟨b1, 0⟩ : Ptr).add 4) (fun x24 => rdB ((⟨b1, 0⟩ : Ptr).add 5) (fun x25 => br (eqL [x14 == x20, eqL [x15 == x21, x16 == x22, x17 == x23], x18 == x24, x19 == x25]) (br (a6 == 1) (rdI .i64 (a7.add 0) (fun x26 => rdI .i64 (a7.add 1) (fun x27 => rdI .u64 (a7.add 2) (fun x28 => rdI .u64 (a7.add 3) (fun x29 => rdB (a7.add 4) (fun x30 => rdB (a7.add 5) (fun x31 => rdI .i64 ((⟨b1, 0⟩ : Ptr).add 0) (fun x32 => rdI .i64 ((⟨b1, 0⟩ : Ptr).add 1) (fun x33 => rdI .u64 ((⟨b1, 0⟩ : Ptr).add 2) (fun x34 => rdI .u64 ((⟨b1, 0⟩ : Ptr).add 3) (fun x35 => rdB ((⟨b1, 0⟩ : Ptr).add 4) (fun x36 => rdB ((⟨b1, 0⟩ : Ptr).add 5) (fun x37 => br (eqL [x26 == x32, eqL [x27 == x33, x28 == x34, x29 == x35], x30 == x36, x31 == x37]) (br (a8 == 1) (rdI .i64 (a9.add 0) (fun x38 => rdI .i64 (a9.add 1) (fun x39 => rdI .u64 (a9.add 2) (fun x40 => rdI .u64 (a9.add 3) (fun x41 => rdB (a9.add 4) (fun x42 => rdB (a9.add 5) (fun x43 => rdI .i64 ((⟨b1, 0⟩ : Ptr).add 0) (fun x44 => rdI .i64 ((⟨b1, 0⟩ : Ptr).add 1) (fun x45 => rdI .u64 ((⟨b1, 0⟩ : Ptr).add 2) (fun x46 => rdI .u64 ((⟨b1, 0⟩ : Ptr).add 3) (fun x47 => rdB ((⟨b1, 0⟩ : Ptr).add 4) (fun x48 => rdB ((⟨b1, 0⟩ : Ptr).add 5) (fun x49 => br (eqL [x38 == x44, eqL [x39 == x45, x40 == x46, x41 == x47], x42 == x48, x43 == x49]) (br (a10 == 1) (rdN 18 a2 (fun cs50 => rdN 18 (a1.add 0) (fun cs51 => eqAgo [.int .u64, .int .u64, .int .u64, .int .u64, .int .u64, .int .u64, .int .u64, .int .u64, .int .u64, .int .u64, .int .u64, .int .u64, .int .u64, .int .u64, .int .u64, .int .u64, .int .u64, .int .i64] cs50 cs51 (fun c52 => Q c52 h)) h) h) (Q false h)) (Q false h)) h) h) h) h) h) h) h) h) h) h) h) h) (Q false h)) (Q false h)) h) h) h) h) h) h) h) h) h) h) h) h) (Q false h)) (Q false h)) h) h) h) h) h) h) h) h) h) h) h) h) (Q false h)) (Q false h)) h) h) h) h) h) h) h) h) h) h) h) h) h) h

def palisadelaw09_HartNobody.j6 (U : Ifc)  (a1 : Ptr) (a2 : Option Ptr) (a3 : Option Ptr) (a4 : Ptr) (a5 : Ptr) (a6 : Int) (Q : Bool → Heap → Prop) (h : Heap) : Prop :=
  hart_Step (some a4) none (.iface 3 (.ptr a3)) (fun r1 r2 r3 r4 r5 r6 r7 h => al [.int .i64 0, .int .i64 0, .int .u64 0, .int .u64 0, .bool false, .bool false] (fun b8 h => wrL [.int .i64 r1, .int .i64 r2, .int .u64 r3, .int .u64 r4, .bool r5, .bool r6] (⟨b8, 0⟩ : Ptr) 0 (fun h => al [.bool false, .int .u64 0, .int .u64 0, .int .u64 0, .int .u64 0, .int .u64 0, .int .u64 0, .int .u64 0, .int .u64 0, .int .u64 0, .int .u64 0, .int .u64 0, .int .u64 0] (fun b9 h => hart_Step (some a4) (some (⟨b9, 0⟩ : Ptr)) (.iface 3 (.ptr a3)) (fun r10 r11 r12 r13 r14 r15 r16 h => al [.int .i64 0, .int .i64 0, .int .u64 0, .int .u64 0, .bool false, .bool false] (fun b17 h => wrL [.int .i64 r10, .int .i64 r11, .int .u64 r12, .int .u64 r13, .bool r14, .bool r15] (⟨b17, 0⟩ : Ptr) 0 (fun h => hart_Step (some a4) a2 .nilif (fun r18 r19 r20 r21 r22 r23 r24 h => al [.int .i64 0, .int .i64 0, .int .u64 0, .int .u64 0, .bool false, .bool false] (fun b25 h => wrL [.int .i64 r18, .int .i64 r19, .int .u64 r20, .int .u64 r21, .bool r22, .bool r23] (⟨b25, 0⟩ : Ptr) 0 (fun h => palisadelaw09_HartNobody.j9 U a1 a4 a5 a6 (⟨b8, 0⟩ : Ptr) r7 (⟨b17, 0⟩ : Ptr) r16 (⟨b25, 0⟩ : Ptr) r24 Q h) h) h) h) h) h) h) h) h) h) h

def palisadelaw09_HartNobody (U : Ifc) (a1 : List V) (Q : Bool → Heap → Prop) (h : Heap) : Prop :=
  a1.length = 34 ∧ al a1 (fun b1 h => rdN 34 (⟨b1, 0⟩ : Ptr) (fun cs2 => palisadelaw09_both U cs2 (fun r3 r4 r5 r6 r7 h => br (!r7) (Q false h) (rdN 18 ((⟨b1, 0⟩ : Ptr).add 0) (fun cs8 => al z_palisade_api_Regs (fun b9 h => cs8.length = 18 ∧ wrL cs8 (⟨b9, 0⟩ : Ptr) 0 (fun h => hart_Step none r3 (.iface 3 (.ptr r5)) (fun r10 r11 r12 r13 r14 r15 r16 h => al [.int .i64 0, .int .i64 0, .int .u64 0, .int .u64 0, .bool false, .bool false] (fun b17 h => wrL [.int .i64 r10, .int .i64 r11, .int .u64 r12, .int .u64 r13, .bool r14, .bool r15] (⟨b17, 0⟩ : Ptr) 0 (fun h => palisadelaw09_HartNobody.j6 U (⟨b1, 0⟩ : Ptr) r3 r5 (⟨b9, 0⟩ : Ptr) (⟨b17, 0⟩ : Ptr) r16 Q h) h) h) h) h) h) h)) h) h) h

def hart_acts.b19  (I19 : (Option Nat) → Int → Heap → Prop) (a1 : Option Nat) (a2 : Int) (Q : (Option Nat) → Heap → Prop) (h : Heap) : Prop :=
  br (decide (a2 ≤ 48)) (mapPut (.int .i64) a1 (.int .i64 a2) (.fn 161 []) (fun h => I19 a1 (IntKind.i64.wrap (a2 + 1)) h) h) (Q a1 h)

def hart_acts.j19  (a1 : Option Nat) (a2 : Int) (Q : (Option Nat) → Heap → Prop) (h : Heap) : Prop :=
  ∀ I : (Option Nat) → Int → Heap → Prop, (∀ a1 a2 h, hart_acts.b19  I a1 a2 Q h → I a1 a2 h) → I a1 a2 h

def hart_acts.b15  (I15 : (Option Nat) → Int → Heap → Prop) (a1 : Option Nat) (a2 : Int) (Q : (Option Nat) → Heap → Prop) (h : Heap) : Prop :=
  br (decide (a2 ≤ 34)) (mapPut (.int .i64) a1 (.int .i64 a2) (.fn 160 []) (fun h => I15 a1 (IntKind.i64.wrap (a2 + 1)) h) h) (hart_acts.j19 a1 46 Q h)

def hart_acts.j15  (a1 : Option Nat) (a2 : Int) (Q : (Option Nat) → Heap → Prop) (h : Heap) : Prop :=
  ∀ I : (Option Nat) → Int → Heap → Prop, (∀ a1 a2 h, hart_acts.b15  I a1 a2 Q h → I a1 a2 h) → I a1 a2 h

def hart_acts.b11  (I11 : (Option Nat) → Int → Heap → Prop) (a1 : Option Nat) (a2 : Int) (Q : (Option Nat) → Heap → Prop) (h : Heap) : Prop :=
  br (decide (a2 ≤ 28)) (mapPut (.int .i64) a1 (.int .i64 a2) (.fn 159 []) (fun h => I11 a1 (IntKind.i64.wrap (a2 + 1)) h) h) (hart_acts.j15 a1 29 Q h)

def hart_acts.j11  (a1 : Option Nat) (a2 : Int) (Q : (Option Nat) → Heap → Prop) (h : Heap) : Prop :=
  ∀ I : (Option Nat) → Int → Heap → Prop, (∀ a1 a2 h, hart_acts.b11  I a1 a2 Q h → I a1 a2 h) → I a1 a2 h

def hart_acts.b7  (I7 : (Option Nat) → Int → Heap → Prop) (a1 : Option Nat) (a2 : Int) (Q : (Option Nat) → Heap → Prop) (h : Heap) : Prop :=
  br (decide (a2 ≤ 25)) (mapPut (.int .i64) a1 (.int .i64 a2) (.fn 158 []) (fun h => I7 a1 (IntKind.i64.wrap (a2 + 1)) h) h) (hart_acts.j11 a1 26 Q h)

def hart_acts.j7  (a1 : Option Nat) (a2 : Int) (Q : (Option Nat) → Heap → Prop) (h : Heap) : Prop :=
  ∀ I : (Option Nat) → Int → Heap → Prop, (∀ a1 a2 h, hart_acts.b7  I a1 a2 Q h → I a1 a2 h) → I a1 a2 h

def hart_acts.b3  (I3 : (Option Nat) → Int → Heap → Prop) (a1 : Option Nat) (a2 : Int) (Q : (Option Nat) → Heap → Prop) (h : Heap) : Prop :=
  br (decide (a2 ≤ 21)) (mapPut (.int .i64) a1 (.int .i64 a2) (.fn 157 []) (fun h => I3 a1 (IntKind.i64.wrap (a2 + 1)) h) h) (hart_acts.j7 a1 23 Q h)

def hart_acts.j3  (a1 : Option Nat) (a2 : Int) (Q : (Option Nat) → Heap → Prop) (h : Heap) : Prop :=
  ∀ I : (Option Nat) → Int → Heap → Prop, (∀ a1 a2 h, hart_acts.b3  I a1 a2 Q h → I a1 a2 h) → I a1 a2 h

def hart_acts  (Q : (Option Nat) → Heap → Prop) (h : Heap) : Prop :=
  alM (.int .i64) (fun b1 h => mapPut (.int .i64) (some b1) (.int .i64 22) (.fn 146 []) (fun h => mapPut (.int .i64) (some b1) (.int .i64 35) (.fn 147 []) (fun h => mapPut (.int .i64) (some b1) (.int .i64 36) (.fn 148 []) (fun h => mapPut (.int .i64) (some b1) (.int .i64 37) (.fn 149 []) (fun h => mapPut (.int .i64) (some b1) (.int .i64 38) (.fn 150 []) (fun h => mapPut (.int .i64) (some b1) (.int .i64 39) (.fn 151 []) (fun h => mapPut (.int .i64) (some b1) (.int .i64 40) (.fn 151 []) (fun h => mapPut (.int .i64) (some b1) (.int .i64 41) (.fn 152 []) (fun h => mapPut (.int .i64) (some b1) (.int .i64 42) (.fn 153 []) (fun h => mapPut (.int .i64) (some b1) (.int .i64 43) (.fn 154 []) (fun h => mapPut (.int .i64) (some b1) (.int .i64 44) (.fn 155 []) (fun h => mapPut (.int .i64) (some b1) (.int .i64 45) (.fn 156 []) (fun h => hart_acts.j3 (some b1) 1 Q h) h) h) h) h) h) h) h) h) h) h) h) h) h

def hart_trap (a1 : Int) (a2 : Int) (Q : Int → Int → Int → Bool → Int → Heap → Prop) (h : Heap) : Prop :=
  al [.int .i64 0, .int .u64 0, .int .u64 0, .bool false, .int .i64 0] (fun b1 h => wrL [.int .i64 a1, .int .u64 a2, .int .u64 0, .bool true, .int .i64 1] (⟨b1, 0⟩ : Ptr) 0 (fun h => rdI .i64 ((⟨b1, 0⟩ : Ptr).add 0) (fun x2 => rdI .u64 ((⟨b1, 0⟩ : Ptr).add 1) (fun x3 => rdI .u64 ((⟨b1, 0⟩ : Ptr).add 2) (fun x4 => rdB ((⟨b1, 0⟩ : Ptr).add 3) (fun x5 => rdI .i64 ((⟨b1, 0⟩ : Ptr).add 4) (fun x6 => Q x2 x3 x4 x5 x6 h) h) h) h) h) h) h) h

def hart_of (a1 : Int) (a2 : Int) (a3 : Int) (Q : Int → Int → Int → Bool → Int → Heap → Prop) (h : Heap) : Prop :=
  al [.int .i64 a1, .int .u64 a2, .int .u64 a3] (fun b1 h => al [.int .i64 0, .int .u64 0, .int .u64 0, .bool false, .int .i64 0] (fun b2 h => rdI .i64 ((⟨b1, 0⟩ : Ptr).add 0) (fun x3 => rdI .u64 ((⟨b1, 0⟩ : Ptr).add 1) (fun x4 => rdI .u64 ((⟨b1, 0⟩ : Ptr).add 2) (fun x5 => br (eqL [x3 == 0, x4 == 0, x5 == 0]) (wrL [.int .i64 0, .int .u64 0, .int .u64 0, .bool false, .int .i64 0] (⟨b2, 0⟩ : Ptr) 0 (fun h => rdI .i64 ((⟨b2, 0⟩ : Ptr).add 0) (fun x6 => rdI .u64 ((⟨b2, 0⟩ : Ptr).add 1) (fun x7 => rdI .u64 ((⟨b2, 0⟩ : Ptr).add 2) (fun x8 => rdB ((⟨b2, 0⟩ : Ptr).add 3) (fun x9 => rdI .i64 ((⟨b2, 0⟩ : Ptr).add 4) (fun x10 => Q x6 x7 x8 x9 x10 h) h) h) h) h) h) h) (rdI .i64 ((⟨b1, 0⟩ : Ptr).add 0) (fun x11 => br (decide (x11 ≥ 20)) (rdI .i64 ((⟨b1, 0⟩ : Ptr).add 0) (fun x12 => br (decide (x12 ≤ 23)) (rdI .i64 ((⟨b1, 0⟩ : Ptr).add 0) (fun x13 => rdI .u64 ((⟨b1, 0⟩ : Ptr).add 1) (fun x14 => rdI .u64 ((⟨b1, 0⟩ : Ptr).add 2) (fun x15 => wrL [.int .i64 x13, .int .u64 x14, .int .u64 x15, .bool true, .int .i64 3] (⟨b2, 0⟩ : Ptr) 0 (fun h => rdI .i64 ((⟨b2, 0⟩ : Ptr).add 0) (fun x16 => rdI .u64 ((⟨b2, 0⟩ : Ptr).add 1) (fun x17 => rdI .u64 ((⟨b2, 0⟩ : Ptr).add 2) (fun x18 => rdB ((⟨b2, 0⟩ : Ptr).add 3) (fun x19 => rdI .i64 ((⟨b2, 0⟩ : Ptr).add 4) (fun x20 => Q x16 x17 x18 x19 x20 h) h) h) h) h) h) h) h) h) h) (rdI .i64 ((⟨b1, 0⟩ : Ptr).add 0) (fun x21 => rdI .u64 ((⟨b1, 0⟩ : Ptr).add 1) (fun x22 => rdI .u64 ((⟨b1, 0⟩ : Ptr).add 2) (fun x23 => wrL [.int .i64 x21, .int .u64 x22, .int .u64 x23, .bool true, .int .i64 1] (⟨b2, 0⟩ : Ptr) 0 (fun h => rdI .i64 ((⟨b2, 0⟩ : Ptr).add 0) (fun x24 => rdI .u64 ((⟨b2, 0⟩ : Ptr).add 1) (fun x25 => rdI .u64 ((⟨b2, 0⟩ : Ptr).add 2) (fun x26 => rdB ((⟨b2, 0⟩ : Ptr).add 3) (fun x27 => rdI .i64 ((⟨b2, 0⟩ : Ptr).add 4) (fun x28 => Q x24 x25 x26 x27 x28 h) h) h) h) h) h) h) h) h) h)) h) (rdI .i64 ((⟨b1, 0⟩ : Ptr).add 0) (fun x29 => rdI .u64 ((⟨b1, 0⟩ : Ptr).add 1) (fun x30 => rdI .u64 ((⟨b1, 0⟩ : Ptr).add 2) (fun x31 => wrL [.int .i64 x29, .int .u64 x30, .int .u64 x31, .bool true, .int .i64 1] (⟨b2, 0⟩ : Ptr) 0 (fun h => rdI .i64 ((⟨b2, 0⟩ : Ptr).add 0) (fun x32 => rdI .u64 ((⟨b2, 0⟩ : Ptr).add 1) (fun x33 => rdI .u64 ((⟨b2, 0⟩ : Ptr).add 2) (fun x34 => rdB ((⟨b2, 0⟩ : Ptr).add 3) (fun x35 => rdI .i64 ((⟨b2, 0⟩ : Ptr).add 4) (fun x36 => Q x32 x33 x34 x35 x36 h) h) h) h) h) h) h) h) h) h)) h)) h) h) h) h) h

def word_within_int (a1 : Int) (a2 : Int) (a3 : Int) (Q : Bool → Heap → Prop) (h : Heap) : Prop :=
  br (decide (a1 ≥ a2)) (Q (decide (a1 ≤ a3)) h) (Q false h)

def word_lies (a1 : Int) (a2 : Int) (Q : Bool → Heap → Prop) (h : Heap) : Prop :=
  word_within_int a1 0 31 (fun r1 h => br r1 (word_within_int a2 1 32 (fun r2 h => br r2 (Q (decide ((IntKind.i64.wrap (a1 + a2)) ≤ 32)) h) (Q false h)) h) (Q false h)) h

def word_mask (a1 : Int) (Q : Int → Heap → Prop) (h : Heap) : Prop :=
  nneg a1 (Q (IntKind.u64.wrap ((shlI .u64 1 a1) - 1)) h)

def word_Field (a1 : Int) (a2 : Int) (a3 : Int) (Q : Int → Heap → Prop) (h : Heap) : Prop :=
  word_lies a2 a3 (fun r1 h => br (!r1) (Q 0 h) (nneg a2 (word_mask a3 (fun r2 h => Q (IntKind.i64.wrap (ibits .and .u64 (shrI .u64 (IntKind.u64.wrap a1) a2) r2)) h) h))) h

def insn_table_int_int_fill.b1  (I1 : (Option Nat) → Int → Sl → Int → Int → Heap → Prop) (a1 : Option Nat) (a2 : Int) (a3 : Sl) (a4 : Int) (a5 : Int) (Q : Heap → Prop) (h : Heap) : Prop :=
  br (decide (a5 < a4)) (ix a5 a3.len (fun n1 => der a3.p (fun p2 => rdI .i64 (p2.add (n1 * 1)) (fun x3 => mapPut (.int .i64) a1 (.int .i64 x3) (.int .i64 a2) (fun h => I1 a1 a2 a3 a4 (IntKind.i64.wrap (a5 + 1)) h) h) h))) (Q h)

def insn_table_int_int_fill.j1  (a1 : Option Nat) (a2 : Int) (a3 : Sl) (a4 : Int) (a5 : Int) (Q : Heap → Prop) (h : Heap) : Prop :=
  ∀ I : (Option Nat) → Int → Sl → Int → Int → Heap → Prop, (∀ a1 a2 a3 a4 a5 h, insn_table_int_int_fill.b1  I a1 a2 a3 a4 a5 Q h → I a1 a2 a3 a4 a5 h) → I a1 a2 a3 a4 a5 h

def insn_table_int_int_fill (a1 : Option Nat) (a2 : Int) (a3 : Sl) (Q : Heap → Prop) (h : Heap) : Prop :=
  insn_table_int_int_fill.j1 a1 a2 a3 ((a3.len : Nat) : Int) 0 Q h

def insn_shapes  (Q : (Option Nat) → Heap → Prop) (h : Heap) : Prop :=
  alM (.int .i64) (fun b1 h => mapPut (.int .i64) (some b1) (.int .i64 45) (.int .i64 6) (fun h => al [.int .i64 41, .int .i64 42, .int .i64 43, .int .i64 44] (fun b2 h => insn_table_int_int_fill (some b1) 0 ⟨some ⟨b2, 0⟩, 4, 4⟩ (fun h => al [.int .i64 1, .int .i64 2, .int .i64 3, .int .i64 4, .int .i64 5, .int .i64 6, .int .i64 7, .int .i64 8, .int .i64 9, .int .i64 10, .int .i64 11, .int .i64 12, .int .i64 13, .int .i64 37, .int .i64 38, .int .i64 39, .int .i64 40] (fun b3 h => insn_table_int_int_fill (some b1) 1 ⟨some ⟨b3, 0⟩, 17, 17⟩ (fun h => al [.int .i64 14, .int .i64 15, .int .i64 16, .int .i64 17, .int .i64 18, .int .i64 19, .int .i64 20, .int .i64 21, .int .i64 23, .int .i64 24, .int .i64 25, .int .i64 36, .int .i64 46, .int .i64 47, .int .i64 48] (fun b4 h => insn_table_int_int_fill (some b1) 2 ⟨some ⟨b4, 0⟩, 15, 15⟩ (fun h => al [.int .i64 26, .int .i64 27, .int .i64 28] (fun b5 h => insn_table_int_int_fill (some b1) 3 ⟨some ⟨b5, 0⟩, 3, 3⟩ (fun h => al [.int .i64 29, .int .i64 30, .int .i64 31, .int .i64 32, .int .i64 33, .int .i64 34] (fun b6 h => insn_table_int_int_fill (some b1) 4 ⟨some ⟨b6, 0⟩, 6, 6⟩ (fun h => al [.int .i64 22, .int .i64 35] (fun b7 h => insn_table_int_int_fill (some b1) 5 ⟨some ⟨b7, 0⟩, 2, 2⟩ (fun h => Q (some b1) h) h) h) h) h) h) h) h) h) h) h) h) h) h) h

def insn_Shape (a1 : Int) (Q : Int → Bool → Heap → Prop) (h : Heap) : Prop :=
  insn_shapes (fun r1 h => mapGet (.int .i64) r1 (.int .i64 a1) (fun o2 => asI .i64 (o2.getD (.int .i64 0)) (fun x3 => Q x3 o2.isSome h)) h) h

def word_Sign (a1 : Int) (a2 : Int) (Q : Int → Heap → Prop) (h : Heap) : Prop :=
  word_within_int a2 1 63 (fun r1 h => br (!r1) (Q 0 h) (nneg (IntKind.i64.wrap (64 - a2)) (nneg (IntKind.i64.wrap (64 - a2)) (Q (shrI .i64 (shlI .i64 a1 (IntKind.i64.wrap (64 - a2))) (IntKind.i64.wrap (64 - a2))) h)))) h

def word_Fits (a1 : Int) (a2 : Int) (Q : Bool → Heap → Prop) (h : Heap) : Prop :=
  word_within_int a2 1 63 (fun r1 h => br r1 (word_Sign a1 a2 (fun r2 h => Q (r2 == a1) h) h) (Q false h)) h

def insn_immOf.j5  (a1 : Int) (Q : Bool → Heap → Prop) (h : Heap) : Prop :=
  br (decide (a1 ≥ 0)) (Q (decide (a1 < 64)) h) (Q false h)

def insn_immOf.j9  (a1 : Int) (Q : Bool → Heap → Prop) (h : Heap) : Prop :=
  br (decide (a1 ≥ 0)) (Q (decide (a1 < 4096)) h) (Q false h)

def insn_immOf (a1 : Int) (a2 : Int) (a3 : Int) (Q : Bool → Heap → Prop) (h : Heap) : Prop :=
  br (a1 == 18) (insn_immOf.j5 a3 Q h) (br (a1 == 19) (insn_immOf.j5 a3 Q h) (br (a1 == 20) (insn_immOf.j5 a3 Q h) (br (a1 == 46) (insn_immOf.j9 a3 Q h) (br (a1 == 47) (insn_immOf.j9 a3 Q h) (br (a1 == 48) (insn_immOf.j9 a3 Q h) (br (a2 == 2) (word_Fits a3 14 (fun r1 h => Q r1 h) h) (br (a2 == 3) (word_Fits a3 14 (fun r2 h => Q r2 h) h) (br (a2 == 4) (word_Fits a3 14 (fun r3 h => Q r3 h) h) (br (a2 == 5) (word_Fits a3 18 (fun r4 h => Q r4 h) h) (Q (a3 == 0) h))))))))))

def insn_Valid.j3   (Q : Bool → Heap → Prop) (h : Heap) : Prop :=
  Q false h

def insn_Valid.j8 (I5 : Sl → Int → Int → Heap → Prop)  (Q : Bool → Heap → Prop) (h : Heap) : Prop :=
  Q false h

def insn_Valid.j9 (I5 : Sl → Int → Int → Heap → Prop) (a1 : Sl) (a2 : Int) (a3 : Int) (Q : Bool → Heap → Prop) (h : Heap) : Prop :=
  I5 a1 a2 (IntKind.i64.wrap (a3 + 1)) h

def insn_Valid.b5  (I5 : Sl → Int → Int → Heap → Prop) (a1 : Sl) (a2 : Int) (a3 : Int) (Q : Bool → Heap → Prop) (h : Heap) : Prop :=
  br (decide (a3 < a2)) (ix a3 a1.len (fun n1 => der a1.p (fun p2 => rdI .i64 ((p2.add (n1 * 2)).add 0) (fun x3 => rdB ((p2.add (n1 * 2)).add 1) (fun x4 => al [.int .i64 0, .bool false] (fun b5 h => wrL [.int .i64 x3, .bool x4] (⟨b5, 0⟩ : Ptr) 0 (fun h => rdI .i64 ((⟨b5, 0⟩ : Ptr).add 0) (fun x6 => br (decide (x6 < 0)) (insn_Valid.j8 I5 Q h) (rdI .i64 ((⟨b5, 0⟩ : Ptr).add 0) (fun x7 => br (decide (x7 > 15)) (insn_Valid.j8 I5 Q h) (rdI .i64 ((⟨b5, 0⟩ : Ptr).add 0) (fun x8 => br (decide (x8 > 0)) (rdB ((⟨b5, 0⟩ : Ptr).add 1) (fun x9 => br (!x9) (insn_Valid.j8 I5 Q h) (insn_Valid.j9 I5 a1 a2 a3 Q h)) h) (insn_Valid.j9 I5 a1 a2 a3 Q h)) h)) h)) h) h) h) h) h))) (Q true h)

def insn_Valid.j5  (a1 : Sl) (a2 : Int) (a3 : Int) (Q : Bool → Heap → Prop) (h : Heap) : Prop :=
  ∀ I : Sl → Int → Int → Heap → Prop, (∀ a1 a2 a3 h, insn_Valid.b5  I a1 a2 a3 Q h → I a1 a2 a3 h) → I a1 a2 a3 h

def insn_Valid.j4  (a1 : Ptr) (a2 : Int) (Q : Bool → Heap → Prop) (h : Heap) : Prop :=
  rdI .i64 (a1.add 1) (fun x1 => br (a2 == 1) (rdI .i64 (a1.add 2) (fun x2 => br (a2 != 0) (rdI .i64 (a1.add 3) (fun x3 => br (a2 == 1) (al [.int .i64 x1, .bool true, .int .i64 x2, .bool (a2 != 5), .int .i64 x3, .bool true] (fun b4 h => insn_Valid.j5 ⟨some ⟨b4, 0⟩, 3, 3⟩ ((3 : Nat) : Int) 0 Q h) h) (br (a2 == 3) (al [.int .i64 x1, .bool true, .int .i64 x2, .bool (a2 != 5), .int .i64 x3, .bool true] (fun b5 h => insn_Valid.j5 ⟨some ⟨b5, 0⟩, 3, 3⟩ ((3 : Nat) : Int) 0 Q h) h) (al [.int .i64 x1, .bool true, .int .i64 x2, .bool (a2 != 5), .int .i64 x3, .bool (a2 == 4)] (fun b6 h => insn_Valid.j5 ⟨some ⟨b6, 0⟩, 3, 3⟩ ((3 : Nat) : Int) 0 Q h) h))) h) (rdI .i64 (a1.add 3) (fun x7 => br (a2 == 1) (al [.int .i64 x1, .bool true, .int .i64 x2, .bool false, .int .i64 x7, .bool true] (fun b8 h => insn_Valid.j5 ⟨some ⟨b8, 0⟩, 3, 3⟩ ((3 : Nat) : Int) 0 Q h) h) (br (a2 == 3) (al [.int .i64 x1, .bool true, .int .i64 x2, .bool false, .int .i64 x7, .bool true] (fun b9 h => insn_Valid.j5 ⟨some ⟨b9, 0⟩, 3, 3⟩ ((3 : Nat) : Int) 0 Q h) h) (al [.int .i64 x1, .bool true, .int .i64 x2, .bool false, .int .i64 x7, .bool (a2 == 4)] (fun b10 h => insn_Valid.j5 ⟨some ⟨b10, 0⟩, 3, 3⟩ ((3 : Nat) : Int) 0 Q h) h))) h)) h) (br (a2 == 2) (rdI .i64 (a1.add 2) (fun x11 => br (a2 != 0) (rdI .i64 (a1.add 3) (fun x12 => br (a2 == 1) (al [.int .i64 x1, .bool true, .int .i64 x11, .bool (a2 != 5), .int .i64 x12, .bool true] (fun b13 h => insn_Valid.j5 ⟨some ⟨b13, 0⟩, 3, 3⟩ ((3 : Nat) : Int) 0 Q h) h) (br (a2 == 3) (al [.int .i64 x1, .bool true, .int .i64 x11, .bool (a2 != 5), .int .i64 x12, .bool true] (fun b14 h => insn_Valid.j5 ⟨some ⟨b14, 0⟩, 3, 3⟩ ((3 : Nat) : Int) 0 Q h) h) (al [.int .i64 x1, .bool true, .int .i64 x11, .bool (a2 != 5), .int .i64 x12, .bool (a2 == 4)] (fun b15 h => insn_Valid.j5 ⟨some ⟨b15, 0⟩, 3, 3⟩ ((3 : Nat) : Int) 0 Q h) h))) h) (rdI .i64 (a1.add 3) (fun x16 => br (a2 == 1) (al [.int .i64 x1, .bool true, .int .i64 x11, .bool false, .int .i64 x16, .bool true] (fun b17 h => insn_Valid.j5 ⟨some ⟨b17, 0⟩, 3, 3⟩ ((3 : Nat) : Int) 0 Q h) h) (br (a2 == 3) (al [.int .i64 x1, .bool true, .int .i64 x11, .bool false, .int .i64 x16, .bool true] (fun b18 h => insn_Valid.j5 ⟨some ⟨b18, 0⟩, 3, 3⟩ ((3 : Nat) : Int) 0 Q h) h) (al [.int .i64 x1, .bool true, .int .i64 x11, .bool false, .int .i64 x16, .bool (a2 == 4)] (fun b19 h => insn_Valid.j5 ⟨some ⟨b19, 0⟩, 3, 3⟩ ((3 : Nat) : Int) 0 Q h) h))) h)) h) (rdI .i64 (a1.add 2) (fun x20 => br (a2 != 0) (rdI .i64 (a1.add 3) (fun x21 => br (a2 == 1) (al [.int .i64 x1, .bool (a2 == 5), .int .i64 x20, .bool (a2 != 5), .int .i64 x21, .bool true] (fun b22 h => insn_Valid.j5 ⟨some ⟨b22, 0⟩, 3, 3⟩ ((3 : Nat) : Int) 0 Q h) h) (br (a2 == 3) (al [.int .i64 x1, .bool (a2 == 5), .int .i64 x20, .bool (a2 != 5), .int .i64 x21, .bool true] (fun b23 h => insn_Valid.j5 ⟨some ⟨b23, 0⟩, 3, 3⟩ ((3 : Nat) : Int) 0 Q h) h) (al [.int .i64 x1, .bool (a2 == 5), .int .i64 x20, .bool (a2 != 5), .int .i64 x21, .bool (a2 == 4)] (fun b24 h => insn_Valid.j5 ⟨some ⟨b24, 0⟩, 3, 3⟩ ((3 : Nat) : Int) 0 Q h) h))) h) (rdI .i64 (a1.add 3) (fun x25 => br (a2 == 1) (al [.int .i64 x1, .bool (a2 == 5), .int .i64 x20, .bool false, .int .i64 x25, .bool true] (fun b26 h => insn_Valid.j5 ⟨some ⟨b26, 0⟩, 3, 3⟩ ((3 : Nat) : Int) 0 Q h) h) (br (a2 == 3) (al [.int .i64 x1, .bool (a2 == 5), .int .i64 x20, .bool false, .int .i64 x25, .bool true] (fun b27 h => insn_Valid.j5 ⟨some ⟨b27, 0⟩, 3, 3⟩ ((3 : Nat) : Int) 0 Q h) h) (al [.int .i64 x1, .bool (a2 == 5), .int .i64 x20, .bool false, .int .i64 x25, .bool (a2 == 4)] (fun b28 h => insn_Valid.j5 ⟨some ⟨b28, 0⟩, 3, 3⟩ ((3 : Nat) : Int) 0 Q h) h))) h)) h))) h

def insn_Valid (a1 : Int) (a2 : Int) (a3 : Int) (a4 : Int) (a5 : Int) (Q : Bool → Heap → Prop) (h : Heap) : Prop :=
  al [.int .i64 a1, .int .i64 a2, .int .i64 a3, .int .i64 a4, .int .i64 a5] (fun b1 h => rdI .i64 ((⟨b1, 0⟩ : Ptr).add 0) (fun x2 => insn_Shape x2 (fun r3 r4 h => br (!r4) (insn_Valid.j3 Q h) (rdI .i64 ((⟨b1, 0⟩ : Ptr).add 0) (fun x5 => rdI .i64 ((⟨b1, 0⟩ : Ptr).add 4) (fun x6 => insn_immOf x5 r3 x6 (fun r7 h => br (!r7) (insn_Valid.j3 Q h) (rdI .i64 ((⟨b1, 0⟩ : Ptr).add 0) (fun x8 => br (x8 == 37) (rdI .i64 ((⟨b1, 0⟩ : Ptr).add 3) (fun x9 => br (x9 != 0) (insn_Valid.j3 Q h) (insn_Valid.j4 (⟨b1, 0⟩ : Ptr) r3 Q h)) h) (insn_Valid.j4 (⟨b1, 0⟩ : Ptr) r3 Q h)) h)) h) h) h)) h) h) h

def word_Place (a1 : Int) (a2 : Int) (a3 : Int) (a4 : Int) (Q : Int → Heap → Prop) (h : Heap) : Prop :=
  word_lies a3 a4 (fun r1 h => br (!r1) (Q a1 h) (word_mask a4 (fun r2 h => nneg a3 (nneg a3 (Q (ibits .or .u32 (ibits .andNot .u32 a1 (IntKind.u32.wrap (shlI .u64 r2 a3))) (ibits .and .u32 (shlI .u32 (IntKind.u32.wrap a2) a3) (IntKind.u32.wrap (shlI .u64 r2 a3)))) h))) h)) h

def insn_Encode.j4  (a1 : Ptr) (a2 : Int) (Q : Int → Int → Heap → Prop) (h : Heap) : Prop :=
  rdI .i64 (a1.add 0) (fun x1 => insn_Shape x1 (fun r2 r3 h => br (r2 == 5) (rdI .i64 (a1.add 4) (fun x4 => word_Place a2 x4 0 18 (fun r5 h => Q r5 0 h) h) h) (rdI .i64 (a1.add 4) (fun x6 => word_Place a2 x6 0 14 (fun r7 h => Q r7 0 h) h) h)) h) h

def insn_Encode (a1 : Int) (a2 : Int) (a3 : Int) (a4 : Int) (a5 : Int) (Q : Int → Int → Heap → Prop) (h : Heap) : Prop :=
  al [.int .i64 a1, .int .i64 a2, .int .i64 a3, .int .i64 a4, .int .i64 a5] (fun b1 h => rdI .i64 ((⟨b1, 0⟩ : Ptr).add 0) (fun x2 => rdI .i64 ((⟨b1, 0⟩ : Ptr).add 1) (fun x3 => rdI .i64 ((⟨b1, 0⟩ : Ptr).add 2) (fun x4 => rdI .i64 ((⟨b1, 0⟩ : Ptr).add 3) (fun x5 => rdI .i64 ((⟨b1, 0⟩ : Ptr).add 4) (fun x6 => insn_Valid x2 x3 x4 x5 x6 (fun r7 h => br (!r7) (Q 0 10 h) (rdI .i64 ((⟨b1, 0⟩ : Ptr).add 0) (fun x8 => nneg 26 (rdI .i64 ((⟨b1, 0⟩ : Ptr).add 1) (fun x9 => nneg 22 (rdI .i64 ((⟨b1, 0⟩ : Ptr).add 2) (fun x10 => nneg 18 (rdI .i64 ((⟨b1, 0⟩ : Ptr).add 3) (fun x11 => nneg 14 (insn_Encode.j4 (⟨b1, 0⟩ : Ptr) (ibits .or .u32 (ibits .or .u32 (ibits .or .u32 (shlI .u32 (IntKind.u32.wrap x8) 26) (shlI .u32 (IntKind.u32.wrap x9) 22)) (shlI .u32 (IntKind.u32.wrap x10) 18)) (shlI .u32 (IntKind.u32.wrap x11) 14)) Q h)) h)) h)) h)) h)) h) h) h) h) h) h) h

def insn_Decode.j8  (a1 : Int) (a2 : Ptr) (a3 : Ptr) (Q : Int → Int → Int → Int → Int → Int → Heap → Prop) (h : Heap) : Prop :=
  rdI .i64 (a3.add 0) (fun x1 => rdI .i64 (a3.add 1) (fun x2 => rdI .i64 (a3.add 2) (fun x3 => rdI .i64 (a3.add 3) (fun x4 => rdI .i64 (a3.add 4) (fun x5 => insn_Encode x1 x2 x3 x4 x5 (fun r6 r7 h => br (r7 != 0) (wrL [.int .i64 0, .int .i64 0, .int .i64 0, .int .i64 0, .int .i64 0] a2 0 (fun h => rdI .i64 (a2.add 0) (fun x8 => rdI .i64 (a2.add 1) (fun x9 => rdI .i64 (a2.add 2) (fun x10 => rdI .i64 (a2.add 3) (fun x11 => rdI .i64 (a2.add 4) (fun x12 => Q x8 x9 x10 x11 x12 10 h) h) h) h) h) h) h) (br (r6 != a1) (wrL [.int .i64 0, .int .i64 0, .int .i64 0, .int .i64 0, .int .i64 0] a2 0 (fun h => rdI .i64 (a2.add 0) (fun x13 => rdI .i64 (a2.add 1) (fun x14 => rdI .i64 (a2.add 2) (fun x15 => rdI .i64 (a2.add 3) (fun x16 => rdI .i64 (a2.add 4) (fun x17 => Q x13 x14 x15 x16 x17 10 h) h) h) h) h) h) h) (rdI .i64 (a3.add 0) (fun x18 => rdI .i64 (a3.add 1) (fun x19 => rdI .i64 (a3.add 2) (fun x20 => rdI .i64 (a3.add 3) (fun x21 => rdI .i64 (a3.add 4) (fun x22 => wrL [.int .i64 x18, .int .i64 x19, .int .i64 x20, .int .i64 x21, .int .i64 x22] a2 0 (fun h => rdI .i64 (a2.add 0) (fun x23 => rdI .i64 (a2.add 1) (fun x24 => rdI .i64 (a2.add 2) (fun x25 => rdI .i64 (a2.add 3) (fun x26 => rdI .i64 (a2.add 4) (fun x27 => Q x23 x24 x25 x26 x27 0 h) h) h) h) h) h) h) h) h) h) h) h))) h) h) h) h) h) h

def insn_Decode (a1 : Int) (Q : Int → Int → Int → Int → Int → Int → Heap → Prop) (h : Heap) : Prop :=
  al [.int .i64 0, .int .i64 0, .int .i64 0, .int .i64 0, .int .i64 0] (fun b1 h => word_Field a1 26 6 (fun r2 h => word_Field a1 22 4 (fun r3 h => al [.int .i64 0, .int .i64 0, .int .i64 0, .int .i64 0, .int .i64 0] (fun b4 h => wrL [.int .i64 r2, .int .i64 r3, .int .i64 0, .int .i64 0, .int .i64 0] (⟨b4, 0⟩ : Ptr) 0 (fun h => rdI .i64 ((⟨b4, 0⟩ : Ptr).add 0) (fun x5 => insn_Shape x5 (fun r6 r7 h => br (!r7) (wrL [.int .i64 0, .int .i64 0, .int .i64 0, .int .i64 0, .int .i64 0] (⟨b1, 0⟩ : Ptr) 0 (fun h => rdI .i64 ((⟨b1, 0⟩ : Ptr).add 0) (fun x8 => rdI .i64 ((⟨b1, 0⟩ : Ptr).add 1) (fun x9 => rdI .i64 ((⟨b1, 0⟩ : Ptr).add 2) (fun x10 => rdI .i64 ((⟨b1, 0⟩ : Ptr).add 3) (fun x11 => rdI .i64 ((⟨b1, 0⟩ : Ptr).add 4) (fun x12 => Q x8 x9 x10 x11 x12 10 h) h) h) h) h) h) h) (br (r6 == 5) (word_Field a1 0 18 (fun r13 h => word_Sign r13 18 (fun r14 h => wr ((⟨b4, 0⟩ : Ptr).add 4) (.int .i64 r14) (fun h => insn_Decode.j8 a1 (⟨b1, 0⟩ : Ptr) (⟨b4, 0⟩ : Ptr) Q h) h) h) h) (word_Field a1 18 4 (fun r15 h => word_Field a1 14 4 (fun r16 h => word_Field a1 0 14 (fun r17 h => word_Sign r17 14 (fun r18 h => wr ((⟨b4, 0⟩ : Ptr).add 2) (.int .i64 r15) (fun h => wr ((⟨b4, 0⟩ : Ptr).add 3) (.int .i64 r16) (fun h => wr ((⟨b4, 0⟩ : Ptr).add 4) (.int .i64 r18) (fun h => insn_Decode.j8 a1 (⟨b1, 0⟩ : Ptr) (⟨b4, 0⟩ : Ptr) Q h) h) h) h) h) h) h) h))) h) h) h) h) h) h) h

def word_Load.j2 (U : Ifc)   (Q : Int → Bool → Heap → Prop) (h : Heap) : Prop :=
  Q 0 false h

def word_Load.b5 (U : Ifc)  (I5 : Int → Int → Sl → Int → Int → Heap → Prop) (a1 : Int) (a2 : Int) (a3 : Sl) (a4 : Int) (a5 : Int) (Q : Int → Bool → Heap → Prop) (h : Heap) : Prop :=
  br (decide (a5 < a4)) (ix a5 a3.len (fun n1 => der a3.p (fun p2 => rdI .u8 (p2.add (n1 * 1)) (fun x3 => nneg (IntKind.i64.wrap (8 * a5)) (I5 a1 (ibits .or .u64 a2 (shlI .u64 (IntKind.u64.wrap x3) (IntKind.i64.wrap (8 * a5)))) a3 a4 (IntKind.i64.wrap (a5 + 1)) h)) h))) (br (a1 == 4) (Q (IntKind.u64.wrap (IntKind.i64.wrap (IntKind.i32.wrap a2))) true h) (Q a2 true h))

def word_Load.j5 (U : Ifc)  (a1 : Int) (a2 : Int) (a3 : Sl) (a4 : Int) (a5 : Int) (Q : Int → Bool → Heap → Prop) (h : Heap) : Prop :=
  ∀ I : Int → Int → Sl → Int → Int → Heap → Prop, (∀ a1 a2 a3 a4 a5 h, word_Load.b5 U  I a1 a2 a3 a4 a5 Q h → I a1 a2 a3 a4 a5 h) → I a1 a2 a3 a4 a5 h

def word_Load (U : Ifc) (a1 : Sl) (a2 : Int) (a3 : Int) (Q : Int → Bool → Heap → Prop) (h : Heap) : Prop :=
  word_known U a3 (fun r1 h => br (!r1) (word_Load.j2 U Q h) (br (decide (a2 < 0)) (word_Load.j2 U Q h) (br (decide (a2 > (IntKind.i64.wrap (((a1.len : Nat) : Int) - a3)))) (word_Load.j2 U Q h) (sb (IntKind.i64.wrap (a2 + a3)) a1.cap (fun n2 => sb a2 n2 (fun n3 => word_Load.j5 U a3 0 ⟨slp a1.p (n3 * 1) n3 a1.cap, n2 - n3, a1.cap - n3⟩ ((n2 - n3 : Nat) : Int) 0 Q h)))))) h

def mem_Memory_Load (U : Ifc) (a1 : Option Ptr) (a2 : Int) (a3 : Int) (Q : Int → Int → Heap → Prop) (h : Heap) : Prop :=
  mem_Memory_number a1 a2 a3 (fun r1 r2 h => br (r2 != 0) (Q 0 r2 h) (word_Load U r1 0 a3 (fun r3 r4 h => Q r3 0 h) h)) h

def hart_hart_lui (a1 : Option Ptr) (Q : Int → Int → Int → Bool → Int → Heap → Prop) (h : Heap) : Prop :=
  al [.int .i64 0, .int .u64 0, .int .u64 0, .bool false, .int .i64 0] (fun b1 h => False) h

def hart_hart_jal (a1 : Option Ptr) (Q : Int → Int → Int → Bool → Int → Heap → Prop) (h : Heap) : Prop :=
  al [.int .i64 0, .int .u64 0, .int .u64 0, .bool false, .int .i64 0] (fun b1 h => der a1 (fun p2 => rdI .u64 (p2.add 9) (fun x3 => False) h)) h

def hart_hart_jalr (a1 : Option Ptr) (Q : Int → Int → Int → Bool → Int → Heap → Prop) (h : Heap) : Prop :=
  al [.int .i64 0, .int .u64 0, .int .u64 0, .bool false, .int .i64 0] (fun b1 h => False) h

def hart_hart_lr (a1 : Option Ptr) (Q : Int → Int → Int → Bool → Int → Heap → Prop) (h : Heap) : Prop :=
  al [.int .i64 0, .int .u64 0, .int .u64 0, .bool false, .int .i64 0] (fun b1 h => False) h

def hart_hart_sc (a1 : Option Ptr) (Q : Int → Int → Int → Bool → Int → Heap → Prop) (h : Heap) : Prop :=
  al [.int .i64 0, .int .u64 0, .int .u64 0, .bool false, .int .i64 0] (fun b1 h => False) h

def hart_hart_amo (a1 : Option Ptr) (Q : Int → Int → Int → Bool → Int → Heap → Prop) (h : Heap) : Prop :=
  al [.int .i64 0, .int .u64 0, .int .u64 0, .bool false, .int .i64 0] (fun b1 h => False) h

def hart_hart_nothing (a1 : Option Ptr) (Q : Int → Int → Int → Bool → Int → Heap → Prop) (h : Heap) : Prop :=
  al [.int .i64 0, .int .u64 0, .int .u64 0, .bool false, .int .i64 0] (fun b1 h => wrL [.int .i64 0, .int .u64 0, .int .u64 0, .bool false, .int .i64 0] (⟨b1, 0⟩ : Ptr) 0 (fun h => rdI .i64 ((⟨b1, 0⟩ : Ptr).add 0) (fun x2 => rdI .u64 ((⟨b1, 0⟩ : Ptr).add 1) (fun x3 => rdI .u64 ((⟨b1, 0⟩ : Ptr).add 2) (fun x4 => rdB ((⟨b1, 0⟩ : Ptr).add 3) (fun x5 => rdI .i64 ((⟨b1, 0⟩ : Ptr).add 4) (fun x6 => Q x2 x3 x4 x5 x6 h) h) h) h) h) h) h) h

def hart_hart_ecall (a1 : Option Ptr) (Q : Int → Int → Int → Bool → Int → Heap → Prop) (h : Heap) : Prop :=
  al [.int .i64 0, .int .u64 0, .int .u64 0, .bool false, .int .i64 0] (fun b1 h => False) h

def hart_hart_sret (a1 : Option Ptr) (Q : Int → Int → Int → Bool → Int → Heap → Prop) (h : Heap) : Prop :=
  al [.int .i64 0, .int .u64 0, .int .u64 0, .bool false, .int .i64 0] (fun b1 h => False) h

def hart_hart_wfi (a1 : Option Ptr) (Q : Int → Int → Int → Bool → Int → Heap → Prop) (h : Heap) : Prop :=
  al [.int .i64 0, .int .u64 0, .int .u64 0, .bool false, .int .i64 0] (fun b1 h => False) h

def hart_hart_sfence (a1 : Option Ptr) (Q : Int → Int → Int → Bool → Int → Heap → Prop) (h : Heap) : Prop :=
  al [.int .i64 0, .int .u64 0, .int .u64 0, .bool false, .int .i64 0] (fun b1 h => False) h

def hart_hart_math (a1 : Option Ptr) (Q : Int → Int → Int → Bool → Int → Heap → Prop) (h : Heap) : Prop :=
  al [.int .i64 0, .int .u64 0, .int .u64 0, .bool false, .int .i64 0] (fun b1 h => der a1 (fun p2 => rdI .i64 ((p2.add 4).add 0) (fun x3 => False) h)) h

def hart_hart_load (a1 : Option Ptr) (Q : Int → Int → Int → Bool → Int → Heap → Prop) (h : Heap) : Prop :=
  al [.int .i64 0, .int .u64 0, .int .u64 0, .bool false, .int .i64 0] (fun b1 h => False) h

def hart_hart_store (a1 : Option Ptr) (Q : Int → Int → Int → Bool → Int → Heap → Prop) (h : Heap) : Prop :=
  al [.int .i64 0, .int .u64 0, .int .u64 0, .bool false, .int .i64 0] (fun b1 h => False) h

def hart_hart_branch (a1 : Option Ptr) (Q : Int → Int → Int → Bool → Int → Heap → Prop) (h : Heap) : Prop :=
  al [.int .i64 0, .int .u64 0, .int .u64 0, .bool false, .int .i64 0] (fun b1 h => False) h

def hart_hart_control (a1 : Option Ptr) (Q : Int → Int → Int → Bool → Int → Heap → Prop) (h : Heap) : Prop :=
  al [.int .i64 0, .int .u64 0, .int .u64 0, .bool false, .int .i64 0] (fun b1 h => der a1 (fun p2 => rdI .i64 ((p2.add 4).add 4) (fun x3 => False) h)) h

end Go.Fn
