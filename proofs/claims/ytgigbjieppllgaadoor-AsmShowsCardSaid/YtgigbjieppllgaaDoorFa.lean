/- The shallow functions. PRINTED by lift.py. -/
import Derived.Test.YtgigbjieppllgaaDoorLiftB
import Derived.Test.YtgigbjieppllgaaDoorLiftY
set_option linter.unusedVariables false
set_option maxRecDepth 100000
namespace Go.Fn
open Go.Lift



def word_within_int (a1 : Int) (a2 : Int) (a3 : Int) (Q : Bool → Heap → Prop) (h : Heap) : Prop :=
  br (decide (a1 ≥ a2)) (Q (decide (a1 ≤ a3)) h) (Q false h)

def word_lies (a1 : Int) (a2 : Int) (Q : Bool → Heap → Prop) (h : Heap) : Prop :=
  word_within_int a1 0 31 (fun r1 h => br r1 (word_within_int a2 1 32 (fun r2 h => br r2 (Q (decide ((IntKind.i64.wrap (a1 + a2)) ≤ 32)) h) (Q false h)) h) (Q false h)) h

def word_mask (a1 : Int) (Q : Int → Heap → Prop) (h : Heap) : Prop :=
  nneg a1 (Q (IntKind.u64.wrap ((shlI .u64 1 a1) - 1)) h)

def word_Field (a1 : Int) (a2 : Int) (a3 : Int) (Q : Int → Heap → Prop) (h : Heap) : Prop :=
  word_lies a2 a3 (fun r1 h => br (!r1) (Q 0 h) (nneg a2 (word_mask a3 (fun r2 h => Q (IntKind.i64.wrap (ibits .and .u64 (shrI .u64 (IntKind.u64.wrap a1) a2) r2)) h) h))) h

def insn_table_int_int_fill.b1  (I1 : (Option Nat) → Int → Sl → Int → Int → Heap → Prop) (a1 : Option Nat) (a2 : Int) (a3 : Sl) (a4 : Int) (a5 : Int) (Q : Heap → Prop) (h : Heap) : Prop :=
  br (decide (a5 < a4)) (ix a5 a3.len (fun n1 => der a3.p (fun p2 => rdI .i64 (p2.add (n1 * 1)) (fun x3 => mapPut (.int .i64) a1 (.int .i64 x3) (.int .i64 a2) (fun h => I1 a1 a2 a3 a4 (IntKind.i64.wrap (a5 + 1)) h) h) h))) (Q h)

def insn_table_int_int_fill.j1  (a1 : Option Nat) (a2 : Int) (a3 : Sl) (a4 : Int) (a5 : Int) (Q : Heap → Prop) (h : Heap) : Prop :=
  ∀ I : (Option Nat) → Int → Sl → Int → Int → Heap → Prop, (∀ a1 a2 a3 a4 a5 h, insn_table_int_int_fill.b1  I a1 a2 a3 a4 a5 Q h → I a1 a2 a3 a4 a5 h) → I a1 a2 a3 a4 a5 h

def insn_table_int_int_fill (a1 : Option Nat) (a2 : Int) (a3 : Sl) (Q : Heap → Prop) (h : Heap) : Prop :=
  insn_table_int_int_fill.j1 a1 a2 a3 ((a3.len : Nat) : Int) 0 Q h

def insn_shapes  (Q : (Option Nat) → Heap → Prop) (h : Heap) : Prop :=
  alM (.int .i64) (fun b1 h => mapPut (.int .i64) (some b1) (.int .i64 45) (.int .i64 6) (fun h => al [.int .i64 41, .int .i64 42, .int .i64 43, .int .i64 44] (fun b2 h => insn_table_int_int_fill (some b1) 0 ⟨some ⟨b2, 0⟩, 4, 4⟩ (fun h => al [.int .i64 1, .int .i64 2, .int .i64 3, .int .i64 4, .int .i64 5, .int .i64 6, .int .i64 7, .int .i64 8, .int .i64 9, .int .i64 10, .int .i64 11, .int .i64 12, .int .i64 13, .int .i64 37, .int .i64 38, .int .i64 39, .int .i64 40] (fun b3 h => insn_table_int_int_fill (some b1) 1 ⟨some ⟨b3, 0⟩, 17, 17⟩ (fun h => al [.int .i64 14, .int .i64 15, .int .i64 16, .int .i64 17, .int .i64 18, .int .i64 19, .int .i64 20, .int .i64 21, .int .i64 23, .int .i64 24, .int .i64 25, .int .i64 36, .int .i64 46, .int .i64 47, .int .i64 48] (fun b4 h => insn_table_int_int_fill (some b1) 2 ⟨some ⟨b4, 0⟩, 15, 15⟩ (fun h => al [.int .i64 26, .int .i64 27, .int .i64 28] (fun b5 h => insn_table_int_int_fill (some b1) 3 ⟨some ⟨b5, 0⟩, 3, 3⟩ (fun h => al [.int .i64 29, .int .i64 30, .int .i64 31, .int .i64 32, .int .i64 33, .int .i64 34] (fun b6 h => insn_table_int_int_fill (some b1) 4 ⟨some ⟨b6, 0⟩, 6, 6⟩ (fun h => al [.int .i64 22, .int .i64 35] (fun b7 h => insn_table_int_int_fill (some b1) 5 ⟨some ⟨b7, 0⟩, 2, 2⟩ (fun h => Q (some b1) h) h) h) h) h) h) h) h) h) h) h) h) h) h) h

def insn_Shape (a1 : Int) (Q : Int → Bool → Heap → Prop) (h : Heap) : Prop :=
  insn_shapes (fun r1 h => mapGet (.int .i64) r1 (.int .i64 a1) (fun o2 => asI .i64 (o2.getD (.int .i64 0)) (fun x3 => Q x3 o2.isSome h)) h) h

def word_Sign (a1 : Int) (a2 : Int) (Q : Int → Heap → Prop) (h : Heap) : Prop :=
  word_within_int a2 1 63 (fun r1 h => br (!r1) (Q 0 h) (nneg (IntKind.i64.wrap (64 - a2)) (nneg (IntKind.i64.wrap (64 - a2)) (Q (shrI .i64 (shlI .i64 a1 (IntKind.i64.wrap (64 - a2))) (IntKind.i64.wrap (64 - a2))) h)))) h

def word_Fits (a1 : Int) (a2 : Int) (Q : Bool → Heap → Prop) (h : Heap) : Prop :=
  word_within_int a2 1 63 (fun r1 h => br r1 (word_Sign a1 a2 (fun r2 h => Q (r2 == a1) h) h) (Q false h)) h

def insn_immOf.j5  (a1 : Int) (Q : Bool → Heap → Prop) (h : Heap) : Prop :=
  br (decide (a1 ≥ 0)) (Q (decide (a1 < 64)) h) (Q false h)

def insn_immOf.j9  (a1 : Int) (Q : Bool → Heap → Prop) (h : Heap) : Prop :=
  br (decide (a1 ≥ 0)) (Q (decide (a1 < 4096)) h) (Q false h)

def insn_immOf (a1 : Int) (a2 : Int) (a3 : Int) (Q : Bool → Heap → Prop) (h : Heap) : Prop :=
  br (a1 == 18) (insn_immOf.j5 a3 Q h) (br (a1 == 19) (insn_immOf.j5 a3 Q h) (br (a1 == 20) (insn_immOf.j5 a3 Q h) (br (a1 == 46) (insn_immOf.j9 a3 Q h) (br (a1 == 47) (insn_immOf.j9 a3 Q h) (br (a1 == 48) (insn_immOf.j9 a3 Q h) (br (a2 == 2) (word_Fits a3 14 (fun r1 h => Q r1 h) h) (br (a2 == 3) (word_Fits a3 14 (fun r2 h => Q r2 h) h) (br (a2 == 4) (word_Fits a3 14 (fun r3 h => Q r3 h) h) (br (a2 == 5) (word_Fits a3 18 (fun r4 h => Q r4 h) h) (Q (a3 == 0) h))))))))))

def insn_Valid.j3   (Q : Bool → Heap → Prop) (h : Heap) : Prop :=
  Q false h

def insn_Valid.j8 (I5 : Sl → Int → Int → Heap → Prop)  (Q : Bool → Heap → Prop) (h : Heap) : Prop :=
  Q false h

def insn_Valid.j9 (I5 : Sl → Int → Int → Heap → Prop) (a1 : Sl) (a2 : Int) (a3 : Int) (Q : Bool → Heap → Prop) (h : Heap) : Prop :=
  I5 a1 a2 (IntKind.i64.wrap (a3 + 1)) h

def insn_Valid.b5  (I5 : Sl → Int → Int → Heap → Prop) (a1 : Sl) (a2 : Int) (a3 : Int) (Q : Bool → Heap → Prop) (h : Heap) : Prop :=
  br (decide (a3 < a2)) (ix a3 a1.len (fun n1 => der a1.p (fun p2 => rdI .i64 ((p2.add (n1 * 2)).add 0) (fun x3 => rdB ((p2.add (n1 * 2)).add 1) (fun x4 => al [.int .i64 0, .bool false] (fun b5 h => wrL [.int .i64 x3, .bool x4] (⟨b5, 0⟩ : Ptr) 0 (fun h => rdI .i64 ((⟨b5, 0⟩ : Ptr).add 0) (fun x6 => br (decide (x6 < 0)) (insn_Valid.j8 I5 Q h) (rdI .i64 ((⟨b5, 0⟩ : Ptr).add 0) (fun x7 => br (decide (x7 > 15)) (insn_Valid.j8 I5 Q h) (rdI .i64 ((⟨b5, 0⟩ : Ptr).add 0) (fun x8 => br (decide (x8 > 0)) (rdB ((⟨b5, 0⟩ : Ptr).add 1) (fun x9 => br (!x9) (insn_Valid.j8 I5 Q h) (insn_Valid.j9 I5 a1 a2 a3 Q h)) h) (insn_Valid.j9 I5 a1 a2 a3 Q h)) h)) h)) h) h) h) h) h))) (Q true h)

def insn_Valid.j5  (a1 : Sl) (a2 : Int) (a3 : Int) (Q : Bool → Heap → Prop) (h : Heap) : Prop :=
  ∀ I : Sl → Int → Int → Heap → Prop, (∀ a1 a2 a3 h, insn_Valid.b5  I a1 a2 a3 Q h → I a1 a2 a3 h) → I a1 a2 a3 h

def insn_Valid.j4  (a1 : Ptr) (a2 : Int) (Q : Bool → Heap → Prop) (h : Heap) : Prop :=
  rdI .i64 (a1.add 1) (fun x1 => br (a2 == 1) (rdI .i64 (a1.add 2) (fun x2 => br (a2 != 0) (rdI .i64 (a1.add 3) (fun x3 => br (a2 == 1) (al [.int .i64 x1, .bool true, .int .i64 x2, .bool (a2 != 5), .int .i64 x3, .bool true] (fun b4 h => insn_Valid.j5 ⟨some ⟨b4, 0⟩, 3, 3⟩ ((3 : Nat) : Int) 0 Q h) h) (br (a2 == 3) (al [.int .i64 x1, .bool true, .int .i64 x2, .bool (a2 != 5), .int .i64 x3, .bool true] (fun b5 h => insn_Valid.j5 ⟨some ⟨b5, 0⟩, 3, 3⟩ ((3 : Nat) : Int) 0 Q h) h) (al [.int .i64 x1, .bool true, .int .i64 x2, .bool (a2 != 5), .int .i64 x3, .bool (a2 == 4)] (fun b6 h => insn_Valid.j5 ⟨some ⟨b6, 0⟩, 3, 3⟩ ((3 : Nat) : Int) 0 Q h) h))) h) (rdI .i64 (a1.add 3) (fun x7 => br (a2 == 1) (al [.int .i64 x1, .bool true, .int .i64 x2, .bool false, .int .i64 x7, .bool true] (fun b8 h => insn_Valid.j5 ⟨some ⟨b8, 0⟩, 3, 3⟩ ((3 : Nat) : Int) 0 Q h) h) (br (a2 == 3) (al [.int .i64 x1, .bool true, .int .i64 x2, .bool false, .int .i64 x7, .bool true] (fun b9 h => insn_Valid.j5 ⟨some ⟨b9, 0⟩, 3, 3⟩ ((3 : Nat) : Int) 0 Q h) h) (al [.int .i64 x1, .bool true, .int .i64 x2, .bool false, .int .i64 x7, .bool (a2 == 4)] (fun b10 h => insn_Valid.j5 ⟨some ⟨b10, 0⟩, 3, 3⟩ ((3 : Nat) : Int) 0 Q h) h))) h)) h) (br (a2 == 2) (rdI .i64 (a1.add 2) (fun x11 => br (a2 != 0) (rdI .i64 (a1.add 3) (fun x12 => br (a2 == 1) (al [.int .i64 x1, .bool true, .int .i64 x11, .bool (a2 != 5), .int .i64 x12, .bool true] (fun b13 h => insn_Valid.j5 ⟨some ⟨b13, 0⟩, 3, 3⟩ ((3 : Nat) : Int) 0 Q h) h) (br (a2 == 3) (al [.int .i64 x1, .bool true, .int .i64 x11, .bool (a2 != 5), .int .i64 x12, .bool true] (fun b14 h => insn_Valid.j5 ⟨some ⟨b14, 0⟩, 3, 3⟩ ((3 : Nat) : Int) 0 Q h) h) (al [.int .i64 x1, .bool true, .int .i64 x11, .bool (a2 != 5), .int .i64 x12, .bool (a2 == 4)] (fun b15 h => insn_Valid.j5 ⟨some ⟨b15, 0⟩, 3, 3⟩ ((3 : Nat) : Int) 0 Q h) h))) h) (rdI .i64 (a1.add 3) (fun x16 => br (a2 == 1) (al [.int .i64 x1, .bool true, .int .i64 x11, .bool false, .int .i64 x16, .bool true] (fun b17 h => insn_Valid.j5 ⟨some ⟨b17, 0⟩, 3, 3⟩ ((3 : Nat) : Int) 0 Q h) h) (br (a2 == 3) (al [.int .i64 x1, .bool true, .int .i64 x11, .bool false, .int .i64 x16, .bool true] (fun b18 h => insn_Valid.j5 ⟨some ⟨b18, 0⟩, 3, 3⟩ ((3 : Nat) : Int) 0 Q h) h) (al [.int .i64 x1, .bool true, .int .i64 x11, .bool false, .int .i64 x16, .bool (a2 == 4)] (fun b19 h => insn_Valid.j5 ⟨some ⟨b19, 0⟩, 3, 3⟩ ((3 : Nat) : Int) 0 Q h) h))) h)) h) (rdI .i64 (a1.add 2) (fun x20 => br (a2 != 0) (rdI .i64 (a1.add 3) (fun x21 => br (a2 == 1) (al [.int .i64 x1, .bool (a2 == 5), .int .i64 x20, .bool (a2 != 5), .int .i64 x21, .bool true] (fun b22 h => insn_Valid.j5 ⟨some ⟨b22, 0⟩, 3, 3⟩ ((3 : Nat) : Int) 0 Q h) h) (br (a2 == 3) (al [.int .i64 x1, .bool (a2 == 5), .int .i64 x20, .bool (a2 != 5), .int .i64 x21, .bool true] (fun b23 h => insn_Valid.j5 ⟨some ⟨b23, 0⟩, 3, 3⟩ ((3 : Nat) : Int) 0 Q h) h) (al [.int .i64 x1, .bool (a2 == 5), .int .i64 x20, .bool (a2 != 5), .int .i64 x21, .bool (a2 == 4)] (fun b24 h => insn_Valid.j5 ⟨some ⟨b24, 0⟩, 3, 3⟩ ((3 : Nat) : Int) 0 Q h) h))) h) (rdI .i64 (a1.add 3) (fun x25 => br (a2 == 1) (al [.int .i64 x1, .bool (a2 == 5), .int .i64 x20, .bool false, .int .i64 x25, .bool true] (fun b26 h => insn_Valid.j5 ⟨some ⟨b26, 0⟩, 3, 3⟩ ((3 : Nat) : Int) 0 Q h) h) (br (a2 == 3) (al [.int .i64 x1, .bool (a2 == 5), .int .i64 x20, .bool false, .int .i64 x25, .bool true] (fun b27 h => insn_Valid.j5 ⟨some ⟨b27, 0⟩, 3, 3⟩ ((3 : Nat) : Int) 0 Q h) h) (al [.int .i64 x1, .bool (a2 == 5), .int .i64 x20, .bool false, .int .i64 x25, .bool (a2 == 4)] (fun b28 h => insn_Valid.j5 ⟨some ⟨b28, 0⟩, 3, 3⟩ ((3 : Nat) : Int) 0 Q h) h))) h)) h))) h

def insn_Valid (a1 : Int) (a2 : Int) (a3 : Int) (a4 : Int) (a5 : Int) (Q : Bool → Heap → Prop) (h : Heap) : Prop :=
  al [.int .i64 a1, .int .i64 a2, .int .i64 a3, .int .i64 a4, .int .i64 a5] (fun b1 h => rdI .i64 ((⟨b1, 0⟩ : Ptr).add 0) (fun x2 => insn_Shape x2 (fun r3 r4 h => br (!r4) (insn_Valid.j3 Q h) (rdI .i64 ((⟨b1, 0⟩ : Ptr).add 0) (fun x5 => rdI .i64 ((⟨b1, 0⟩ : Ptr).add 4) (fun x6 => insn_immOf x5 r3 x6 (fun r7 h => br (!r7) (insn_Valid.j3 Q h) (rdI .i64 ((⟨b1, 0⟩ : Ptr).add 0) (fun x8 => br (x8 == 37) (rdI .i64 ((⟨b1, 0⟩ : Ptr).add 3) (fun x9 => br (x9 != 0) (insn_Valid.j3 Q h) (insn_Valid.j4 (⟨b1, 0⟩ : Ptr) r3 Q h)) h) (insn_Valid.j4 (⟨b1, 0⟩ : Ptr) r3 Q h)) h)) h) h) h)) h) h) h

def word_Place (a1 : Int) (a2 : Int) (a3 : Int) (a4 : Int) (Q : Int → Heap → Prop) (h : Heap) : Prop :=
  word_lies a3 a4 (fun r1 h => br (!r1) (Q a1 h) (word_mask a4 (fun r2 h => nneg a3 (nneg a3 (Q (ibits .or .u32 (ibits .andNot .u32 a1 (IntKind.u32.wrap (shlI .u64 r2 a3))) (ibits .and .u32 (shlI .u32 (IntKind.u32.wrap a2) a3) (IntKind.u32.wrap (shlI .u64 r2 a3)))) h))) h)) h

def insn_Encode.j4  (a1 : Ptr) (a2 : Int) (Q : Int → Int → Heap → Prop) (h : Heap) : Prop :=
  rdI .i64 (a1.add 0) (fun x1 => insn_Shape x1 (fun r2 r3 h => br (r2 == 5) (rdI .i64 (a1.add 4) (fun x4 => word_Place a2 x4 0 18 (fun r5 h => Q r5 0 h) h) h) (rdI .i64 (a1.add 4) (fun x6 => word_Place a2 x6 0 14 (fun r7 h => Q r7 0 h) h) h)) h) h

def insn_Encode (a1 : Int) (a2 : Int) (a3 : Int) (a4 : Int) (a5 : Int) (Q : Int → Int → Heap → Prop) (h : Heap) : Prop :=
  al [.int .i64 a1, .int .i64 a2, .int .i64 a3, .int .i64 a4, .int .i64 a5] (fun b1 h => rdI .i64 ((⟨b1, 0⟩ : Ptr).add 0) (fun x2 => rdI .i64 ((⟨b1, 0⟩ : Ptr).add 1) (fun x3 => rdI .i64 ((⟨b1, 0⟩ : Ptr).add 2) (fun x4 => rdI .i64 ((⟨b1, 0⟩ : Ptr).add 3) (fun x5 => rdI .i64 ((⟨b1, 0⟩ : Ptr).add 4) (fun x6 => insn_Valid x2 x3 x4 x5 x6 (fun r7 h => br (!r7) (Q 0 10 h) (rdI .i64 ((⟨b1, 0⟩ : Ptr).add 0) (fun x8 => nneg 26 (rdI .i64 ((⟨b1, 0⟩ : Ptr).add 1) (fun x9 => nneg 22 (rdI .i64 ((⟨b1, 0⟩ : Ptr).add 2) (fun x10 => nneg 18 (rdI .i64 ((⟨b1, 0⟩ : Ptr).add 3) (fun x11 => nneg 14 (insn_Encode.j4 (⟨b1, 0⟩ : Ptr) (ibits .or .u32 (ibits .or .u32 (ibits .or .u32 (shlI .u32 (IntKind.u32.wrap x8) 26) (shlI .u32 (IntKind.u32.wrap x9) 22)) (shlI .u32 (IntKind.u32.wrap x10) 18)) (shlI .u32 (IntKind.u32.wrap x11) 14)) Q h)) h)) h)) h)) h)) h) h) h) h) h) h) h

def insn_Decode.j8  (a1 : Int) (a2 : Ptr) (a3 : Ptr) (Q : Int → Int → Int → Int → Int → Int → Heap → Prop) (h : Heap) : Prop :=
  rdI .i64 (a3.add 0) (fun x1 => rdI .i64 (a3.add 1) (fun x2 => rdI .i64 (a3.add 2) (fun x3 => rdI .i64 (a3.add 3) (fun x4 => rdI .i64 (a3.add 4) (fun x5 => insn_Encode x1 x2 x3 x4 x5 (fun r6 r7 h => br (r7 != 0) (wrL [.int .i64 0, .int .i64 0, .int .i64 0, .int .i64 0, .int .i64 0] a2 0 (fun h => rdI .i64 (a2.add 0) (fun x8 => rdI .i64 (a2.add 1) (fun x9 => rdI .i64 (a2.add 2) (fun x10 => rdI .i64 (a2.add 3) (fun x11 => rdI .i64 (a2.add 4) (fun x12 => Q x8 x9 x10 x11 x12 10 h) h) h) h) h) h) h) (br (r6 != a1) (wrL [.int .i64 0, .int .i64 0, .int .i64 0, .int .i64 0, .int .i64 0] a2 0 (fun h => rdI .i64 (a2.add 0) (fun x13 => rdI .i64 (a2.add 1) (fun x14 => rdI .i64 (a2.add 2) (fun x15 => rdI .i64 (a2.add 3) (fun x16 => rdI .i64 (a2.add 4) (fun x17 => Q x13 x14 x15 x16 x17 10 h) h) h) h) h) h) h) (rdI .i64 (a3.add 0) (fun x18 => rdI .i64 (a3.add 1) (fun x19 => rdI .i64 (a3.add 2) (fun x20 => rdI .i64 (a3.add 3) (fun x21 => rdI .i64 (a3.add 4) (fun x22 => wrL [.int .i64 x18, .int .i64 x19, .int .i64 x20, .int .i64 x21, .int .i64 x22] a2 0 (fun h => rdI .i64 (a2.add 0) (fun x23 => rdI .i64 (a2.add 1) (fun x24 => rdI .i64 (a2.add 2) (fun x25 => rdI .i64 (a2.add 3) (fun x26 => rdI .i64 (a2.add 4) (fun x27 => Q x23 x24 x25 x26 x27 0 h) h) h) h) h) h) h) h) h) h) h) h))) h) h) h) h) h) h

def insn_Decode (a1 : Int) (Q : Int → Int → Int → Int → Int → Int → Heap → Prop) (h : Heap) : Prop :=
  al [.int .i64 0, .int .i64 0, .int .i64 0, .int .i64 0, .int .i64 0] (fun b1 h => word_Field a1 26 6 (fun r2 h => word_Field a1 22 4 (fun r3 h => al [.int .i64 0, .int .i64 0, .int .i64 0, .int .i64 0, .int .i64 0] (fun b4 h => wrL [.int .i64 r2, .int .i64 r3, .int .i64 0, .int .i64 0, .int .i64 0] (⟨b4, 0⟩ : Ptr) 0 (fun h => rdI .i64 ((⟨b4, 0⟩ : Ptr).add 0) (fun x5 => insn_Shape x5 (fun r6 r7 h => br (!r7) (wrL [.int .i64 0, .int .i64 0, .int .i64 0, .int .i64 0, .int .i64 0] (⟨b1, 0⟩ : Ptr) 0 (fun h => rdI .i64 ((⟨b1, 0⟩ : Ptr).add 0) (fun x8 => rdI .i64 ((⟨b1, 0⟩ : Ptr).add 1) (fun x9 => rdI .i64 ((⟨b1, 0⟩ : Ptr).add 2) (fun x10 => rdI .i64 ((⟨b1, 0⟩ : Ptr).add 3) (fun x11 => rdI .i64 ((⟨b1, 0⟩ : Ptr).add 4) (fun x12 => Q x8 x9 x10 x11 x12 10 h) h) h) h) h) h) h) (br (r6 == 5) (word_Field a1 0 18 (fun r13 h => word_Sign r13 18 (fun r14 h => wr ((⟨b4, 0⟩ : Ptr).add 4) (.int .i64 r14) (fun h => insn_Decode.j8 a1 (⟨b1, 0⟩ : Ptr) (⟨b4, 0⟩ : Ptr) Q h) h) h) h) (word_Field a1 18 4 (fun r15 h => word_Field a1 14 4 (fun r16 h => word_Field a1 0 14 (fun r17 h => word_Sign r17 14 (fun r18 h => wr ((⟨b4, 0⟩ : Ptr).add 2) (.int .i64 r15) (fun h => wr ((⟨b4, 0⟩ : Ptr).add 3) (.int .i64 r16) (fun h => wr ((⟨b4, 0⟩ : Ptr).add 4) (.int .i64 r18) (fun h => insn_Decode.j8 a1 (⟨b1, 0⟩ : Ptr) (⟨b4, 0⟩ : Ptr) Q h) h) h) h) h) h) h) h))) h) h) h) h) h) h) h

def strconv_Itoa (U : Ifc) (a1 : Int) (Q : (List UInt8) → Heap → Prop) (h : Heap) : Prop :=
  itoaI U 3 a1 Q h

def strings_Fields (U : Ifc) (a1 : List UInt8) (Q : Sl → Heap → Prop) (h : Heap) : Prop :=
  fieldsI (U.glob 4) a1 Q h

def slices_Index_int_int.b2  (I2 : Sl → Int → Int → Int → Heap → Prop) (a1 : Sl) (a2 : Int) (a3 : Int) (a4 : Int) (Q : Int → Heap → Prop) (h : Heap) : Prop :=
  br (decide (a4 < a3)) (ix a4 a1.len (fun n1 => der a1.p (fun p2 => rdI .i64 (p2.add (n1 * 1)) (fun x3 => br (a2 == x3) (Q a4 h) (I2 a1 a2 a3 (IntKind.i64.wrap (a4 + 1)) h)) h))) (Q (-1) h)

def slices_Index_int_int.j2  (a1 : Sl) (a2 : Int) (a3 : Int) (a4 : Int) (Q : Int → Heap → Prop) (h : Heap) : Prop :=
  ∀ I : Sl → Int → Int → Int → Heap → Prop, (∀ a1 a2 a3 a4 h, slices_Index_int_int.b2  I a1 a2 a3 a4 Q h → I a1 a2 a3 a4 h) → I a1 a2 a3 a4 h

def slices_Index_int_int (a1 : Sl) (a2 : Int) (Q : Int → Heap → Prop) (h : Heap) : Prop :=
  slices_Index_int_int.j2 a1 a2 ((a1.len : Nat) : Int) 0 Q h

def slices_Contains_int_int (a1 : Sl) (a2 : Int) (Q : Bool → Heap → Prop) (h : Heap) : Prop :=
  slices_Index_int_int a1 a2 (fun r1 h => Q (decide (r1 ≥ 0)) h) h

def asm_order (a1 : Int) (Q : (List UInt8) → Heap → Prop) (h : Heap) : Prop :=
  insn_Shape a1 (fun r1 r2 h => br (a1 == 37) (Q ([100, 97] : List UInt8) h) (br (a1 == 35) (Q ([100, 109] : List UInt8) h) (al [.int .i64 23, .int .i64 24, .int .i64 25, .int .i64 36, .int .i64 46, .int .i64 47, .int .i64 48] (fun b3 h => slices_Contains_int_int ⟨some ⟨b3, 0⟩, 7, 7⟩ a1 (fun r4 h => br r4 (Q ([100, 105, 97] : List UInt8) h) (al [.str [], .str ([100, 97, 98] : List UInt8), .str ([100, 97, 105] : List UInt8), .str ([98, 105, 97] : List UInt8), .str ([97, 98, 109] : List UInt8), .str ([100, 105] : List UInt8), .str ([97] : List UInt8)] (fun b5 h => ix r1 7 (fun n6 => rdStr ((⟨b5, 0⟩ : Ptr).add (n6 * 1)) (fun x7 => Q x7 h) h)) h)) h) h))) h

def strings_Join (a1 : Sl) (a2 : List UInt8) (Q : (List UInt8) → Heap → Prop) (h : Heap) : Prop :=
  joinI a1 a2 Q h

def asm_Show.j11 (U : Ifc) (I6 : Ptr → Sl → Ptr → Heap → Prop) (a1 : Ptr) (a2 : Sl) (a3 : Int) (a4 : Ptr) (Q : (List UInt8) → Heap → Prop) (h : Heap) : Prop :=
  strconv_Itoa U a3 (fun r1 h => catS ([120] : List UInt8) r1 (fun s2 => al [.str s2] (fun b3 h => rdN (1 * 1) (⟨b3, 0⟩ : Ptr) (fun cs5 => appS 1 16 [.str []] a2 cs5 1 (fun s4 h => I6 a1 s4 a4 h) h) h) h)) h

def asm_Show.j12 (U : Ifc) (I6 : Ptr → Sl → Ptr → Heap → Prop) (a1 : Ptr) (a2 : Sl) (a3 : Ptr) (Q : (List UInt8) → Heap → Prop) (h : Heap) : Prop :=
  rdI .i64 (a1.add 4) (fun x1 => strconv_Itoa U x1 (fun r2 h => al [.str r2] (fun b3 h => rdN (1 * 1) (⟨b3, 0⟩ : Ptr) (fun cs5 => appS 1 16 [.str []] a2 cs5 1 (fun s4 h => I6 a1 s4 a3 h) h) h) h) h) h

def asm_Show.b6 (U : Ifc)  (I6 : Ptr → Sl → Ptr → Heap → Prop) (a1 : Ptr) (a2 : Sl) (a3 : Ptr) (Q : (List UInt8) → Heap → Prop) (h : Heap) : Prop :=
  a3.o = 0 ∧ nextS a3.b (fun h => strings_Join a2 ([32] : List UInt8) (fun r3 h => Q r3 h) h) (fun i1 c2 h => alM (.int .i32) (fun b4 h => rdI .i64 (a1.add 1) (fun x5 => mapPut (.int .i32) (some b4) (.int .i32 100) (.int .i64 x5) (fun h => rdI .i64 (a1.add 2) (fun x6 => mapPut (.int .i32) (some b4) (.int .i32 97) (.int .i64 x6) (fun h => rdI .i64 (a1.add 3) (fun x7 => mapPut (.int .i32) (some b4) (.int .i32 98) (.int .i64 x7) (fun h => mapGet (.int .i32) (some b4) (.int .i32 c2) (fun o8 => asI .i64 (o8.getD (.int .i64 0)) (fun x9 => br o8.isSome (asm_Show.j11 U I6 a1 a2 x9 a3 Q h) (asm_Show.j12 U I6 a1 a2 a3 Q h))) h) h) h) h) h) h) h) h) h

def asm_Show.j6 (U : Ifc)  (a1 : Ptr) (a2 : Sl) (a3 : Ptr) (Q : (List UInt8) → Heap → Prop) (h : Heap) : Prop :=
  ∀ I : Ptr → Sl → Ptr → Heap → Prop, (∀ a1 a2 a3 h, asm_Show.b6 U  I a1 a2 a3 Q h → I a1 a2 a3 h) → I a1 a2 a3 h

def asm_Show (U : Ifc) (a1 : Int) (Q : (List UInt8) → Heap → Prop) (h : Heap) : Prop :=
  insn_Decode a1 (fun r1 r2 r3 r4 r5 r6 h => al [.int .i64 0, .int .i64 0, .int .i64 0, .int .i64 0, .int .i64 0] (fun b7 h => wrL [.int .i64 r1, .int .i64 r2, .int .i64 r3, .int .i64 r4, .int .i64 r5] (⟨b7, 0⟩ : Ptr) 0 (fun h => br (r6 != 0) (strconv_Itoa U (IntKind.i64.wrap a1) (fun r8 h => catS ([46, 119, 111, 114, 100, 32] : List UInt8) r8 (fun s9 => Q s9 h)) h) (rdI .i64 ((⟨b7, 0⟩ : Ptr).add 0) (fun x10 => strings_Fields U ([97, 100, 100, 32, 115, 117, 98, 32, 97, 110, 100, 32, 111, 114, 32, 120, 111, 114, 32, 115, 108, 108, 32, 115, 114, 108, 32, 115, 114, 97, 32, 115, 108, 116, 32, 115, 108, 116, 117, 32, 109, 117, 108, 32, 100, 105, 118, 117, 32, 114, 101, 109, 117, 32, 97, 100, 100, 105, 32, 97, 110, 100, 105, 32, 111, 114, 105, 32, 120, 111, 114, 105, 32, 115, 108, 108, 105, 32, 115, 114, 108, 105, 32, 115, 114, 97, 105, 32, 115, 108, 116, 105, 32, 108, 117, 105, 32, 108, 100, 32, 108, 119, 32, 108, 98, 32, 115, 100, 32, 115, 119, 32, 115, 98, 32, 98, 101, 113, 32, 98, 110, 101, 32, 98, 108, 116, 32, 98, 103, 101, 32, 98, 108, 116, 117, 32, 98, 103, 101, 117, 32, 106, 97, 108, 32, 106, 97, 108, 114, 32, 108, 114, 32, 115, 99, 32, 97, 109, 111, 97, 100, 100, 32, 97, 109, 111, 115, 119, 112, 32, 102, 101, 110, 99, 101, 32, 101, 99, 97, 108, 108, 32, 115, 114, 101, 116, 32, 119, 102, 105, 32, 115, 102, 101, 110, 99, 101, 32, 99, 115, 114, 114, 119, 32, 99, 115, 114, 114, 115, 32, 99, 115, 114, 114, 99] : List UInt8) (fun r11 h => ck ((⟨b7, 0⟩ : Ptr).add 0) [.int .i64 x10] 0 h ∧ (ix (IntKind.i64.wrap (x10 - 1)) r11.len (fun n12 => der r11.p (fun p13 => rdStr (p13.add (n12 * 1)) (fun x14 => al [.str x14] (fun b15 h => rdI .i64 ((⟨b7, 0⟩ : Ptr).add 0) (fun x16 => asm_order x16 (fun r17 h => rangeS r17 (fun b18 h => asm_Show.j6 U (⟨b7, 0⟩ : Ptr) ⟨some ⟨b15, 0⟩, 1, 1⟩ (⟨b18, 0⟩ : Ptr) Q h) h) h) h) h) h)))) h) h)) h) h) h

def palisaderef01_Field.j2   (Q : Int → Heap → Prop) (h : Heap) : Prop :=
  Q 0 h

def palisaderef01_Field.b5  (I5 : Int → Int → Int → Int → Heap → Prop) (a1 : Int) (a2 : Int) (a3 : Int) (a4 : Int) (Q : Int → Heap → Prop) (h : Heap) : Prop :=
  br (decide (a4 ≥ 0)) (nneg (IntKind.u64.wrap (IntKind.i64.wrap (a2 + a4))) (nz 2 (I5 a1 a2 (IntKind.i64.wrap ((IntKind.i64.wrap (a3 * 2)) + (IntKind.i64.wrap ((shrI .u32 a1 (IntKind.u64.wrap (IntKind.i64.wrap (a2 + a4)))).tmod 2)))) (IntKind.i64.wrap (a4 - 1)) h))) (Q a3 h)

def palisaderef01_Field.j5  (a1 : Int) (a2 : Int) (a3 : Int) (a4 : Int) (Q : Int → Heap → Prop) (h : Heap) : Prop :=
  ∀ I : Int → Int → Int → Int → Heap → Prop, (∀ a1 a2 a3 a4 h, palisaderef01_Field.b5  I a1 a2 a3 a4 Q h → I a1 a2 a3 a4 h) → I a1 a2 a3 a4 h

def palisaderef01_Field (a1 : Int) (a2 : Int) (a3 : Int) (Q : Int → Heap → Prop) (h : Heap) : Prop :=
  br (decide (a2 < 0)) (palisaderef01_Field.j2 Q h) (br (decide (a2 > 31)) (palisaderef01_Field.j2 Q h) (br (decide (a3 < 1)) (palisaderef01_Field.j2 Q h) (br (decide (a3 > 32)) (palisaderef01_Field.j2 Q h) (br (decide ((IntKind.i64.wrap (a2 + a3)) > 32)) (palisaderef01_Field.j2 Q h) (palisaderef01_Field.j5 a1 a2 0 (IntKind.i64.wrap (a3 - 1)) Q h)))))

def palisaderef02_Shape.j4   (Q : Int → Heap → Prop) (h : Heap) : Prop :=
  Q 2 h

def palisaderef02_Shape.j9  (a1 : Int) (Q : Int → Heap → Prop) (h : Heap) : Prop :=
  br (a1 == 22) (Q 5 h) (br (a1 == 35) (Q 5 h) (br (a1 == 45) (Q 6 h) (br (decide (a1 ≥ 41)) (br (decide (a1 ≤ 44)) (Q 0 h) (Q (-1) h)) (Q (-1) h))))

def palisaderef02_Shape.j7  (a1 : Int) (Q : Int → Heap → Prop) (h : Heap) : Prop :=
  br (decide (a1 ≥ 29)) (br (decide (a1 ≤ 34)) (Q 4 h) (palisaderef02_Shape.j9 a1 Q h)) (palisaderef02_Shape.j9 a1 Q h)

def palisaderef02_Shape.j5  (a1 : Int) (Q : Int → Heap → Prop) (h : Heap) : Prop :=
  br (decide (a1 ≥ 26)) (br (decide (a1 ≤ 28)) (Q 3 h) (palisaderef02_Shape.j7 a1 Q h)) (palisaderef02_Shape.j7 a1 Q h)

def palisaderef02_Shape.j3  (a1 : Int) (Q : Int → Heap → Prop) (h : Heap) : Prop :=
  br (decide (a1 ≥ 14)) (br (decide (a1 ≤ 21)) (palisaderef02_Shape.j4 Q h) (br (decide (a1 ≥ 23)) (br (decide (a1 ≤ 25)) (palisaderef02_Shape.j4 Q h) (br (a1 == 36) (palisaderef02_Shape.j4 Q h) (br (decide (a1 ≥ 46)) (br (decide (a1 ≤ 48)) (palisaderef02_Shape.j4 Q h) (palisaderef02_Shape.j5 a1 Q h)) (palisaderef02_Shape.j5 a1 Q h)))) (br (a1 == 36) (palisaderef02_Shape.j4 Q h) (br (decide (a1 ≥ 46)) (br (decide (a1 ≤ 48)) (palisaderef02_Shape.j4 Q h) (palisaderef02_Shape.j5 a1 Q h)) (palisaderef02_Shape.j5 a1 Q h))))) (br (decide (a1 ≥ 23)) (br (decide (a1 ≤ 25)) (palisaderef02_Shape.j4 Q h) (br (a1 == 36) (palisaderef02_Shape.j4 Q h) (br (decide (a1 ≥ 46)) (br (decide (a1 ≤ 48)) (palisaderef02_Shape.j4 Q h) (palisaderef02_Shape.j5 a1 Q h)) (palisaderef02_Shape.j5 a1 Q h)))) (br (a1 == 36) (palisaderef02_Shape.j4 Q h) (br (decide (a1 ≥ 46)) (br (decide (a1 ≤ 48)) (palisaderef02_Shape.j4 Q h) (palisaderef02_Shape.j5 a1 Q h)) (palisaderef02_Shape.j5 a1 Q h))))

def palisaderef02_Shape (a1 : Int) (Q : Int → Heap → Prop) (h : Heap) : Prop :=
  br (decide (a1 ≥ 1)) (br (decide (a1 ≤ 13)) (Q 1 h) (br (decide (a1 ≥ 37)) (br (decide (a1 ≤ 40)) (Q 1 h) (palisaderef02_Shape.j3 a1 Q h)) (palisaderef02_Shape.j3 a1 Q h))) (br (decide (a1 ≥ 37)) (br (decide (a1 ≤ 40)) (Q 1 h) (palisaderef02_Shape.j3 a1 Q h)) (palisaderef02_Shape.j3 a1 Q h))

def palisaderef01_Sign.j2   (Q : Int → Heap → Prop) (h : Heap) : Prop :=
  Q 0 h

def palisaderef01_Sign.j6  (a1 : Int) (Q : Int → Heap → Prop) (h : Heap) : Prop :=
  Q a1 h

def palisaderef01_Sign (a1 : Int) (a2 : Int) (Q : Int → Heap → Prop) (h : Heap) : Prop :=
  br (decide (a2 < 1)) (palisaderef01_Sign.j2 Q h) (br (decide (a2 > 63)) (palisaderef01_Sign.j2 Q h) (nneg (IntKind.u64.wrap a2) (nneg (IntKind.u64.wrap (IntKind.i64.wrap (a2 - 1))) (br ((shrI .i64 (ibits .and .i64 a1 (IntKind.i64.wrap ((shlI .i64 1 (IntKind.u64.wrap a2)) - 1))) (IntKind.u64.wrap (IntKind.i64.wrap (a2 - 1)))) == 1) (nneg (IntKind.u64.wrap (IntKind.i64.wrap (a2 - 1))) (nneg (IntKind.u64.wrap (IntKind.i64.wrap (a2 - 1))) (palisaderef01_Sign.j6 (IntKind.i64.wrap ((IntKind.i64.wrap ((ibits .and .i64 a1 (IntKind.i64.wrap ((shlI .i64 1 (IntKind.u64.wrap a2)) - 1))) - (shlI .i64 1 (IntKind.u64.wrap (IntKind.i64.wrap (a2 - 1)))))) - (shlI .i64 1 (IntKind.u64.wrap (IntKind.i64.wrap (a2 - 1)))))) Q h))) (palisaderef01_Sign.j6 (ibits .and .i64 a1 (IntKind.i64.wrap ((shlI .i64 1 (IntKind.u64.wrap a2)) - 1))) Q h)))))

def palisaderef02_reg (a1 : Int) (Q : Bool → Heap → Prop) (h : Heap) : Prop :=
  br (decide (a1 ≥ 0)) (Q (decide (a1 ≤ 15)) h) (Q false h)

def palisaderef01_Fits (a1 : Int) (a2 : Int) (Q : Bool → Heap → Prop) (h : Heap) : Prop :=
  br (decide (a2 ≥ 1)) (br (decide (a2 ≤ 63)) (nneg (IntKind.u64.wrap (IntKind.i64.wrap (a2 - 1))) (br (decide (a1 ≥ (IntKind.i64.wrap (0 - (shlI .i64 1 (IntKind.u64.wrap (IntKind.i64.wrap (a2 - 1)))))))) (nneg (IntKind.u64.wrap (IntKind.i64.wrap (a2 - 1))) (Q (decide (a1 ≤ (IntKind.i64.wrap ((shlI .i64 1 (IntKind.u64.wrap (IntKind.i64.wrap (a2 - 1)))) - 1)))) h)) (Q false h))) (Q false h)) (Q false h)

def palisaderef02_imm.j5  (a1 : Int) (a2 : Int) (Q : Bool → Heap → Prop) (h : Heap) : Prop :=
  palisaderef02_Shape a1 (fun r1 h => br (r1 == 2) (palisaderef01_Fits a2 14 (fun r2 h => Q r2 h) h) (br (r1 == 3) (palisaderef01_Fits a2 14 (fun r3 h => Q r3 h) h) (br (r1 == 4) (palisaderef01_Fits a2 14 (fun r4 h => Q r4 h) h) (br (r1 == 5) (palisaderef01_Fits a2 18 (fun r5 h => Q r5 h) h) (Q (a2 == 0) h))))) h

def palisaderef02_imm.j3  (a1 : Int) (a2 : Int) (Q : Bool → Heap → Prop) (h : Heap) : Prop :=
  br (decide (a1 ≥ 46)) (br (decide (a1 ≤ 48)) (br (decide (a2 ≥ 0)) (Q (decide (a2 ≤ 4095)) h) (Q false h)) (palisaderef02_imm.j5 a1 a2 Q h)) (palisaderef02_imm.j5 a1 a2 Q h)

def palisaderef02_imm (a1 : Int) (a2 : Int) (Q : Bool → Heap → Prop) (h : Heap) : Prop :=
  br (decide (a1 ≥ 18)) (br (decide (a1 ≤ 20)) (br (decide (a2 ≥ 0)) (Q (decide (a2 ≤ 63)) h) (Q false h)) (palisaderef02_imm.j3 a1 a2 Q h)) (palisaderef02_imm.j3 a1 a2 Q h)

def palisaderef02_Valid.j3   (Q : Bool → Heap → Prop) (h : Heap) : Prop :=
  Q false h

def palisaderef02_Valid.j7  (a1 : Ptr) (a2 : Bool) (a3 : Bool) (a4 : Bool) (Q : Bool → Heap → Prop) (h : Heap) : Prop :=
  br a2 (br a3 (br a4 (Q true h) (rdI .i64 (a1.add 3) (fun x1 => Q (x1 == 0) h) h)) (rdI .i64 (a1.add 2) (fun x2 => br (x2 == 0) (br a4 (Q true h) (rdI .i64 (a1.add 3) (fun x3 => Q (x3 == 0) h) h)) (Q false h)) h)) (rdI .i64 (a1.add 1) (fun x4 => br (x4 == 0) (br a3 (br a4 (Q true h) (rdI .i64 (a1.add 3) (fun x5 => Q (x5 == 0) h) h)) (rdI .i64 (a1.add 2) (fun x6 => br (x6 == 0) (br a4 (Q true h) (rdI .i64 (a1.add 3) (fun x7 => Q (x7 == 0) h) h)) (Q false h)) h)) (Q false h)) h)

def palisaderef02_Valid.j6  (a1 : Ptr) (a2 : Int) (a3 : Bool) (a4 : Bool) (Q : Bool → Heap → Prop) (h : Heap) : Prop :=
  br (a2 == 1) (rdI .i64 (a1.add 0) (fun x1 => br (x1 != 37) (palisaderef02_Valid.j7 a1 a3 a4 true Q h) (br (a2 == 3) (palisaderef02_Valid.j7 a1 a3 a4 true Q h) (palisaderef02_Valid.j7 a1 a3 a4 (a2 == 4) Q h))) h) (br (a2 == 3) (palisaderef02_Valid.j7 a1 a3 a4 true Q h) (palisaderef02_Valid.j7 a1 a3 a4 (a2 == 4) Q h))

def palisaderef02_Valid.j5  (a1 : Ptr) (a2 : Int) (a3 : Bool) (Q : Bool → Heap → Prop) (h : Heap) : Prop :=
  br (a2 != 0) (palisaderef02_Valid.j6 a1 a2 a3 (a2 != 5) Q h) (palisaderef02_Valid.j6 a1 a2 a3 false Q h)

def palisaderef02_Valid.j4  (a1 : Ptr) (a2 : Int) (Q : Bool → Heap → Prop) (h : Heap) : Prop :=
  br (a2 == 1) (palisaderef02_Valid.j5 a1 a2 true Q h) (br (a2 == 2) (palisaderef02_Valid.j5 a1 a2 true Q h) (palisaderef02_Valid.j5 a1 a2 (a2 == 5) Q h))

def palisaderef02_Valid (a1 : Int) (a2 : Int) (a3 : Int) (a4 : Int) (a5 : Int) (Q : Bool → Heap → Prop) (h : Heap) : Prop :=
  al [.int .i64 a1, .int .i64 a2, .int .i64 a3, .int .i64 a4, .int .i64 a5] (fun b1 h => rdI .i64 ((⟨b1, 0⟩ : Ptr).add 0) (fun x2 => palisaderef02_Shape x2 (fun r3 h => br (decide (r3 < 0)) (palisaderef02_Valid.j3 Q h) (rdI .i64 ((⟨b1, 0⟩ : Ptr).add 1) (fun x4 => palisaderef02_reg x4 (fun r5 h => br (!r5) (palisaderef02_Valid.j3 Q h) (rdI .i64 ((⟨b1, 0⟩ : Ptr).add 2) (fun x6 => palisaderef02_reg x6 (fun r7 h => br (!r7) (palisaderef02_Valid.j3 Q h) (rdI .i64 ((⟨b1, 0⟩ : Ptr).add 3) (fun x8 => palisaderef02_reg x8 (fun r9 h => br (!r9) (palisaderef02_Valid.j3 Q h) (rdI .i64 ((⟨b1, 0⟩ : Ptr).add 0) (fun x10 => rdI .i64 ((⟨b1, 0⟩ : Ptr).add 4) (fun x11 => palisaderef02_imm x10 x11 (fun r12 h => br (!r12) (palisaderef02_Valid.j3 Q h) (palisaderef02_Valid.j4 (⟨b1, 0⟩ : Ptr) r3 Q h)) h) h) h)) h) h)) h) h)) h) h)) h) h) h

def palisaderef01_Place.j2  (a1 : Int) (Q : Int → Heap → Prop) (h : Heap) : Prop :=
  Q a1 h

def palisaderef01_Place.j5 (I4 : Int → Int → Int → Int → Int → Heap → Prop) (a1 : Int) (a2 : Int) (a3 : Int) (a4 : Int) (a5 : Int) (Q : Int → Heap → Prop) (h : Heap) : Prop :=
  I4 a1 a2 a3 a4 (IntKind.i64.wrap (a5 + 1)) h

def palisaderef01_Place.b4  (I4 : Int → Int → Int → Int → Int → Heap → Prop) (a1 : Int) (a2 : Int) (a3 : Int) (a4 : Int) (a5 : Int) (Q : Int → Heap → Prop) (h : Heap) : Prop :=
  br (decide (a5 < a4)) (nneg (IntKind.u64.wrap (IntKind.i64.wrap (a3 + a5))) (nneg (IntKind.u64.wrap a5) (br ((ibits .and .i64 (shrI .i64 a2 (IntKind.u64.wrap a5)) 1) == 1) (palisaderef01_Place.j5 I4 (ibits .or .u32 (ibits .andNot .u32 a1 (shlI .u32 1 (IntKind.u64.wrap (IntKind.i64.wrap (a3 + a5))))) (shlI .u32 1 (IntKind.u64.wrap (IntKind.i64.wrap (a3 + a5))))) a2 a3 a4 a5 Q h) (palisaderef01_Place.j5 I4 (ibits .andNot .u32 a1 (shlI .u32 1 (IntKind.u64.wrap (IntKind.i64.wrap (a3 + a5))))) a2 a3 a4 a5 Q h)))) (Q a1 h)

def palisaderef01_Place.j4  (a1 : Int) (a2 : Int) (a3 : Int) (a4 : Int) (a5 : Int) (Q : Int → Heap → Prop) (h : Heap) : Prop :=
  ∀ I : Int → Int → Int → Int → Int → Heap → Prop, (∀ a1 a2 a3 a4 a5 h, palisaderef01_Place.b4  I a1 a2 a3 a4 a5 Q h → I a1 a2 a3 a4 a5 h) → I a1 a2 a3 a4 a5 h

def palisaderef01_Place (a1 : Int) (a2 : Int) (a3 : Int) (a4 : Int) (Q : Int → Heap → Prop) (h : Heap) : Prop :=
  br (decide (a3 < 0)) (palisaderef01_Place.j2 a1 Q h) (br (decide (a3 > 31)) (palisaderef01_Place.j2 a1 Q h) (br (decide (a4 < 1)) (palisaderef01_Place.j2 a1 Q h) (br (decide (a4 > 32)) (palisaderef01_Place.j2 a1 Q h) (br (decide ((IntKind.i64.wrap (a3 + a4)) > 32)) (palisaderef01_Place.j2 a1 Q h) (palisaderef01_Place.j4 a1 a2 a3 a4 0 Q h)))))

def palisaderef02_Encode.j9  (a1 : Ptr) (a2 : Int) (Q : Int → Int → Heap → Prop) (h : Heap) : Prop :=
  rdI .i64 (a1.add 4) (fun x1 => palisaderef01_Place a2 x1 0 14 (fun r2 h => Q r2 0 h) h) h

def palisaderef02_Encode (a1 : Int) (a2 : Int) (a3 : Int) (a4 : Int) (a5 : Int) (Q : Int → Int → Heap → Prop) (h : Heap) : Prop :=
  al [.int .i64 a1, .int .i64 a2, .int .i64 a3, .int .i64 a4, .int .i64 a5] (fun b1 h => rdI .i64 ((⟨b1, 0⟩ : Ptr).add 0) (fun x2 => rdI .i64 ((⟨b1, 0⟩ : Ptr).add 1) (fun x3 => rdI .i64 ((⟨b1, 0⟩ : Ptr).add 2) (fun x4 => rdI .i64 ((⟨b1, 0⟩ : Ptr).add 3) (fun x5 => rdI .i64 ((⟨b1, 0⟩ : Ptr).add 4) (fun x6 => palisaderef02_Valid x2 x3 x4 x5 x6 (fun r7 h => br (!r7) (Q 0 10 h) (rdI .i64 ((⟨b1, 0⟩ : Ptr).add 0) (fun x8 => palisaderef01_Place 0 x8 26 6 (fun r9 h => rdI .i64 ((⟨b1, 0⟩ : Ptr).add 1) (fun x10 => palisaderef01_Place r9 x10 22 4 (fun r11 h => rdI .i64 ((⟨b1, 0⟩ : Ptr).add 0) (fun x12 => palisaderef02_Shape x12 (fun r13 h => br (r13 == 5) (rdI .i64 ((⟨b1, 0⟩ : Ptr).add 4) (fun x14 => palisaderef01_Place r11 x14 0 18 (fun r15 h => Q r15 0 h) h) h) (rdI .i64 ((⟨b1, 0⟩ : Ptr).add 2) (fun x16 => palisaderef01_Place r11 x16 18 4 (fun r17 h => rdI .i64 ((⟨b1, 0⟩ : Ptr).add 3) (fun x18 => palisaderef01_Place r17 x18 14 4 (fun r19 h => palisaderef02_Encode.j9 (⟨b1, 0⟩ : Ptr) r19 Q h) h) h) h) h)) h) h) h) h) h) h)) h) h) h) h) h) h) h

def palisaderef02_Decode.j7  (a1 : Int) (a2 : Ptr) (a3 : Ptr) (Q : Int → Int → Int → Int → Int → Int → Heap → Prop) (h : Heap) : Prop :=
  rdI .i64 (a3.add 0) (fun x1 => rdI .i64 (a3.add 1) (fun x2 => rdI .i64 (a3.add 2) (fun x3 => rdI .i64 (a3.add 3) (fun x4 => rdI .i64 (a3.add 4) (fun x5 => palisaderef02_Encode x1 x2 x3 x4 x5 (fun r6 r7 h => br (r7 != 0) (wrL [.int .i64 0, .int .i64 0, .int .i64 0, .int .i64 0, .int .i64 0] a2 0 (fun h => rdI .i64 (a2.add 0) (fun x8 => rdI .i64 (a2.add 1) (fun x9 => rdI .i64 (a2.add 2) (fun x10 => rdI .i64 (a2.add 3) (fun x11 => rdI .i64 (a2.add 4) (fun x12 => Q x8 x9 x10 x11 x12 10 h) h) h) h) h) h) h) (br (r6 != a1) (wrL [.int .i64 0, .int .i64 0, .int .i64 0, .int .i64 0, .int .i64 0] a2 0 (fun h => rdI .i64 (a2.add 0) (fun x13 => rdI .i64 (a2.add 1) (fun x14 => rdI .i64 (a2.add 2) (fun x15 => rdI .i64 (a2.add 3) (fun x16 => rdI .i64 (a2.add 4) (fun x17 => Q x13 x14 x15 x16 x17 10 h) h) h) h) h) h) h) (rdI .i64 (a3.add 0) (fun x18 => rdI .i64 (a3.add 1) (fun x19 => rdI .i64 (a3.add 2) (fun x20 => rdI .i64 (a3.add 3) (fun x21 => rdI .i64 (a3.add 4) (fun x22 => wrL [.int .i64 x18, .int .i64 x19, .int .i64 x20, .int .i64 x21, .int .i64 x22] a2 0 (fun h => rdI .i64 (a2.add 0) (fun x23 => rdI .i64 (a2.add 1) (fun x24 => rdI .i64 (a2.add 2) (fun x25 => rdI .i64 (a2.add 3) (fun x26 => rdI .i64 (a2.add 4) (fun x27 => Q x23 x24 x25 x26 x27 0 h) h) h) h) h) h) h) h) h) h) h) h))) h) h) h) h) h) h

def palisaderef02_Decode (a1 : Int) (Q : Int → Int → Int → Int → Int → Int → Heap → Prop) (h : Heap) : Prop :=
  al [.int .i64 0, .int .i64 0, .int .i64 0, .int .i64 0, .int .i64 0] (fun b1 h => palisaderef01_Field a1 26 6 (fun r2 h => palisaderef01_Field a1 22 4 (fun r3 h => al [.int .i64 0, .int .i64 0, .int .i64 0, .int .i64 0, .int .i64 0] (fun b4 h => wrL [.int .i64 r2, .int .i64 r3, .int .i64 0, .int .i64 0, .int .i64 0] (⟨b4, 0⟩ : Ptr) 0 (fun h => rdI .i64 ((⟨b4, 0⟩ : Ptr).add 0) (fun x5 => palisaderef02_Shape x5 (fun r6 h => br (r6 == 5) (palisaderef01_Field a1 0 18 (fun r7 h => palisaderef01_Sign r7 18 (fun r8 h => wr ((⟨b4, 0⟩ : Ptr).add 4) (.int .i64 r8) (fun h => palisaderef02_Decode.j7 a1 (⟨b1, 0⟩ : Ptr) (⟨b4, 0⟩ : Ptr) Q h) h) h) h) (palisaderef01_Field a1 18 4 (fun r9 h => wr ((⟨b4, 0⟩ : Ptr).add 2) (.int .i64 r9) (fun h => palisaderef01_Field a1 14 4 (fun r10 h => wr ((⟨b4, 0⟩ : Ptr).add 3) (.int .i64 r10) (fun h => palisaderef01_Field a1 0 14 (fun r11 h => palisaderef01_Sign r11 14 (fun r12 h => wr ((⟨b4, 0⟩ : Ptr).add 4) (.int .i64 r12) (fun h => palisaderef02_Decode.j7 a1 (⟨b1, 0⟩ : Ptr) (⟨b4, 0⟩ : Ptr) Q h) h) h) h) h) h) h) h)) h) h) h) h) h) h) h

def palisaderef03_Decimal (U : Ifc) (a1 : Int) (Q : (List UInt8) → Heap → Prop) (h : Heap) : Prop :=
  br (decide (a1 < 0)) (U.callV (.fn 334 []) [.int .i64 (IntKind.i64.wrap (0 - a1))] (fun r1 h => asStr r1 (fun x2 => catS ([45] : List UInt8) x2 (fun s3 => Q s3 h))) h) (br (decide (a1 < 10)) (al [.int .u8 (IntKind.u8.wrap (IntKind.i64.wrap (48 + a1)))] (fun b4 h => cellsS 1 ⟨some ⟨b4, 0⟩, 1, 1⟩ (fun cs5 => bytesOf cs5 (fun s6 => Q s6 h)) h) h) (nz 10 (U.callV (.fn 334 []) [.int .i64 (IntKind.i64.wrap (a1.tdiv 10))] (fun r7 h => asStr r7 (fun x8 => nz 10 (U.callV (.fn 334 []) [.int .i64 (a1.tmod 10)] (fun r9 h => asStr r9 (fun x10 => catS x8 x10 (fun s11 => Q s11 h))) h))) h)))

def palisaderef03_Names  (Q : Sl → Heap → Prop) (h : Heap) : Prop :=
  al [.str ([97, 100, 100] : List UInt8), .str ([115, 117, 98] : List UInt8), .str ([97, 110, 100] : List UInt8), .str ([111, 114] : List UInt8), .str ([120, 111, 114] : List UInt8), .str ([115, 108, 108] : List UInt8), .str ([115, 114, 108] : List UInt8), .str ([115, 114, 97] : List UInt8), .str ([115, 108, 116] : List UInt8), .str ([115, 108, 116, 117] : List UInt8), .str ([109, 117, 108] : List UInt8), .str ([100, 105, 118, 117] : List UInt8), .str ([114, 101, 109, 117] : List UInt8), .str ([97, 100, 100, 105] : List UInt8), .str ([97, 110, 100, 105] : List UInt8), .str ([111, 114, 105] : List UInt8), .str ([120, 111, 114, 105] : List UInt8), .str ([115, 108, 108, 105] : List UInt8), .str ([115, 114, 108, 105] : List UInt8), .str ([115, 114, 97, 105] : List UInt8), .str ([115, 108, 116, 105] : List UInt8), .str ([108, 117, 105] : List UInt8), .str ([108, 100] : List UInt8), .str ([108, 119] : List UInt8), .str ([108, 98] : List UInt8), .str ([115, 100] : List UInt8), .str ([115, 119] : List UInt8), .str ([115, 98] : List UInt8), .str ([98, 101, 113] : List UInt8), .str ([98, 110, 101] : List UInt8), .str ([98, 108, 116] : List UInt8), .str ([98, 103, 101] : List UInt8), .str ([98, 108, 116, 117] : List UInt8), .str ([98, 103, 101, 117] : List UInt8), .str ([106, 97, 108] : List UInt8), .str ([106, 97, 108, 114] : List UInt8), .str ([108, 114] : List UInt8), .str ([115, 99] : List UInt8), .str ([97, 109, 111, 97, 100, 100] : List UInt8), .str ([97, 109, 111, 115, 119, 112] : List UInt8), .str ([102, 101, 110, 99, 101] : List UInt8), .str ([101, 99, 97, 108, 108] : List UInt8), .str ([115, 114, 101, 116] : List UInt8), .str ([119, 102, 105] : List UInt8), .str ([115, 102, 101, 110, 99, 101] : List UInt8), .str ([99, 115, 114, 114, 119] : List UInt8), .str ([99, 115, 114, 114, 115] : List UInt8), .str ([99, 115, 114, 114, 99] : List UInt8)] (fun b1 h => Q ⟨some ⟨b1, 0⟩, 48, 48⟩ h) h

def palisaderef03_Order (a1 : Int) (Q : (List UInt8) → Heap → Prop) (h : Heap) : Prop :=
  palisaderef02_Shape a1 (fun r1 h => br (r1 == 1) (br (a1 == 37) (Q ([100, 97] : List UInt8) h) (Q ([100, 97, 98] : List UInt8) h)) (br (r1 == 2) (br (decide (a1 ≥ 23)) (br (decide (a1 ≤ 25)) (Q ([100, 105, 97] : List UInt8) h) (br (a1 == 36) (Q ([100, 105, 97] : List UInt8) h) (br (decide (a1 ≥ 46)) (Q ([100, 105, 97] : List UInt8) h) (Q ([100, 97, 105] : List UInt8) h)))) (br (a1 == 36) (Q ([100, 105, 97] : List UInt8) h) (br (decide (a1 ≥ 46)) (Q ([100, 105, 97] : List UInt8) h) (Q ([100, 97, 105] : List UInt8) h)))) (br (r1 == 3) (Q ([98, 105, 97] : List UInt8) h) (br (r1 == 4) (Q ([97, 98, 109] : List UInt8) h) (br (r1 == 5) (br (a1 == 35) (Q ([100, 109] : List UInt8) h) (Q ([100, 105] : List UInt8) h)) (br (r1 == 6) (Q ([97] : List UInt8) h) (Q [] h))))))) h

def palisaderef03_Show.j8 (U : Ifc) (I7 : Ptr → (List UInt8) → (List UInt8) → Int → Heap → Prop) (a1 : Ptr) (a2 : List UInt8) (a3 : List UInt8) (a4 : Int) (Q : (List UInt8) → Heap → Prop) (h : Heap) : Prop :=
  I7 a1 a2 a3 (IntKind.i64.wrap (a4 + 1)) h

def palisaderef03_Show.j17 (U : Ifc) (I7 : Ptr → (List UInt8) → (List UInt8) → Int → Heap → Prop) (a1 : Ptr) (a2 : List UInt8) (a3 : List UInt8) (a4 : Int) (a5 : List UInt8) (Q : (List UInt8) → Heap → Prop) (h : Heap) : Prop :=
  catS a2 ([32] : List UInt8) (fun s1 => catS s1 a5 (fun s2 => palisaderef03_Show.j8 U I7 a1 s2 a3 a4 Q h))

def palisaderef03_Show.b7 (U : Ifc)  (I7 : Ptr → (List UInt8) → (List UInt8) → Int → Heap → Prop) (a1 : Ptr) (a2 : List UInt8) (a3 : List UInt8) (a4 : Int) (Q : (List UInt8) → Heap → Prop) (h : Heap) : Prop :=
  br (decide (a4 < (a3.length : Int))) (rdI .i64 (a1.add 4) (fun x1 => palisaderef03_Decimal U x1 (fun r2 h => ix a4 a3.length (fun n3 => br (((a3.getD n3 0).toNat : Int) == 100) (rdI .i64 (a1.add 1) (fun x4 => palisaderef03_Decimal U x4 (fun r5 h => catS ([120] : List UInt8) r5 (fun s6 => palisaderef03_Show.j17 U I7 a1 a2 a3 a4 s6 Q h)) h) h) (br (((a3.getD n3 0).toNat : Int) == 97) (rdI .i64 (a1.add 2) (fun x7 => palisaderef03_Decimal U x7 (fun r8 h => catS ([120] : List UInt8) r8 (fun s9 => palisaderef03_Show.j17 U I7 a1 a2 a3 a4 s9 Q h)) h) h) (br (((a3.getD n3 0).toNat : Int) == 98) (rdI .i64 (a1.add 3) (fun x10 => palisaderef03_Decimal U x10 (fun r11 h => catS ([120] : List UInt8) r11 (fun s12 => palisaderef03_Show.j17 U I7 a1 a2 a3 a4 s12 Q h)) h) h) (palisaderef03_Show.j17 U I7 a1 a2 a3 a4 r2 Q h))))) h) h) (Q a2 h)

def palisaderef03_Show.j7 (U : Ifc)  (a1 : Ptr) (a2 : List UInt8) (a3 : List UInt8) (a4 : Int) (Q : (List UInt8) → Heap → Prop) (h : Heap) : Prop :=
  ∀ I : Ptr → (List UInt8) → (List UInt8) → Int → Heap → Prop, (∀ a1 a2 a3 a4 h, palisaderef03_Show.b7 U  I a1 a2 a3 a4 Q h → I a1 a2 a3 a4 h) → I a1 a2 a3 a4 h

def palisaderef03_Show (U : Ifc) (a1 : Int) (Q : (List UInt8) → Heap → Prop) (h : Heap) : Prop :=
  palisaderef02_Decode a1 (fun r1 r2 r3 r4 r5 r6 h => al [.int .i64 0, .int .i64 0, .int .i64 0, .int .i64 0, .int .i64 0] (fun b7 h => wrL [.int .i64 r1, .int .i64 r2, .int .i64 r3, .int .i64 r4, .int .i64 r5] (⟨b7, 0⟩ : Ptr) 0 (fun h => br (r6 != 0) (palisaderef01_Field a1 0 32 (fun r8 h => palisaderef03_Decimal U r8 (fun r9 h => catS ([46, 119, 111, 114, 100, 32] : List UInt8) r9 (fun s10 => Q s10 h)) h) h) (rdI .i64 ((⟨b7, 0⟩ : Ptr).add 0) (fun x11 => palisaderef03_Names (fun r12 h => ck ((⟨b7, 0⟩ : Ptr).add 0) [.int .i64 x11] 0 h ∧ (ix (IntKind.i64.wrap (x11 - 1)) r12.len (fun n13 => der r12.p (fun p14 => rdStr (p14.add (n13 * 1)) (fun x15 => rdI .i64 ((⟨b7, 0⟩ : Ptr).add 0) (fun x16 => palisaderef03_Order x16 (fun r17 h => palisaderef03_Show.j7 U (⟨b7, 0⟩ : Ptr) x15 r17 0 Q h) h) h) h)))) h) h)) h) h) h

def palisadelaw03_AsmShows (U : Ifc) (a1 : Int) (Q : Bool → Heap → Prop) (h : Heap) : Prop :=
  asm_Show U a1 (fun r1 h => palisaderef03_Show U a1 (fun r2 h => Q (r1 == r2) h) h) h

end Go.Fn
