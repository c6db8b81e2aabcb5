/- The shallow functions. PRINTED by lift.py. -/
import Derived.Test.YtlnigofbpnehlaaLiftB
set_option linter.unusedVariables false
set_option maxRecDepth 100000
namespace Go.Fn
open Go.Lift



def disk_New (a1 : Int) (Q : (Option Ptr) → Int → Heap → Prop) (h : Heap) : Prop :=
  br (decide (a1 < 1)) (Q none 2 h) (br (decide (a1 > 65536)) (Q none 2 h) (alM (.int .i64) (fun b1 h => al [.int .i64 a1, .map (some b1), .sl ⟨none, 0, 0⟩] (fun b2 h => Q (some (⟨b2, 0⟩ : Ptr)) 0 h) h) h))

def mem_New (a1 : Int) (Q : (Option Ptr) → Int → Heap → Prop) (h : Heap) : Prop :=
  br (decide (a1 < 1)) (Q none 2 h) (br (decide (a1 > 65536)) (Q none 2 h) (mkSl 1 [.int .u8 0] (IntKind.i64.wrap (a1 * 256)) (IntKind.i64.wrap (a1 * 256)) (fun s1 h => al [.sl s1] (fun b2 h => Q (some (⟨b2, 0⟩ : Ptr)) 0 h) h) h))

def mem_Memory_none (a1 : Option Ptr) (Q : Bool → Heap → Prop) (h : Heap) : Prop :=
  br a1.isNone (Q true h) (der a1 (fun p1 => rdSl (p1.add 0) (fun x2 => Q x2.p.isNone h) h))

def mem_Memory_part_c1 (a1 : Ptr) (a2 : Ptr) (a3 : Ptr) (Q : Bool → Heap → Prop) (h : Heap) : Prop :=
  rdI .i64 a1 (fun x1 => rdP a2 (fun x2 => der x2 (fun p3 => rdSl (p3.add 0) (fun x4 => br (decide (x1 ≤ ((x4.len : Nat) : Int))) (rdI .u64 a3 (fun x5 => rdP a2 (fun x6 => der x6 (fun p7 => rdSl (p7.add 0) (fun x8 => rdI .i64 a1 (fun x9 => Q (decide (x5 ≤ (IntKind.u64.wrap (IntKind.i64.wrap (((x8.len : Nat) : Int) - x9))))) h) h) h)) h) h) (Q false h)) h)) h) h

def mem_Memory_part (a1 : Option Ptr) (a2 : Int) (a3 : Int) (Q : Sl → Int → Heap → Prop) (h : Heap) : Prop :=
  al [.ptr a1] (fun b1 h => al [.int .u64 a2] (fun b2 h => al [.int .i64 a3] (fun b3 h => rdP (⟨b1, 0⟩ : Ptr) (fun x4 => mem_Memory_none x4 (fun r5 h => br r5 (Q ⟨none, 0, 0⟩ 1 h) (rdI .i64 (⟨b3, 0⟩ : Ptr) (fun x6 => br (decide (x6 < 0)) (Q ⟨none, 0, 0⟩ 2 h) (mem_Memory_part_c1 (⟨b3, 0⟩ : Ptr) (⟨b1, 0⟩ : Ptr) (⟨b2, 0⟩ : Ptr) (fun r7 h => br (!r7) (Q ⟨none, 0, 0⟩ 12 h) (rdI .u64 (⟨b2, 0⟩ : Ptr) (fun x8 => rdI .i64 (⟨b3, 0⟩ : Ptr) (fun x9 => rdP (⟨b1, 0⟩ : Ptr) (fun x10 => der x10 (fun p11 => rdSl (p11.add 0) (fun x12 => rdI .u64 (⟨b2, 0⟩ : Ptr) (fun x13 => sb (IntKind.i64.wrap ((IntKind.i64.wrap x8) + x9)) x12.cap (fun n14 => sb (IntKind.i64.wrap ((IntKind.i64.wrap x8) + x9)) n14 (fun n15 => sb x13 n15 (fun n16 => Q ⟨slp x12.p (n16 * 1) n16 n14, n15 - n16, n14 - n16⟩ 0 h)))) h) h)) h) h) h)) h)) h)) h) h) h) h) h

def mem_Memory_Put (a1 : Option Ptr) (a2 : Int) (a3 : Sl) (Q : Int → Heap → Prop) (h : Heap) : Prop :=
  mem_Memory_part a1 a2 ((a3.len : Nat) : Int) (fun r1 r2 h => br (r2 == 0) (cellsS 1 a3 (fun cs3 => copyS 1 r1 cs3 a3.len (fun x4 h => Q r2 h) h) h) (Q r2 h)) h

def disk_Disk_none (a1 : Option Ptr) (Q : Bool → Heap → Prop) (h : Heap) : Prop :=
  br a1.isNone (Q true h) (der a1 (fun p1 => rdM (p1.add 1) (fun x2 => Q x2.isNone h) h))

def disk_Disk_wrong (a1 : Option Ptr) (a2 : Int) (Q : Int → Heap → Prop) (h : Heap) : Prop :=
  disk_Disk_none a1 (fun r1 h => br r1 (Q 1 h) (br (decide (a2 < 0)) (Q 12 h) (der a1 (fun p2 => rdI .i64 (p2.add 0) (fun x3 => br (decide (a2 ≥ x3)) (Q 12 h) (Q 0 h)) h)))) h

def slices_IndexFunc_disk_Request_disk_Request.b2 (U : Ifc)  (I2 : Sl → V → Int → Int → Heap → Prop) (a1 : Sl) (a2 : V) (a3 : Int) (a4 : Int) (Q : Int → Heap → Prop) (h : Heap) : Prop :=
  br (decide (a4 < a3)) (ix a4 a1.len (fun n1 => der a1.p (fun p2 => rdI .i64 ((p2.add (n1 * 4)).add 0) (fun x3 => rdB ((p2.add (n1 * 4)).add 1) (fun x4 => rdI .i64 ((p2.add (n1 * 4)).add 2) (fun x5 => rdI .i64 ((p2.add (n1 * 4)).add 3) (fun x6 => U.callV a2 [.agg [.int .i64 x3, .bool x4, .int .i64 x5, .int .i64 x6]] (fun r7 h => asB r7 (fun x8 => br x8 (Q a4 h) (I2 a1 a2 a3 (IntKind.i64.wrap (a4 + 1)) h))) h) h) h) h) h))) (Q (-1) h)

def slices_IndexFunc_disk_Request_disk_Request.j2 (U : Ifc)  (a1 : Sl) (a2 : V) (a3 : Int) (a4 : Int) (Q : Int → Heap → Prop) (h : Heap) : Prop :=
  ∀ I : Sl → V → Int → Int → Heap → Prop, (∀ a1 a2 a3 a4 h, slices_IndexFunc_disk_Request_disk_Request.b2 U  I a1 a2 a3 a4 Q h → I a1 a2 a3 a4 h) → I a1 a2 a3 a4 h

def slices_IndexFunc_disk_Request_disk_Request (U : Ifc) (a1 : Sl) (a2 : V) (Q : Int → Heap → Prop) (h : Heap) : Prop :=
  slices_IndexFunc_disk_Request_disk_Request.j2 U a1 a2 ((a1.len : Nat) : Int) 0 Q h

def slices_ContainsFunc_disk_Request_disk_Request (U : Ifc) (a1 : Sl) (a2 : V) (Q : Bool → Heap → Prop) (h : Heap) : Prop :=
  slices_IndexFunc_disk_Request_disk_Request U a1 a2 (fun r1 h => Q (decide (r1 ≥ 0)) h) h

def disk_Disk_Submit.j9 (U : Ifc)   (Q : Int → Heap → Prop) (h : Heap) : Prop :=
  Q 0 h

def disk_Disk_Submit (U : Ifc) (a1 : Option Ptr) (a2 : Int) (a3 : Bool) (a4 : Int) (a5 : Int) (Q : Int → Heap → Prop) (h : Heap) : Prop :=
  al [.int .i64 a2, .bool a3, .int .i64 a4, .int .i64 a5] (fun b1 h => rdI .i64 ((⟨b1, 0⟩ : Ptr).add 2) (fun x2 => disk_Disk_wrong a1 x2 (fun r3 h => br (r3 != 0) (Q r3 h) (der a1 (fun p4 => rdSl (p4.add 2) (fun x5 => slices_ContainsFunc_disk_Request_disk_Request U x5 (.fn 3 [.ptr (some (⟨b1, 0⟩ : Ptr))]) (fun r6 h => br r6 (Q 13 h) (der a1 (fun p7 => rdSl (p7.add 2) (fun x8 => br (decide (((x8.len : Nat) : Int) ≥ 8)) (Q 18 h) (der a1 (fun p9 => rdSl (p9.add 2) (fun x10 => rdI .i64 ((⟨b1, 0⟩ : Ptr).add 0) (fun x11 => rdB ((⟨b1, 0⟩ : Ptr).add 1) (fun x12 => rdI .i64 ((⟨b1, 0⟩ : Ptr).add 2) (fun x13 => rdI .i64 ((⟨b1, 0⟩ : Ptr).add 3) (fun x14 => al [.int .i64 x11, .bool x12, .int .i64 x13, .int .i64 x14] (fun b15 h => ck (p9.add 2) [.sl x10] 0 h ∧ (rdN (1 * 4) (⟨b15, 0⟩ : Ptr) (fun cs17 => appS 4 32 [.int .i64 0, .bool false, .int .i64 0, .int .i64 0] x10 cs17 1 (fun s16 h => der a1 (fun p18 => wr (p18.add 2) (.sl s16) (fun h => disk_Disk_Submit.j9 U Q h) h)) h) h)) h) h) h) h) h) h))) h))) h) h))) h) h) h

def mem_Memory_Frames (a1 : Option Ptr) (Q : Int → Heap → Prop) (h : Heap) : Prop :=
  mem_Memory_none a1 (fun r1 h => br r1 (Q 0 h) (der a1 (fun p2 => rdSl (p2.add 0) (fun x3 => nz 256 (Q (IntKind.i64.wrap (((x3.len : Nat) : Int).tdiv 256)) h)) h))) h

def slices_DeleteFunc_disk_Request_disk_Request.j6 (U : Ifc) (I5 : Sl → V → Int → Int → Heap → Prop) (a1 : Sl) (a2 : V) (a3 : Int) (a4 : Int) (Q : Sl → Heap → Prop) (h : Heap) : Prop :=
  I5 a1 a2 a3 (IntKind.i64.wrap (a4 + 1)) h

def slices_DeleteFunc_disk_Request_disk_Request.b5 (U : Ifc)  (I5 : Sl → V → Int → Int → Heap → Prop) (a1 : Sl) (a2 : V) (a3 : Int) (a4 : Int) (Q : Sl → Heap → Prop) (h : Heap) : Prop :=
  br (decide (a4 < ((a1.len : Nat) : Int))) (ix a4 a1.len (fun n1 => der a1.p (fun p2 => rdI .i64 ((p2.add (n1 * 4)).add 0) (fun x3 => rdB ((p2.add (n1 * 4)).add 1) (fun x4 => rdI .i64 ((p2.add (n1 * 4)).add 2) (fun x5 => rdI .i64 ((p2.add (n1 * 4)).add 3) (fun x6 => al [.int .i64 0, .bool false, .int .i64 0, .int .i64 0] (fun b7 h => wrL [.int .i64 x3, .bool x4, .int .i64 x5, .int .i64 x6] (⟨b7, 0⟩ : Ptr) 0 (fun h => rdI .i64 ((⟨b7, 0⟩ : Ptr).add 0) (fun x8 => rdB ((⟨b7, 0⟩ : Ptr).add 1) (fun x9 => rdI .i64 ((⟨b7, 0⟩ : Ptr).add 2) (fun x10 => rdI .i64 ((⟨b7, 0⟩ : Ptr).add 3) (fun x11 => U.callV a2 [.agg [.int .i64 x8, .bool x9, .int .i64 x10, .int .i64 x11]] (fun r12 h => asB r12 (fun x13 => br (!x13) (rdI .i64 ((⟨b7, 0⟩ : Ptr).add 0) (fun x14 => rdB ((⟨b7, 0⟩ : Ptr).add 1) (fun x15 => rdI .i64 ((⟨b7, 0⟩ : Ptr).add 2) (fun x16 => rdI .i64 ((⟨b7, 0⟩ : Ptr).add 3) (fun x17 => ix a3 a1.len (fun n18 => der a1.p (fun p19 => wrL [.int .i64 x14, .bool x15, .int .i64 x16, .int .i64 x17] (p19.add (n18 * 4)) 0 (fun h => slices_DeleteFunc_disk_Request_disk_Request.j6 U I5 a1 a2 (IntKind.i64.wrap (a3 + 1)) a4 Q h) h))) h) h) h) h) (slices_DeleteFunc_disk_Request_disk_Request.j6 U I5 a1 a2 a3 a4 Q h))) h) h) h) h) h) h) h) h) h) h) h))) (sb a3 a1.len (fun n20 => clearS [.int .i64 0, .bool false, .int .i64 0, .int .i64 0] ⟨slp a1.p (n20 * 4) n20 a1.cap, a1.len - n20, a1.cap - n20⟩ (fun h => sb a3 a1.cap (fun n21 => Q ⟨slp a1.p (0 * 4) 0 a1.cap, n21 - 0, a1.cap - 0⟩ h)) h))

def slices_DeleteFunc_disk_Request_disk_Request.j5 (U : Ifc)  (a1 : Sl) (a2 : V) (a3 : Int) (a4 : Int) (Q : Sl → Heap → Prop) (h : Heap) : Prop :=
  ∀ I : Sl → V → Int → Int → Heap → Prop, (∀ a1 a2 a3 a4 h, slices_DeleteFunc_disk_Request_disk_Request.b5 U  I a1 a2 a3 a4 Q h → I a1 a2 a3 a4 h) → I a1 a2 a3 a4 h

def slices_DeleteFunc_disk_Request_disk_Request (U : Ifc) (a1 : Sl) (a2 : V) (Q : Sl → Heap → Prop) (h : Heap) : Prop :=
  slices_IndexFunc_disk_Request_disk_Request U a1 a2 (fun r1 h => br (r1 == (-1)) (Q a1 h) (slices_DeleteFunc_disk_Request_disk_Request.j5 U a1 a2 r1 (IntKind.i64.wrap (r1 + 1)) Q h)) h

def bytes_Clone (a1 : Sl) (Q : Sl → Heap → Prop) (h : Heap) : Prop :=
  br a1.p.isNone (Q ⟨none, 0, 0⟩ h) (al [] (fun b1 h => cellsS 1 a1 (fun cs3 => appS 1 1 [.int .u8 0] ⟨some ⟨b1, 0⟩, 0, 0⟩ cs3 a1.len (fun s2 h => Q s2 h) h) h) h)

def mem_Memory_Bytes (a1 : Option Ptr) (a2 : Int) (a3 : Int) (Q : Sl → Int → Heap → Prop) (h : Heap) : Prop :=
  mem_Memory_part a1 a2 a3 (fun r1 r2 h => bytes_Clone r1 (fun r3 h => Q r3 r2 h) h) h

def slices_IndexFunc_byte_byte.b2 (U : Ifc)  (I2 : Sl → V → Int → Int → Heap → Prop) (a1 : Sl) (a2 : V) (a3 : Int) (a4 : Int) (Q : Int → Heap → Prop) (h : Heap) : Prop :=
  br (decide (a4 < a3)) (ix a4 a1.len (fun n1 => der a1.p (fun p2 => rdI .u8 (p2.add (n1 * 1)) (fun x3 => U.callV a2 [.int .u8 x3] (fun r4 h => asB r4 (fun x5 => br x5 (Q a4 h) (I2 a1 a2 a3 (IntKind.i64.wrap (a4 + 1)) h))) h) h))) (Q (-1) h)

def slices_IndexFunc_byte_byte.j2 (U : Ifc)  (a1 : Sl) (a2 : V) (a3 : Int) (a4 : Int) (Q : Int → Heap → Prop) (h : Heap) : Prop :=
  ∀ I : Sl → V → Int → Int → Heap → Prop, (∀ a1 a2 a3 a4 h, slices_IndexFunc_byte_byte.b2 U  I a1 a2 a3 a4 Q h → I a1 a2 a3 a4 h) → I a1 a2 a3 a4 h

def slices_IndexFunc_byte_byte (U : Ifc) (a1 : Sl) (a2 : V) (Q : Int → Heap → Prop) (h : Heap) : Prop :=
  slices_IndexFunc_byte_byte.j2 U a1 a2 ((a1.len : Nat) : Int) 0 Q h

def slices_ContainsFunc_byte_byte (U : Ifc) (a1 : Sl) (a2 : V) (Q : Bool → Heap → Prop) (h : Heap) : Prop :=
  slices_IndexFunc_byte_byte U a1 a2 (fun r1 h => Q (decide (r1 ≥ 0)) h) h

def slices_Clone_byte_byte (a1 : Sl) (Q : Sl → Heap → Prop) (h : Heap) : Prop :=
  br a1.p.isNone (Q ⟨none, 0, 0⟩ h) (al [] (fun b1 h => cellsS 1 a1 (fun cs3 => appS 1 1 [.int .u8 0] ⟨some ⟨b1, 0⟩, 0, 0⟩ cs3 a1.len (fun s2 h => Q s2 h) h) h) h)

def disk_Disk_Put (U : Ifc) (a1 : Option Ptr) (a2 : Int) (a3 : Sl) (Q : Int → Heap → Prop) (h : Heap) : Prop :=
  disk_Disk_wrong a1 a2 (fun r1 h => br (r1 != 0) (Q r1 h) (br (((a3.len : Nat) : Int) != 256) (Q 2 h) (slices_ContainsFunc_byte_byte U a3 (.fn 57 []) (fun r2 h => br (!r2) (der a1 (fun p3 => rdM (p3.add 1) (fun x4 => mapDel (.int .i64) x4 (.int .i64 a2) (fun h => Q 0 h) h) h)) (der a1 (fun p5 => rdM (p5.add 1) (fun x6 => slices_Clone_byte_byte a3 (fun r7 h => ck (p5.add 1) [.map x6] 0 h ∧ (mapPut (.int .i64) x6 (.int .i64 a2) (.sl r7) (fun h => Q 0 h) h)) h) h))) h))) h

def disk_Disk_Block (a1 : Option Ptr) (a2 : Int) (Q : Sl → Int → Heap → Prop) (h : Heap) : Prop :=
  disk_Disk_wrong a1 a2 (fun r1 h => br (r1 != 0) (Q ⟨none, 0, 0⟩ r1 h) (mkSl 1 [.int .u8 0] 256 256 (fun s2 h => der a1 (fun p3 => rdM (p3.add 1) (fun x4 => mapGet (.int .i64) x4 (.int .i64 a2) (fun o5 => asSl (o5.getD (.sl ⟨none, 0, 0⟩)) (fun x6 => cellsS 1 x6 (fun cs7 => copyS 1 s2 cs7 x6.len (fun x8 h => Q s2 0 h) h) h)) h) h)) h)) h

def disk_Disk_Complete.j2 (U : Ifc)  (a1 : Ptr) (Q : Int → Bool → Int → Int → Int → Heap → Prop) (h : Heap) : Prop :=
  wrL [.int .i64 0, .bool false, .int .i64 0, .int .i64 0] a1 0 (fun h => rdI .i64 (a1.add 0) (fun x1 => rdB (a1.add 1) (fun x2 => rdI .i64 (a1.add 2) (fun x3 => rdI .i64 (a1.add 3) (fun x4 => Q x1 x2 x3 x4 1 h) h) h) h) h) h

def disk_Disk_Complete.j4 (U : Ifc)  (a1 : Ptr) (Q : Int → Bool → Int → Int → Int → Heap → Prop) (h : Heap) : Prop :=
  wrL [.int .i64 0, .bool false, .int .i64 0, .int .i64 0] a1 0 (fun h => rdI .i64 (a1.add 0) (fun x1 => rdB (a1.add 1) (fun x2 => rdI .i64 (a1.add 2) (fun x3 => rdI .i64 (a1.add 3) (fun x4 => Q x1 x2 x3 x4 14 h) h) h) h) h) h

def disk_Disk_Complete.j8 (U : Ifc)  (a1 : Ptr) (a2 : Ptr) (Q : Int → Bool → Int → Int → Int → Heap → Prop) (h : Heap) : Prop :=
  rdI .i64 (a2.add 0) (fun x1 => rdB (a2.add 1) (fun x2 => rdI .i64 (a2.add 2) (fun x3 => rdI .i64 (a2.add 3) (fun x4 => wrL [.int .i64 x1, .bool x2, .int .i64 x3, .int .i64 x4] a1 0 (fun h => rdI .i64 (a1.add 0) (fun x5 => rdB (a1.add 1) (fun x6 => rdI .i64 (a1.add 2) (fun x7 => rdI .i64 (a1.add 3) (fun x8 => Q x5 x6 x7 x8 12 h) h) h) h) h) h) h) h) h) h

def disk_Disk_Complete.j10 (U : Ifc)  (a1 : Option Ptr) (a2 : Option Ptr) (a3 : Ptr) (a4 : Ptr) (a5 : Int) (Q : Int → Bool → Int → Int → Int → Heap → Prop) (h : Heap) : Prop :=
  rdB (a4.add 1) (fun x1 => br x1 (mem_Memory_Bytes a2 a5 256 (fun r2 r3 h => rdI .i64 (a4.add 0) (fun x4 => rdB (a4.add 1) (fun x5 => rdI .i64 (a4.add 2) (fun x6 => rdI .i64 (a4.add 3) (fun x7 => rdI .i64 (a4.add 2) (fun x8 => disk_Disk_Put U a1 x8 r2 (fun r9 h => ck a4 [.int .i64 x4, .bool x5, .int .i64 x6, .int .i64 x7] 0 h ∧ (wrL [.int .i64 x4, .bool x5, .int .i64 x6, .int .i64 x7] a3 0 (fun h => rdI .i64 (a3.add 0) (fun x10 => rdB (a3.add 1) (fun x11 => rdI .i64 (a3.add 2) (fun x12 => rdI .i64 (a3.add 3) (fun x13 => Q x10 x11 x12 x13 r9 h) h) h) h) h) h)) h) h) h) h) h) h) h) (rdI .i64 (a4.add 2) (fun x14 => disk_Disk_Block a1 x14 (fun r15 r16 h => rdI .i64 (a4.add 0) (fun x17 => rdB (a4.add 1) (fun x18 => rdI .i64 (a4.add 2) (fun x19 => rdI .i64 (a4.add 3) (fun x20 => mem_Memory_Put a2 a5 r15 (fun r21 h => ck a4 [.int .i64 x17, .bool x18, .int .i64 x19, .int .i64 x20] 0 h ∧ (wrL [.int .i64 x17, .bool x18, .int .i64 x19, .int .i64 x20] a3 0 (fun h => rdI .i64 (a3.add 0) (fun x22 => rdB (a3.add 1) (fun x23 => rdI .i64 (a3.add 2) (fun x24 => rdI .i64 (a3.add 3) (fun x25 => Q x22 x23 x24 x25 r21 h) h) h) h) h) h)) h) h) h) h) h) h) h)) h

def disk_Disk_Complete.j6 (U : Ifc)  (a1 : Option Ptr) (a2 : Option Ptr) (a3 : Ptr) (a4 : Ptr) (Q : Int → Bool → Int → Int → Int → Heap → Prop) (h : Heap) : Prop :=
  der a1 (fun p1 => rdSl (p1.add 2) (fun x2 => slices_DeleteFunc_disk_Request_disk_Request U x2 (.fn 56 [.ptr (some a4)]) (fun r3 h => der a1 (fun p4 => wr (p4.add 2) (.sl r3) (fun h => rdI .i64 (a4.add 3) (fun x5 => br (decide (x5 < 0)) (disk_Disk_Complete.j8 U a3 a4 Q h) (rdI .i64 (a4.add 3) (fun x6 => mem_Memory_Frames a2 (fun r7 h => ck (a4.add 3) [.int .i64 x6] 0 h ∧ (br (decide (x6 ≥ r7)) (disk_Disk_Complete.j8 U a3 a4 Q h) (rdI .i64 (a4.add 3) (fun x8 => disk_Disk_Complete.j10 U a1 a2 a3 a4 (IntKind.u64.wrap ((IntKind.u64.wrap x8) * 256)) Q h) h))) h) h)) h) h)) h) h)

def disk_Disk_Complete (U : Ifc) (a1 : Option Ptr) (a2 : Option Ptr) (a3 : Int) (Q : Int → Bool → Int → Int → Int → Heap → Prop) (h : Heap) : Prop :=
  al [.int .i64 0, .bool false, .int .i64 0, .int .i64 0] (fun b1 h => disk_Disk_none a1 (fun r2 h => br r2 (disk_Disk_Complete.j2 U (⟨b1, 0⟩ : Ptr) Q h) (mem_Memory_Frames a2 (fun r3 h => br (r3 == 0) (disk_Disk_Complete.j2 U (⟨b1, 0⟩ : Ptr) Q h) (br (decide (a3 < 0)) (disk_Disk_Complete.j4 U (⟨b1, 0⟩ : Ptr) Q h) (der a1 (fun p4 => rdSl (p4.add 2) (fun x5 => br (decide (a3 ≥ ((x5.len : Nat) : Int))) (disk_Disk_Complete.j4 U (⟨b1, 0⟩ : Ptr) Q h) (der a1 (fun p6 => rdSl (p6.add 2) (fun x7 => ix a3 x7.len (fun n8 => der x7.p (fun p9 => rdI .i64 ((p9.add (n8 * 4)).add 0) (fun x10 => rdB ((p9.add (n8 * 4)).add 1) (fun x11 => rdI .i64 ((p9.add (n8 * 4)).add 2) (fun x12 => rdI .i64 ((p9.add (n8 * 4)).add 3) (fun x13 => al [.int .i64 0, .bool false, .int .i64 0, .int .i64 0] (fun b14 h => wrL [.int .i64 x10, .bool x11, .int .i64 x12, .int .i64 x13] (⟨b14, 0⟩ : Ptr) 0 (fun h => disk_Disk_Complete.j6 U a1 a2 (⟨b1, 0⟩ : Ptr) (⟨b14, 0⟩ : Ptr) Q h) h) h) h) h) h) h))) h))) h)))) h)) h) h

def slices_Clone_disk_Request_disk_Request (a1 : Sl) (Q : Sl → Heap → Prop) (h : Heap) : Prop :=
  br a1.p.isNone (Q ⟨none, 0, 0⟩ h) (al [] (fun b1 h => cellsS 4 a1 (fun cs3 => appS 4 32 [.int .i64 0, .bool false, .int .i64 0, .int .i64 0] ⟨some ⟨b1, 0⟩, 0, 0⟩ cs3 a1.len (fun s2 h => Q s2 h) h) h) h)

def disk_Disk_Pending (a1 : Option Ptr) (Q : Sl → Heap → Prop) (h : Heap) : Prop :=
  disk_Disk_none a1 (fun r1 h => br r1 (Q ⟨none, 0, 0⟩ h) (der a1 (fun p2 => rdSl (p2.add 2) (fun x3 => slices_Clone_disk_Request_disk_Request x3 (fun r4 h => Q r4 h) h) h))) h

def palisadelaw12_DiskBack.j4 (U : Ifc)   (Q : Bool → Heap → Prop) (h : Heap) : Prop :=
  Q false h

def palisadelaw12_DiskBack.j10 (U : Ifc)   (Q : Bool → Heap → Prop) (h : Heap) : Prop :=
  Q false h

def palisadelaw12_DiskBack.j15 (U : Ifc)   (Q : Bool → Heap → Prop) (h : Heap) : Prop :=
  Q false h

def palisadelaw12_DiskBack.j25 (U : Ifc) (I24 : Int → (Option Ptr) → Sl → (List UInt8) → Int → Heap → Prop) (a1 : Int) (a2 : Option Ptr) (a3 : Sl) (a4 : List UInt8) (a5 : Int) (Q : Bool → Heap → Prop) (h : Heap) : Prop :=
  I24 a1 a2 a3 a4 (IntKind.i64.wrap (a5 + 1)) h

def palisadelaw12_DiskBack.b24 (U : Ifc)  (I24 : Int → (Option Ptr) → Sl → (List UInt8) → Int → Heap → Prop) (a1 : Int) (a2 : Option Ptr) (a3 : Sl) (a4 : List UInt8) (a5 : Int) (Q : Bool → Heap → Prop) (h : Heap) : Prop :=
  br (decide (a5 < 8)) (disk_Disk_Block a2 a5 (fun r1 r2 h => cellsS 1 r1 (fun cs3 => bytesOf cs3 (fun s4 => br (!((s4 == a4) == (a5 == a1))) (mkSl 1 [.int .u8 0] 256 256 (fun s5 h => cellsS 1 s5 (fun cs6 => bytesOf cs6 (fun s7 => br (!(a4 == s7)) (Q false h) (palisadelaw12_DiskBack.j25 U I24 a1 a2 a3 a4 a5 Q h))) h) h) (palisadelaw12_DiskBack.j25 U I24 a1 a2 a3 a4 a5 Q h))) h) h) (catS a4 a4 (fun s8 => (cellsS 1 a3 (fun cs9 => bytesOf cs9 (fun s10 => mkSl 1 [.int .u8 0] 256 256 (fun s11 h => cellsS 1 s11 (fun cs12 => bytesOf cs12 (fun s13 => catS s8 s13 (fun s14 => Q (s10 == s14) h))) h) h)) h) ∧ (mkSl 1 [.int .u8 0] 256 256 (fun s15 h => (cellsS 1 a3 (fun cs16 => bytesOf cs16 (fun s17 => cellsS 1 s15 (fun cs18 => bytesOf cs18 (fun s19 => catS s8 s19 (fun s20 => Q (s17 == s20) h))) h)) h) ∧ (cellsS 1 s15 (fun cs21 => bytesOf cs21 (fun s22 => catS s8 s22 (fun s23 => cellsS 1 a3 (fun cs24 => bytesOf cs24 (fun s25 => Q (s25 == s23) h)) h))) h)) h)))

def palisadelaw12_DiskBack.j24 (U : Ifc)  (a1 : Int) (a2 : Option Ptr) (a3 : Sl) (a4 : List UInt8) (a5 : Int) (Q : Bool → Heap → Prop) (h : Heap) : Prop :=
  ∀ I : Int → (Option Ptr) → Sl → (List UInt8) → Int → Heap → Prop, (∀ a1 a2 a3 a4 a5 h, palisadelaw12_DiskBack.b24 U  I a1 a2 a3 a4 a5 Q h → I a1 a2 a3 a4 a5 h) → I a1 a2 a3 a4 a5 h

def palisadelaw12_DiskBack.j23 (U : Ifc)  (a1 : Int) (a2 : Option Ptr) (a3 : Sl) (a4 : List UInt8) (Q : Bool → Heap → Prop) (h : Heap) : Prop :=
  palisadelaw12_DiskBack.j24 U a1 a2 a3 a4 0 Q h

def palisadelaw12_DiskBack.j16 (U : Ifc)  (a1 : Sl) (a2 : Int) (a3 : Option Ptr) (a4 : Option Ptr) (Q : Bool → Heap → Prop) (h : Heap) : Prop :=
  disk_Disk_Submit U a3 1 false a2 1 (fun r1 h => br (r1 != 0) (Q false h) (disk_Disk_Complete U a3 a4 0 (fun r2 r3 r4 r5 r6 h => al [.int .i64 0, .bool false, .int .i64 0, .int .i64 0] (fun b7 h => wrL [.int .i64 r2, .bool r3, .int .i64 r4, .int .i64 r5] (⟨b7, 0⟩ : Ptr) 0 (fun h => br (r6 != 0) (Q false h) (mem_Memory_Bytes a4 0 768 (fun r8 r9 h => al [] (fun b10 h => cellsS 1 a1 (fun cs12 => appS 1 1 [.int .u8 0] ⟨some ⟨b10, 0⟩, 0, 0⟩ cs12 a1.len (fun s11 h => appZ 1 1 [.int .u8 0] s11 (IntKind.i64.wrap (256 - ((a1.len : Nat) : Int))) (fun s13 h => cellsS 1 s13 (fun cs14 => bytesOf cs14 (fun s15 => palisadelaw12_DiskBack.j23 U a2 a3 r8 s15 Q h)) h) h) h) h) h) h)) h) h) h)) h

def palisadelaw12_DiskBack.j13 (U : Ifc)  (a1 : Sl) (a2 : Int) (a3 : Int) (a4 : Option Ptr) (a5 : Int) (a6 : Option Ptr) (a7 : Ptr) (Q : Bool → Heap → Prop) (h : Heap) : Prop :=
  disk_Disk_Complete U a4 a6 0 (fun r1 r2 r3 r4 r5 h => al [.int .i64 0, .bool false, .int .i64 0, .int .i64 0] (fun b6 h => wrL [.int .i64 r1, .bool r2, .int .i64 r3, .int .i64 r4] (⟨b6, 0⟩ : Ptr) 0 (fun h => br (a5 != 0) (palisadelaw12_DiskBack.j15 U Q h) (br (r5 != 0) (palisadelaw12_DiskBack.j15 U Q h) (rdI .i64 (a7.add 0) (fun x7 => br (x7 != (IntKind.i64.wrap (1 + a3))) (palisadelaw12_DiskBack.j15 U Q h) (rdI .i64 ((⟨b6, 0⟩ : Ptr).add 0) (fun x8 => br (x8 != (IntKind.i64.wrap (2 - a3))) (palisadelaw12_DiskBack.j15 U Q h) (disk_Disk_Pending a4 (fun r9 h => br (((r9.len : Nat) : Int) != 0) (palisadelaw12_DiskBack.j15 U Q h) (palisadelaw12_DiskBack.j16 U a1 a2 a4 a6 Q h)) h)) h)) h))) h) h) h

def palisadelaw12_DiskBack.j7 (U : Ifc)  (a1 : Sl) (a2 : Int) (a3 : Int) (a4 : Option Ptr) (a5 : Option Ptr) (Q : Bool → Heap → Prop) (h : Heap) : Prop :=
  mem_Memory_Put a5 0 a1 (fun r1 h => disk_Disk_Submit U a4 1 true (ibits .and .i64 a2 7) 0 (fun r2 h => br (r2 != 0) (palisadelaw12_DiskBack.j10 U Q h) (disk_Disk_Submit U a4 2 false (IntKind.i64.wrap (7 - (ibits .and .i64 a2 7))) 2 (fun r3 h => br (r3 != 0) (palisadelaw12_DiskBack.j10 U Q h) (disk_Disk_Complete U a4 a5 (ibits .and .i64 a3 1) (fun r4 r5 r6 r7 r8 h => al [.int .i64 0, .bool false, .int .i64 0, .int .i64 0] (fun b9 h => wrL [.int .i64 r4, .bool r5, .int .i64 r6, .int .i64 r7] (⟨b9, 0⟩ : Ptr) 0 (fun h => palisadelaw12_DiskBack.j13 U a1 (ibits .and .i64 a2 7) (ibits .and .i64 a3 1) a4 r8 a5 (⟨b9, 0⟩ : Ptr) Q h) h) h) h)) h)) h) h

def palisadelaw12_DiskBack.j5 (U : Ifc)  (a1 : Sl) (a2 : Int) (a3 : Int) (a4 : Option Ptr) (a5 : Option Ptr) (Q : Bool → Heap → Prop) (h : Heap) : Prop :=
  br (decide (((a1.len : Nat) : Int) > 256)) (sb 256 a1.cap (fun n1 => palisadelaw12_DiskBack.j7 U ⟨slp a1.p (0 * 1) 0 a1.cap, n1 - 0, a1.cap - 0⟩ a2 a3 a4 a5 Q h)) (palisadelaw12_DiskBack.j7 U a1 a2 a3 a4 a5 Q h)

def palisadelaw12_DiskBack (U : Ifc) (a1 : Sl) (a2 : Int) (a3 : Int) (Q : Bool → Heap → Prop) (h : Heap) : Prop :=
  disk_New 8 (fun r1 r2 h => mem_New 3 (fun r3 r4 h => br (r2 != 0) (palisadelaw12_DiskBack.j4 U Q h) (br (r4 != 0) (palisadelaw12_DiskBack.j4 U Q h) (br r1.isNone (palisadelaw12_DiskBack.j4 U Q h) (br r3.isNone (palisadelaw12_DiskBack.j4 U Q h) (palisadelaw12_DiskBack.j5 U a1 a2 a3 r1 r3 Q h))))) h) h

def disk_Disk_Blocks (a1 : Option Ptr) (Q : Int → Heap → Prop) (h : Heap) : Prop :=
  disk_Disk_none a1 (fun r1 h => br r1 (Q 0 h) (der a1 (fun p2 => rdI .i64 (p2.add 0) (fun x3 => Q x3 h) h))) h

def disk_Disk_Submit_c1 (a1 : Int) (a2 : Bool) (a3 : Int) (a4 : Int) (a5 : Ptr) (Q : Bool → Heap → Prop) (h : Heap) : Prop :=
  al [.int .i64 a1, .bool a2, .int .i64 a3, .int .i64 a4] (fun b1 h => rdI .i64 ((⟨b1, 0⟩ : Ptr).add 0) (fun x2 => rdI .i64 (a5.add 0) (fun x3 => Q (x2 == x3) h) h) h) h

def disk_Disk_Complete_c1 (a1 : Int) (a2 : Bool) (a3 : Int) (a4 : Int) (a5 : Ptr) (Q : Bool → Heap → Prop) (h : Heap) : Prop :=
  al [.int .i64 a1, .bool a2, .int .i64 a3, .int .i64 a4] (fun b1 h => rdI .i64 ((⟨b1, 0⟩ : Ptr).add 0) (fun x2 => rdB ((⟨b1, 0⟩ : Ptr).add 1) (fun x3 => rdI .i64 ((⟨b1, 0⟩ : Ptr).add 2) (fun x4 => rdI .i64 ((⟨b1, 0⟩ : Ptr).add 3) (fun x5 => rdI .i64 (a5.add 0) (fun x6 => rdB (a5.add 1) (fun x7 => rdI .i64 (a5.add 2) (fun x8 => rdI .i64 (a5.add 3) (fun x9 => Q (eqL [x2 == x6, x3 == x7, x4 == x8, x5 == x9]) h) h) h) h) h) h) h) h) h) h

def disk_Disk_Put_c1 (a1 : Int) (Q : Bool → Heap → Prop) (h : Heap) : Prop :=
  Q (a1 != 0) h

end Go.Fn
