/- The shallow functions. PRINTED by lift.py. -/
import Derived.Test.YtmpjgafkdhineaaLiftB
set_option linter.unusedVariables false
set_option maxRecDepth 100000
namespace Go.Fn
open Go.Lift

def z_palisade_palisadelaw12_Act : List V := [.int .i64 0, .int .i64 0, .bool false, .int .i64 0, .int .i64 0, .int .i64 0, .sl ⟨none, 0, 0⟩]

def disk_New (a1 : Int) (Q : (Option Ptr) → Int → Heap → Prop) (h : Heap) : Prop :=
  br (decide (a1 < 1)) (Q none 2 h) (br (decide (a1 > 65536)) (Q none 2 h) (alM (.int .i64) (fun b1 h => al [.int .i64 a1, .map (some b1), .sl ⟨none, 0, 0⟩] (fun b2 h => Q (some (⟨b2, 0⟩ : Ptr)) 0 h) h) h))

def palisaderef12_New (a1 : Int) (Q : (Option Ptr) → Int → Heap → Prop) (h : Heap) : Prop :=
  br (decide (a1 < 1)) (Q none 2 h) (br (decide (a1 > 65536)) (Q none 2 h) (mkSl 1 [.int .u8 0] (IntKind.i64.wrap (a1 * 256)) (IntKind.i64.wrap (a1 * 256)) (fun s1 h => al [.sl s1, .sl ⟨none, 0, 0⟩] (fun b2 h => Q (some (⟨b2, 0⟩ : Ptr)) 0 h) h) h))

def mem_New (a1 : Int) (Q : (Option Ptr) → Int → Heap → Prop) (h : Heap) : Prop :=
  br (decide (a1 < 1)) (Q none 2 h) (br (decide (a1 > 65536)) (Q none 2 h) (mkSl 1 [.int .u8 0] (IntKind.i64.wrap (a1 * 256)) (IntKind.i64.wrap (a1 * 256)) (fun s1 h => al [.sl s1] (fun b2 h => Q (some (⟨b2, 0⟩ : Ptr)) 0 h) h) h))

def palisaderef04_New (a1 : Int) (Q : (Option Ptr) → Int → Heap → Prop) (h : Heap) : Prop :=
  br (decide (a1 < 1)) (Q none 2 h) (br (decide (a1 > 65536)) (Q none 2 h) (mkSl 1 [.int .u8 0] (IntKind.i64.wrap (a1 * 256)) (IntKind.i64.wrap (a1 * 256)) (fun s1 h => al [.sl s1] (fun b2 h => Q (some (⟨b2, 0⟩ : Ptr)) 0 h) h) h))

def palisadelaw12_names  (Q : Bool → Heap → Prop) (h : Heap) : Prop :=
  Q true h

def disk_Disk_none (a1 : Option Ptr) (Q : Bool → Heap → Prop) (h : Heap) : Prop :=
  br a1.isNone (Q true h) (der a1 (fun p1 => rdM (p1.add 1) (fun x2 => Q x2.isNone h) h))

def disk_Disk_wrong (a1 : Option Ptr) (a2 : Int) (Q : Int → Heap → Prop) (h : Heap) : Prop :=
  disk_Disk_none a1 (fun r1 h => br r1 (Q 1 h) (br (decide (a2 < 0)) (Q 12 h) (der a1 (fun p2 => rdI .i64 (p2.add 0) (fun x3 => br (decide (a2 ≥ x3)) (Q 12 h) (Q 0 h)) h)))) h

def slices_IndexFunc_disk_Request_disk_Request.b2 (U : Ifc)  (I2 : Sl → V → Int → Int → Heap → Prop) (a1 : Sl) (a2 : V) (a3 : Int) (a4 : Int) (Q : Int → Heap → Prop) (h : Heap) : Prop :=
  br (decide (a4 < a3)) (ix a4 a1.len (fun n1 => der a1.p (fun p2 => rdI .i64 ((p2.add (n1 * 4)).add 0) (fun x3 => rdB ((p2.add (n1 * 4)).add 1) (fun x4 => rdI .i64 ((p2.add (n1 * 4)).add 2) (fun x5 => rdI .i64 ((p2.add (n1 * 4)).add 3) (fun x6 => U.callV a2 [.agg [.int .i64 x3, .bool x4, .int .i64 x5, .int .i64 x6]] (fun r7 h => asB r7 (fun x8 => br x8 (Q a4 h) (I2 a1 a2 a3 (IntKind.i64.wrap (a4 + 1)) h))) h) h) h) h) h))) (Q (-1) h)

def slices_IndexFunc_disk_Request_disk_Request.j2 (U : Ifc)  (a1 : Sl) (a2 : V) (a3 : Int) (a4 : Int) (Q : Int → Heap → Prop) (h : Heap) : Prop :=
  ∀ I : Sl → V → Int → Int → Heap → Prop, (∀ a1 a2 a3 a4 h, slices_IndexFunc_disk_Request_disk_Request.b2 U  I a1 a2 a3 a4 Q h → I a1 a2 a3 a4 h) → I a1 a2 a3 a4 h

def slices_IndexFunc_disk_Request_disk_Request (U : Ifc) (a1 : Sl) (a2 : V) (Q : Int → Heap → Prop) (h : Heap) : Prop :=
  slices_IndexFunc_disk_Request_disk_Request.j2 U a1 a2 ((a1.len : Nat) : Int) 0 Q h

def slices_ContainsFunc_disk_Request_disk_Request (U : Ifc) (a1 : Sl) (a2 : V) (Q : Bool → Heap → Prop) (h : Heap) : Prop :=
  slices_IndexFunc_disk_Request_disk_Request U a1 a2 (fun r1 h => Q (decide (r1 ≥ 0)) h) h

def disk_Disk_Submit.j9 (U : Ifc)   (Q : Int → Heap → Prop) (h : Heap) : Prop :=
  Q 0 h

def disk_Disk_Submit (U : Ifc) (a1 : Option Ptr) (a2 : Int) (a3 : Bool) (a4 : Int) (a5 : Int) (Q : Int → Heap → Prop) (h : Heap) : Prop :=
  al [.int .i64 a2, .bool a3, .int .i64 a4, .int .i64 a5] (fun b1 h => rdI .i64 ((⟨b1, 0⟩ : Ptr).add 2) (fun x2 => disk_Disk_wrong a1 x2 (fun r3 h => br (r3 != 0) (Q r3 h) (der a1 (fun p4 => rdSl (p4.add 2) (fun x5 => slices_ContainsFunc_disk_Request_disk_Request U x5 (.fn 3 [.ptr (some (⟨b1, 0⟩ : Ptr))]) (fun r6 h => br r6 (Q 13 h) (der a1 (fun p7 => rdSl (p7.add 2) (fun x8 => br (decide (((x8.len : Nat) : Int) ≥ 8)) (Q 18 h) (der a1 (fun p9 => rdSl (p9.add 2) (fun x10 => rdI .i64 ((⟨b1, 0⟩ : Ptr).add 0) (fun x11 => rdB ((⟨b1, 0⟩ : Ptr).add 1) (fun x12 => rdI .i64 ((⟨b1, 0⟩ : Ptr).add 2) (fun x13 => rdI .i64 ((⟨b1, 0⟩ : Ptr).add 3) (fun x14 => al [.int .i64 x11, .bool x12, .int .i64 x13, .int .i64 x14] (fun b15 h => ck (p9.add 2) [.sl x10] 0 h ∧ (rdN (1 * 4) (⟨b15, 0⟩ : Ptr) (fun cs17 => appS 4 32 [.int .i64 0, .bool false, .int .i64 0, .int .i64 0] x10 cs17 1 (fun s16 h => der a1 (fun p18 => wr (p18.add 2) (.sl s16) (fun h => disk_Disk_Submit.j9 U Q h) h)) h) h)) h) h) h) h) h) h))) h))) h) h))) h) h) h

def palisaderef12_Disk_has (a1 : Option Ptr) (a2 : Int) (Q : Bool → Heap → Prop) (h : Heap) : Prop :=
  br (decide (a2 ≥ 0)) (der a1 (fun p1 => rdSl (p1.add 0) (fun x2 => nz 256 (Q (decide (a2 < (IntKind.i64.wrap (((x2.len : Nat) : Int).tdiv 256)))) h)) h)) (Q false h)

def palisaderef12_Disk_Submit.b4  (I4 : (Option Ptr) → Ptr → Int → Heap → Prop) (a1 : Option Ptr) (a2 : Ptr) (a3 : Int) (Q : Int → Heap → Prop) (h : Heap) : Prop :=
  der a1 (fun p1 => rdSl (p1.add 1) (fun x2 => br (decide (a3 < ((x2.len : Nat) : Int))) (der a1 (fun p3 => rdSl (p3.add 1) (fun x4 => ix a3 x4.len (fun n5 => der x4.p (fun p6 => rdI .i64 ((p6.add (n5 * 4)).add 0) (fun x7 => rdI .i64 (a2.add 0) (fun x8 => br (x7 == x8) (Q 13 h) (I4 a1 a2 (IntKind.i64.wrap (a3 + 1)) h)) h) h))) h)) (der a1 (fun p9 => rdSl (p9.add 1) (fun x10 => br (decide (((x10.len : Nat) : Int) ≥ 8)) (Q 18 h) (der a1 (fun p11 => rdSl (p11.add 1) (fun x12 => rdI .i64 (a2.add 0) (fun x13 => rdB (a2.add 1) (fun x14 => rdI .i64 (a2.add 2) (fun x15 => rdI .i64 (a2.add 3) (fun x16 => al [.int .i64 x13, .bool x14, .int .i64 x15, .int .i64 x16] (fun b17 h => ck (p11.add 1) [.sl x12] 0 h ∧ (rdN (1 * 4) (⟨b17, 0⟩ : Ptr) (fun cs19 => appS 4 32 [.int .i64 0, .bool false, .int .i64 0, .int .i64 0] x12 cs19 1 (fun s18 h => der a1 (fun p20 => wr (p20.add 1) (.sl s18) (fun h => Q 0 h) h)) h) h)) h) h) h) h) h) h))) h))) h)

def palisaderef12_Disk_Submit.j4  (a1 : Option Ptr) (a2 : Ptr) (a3 : Int) (Q : Int → Heap → Prop) (h : Heap) : Prop :=
  ∀ I : (Option Ptr) → Ptr → Int → Heap → Prop, (∀ a1 a2 a3 h, palisaderef12_Disk_Submit.b4  I a1 a2 a3 Q h → I a1 a2 a3 h) → I a1 a2 a3 h

def palisaderef12_Disk_Submit (a1 : Option Ptr) (a2 : Int) (a3 : Bool) (a4 : Int) (a5 : Int) (Q : Int → Heap → Prop) (h : Heap) : Prop :=
  al [.int .i64 a2, .bool a3, .int .i64 a4, .int .i64 a5] (fun b1 h => rdI .i64 ((⟨b1, 0⟩ : Ptr).add 2) (fun x2 => palisaderef12_Disk_has a1 x2 (fun r3 h => br (!r3) (Q 12 h) (palisaderef12_Disk_Submit.j4 a1 (⟨b1, 0⟩ : Ptr) 0 Q h)) h) h) h

def disk_Disk_Block (a1 : Option Ptr) (a2 : Int) (Q : Sl → Int → Heap → Prop) (h : Heap) : Prop :=
  disk_Disk_wrong a1 a2 (fun r1 h => br (r1 != 0) (Q ⟨none, 0, 0⟩ r1 h) (mkSl 1 [.int .u8 0] 256 256 (fun s2 h => der a1 (fun p3 => rdM (p3.add 1) (fun x4 => mapGet (.int .i64) x4 (.int .i64 a2) (fun o5 => asSl (o5.getD (.sl ⟨none, 0, 0⟩)) (fun x6 => cellsS 1 x6 (fun cs7 => copyS 1 s2 cs7 x6.len (fun x8 h => Q s2 0 h) h) h)) h) h)) h)) h

def palisaderef12_Disk_Block (a1 : Option Ptr) (a2 : Int) (Q : Sl → Int → Heap → Prop) (h : Heap) : Prop :=
  palisaderef12_Disk_has a1 a2 (fun r1 h => br (!r1) (Q ⟨none, 0, 0⟩ 12 h) (al [] (fun b2 h => der a1 (fun p3 => rdSl (p3.add 0) (fun x4 => sb (IntKind.i64.wrap ((IntKind.i64.wrap (a2 * 256)) + 256)) x4.cap (fun n5 => sb (IntKind.i64.wrap (a2 * 256)) n5 (fun n6 => cellsS 1 ⟨slp x4.p (n6 * 1) n6 x4.cap, n5 - n6, x4.cap - n6⟩ (fun cs8 => appS 1 1 [.int .u8 0] ⟨some ⟨b2, 0⟩, 0, 0⟩ cs8 (n5 - n6) (fun s7 h => Q s7 0 h) h) h))) h)) h)) h

def slices_Clone_disk_Request_disk_Request (a1 : Sl) (Q : Sl → Heap → Prop) (h : Heap) : Prop :=
  br a1.p.isNone (Q ⟨none, 0, 0⟩ h) (al [] (fun b1 h => cellsS 4 a1 (fun cs3 => appS 4 32 [.int .i64 0, .bool false, .int .i64 0, .int .i64 0] ⟨some ⟨b1, 0⟩, 0, 0⟩ cs3 a1.len (fun s2 h => Q s2 h) h) h) h)

def disk_Disk_Pending (a1 : Option Ptr) (Q : Sl → Heap → Prop) (h : Heap) : Prop :=
  disk_Disk_none a1 (fun r1 h => br r1 (Q ⟨none, 0, 0⟩ h) (der a1 (fun p2 => rdSl (p2.add 2) (fun x3 => slices_Clone_disk_Request_disk_Request x3 (fun r4 h => Q r4 h) h) h))) h

def disk_Disk_Blocks (a1 : Option Ptr) (Q : Int → Heap → Prop) (h : Heap) : Prop :=
  disk_Disk_none a1 (fun r1 h => br r1 (Q 0 h) (der a1 (fun p2 => rdI .i64 (p2.add 0) (fun x3 => Q x3 h) h))) h

def palisadelaw12_stands.j3   (Q : Bool → Heap → Prop) (h : Heap) : Prop :=
  Q false h

def palisadelaw12_stands.b5  (I5 : (Option Ptr) → Sl → Int → Heap → Prop) (a1 : Option Ptr) (a2 : Sl) (a3 : Int) (Q : Bool → Heap → Prop) (h : Heap) : Prop :=
  br (decide (a3 < ((a2.len : Nat) : Int))) (ix a3 a2.len (fun n1 => der a2.p (fun p2 => rdI .i64 ((p2.add (n1 * 4)).add 0) (fun x3 => rdB ((p2.add (n1 * 4)).add 1) (fun x4 => rdI .i64 ((p2.add (n1 * 4)).add 2) (fun x5 => rdI .i64 ((p2.add (n1 * 4)).add 3) (fun x6 => der a1 (fun p7 => rdSl (p7.add 1) (fun x8 => ix a3 x8.len (fun n9 => der x8.p (fun p10 => rdI .i64 ((p10.add (n9 * 4)).add 0) (fun x11 => rdB ((p10.add (n9 * 4)).add 1) (fun x12 => rdI .i64 ((p10.add (n9 * 4)).add 2) (fun x13 => rdI .i64 ((p10.add (n9 * 4)).add 3) (fun x14 => br (!(eqL [x3 == x11, x4 == x12, x5 == x13, x6 == x14])) (Q false h) (ix a3 a2.len (fun n15 => der a2.p (fun p16 => wr ((p16.add (n15 * 4)).add 0) (.int .i64 (-9)) (fun h => I5 a1 a2 (IntKind.i64.wrap (a3 + 1)) h) h)))) h) h) h) h))) h)) h) h) h) h))) (Q true h)

def palisadelaw12_stands.j5  (a1 : Option Ptr) (a2 : Sl) (a3 : Int) (Q : Bool → Heap → Prop) (h : Heap) : Prop :=
  ∀ I : (Option Ptr) → Sl → Int → Heap → Prop, (∀ a1 a2 a3 h, palisadelaw12_stands.b5  I a1 a2 a3 Q h → I a1 a2 a3 h) → I a1 a2 a3 h

def palisadelaw12_stands (a1 : Option Ptr) (a2 : Option Ptr) (Q : Bool → Heap → Prop) (h : Heap) : Prop :=
  disk_Disk_Pending a1 (fun r1 h => der a2 (fun p2 => rdSl (p2.add 1) (fun x3 => br (((r1.len : Nat) : Int) != ((x3.len : Nat) : Int)) (palisadelaw12_stands.j3 Q h) (der a2 (fun p4 => rdSl (p4.add 0) (fun x5 => nz 256 (disk_Disk_Blocks a1 (fun r6 h => ck (p4.add 0) [.sl x5] 0 h ∧ (br (r6 != (IntKind.i64.wrap (((x5.len : Nat) : Int).tdiv 256))) (palisadelaw12_stands.j3 Q h) (palisadelaw12_stands.j5 a2 r1 0 Q h))) h)) h))) h)) h

def mem_Memory_none (a1 : Option Ptr) (Q : Bool → Heap → Prop) (h : Heap) : Prop :=
  br a1.isNone (Q true h) (der a1 (fun p1 => rdSl (p1.add 0) (fun x2 => Q x2.p.isNone h) h))

def mem_Memory_Frames (a1 : Option Ptr) (Q : Int → Heap → Prop) (h : Heap) : Prop :=
  mem_Memory_none a1 (fun r1 h => br r1 (Q 0 h) (der a1 (fun p2 => rdSl (p2.add 0) (fun x3 => nz 256 (Q (IntKind.i64.wrap (((x3.len : Nat) : Int).tdiv 256)) h)) h))) h

def slices_DeleteFunc_disk_Request_disk_Request.j6 (U : Ifc) (I5 : Sl → V → Int → Int → Heap → Prop) (a1 : Sl) (a2 : V) (a3 : Int) (a4 : Int) (Q : Sl → Heap → Prop) (h : Heap) : Prop :=
  I5 a1 a2 a3 (IntKind.i64.wrap (a4 + 1)) h

def slices_DeleteFunc_disk_Request_disk_Request.b5 (U : Ifc)  (I5 : Sl → V → Int → Int → Heap → Prop) (a1 : Sl) (a2 : V) (a3 : Int) (a4 : Int) (Q : Sl → Heap → Prop) (h : Heap) : Prop :=
  br (decide (a4 < ((a1.len : Nat) : Int))) (ix a4 a1.len (fun n1 => der a1.p (fun p2 => rdI .i64 ((p2.add (n1 * 4)).add 0) (fun x3 => rdB ((p2.add (n1 * 4)).add 1) (fun x4 => rdI .i64 ((p2.add (n1 * 4)).add 2) (fun x5 => rdI .i64 ((p2.add (n1 * 4)).add 3) (fun x6 => al [.int .i64 0, .bool false, .int .i64 0, .int .i64 0] (fun b7 h => wrL [.int .i64 x3, .bool x4, .int .i64 x5, .int .i64 x6] (⟨b7, 0⟩ : Ptr) 0 (fun h => rdI .i64 ((⟨b7, 0⟩ : Ptr).add 0) (fun x8 => rdB ((⟨b7, 0⟩ : Ptr).add 1) (fun x9 => rdI .i64 ((⟨b7, 0⟩ : Ptr).add 2) (fun x10 => rdI .i64 ((⟨b7, 0⟩ : Ptr).add 3) (fun x11 => U.callV a2 [.agg [.int .i64 x8, .bool x9, .int .i64 x10, .int .i64 x11]] (fun r12 h => asB r12 (fun x13 => br (!x13) (rdI .i64 ((⟨b7, 0⟩ : Ptr).add 0) (fun x14 => rdB ((⟨b7, 0⟩ : Ptr).add 1) (fun x15 => rdI .i64 ((⟨b7, 0⟩ : Ptr).add 2) (fun x16 => rdI .i64 ((⟨b7, 0⟩ : Ptr).add 3) (fun x17 => ix a3 a1.len (fun n18 => der a1.p (fun p19 => wrL [.int .i64 x14, .bool x15, .int .i64 x16, .int .i64 x17] (p19.add (n18 * 4)) 0 (fun h => slices_DeleteFunc_disk_Request_disk_Request.j6 U I5 a1 a2 (IntKind.i64.wrap (a3 + 1)) a4 Q h) h))) h) h) h) h) (slices_DeleteFunc_disk_Request_disk_Request.j6 U I5 a1 a2 a3 a4 Q h))) h) h) h) h) h) h) h) h) h) h) h))) (sb a3 a1.len (fun n20 => clearS [.int .i64 0, .bool false, .int .i64 0, .int .i64 0] ⟨slp a1.p (n20 * 4) n20 a1.cap, a1.len - n20, a1.cap - n20⟩ (fun h => sb a3 a1.cap (fun n21 => Q ⟨slp a1.p (0 * 4) 0 a1.cap, n21 - 0, a1.cap - 0⟩ h)) h))

def slices_DeleteFunc_disk_Request_disk_Request.j5 (U : Ifc)  (a1 : Sl) (a2 : V) (a3 : Int) (a4 : Int) (Q : Sl → Heap → Prop) (h : Heap) : Prop :=
  ∀ I : Sl → V → Int → Int → Heap → Prop, (∀ a1 a2 a3 a4 h, slices_DeleteFunc_disk_Request_disk_Request.b5 U  I a1 a2 a3 a4 Q h → I a1 a2 a3 a4 h) → I a1 a2 a3 a4 h

def slices_DeleteFunc_disk_Request_disk_Request (U : Ifc) (a1 : Sl) (a2 : V) (Q : Sl → Heap → Prop) (h : Heap) : Prop :=
  slices_IndexFunc_disk_Request_disk_Request U a1 a2 (fun r1 h => br (r1 == (-1)) (Q a1 h) (slices_DeleteFunc_disk_Request_disk_Request.j5 U a1 a2 r1 (IntKind.i64.wrap (r1 + 1)) Q h)) h

def mem_Memory_part_c1 (a1 : Ptr) (a2 : Ptr) (a3 : Ptr) (Q : Bool → Heap → Prop) (h : Heap) : Prop :=
  rdI .i64 a1 (fun x1 => rdP a2 (fun x2 => der x2 (fun p3 => rdSl (p3.add 0) (fun x4 => br (decide (x1 ≤ ((x4.len : Nat) : Int))) (rdI .u64 a3 (fun x5 => rdP a2 (fun x6 => der x6 (fun p7 => rdSl (p7.add 0) (fun x8 => rdI .i64 a1 (fun x9 => Q (decide (x5 ≤ (IntKind.u64.wrap (IntKind.i64.wrap (((x8.len : Nat) : Int) - x9))))) h) h) h)) h) h) (Q false h)) h)) h) h

def mem_Memory_part (a1 : Option Ptr) (a2 : Int) (a3 : Int) (Q : Sl → Int → Heap → Prop) (h : Heap) : Prop :=
  al [.ptr a1] (fun b1 h => al [.int .u64 a2] (fun b2 h => al [.int .i64 a3] (fun b3 h => rdP (⟨b1, 0⟩ : Ptr) (fun x4 => mem_Memory_none x4 (fun r5 h => br r5 (Q ⟨none, 0, 0⟩ 1 h) (rdI .i64 (⟨b3, 0⟩ : Ptr) (fun x6 => br (decide (x6 < 0)) (Q ⟨none, 0, 0⟩ 2 h) (mem_Memory_part_c1 (⟨b3, 0⟩ : Ptr) (⟨b1, 0⟩ : Ptr) (⟨b2, 0⟩ : Ptr) (fun r7 h => br (!r7) (Q ⟨none, 0, 0⟩ 12 h) (rdI .u64 (⟨b2, 0⟩ : Ptr) (fun x8 => rdI .i64 (⟨b3, 0⟩ : Ptr) (fun x9 => rdP (⟨b1, 0⟩ : Ptr) (fun x10 => der x10 (fun p11 => rdSl (p11.add 0) (fun x12 => rdI .u64 (⟨b2, 0⟩ : Ptr) (fun x13 => sb (IntKind.i64.wrap ((IntKind.i64.wrap x8) + x9)) x12.cap (fun n14 => sb (IntKind.i64.wrap ((IntKind.i64.wrap x8) + x9)) n14 (fun n15 => sb x13 n15 (fun n16 => Q ⟨slp x12.p (n16 * 1) n16 n14, n15 - n16, n14 - n16⟩ 0 h)))) h) h)) h) h) h)) h)) h)) h) h) h) h) h

def bytes_Clone (a1 : Sl) (Q : Sl → Heap → Prop) (h : Heap) : Prop :=
  br a1.p.isNone (Q ⟨none, 0, 0⟩ h) (al [] (fun b1 h => cellsS 1 a1 (fun cs3 => appS 1 1 [.int .u8 0] ⟨some ⟨b1, 0⟩, 0, 0⟩ cs3 a1.len (fun s2 h => Q s2 h) h) h) h)

def mem_Memory_Bytes (a1 : Option Ptr) (a2 : Int) (a3 : Int) (Q : Sl → Int → Heap → Prop) (h : Heap) : Prop :=
  mem_Memory_part a1 a2 a3 (fun r1 r2 h => bytes_Clone r1 (fun r3 h => Q r3 r2 h) h) h

def slices_IndexFunc_byte_byte.b2 (U : Ifc)  (I2 : Sl → V → Int → Int → Heap → Prop) (a1 : Sl) (a2 : V) (a3 : Int) (a4 : Int) (Q : Int → Heap → Prop) (h : Heap) : Prop :=
  br (decide (a4 < a3)) (ix a4 a1.len (fun n1 => der a1.p (fun p2 => rdI .u8 (p2.add (n1 * 1)) (fun x3 => U.callV a2 [.int .u8 x3] (fun r4 h => asB r4 (fun x5 => br x5 (Q a4 h) (I2 a1 a2 a3 (IntKind.i64.wrap (a4 + 1)) h))) h) h))) (Q (-1) h)

def slices_IndexFunc_byte_byte.j2 (U : Ifc)  (a1 : Sl) (a2 : V) (a3 : Int) (a4 : Int) (Q : Int → Heap → Prop) (h : Heap) : Prop :=
  ∀ I : Sl → V → Int → Int → Heap → Prop, (∀ a1 a2 a3 a4 h, slices_IndexFunc_byte_byte.b2 U  I a1 a2 a3 a4 Q h → I a1 a2 a3 a4 h) → I a1 a2 a3 a4 h

def slices_IndexFunc_byte_byte (U : Ifc) (a1 : Sl) (a2 : V) (Q : Int → Heap → Prop) (h : Heap) : Prop :=
  slices_IndexFunc_byte_byte.j2 U a1 a2 ((a1.len : Nat) : Int) 0 Q h

def slices_ContainsFunc_byte_byte (U : Ifc) (a1 : Sl) (a2 : V) (Q : Bool → Heap → Prop) (h : Heap) : Prop :=
  slices_IndexFunc_byte_byte U a1 a2 (fun r1 h => Q (decide (r1 ≥ 0)) h) h

def slices_Clone_byte_byte (a1 : Sl) (Q : Sl → Heap → Prop) (h : Heap) : Prop :=
  br a1.p.isNone (Q ⟨none, 0, 0⟩ h) (al [] (fun b1 h => cellsS 1 a1 (fun cs3 => appS 1 1 [.int .u8 0] ⟨some ⟨b1, 0⟩, 0, 0⟩ cs3 a1.len (fun s2 h => Q s2 h) h) h) h)

def disk_Disk_Put (U : Ifc) (a1 : Option Ptr) (a2 : Int) (a3 : Sl) (Q : Int → Heap → Prop) (h : Heap) : Prop :=
  disk_Disk_wrong a1 a2 (fun r1 h => br (r1 != 0) (Q r1 h) (br (((a3.len : Nat) : Int) != 256) (Q 2 h) (slices_ContainsFunc_byte_byte U a3 (.fn 57 []) (fun r2 h => br (!r2) (der a1 (fun p3 => rdM (p3.add 1) (fun x4 => mapDel (.int .i64) x4 (.int .i64 a2) (fun h => Q 0 h) h) h)) (der a1 (fun p5 => rdM (p5.add 1) (fun x6 => slices_Clone_byte_byte a3 (fun r7 h => ck (p5.add 1) [.map x6] 0 h ∧ (mapPut (.int .i64) x6 (.int .i64 a2) (.sl r7) (fun h => Q 0 h) h)) h) h))) h))) h

def mem_Memory_Put (a1 : Option Ptr) (a2 : Int) (a3 : Sl) (Q : Int → Heap → Prop) (h : Heap) : Prop :=
  mem_Memory_part a1 a2 ((a3.len : Nat) : Int) (fun r1 r2 h => br (r2 == 0) (cellsS 1 a3 (fun cs3 => copyS 1 r1 cs3 a3.len (fun x4 h => Q r2 h) h) h) (Q r2 h)) h

def disk_Disk_Complete.j2 (U : Ifc)  (a1 : Ptr) (Q : Int → Bool → Int → Int → Int → Heap → Prop) (h : Heap) : Prop :=
  wrL [.int .i64 0, .bool false, .int .i64 0, .int .i64 0] a1 0 (fun h => rdI .i64 (a1.add 0) (fun x1 => rdB (a1.add 1) (fun x2 => rdI .i64 (a1.add 2) (fun x3 => rdI .i64 (a1.add 3) (fun x4 => Q x1 x2 x3 x4 1 h) h) h) h) h) h

def disk_Disk_Complete.j4 (U : Ifc)  (a1 : Ptr) (Q : Int → Bool → Int → Int → Int → Heap → Prop) (h : Heap) : Prop :=
  wrL [.int .i64 0, .bool false, .int .i64 0, .int .i64 0] a1 0 (fun h => rdI .i64 (a1.add 0) (fun x1 => rdB (a1.add 1) (fun x2 => rdI .i64 (a1.add 2) (fun x3 => rdI .i64 (a1.add 3) (fun x4 => Q x1 x2 x3 x4 14 h) h) h) h) h) h

def disk_Disk_Complete.j8 (U : Ifc)  (a1 : Ptr) (a2 : Ptr) (Q : Int → Bool → Int → Int → Int → Heap → Prop) (h : Heap) : Prop :=
  rdI .i64 (a2.add 0) (fun x1 => rdB (a2.add 1) (fun x2 => rdI .i64 (a2.add 2) (fun x3 => rdI .i64 (a2.add 3) (fun x4 => wrL [.int .i64 x1, .bool x2, .int .i64 x3, .int .i64 x4] a1 0 (fun h => rdI .i64 (a1.add 0) (fun x5 => rdB (a1.add 1) (fun x6 => rdI .i64 (a1.add 2) (fun x7 => rdI .i64 (a1.add 3) (fun x8 => Q x5 x6 x7 x8 12 h) h) h) h) h) h) h) h) h) h

def disk_Disk_Complete.j10 (U : Ifc)  (a1 : Option Ptr) (a2 : Option Ptr) (a3 : Ptr) (a4 : Ptr) (a5 : Int) (Q : Int → Bool → Int → Int → Int → Heap → Prop) (h : Heap) : Prop :=
  rdB (a4.add 1) (fun x1 => br x1 (mem_Memory_Bytes a2 a5 256 (fun r2 r3 h => rdI .i64 (a4.add 0) (fun x4 => rdB (a4.add 1) (fun x5 => rdI .i64 (a4.add 2) (fun x6 => rdI .i64 (a4.add 3) (fun x7 => rdI .i64 (a4.add 2) (fun x8 => disk_Disk_Put U a1 x8 r2 (fun r9 h => ck a4 [.int .i64 x4, .bool x5, .int .i64 x6, .int .i64 x7] 0 h ∧ (wrL [.int .i64 x4, .bool x5, .int .i64 x6, .int .i64 x7] a3 0 (fun h => rdI .i64 (a3.add 0) (fun x10 => rdB (a3.add 1) (fun x11 => rdI .i64 (a3.add 2) (fun x12 => rdI .i64 (a3.add 3) (fun x13 => Q x10 x11 x12 x13 r9 h) h) h) h) h) h)) h) h) h) h) h) h) h) (rdI .i64 (a4.add 2) (fun x14 => disk_Disk_Block a1 x14 (fun r15 r16 h => rdI .i64 (a4.add 0) (fun x17 => rdB (a4.add 1) (fun x18 => rdI .i64 (a4.add 2) (fun x19 => rdI .i64 (a4.add 3) (fun x20 => mem_Memory_Put a2 a5 r15 (fun r21 h => ck a4 [.int .i64 x17, .bool x18, .int .i64 x19, .int .i64 x20] 0 h ∧ (wrL [.int .i64 x17, .bool x18, .int .i64 x19, .int .i64 x20] a3 0 (fun h => rdI .i64 (a3.add 0) (fun x22 => rdB (a3.add 1) (fun x23 => rdI .i64 (a3.add 2) (fun x24 => rdI .i64 (a3.add 3) (fun x25 => Q x22 x23 x24 x25 r21 h) h) h) h) h) h)) h) h) h) h) h) h) h)) h

def disk_Disk_Complete.j6 (U : Ifc)  (a1 : Option Ptr) (a2 : Option Ptr) (a3 : Ptr) (a4 : Ptr) (Q : Int → Bool → Int → Int → Int → Heap → Prop) (h : Heap) : Prop :=
  der a1 (fun p1 => rdSl (p1.add 2) (fun x2 => slices_DeleteFunc_disk_Request_disk_Request U x2 (.fn 56 [.ptr (some a4)]) (fun r3 h => der a1 (fun p4 => wr (p4.add 2) (.sl r3) (fun h => rdI .i64 (a4.add 3) (fun x5 => br (decide (x5 < 0)) (disk_Disk_Complete.j8 U a3 a4 Q h) (rdI .i64 (a4.add 3) (fun x6 => mem_Memory_Frames a2 (fun r7 h => ck (a4.add 3) [.int .i64 x6] 0 h ∧ (br (decide (x6 ≥ r7)) (disk_Disk_Complete.j8 U a3 a4 Q h) (rdI .i64 (a4.add 3) (fun x8 => disk_Disk_Complete.j10 U a1 a2 a3 a4 (IntKind.u64.wrap ((IntKind.u64.wrap x8) * 256)) Q h) h))) h) h)) h) h)) h) h)

def disk_Disk_Complete (U : Ifc) (a1 : Option Ptr) (a2 : Option Ptr) (a3 : Int) (Q : Int → Bool → Int → Int → Int → Heap → Prop) (h : Heap) : Prop :=
  al [.int .i64 0, .bool false, .int .i64 0, .int .i64 0] (fun b1 h => disk_Disk_none a1 (fun r2 h => br r2 (disk_Disk_Complete.j2 U (⟨b1, 0⟩ : Ptr) Q h) (mem_Memory_Frames a2 (fun r3 h => br (r3 == 0) (disk_Disk_Complete.j2 U (⟨b1, 0⟩ : Ptr) Q h) (br (decide (a3 < 0)) (disk_Disk_Complete.j4 U (⟨b1, 0⟩ : Ptr) Q h) (der a1 (fun p4 => rdSl (p4.add 2) (fun x5 => br (decide (a3 ≥ ((x5.len : Nat) : Int))) (disk_Disk_Complete.j4 U (⟨b1, 0⟩ : Ptr) Q h) (der a1 (fun p6 => rdSl (p6.add 2) (fun x7 => ix a3 x7.len (fun n8 => der x7.p (fun p9 => rdI .i64 ((p9.add (n8 * 4)).add 0) (fun x10 => rdB ((p9.add (n8 * 4)).add 1) (fun x11 => rdI .i64 ((p9.add (n8 * 4)).add 2) (fun x12 => rdI .i64 ((p9.add (n8 * 4)).add 3) (fun x13 => al [.int .i64 0, .bool false, .int .i64 0, .int .i64 0] (fun b14 h => wrL [.int .i64 x10, .bool x11, .int .i64 x12, .int .i64 x13] (⟨b14, 0⟩ : Ptr) 0 (fun h => disk_Disk_Complete.j6 U a1 a2 (⟨b1, 0⟩ : Ptr) (⟨b14, 0⟩ : Ptr) Q h) h) h) h) h) h) h))) h))) h)))) h)) h) h

def palisaderef12_Disk_Complete.j2  (a1 : Ptr) (Q : Int → Bool → Int → Int → Int → Heap → Prop) (h : Heap) : Prop :=
  wrL [.int .i64 0, .bool false, .int .i64 0, .int .i64 0] a1 0 (fun h => rdI .i64 (a1.add 0) (fun x1 => rdB (a1.add 1) (fun x2 => rdI .i64 (a1.add 2) (fun x3 => rdI .i64 (a1.add 3) (fun x4 => Q x1 x2 x3 x4 14 h) h) h) h) h) h

def palisaderef12_Disk_Complete.j6  (a1 : Ptr) (a2 : Ptr) (Q : Int → Bool → Int → Int → Int → Heap → Prop) (h : Heap) : Prop :=
  rdI .i64 (a2.add 0) (fun x1 => rdB (a2.add 1) (fun x2 => rdI .i64 (a2.add 2) (fun x3 => rdI .i64 (a2.add 3) (fun x4 => wrL [.int .i64 x1, .bool x2, .int .i64 x3, .int .i64 x4] a1 0 (fun h => rdI .i64 (a1.add 0) (fun x5 => rdB (a1.add 1) (fun x6 => rdI .i64 (a1.add 2) (fun x7 => rdI .i64 (a1.add 3) (fun x8 => Q x5 x6 x7 x8 12 h) h) h) h) h) h) h) h) h) h

def palisaderef12_Disk_Complete.j9 (I8 : (Option Ptr) → (Option Ptr) → Ptr → Ptr → Int → Heap → Prop) (a1 : Option Ptr) (a2 : Option Ptr) (a3 : Ptr) (a4 : Ptr) (a5 : Int) (Q : Int → Bool → Int → Int → Int → Heap → Prop) (h : Heap) : Prop :=
  I8 a1 a2 a3 a4 (IntKind.i64.wrap (a5 + 1)) h

def palisaderef12_Disk_Complete.b8  (I8 : (Option Ptr) → (Option Ptr) → Ptr → Ptr → Int → Heap → Prop) (a1 : Option Ptr) (a2 : Option Ptr) (a3 : Ptr) (a4 : Ptr) (a5 : Int) (Q : Int → Bool → Int → Int → Int → Heap → Prop) (h : Heap) : Prop :=
  br (decide (a5 < 256)) (rdB (a4.add 1) (fun x1 => br x1 (der a1 (fun p2 => rdSl (p2.add 0) (fun x3 => rdI .i64 (a4.add 2) (fun x4 => der a2 (fun p5 => rdSl (p5.add 0) (fun x6 => rdI .i64 (a4.add 3) (fun x7 => ix (IntKind.i64.wrap ((IntKind.i64.wrap (x7 * 256)) + a5)) x6.len (fun n8 => der x6.p (fun p9 => rdI .u8 (p9.add (n8 * 1)) (fun x10 => ix (IntKind.i64.wrap ((IntKind.i64.wrap (x4 * 256)) + a5)) x3.len (fun n11 => der x3.p (fun p12 => wr (p12.add (n11 * 1)) (.int .u8 x10) (fun h => palisaderef12_Disk_Complete.j9 I8 a1 a2 a3 a4 a5 Q h) h))) h))) h) h)) h) h)) (der a2 (fun p13 => rdSl (p13.add 0) (fun x14 => rdI .i64 (a4.add 3) (fun x15 => der a1 (fun p16 => rdSl (p16.add 0) (fun x17 => rdI .i64 (a4.add 2) (fun x18 => ix (IntKind.i64.wrap ((IntKind.i64.wrap (x18 * 256)) + a5)) x17.len (fun n19 => der x17.p (fun p20 => rdI .u8 (p20.add (n19 * 1)) (fun x21 => ix (IntKind.i64.wrap ((IntKind.i64.wrap (x15 * 256)) + a5)) x14.len (fun n22 => der x14.p (fun p23 => wr (p23.add (n22 * 1)) (.int .u8 x21) (fun h => palisaderef12_Disk_Complete.j9 I8 a1 a2 a3 a4 a5 Q h) h))) h))) h) h)) h) h))) h) (rdI .i64 (a4.add 0) (fun x24 => rdB (a4.add 1) (fun x25 => rdI .i64 (a4.add 2) (fun x26 => rdI .i64 (a4.add 3) (fun x27 => wrL [.int .i64 x24, .bool x25, .int .i64 x26, .int .i64 x27] a3 0 (fun h => rdI .i64 (a3.add 0) (fun x28 => rdB (a3.add 1) (fun x29 => rdI .i64 (a3.add 2) (fun x30 => rdI .i64 (a3.add 3) (fun x31 => Q x28 x29 x30 x31 0 h) h) h) h) h) h) h) h) h) h)

def palisaderef12_Disk_Complete.j8  (a1 : Option Ptr) (a2 : Option Ptr) (a3 : Ptr) (a4 : Ptr) (a5 : Int) (Q : Int → Bool → Int → Int → Int → Heap → Prop) (h : Heap) : Prop :=
  ∀ I : (Option Ptr) → (Option Ptr) → Ptr → Ptr → Int → Heap → Prop, (∀ a1 a2 a3 a4 a5 h, palisaderef12_Disk_Complete.b8  I a1 a2 a3 a4 a5 Q h → I a1 a2 a3 a4 a5 h) → I a1 a2 a3 a4 a5 h

def palisaderef12_Disk_Complete.j5  (a1 : Option Ptr) (a2 : Option Ptr) (a3 : Ptr) (a4 : Ptr) (Q : Int → Bool → Int → Int → Int → Heap → Prop) (h : Heap) : Prop :=
  rdI .i64 (a4.add 3) (fun x1 => br (decide (x1 < 0)) (palisaderef12_Disk_Complete.j6 a3 a4 Q h) (rdI .i64 (a4.add 3) (fun x2 => der a2 (fun p3 => rdSl (p3.add 0) (fun x4 => nz 256 (br (decide (x2 ≥ (IntKind.i64.wrap (((x4.len : Nat) : Int).tdiv 256)))) (palisaderef12_Disk_Complete.j6 a3 a4 Q h) (palisaderef12_Disk_Complete.j8 a1 a2 a3 a4 0 Q h))) h)) h)) h

def palisaderef12_Disk_Complete (a1 : Option Ptr) (a2 : Option Ptr) (a3 : Int) (Q : Int → Bool → Int → Int → Int → Heap → Prop) (h : Heap) : Prop :=
  al [.int .i64 0, .bool false, .int .i64 0, .int .i64 0] (fun b1 h => br (decide (a3 < 0)) (palisaderef12_Disk_Complete.j2 (⟨b1, 0⟩ : Ptr) Q h) (der a1 (fun p2 => rdSl (p2.add 1) (fun x3 => br (decide (a3 ≥ ((x3.len : Nat) : Int))) (palisaderef12_Disk_Complete.j2 (⟨b1, 0⟩ : Ptr) Q h) (der a1 (fun p4 => rdSl (p4.add 1) (fun x5 => ix a3 x5.len (fun n6 => der x5.p (fun p7 => rdI .i64 ((p7.add (n6 * 4)).add 0) (fun x8 => rdB ((p7.add (n6 * 4)).add 1) (fun x9 => rdI .i64 ((p7.add (n6 * 4)).add 2) (fun x10 => rdI .i64 ((p7.add (n6 * 4)).add 3) (fun x11 => al [.int .i64 0, .bool false, .int .i64 0, .int .i64 0] (fun b12 h => wrL [.int .i64 x8, .bool x9, .int .i64 x10, .int .i64 x11] (⟨b12, 0⟩ : Ptr) 0 (fun h => der a1 (fun p13 => rdSl (p13.add 1) (fun x14 => sb a3 x14.cap (fun n15 => der a1 (fun p16 => rdSl (p16.add 1) (fun x17 => sb (IntKind.i64.wrap (a3 + 1)) x17.len (fun n18 => al [] (fun b19 h => ck (p16.add 1) [.sl x17] 0 h ∧ ck (p13.add 1) [.sl x14] 0 h ∧ cellsS 4 ⟨slp x14.p (0 * 4) 0 x14.cap, n15 - 0, x14.cap - 0⟩ (fun cs21 => appS 4 32 [.int .i64 0, .bool false, .int .i64 0, .int .i64 0] ⟨some ⟨b19, 0⟩, 0, 0⟩ cs21 (n15 - 0) (fun s20 h => ck (p16.add 1) [.sl x17] 0 h ∧ (cellsS 4 ⟨slp x17.p (n18 * 4) n18 x17.cap, x17.len - n18, x17.cap - n18⟩ (fun cs23 => appS 4 32 [.int .i64 0, .bool false, .int .i64 0, .int .i64 0] s20 cs23 (x17.len - n18) (fun s22 h => der a1 (fun p24 => wr (p24.add 1) (.sl s22) (fun h => palisaderef12_Disk_Complete.j5 a1 a2 (⟨b1, 0⟩ : Ptr) (⟨b12, 0⟩ : Ptr) Q h) h)) h) h)) h) h) h)) h))) h)) h) h) h) h) h) h))) h))) h))) h

def palisaderef12_Disk_Put.b6  (I6 : (Option Ptr) → Int → Sl → Int → Heap → Prop) (a1 : Option Ptr) (a2 : Int) (a3 : Sl) (a4 : Int) (Q : Int → Heap → Prop) (h : Heap) : Prop :=
  br (decide (a4 < 256)) (der a1 (fun p1 => rdSl (p1.add 0) (fun x2 => ix a4 a3.len (fun n3 => der a3.p (fun p4 => rdI .u8 (p4.add (n3 * 1)) (fun x5 => ix (IntKind.i64.wrap ((IntKind.i64.wrap (a2 * 256)) + a4)) x2.len (fun n6 => der x2.p (fun p7 => wr (p7.add (n6 * 1)) (.int .u8 x5) (fun h => I6 a1 a2 a3 (IntKind.i64.wrap (a4 + 1)) h) h))) h))) h)) (Q 0 h)

def palisaderef12_Disk_Put.j6  (a1 : Option Ptr) (a2 : Int) (a3 : Sl) (a4 : Int) (Q : Int → Heap → Prop) (h : Heap) : Prop :=
  ∀ I : (Option Ptr) → Int → Sl → Int → Heap → Prop, (∀ a1 a2 a3 a4 h, palisaderef12_Disk_Put.b6  I a1 a2 a3 a4 Q h → I a1 a2 a3 a4 h) → I a1 a2 a3 a4 h

def palisaderef12_Disk_Put (a1 : Option Ptr) (a2 : Int) (a3 : Sl) (Q : Int → Heap → Prop) (h : Heap) : Prop :=
  palisaderef12_Disk_has a1 a2 (fun r1 h => br (!r1) (Q 12 h) (br (((a3.len : Nat) : Int) != 256) (Q 2 h) (palisaderef12_Disk_Put.j6 a1 a2 a3 0 Q h))) h

def palisaderef04_Memory_lies (a1 : Option Ptr) (a2 : Int) (a3 : Int) (Q : Bool → Heap → Prop) (h : Heap) : Prop :=
  der a1 (fun p1 => rdSl (p1.add 0) (fun x2 => br (decide (a3 ≤ ((x2.len : Nat) : Int))) (der a1 (fun p3 => rdSl (p3.add 0) (fun x4 => Q (decide (a2 ≤ (IntKind.u64.wrap (IntKind.i64.wrap (((x4.len : Nat) : Int) - a3))))) h) h)) (Q false h)) h)

def palisaderef04_Memory_Put.b4  (I4 : (Option Ptr) → Int → Sl → Int → Heap → Prop) (a1 : Option Ptr) (a2 : Int) (a3 : Sl) (a4 : Int) (Q : Int → Heap → Prop) (h : Heap) : Prop :=
  br (decide (a4 < ((a3.len : Nat) : Int))) (der a1 (fun p1 => rdSl (p1.add 0) (fun x2 => ix a4 a3.len (fun n3 => der a3.p (fun p4 => rdI .u8 (p4.add (n3 * 1)) (fun x5 => ix (IntKind.i64.wrap ((IntKind.i64.wrap a2) + a4)) x2.len (fun n6 => der x2.p (fun p7 => wr (p7.add (n6 * 1)) (.int .u8 x5) (fun h => I4 a1 a2 a3 (IntKind.i64.wrap (a4 + 1)) h) h))) h))) h)) (Q 0 h)

def palisaderef04_Memory_Put.j4  (a1 : Option Ptr) (a2 : Int) (a3 : Sl) (a4 : Int) (Q : Int → Heap → Prop) (h : Heap) : Prop :=
  ∀ I : (Option Ptr) → Int → Sl → Int → Heap → Prop, (∀ a1 a2 a3 a4 h, palisaderef04_Memory_Put.b4  I a1 a2 a3 a4 Q h → I a1 a2 a3 a4 h) → I a1 a2 a3 a4 h

def palisaderef04_Memory_Put (a1 : Option Ptr) (a2 : Int) (a3 : Sl) (Q : Int → Heap → Prop) (h : Heap) : Prop :=
  palisaderef04_Memory_lies a1 a2 ((a3.len : Nat) : Int) (fun r1 h => br (!r1) (Q 12 h) (palisaderef04_Memory_Put.j4 a1 a2 a3 0 Q h)) h

def palisadelaw12_DiskPlays.j6 (U : Ifc)   (Q : Bool → Heap → Prop) (h : Heap) : Prop :=
  Q false h

def palisadelaw12_DiskPlays.j14 (U : Ifc) (I8 : Sl → (Option Ptr) → (Option Ptr) → (Option Ptr) → (Option Ptr) → Int → Heap → Prop)  (Q : Bool → Heap → Prop) (h : Heap) : Prop :=
  Q false h

def palisadelaw12_DiskPlays.j34 (U : Ifc) (I8 : Sl → (Option Ptr) → (Option Ptr) → (Option Ptr) → (Option Ptr) → Int → Heap → Prop)  (Q : Bool → Heap → Prop) (h : Heap) : Prop :=
  Q false h

def palisadelaw12_DiskPlays.b36 (U : Ifc) (I8 : Sl → (Option Ptr) → (Option Ptr) → (Option Ptr) → (Option Ptr) → Int → Heap → Prop) (I36 : Sl → (Option Ptr) → (Option Ptr) → (Option Ptr) → (Option Ptr) → Int → Sl → Int → Heap → Prop) (a1 : Sl) (a2 : Option Ptr) (a3 : Option Ptr) (a4 : Option Ptr) (a5 : Option Ptr) (a6 : Int) (a7 : Sl) (a8 : Int) (Q : Bool → Heap → Prop) (h : Heap) : Prop :=
  br (decide (a8 < ((a7.len : Nat) : Int))) (ix a8 a7.len (fun n1 => der a7.p (fun p2 => wr (p2.add (n1 * 1)) (.int .u8 7) (fun h => I36 a1 a2 a3 a4 a5 a6 a7 (IntKind.i64.wrap (a8 + 1)) h) h))) (I8 a1 a2 a3 a4 a5 (IntKind.i64.wrap (a6 + 1)) h)

def palisadelaw12_DiskPlays.j36 (U : Ifc) (I8 : Sl → (Option Ptr) → (Option Ptr) → (Option Ptr) → (Option Ptr) → Int → Heap → Prop) (a1 : Sl) (a2 : Option Ptr) (a3 : Option Ptr) (a4 : Option Ptr) (a5 : Option Ptr) (a6 : Int) (a7 : Sl) (a8 : Int) (Q : Bool → Heap → Prop) (h : Heap) : Prop :=
  ∀ I : Sl → (Option Ptr) → (Option Ptr) → (Option Ptr) → (Option Ptr) → Int → Sl → Int → Heap → Prop, (∀ a1 a2 a3 a4 a5 a6 a7 a8 h, palisadelaw12_DiskPlays.b36 U I8 I a1 a2 a3 a4 a5 a6 a7 a8 Q h → I a1 a2 a3 a4 a5 a6 a7 a8 h) → I a1 a2 a3 a4 a5 a6 a7 a8 h

def palisadelaw12_DiskPlays.j35 (U : Ifc) (I8 : Sl → (Option Ptr) → (Option Ptr) → (Option Ptr) → (Option Ptr) → Int → Heap → Prop) (a1 : Sl) (a2 : Option Ptr) (a3 : Option Ptr) (a4 : Option Ptr) (a5 : Option Ptr) (a6 : Int) (a7 : Sl) (Q : Bool → Heap → Prop) (h : Heap) : Prop :=
  palisadelaw12_DiskPlays.j36 U I8 a1 a2 a3 a4 a5 a6 a7 0 Q h

def palisadelaw12_DiskPlays.j31 (U : Ifc) (I8 : Sl → (Option Ptr) → (Option Ptr) → (Option Ptr) → (Option Ptr) → Int → Heap → Prop) (a1 : Sl) (a2 : Option Ptr) (a3 : Option Ptr) (a4 : Option Ptr) (a5 : Option Ptr) (a6 : Int) (a7 : Ptr) (Q : Bool → Heap → Prop) (h : Heap) : Prop :=
  rdI .i64 (a7.add 5) (fun x1 => disk_Disk_Block a2 x1 (fun r2 r3 h => rdI .i64 (a7.add 5) (fun x4 => palisaderef12_Disk_Block a3 x4 (fun r5 r6 h => cellsS 1 r2 (fun cs7 => bytesOf cs7 (fun s8 => cellsS 1 r5 (fun cs9 => bytesOf cs9 (fun s10 => br (!(s8 == s10)) (palisadelaw12_DiskPlays.j34 U I8 Q h) (br (r3 != r6) (palisadelaw12_DiskPlays.j34 U I8 Q h) (palisadelaw12_stands a2 a3 (fun r11 h => br (!r11) (palisadelaw12_DiskPlays.j34 U I8 Q h) (palisadelaw12_DiskPlays.j35 U I8 a1 a2 a3 a4 a5 a6 r2 Q h)) h)))) h)) h) h) h) h) h

def palisadelaw12_DiskPlays.j19 (U : Ifc) (I8 : Sl → (Option Ptr) → (Option Ptr) → (Option Ptr) → (Option Ptr) → Int → Heap → Prop)  (Q : Bool → Heap → Prop) (h : Heap) : Prop :=
  Q false h

def palisadelaw12_DiskPlays.j17 (U : Ifc) (I8 : Sl → (Option Ptr) → (Option Ptr) → (Option Ptr) → (Option Ptr) → Int → Heap → Prop) (a1 : Sl) (a2 : Option Ptr) (a3 : Option Ptr) (a4 : Option Ptr) (a5 : Option Ptr) (a6 : Int) (a7 : Ptr) (a8 : Ptr) (a9 : Int) (Q : Bool → Heap → Prop) (h : Heap) : Prop :=
  rdI .i64 (a7.add 5) (fun x1 => palisaderef12_Disk_Complete a3 a5 x1 (fun r2 r3 r4 r5 r6 h => al [.int .i64 0, .bool false, .int .i64 0, .int .i64 0] (fun b7 h => wrL [.int .i64 r2, .bool r3, .int .i64 r4, .int .i64 r5] (⟨b7, 0⟩ : Ptr) 0 (fun h => rdI .i64 (a8.add 0) (fun x8 => rdB (a8.add 1) (fun x9 => rdI .i64 (a8.add 2) (fun x10 => rdI .i64 (a8.add 3) (fun x11 => rdI .i64 ((⟨b7, 0⟩ : Ptr).add 0) (fun x12 => rdB ((⟨b7, 0⟩ : Ptr).add 1) (fun x13 => rdI .i64 ((⟨b7, 0⟩ : Ptr).add 2) (fun x14 => rdI .i64 ((⟨b7, 0⟩ : Ptr).add 3) (fun x15 => br (!(eqL [x8 == x12, x9 == x13, x10 == x14, x11 == x15])) (palisadelaw12_DiskPlays.j19 U I8 Q h) (br (a9 != r6) (palisadelaw12_DiskPlays.j19 U I8 Q h) (palisadelaw12_DiskPlays.j31 U I8 a1 a2 a3 a4 a5 a6 a7 Q h))) h) h) h) h) h) h) h) h) h) h) h) h

def palisadelaw12_DiskPlays.b25 (U : Ifc) (I8 : Sl → (Option Ptr) → (Option Ptr) → (Option Ptr) → (Option Ptr) → Int → Heap → Prop) (I25 : Sl → (Option Ptr) → (Option Ptr) → (Option Ptr) → (Option Ptr) → Int → Ptr → Sl → Int → Heap → Prop) (a1 : Sl) (a2 : Option Ptr) (a3 : Option Ptr) (a4 : Option Ptr) (a5 : Option Ptr) (a6 : Int) (a7 : Ptr) (a8 : Sl) (a9 : Int) (Q : Bool → Heap → Prop) (h : Heap) : Prop :=
  br (decide (a9 < ((a8.len : Nat) : Int))) (ix a9 a8.len (fun n1 => der a8.p (fun p2 => rdI .u8 (p2.add (n1 * 1)) (fun x3 => ix a9 a8.len (fun n4 => der a8.p (fun p5 => wr (p5.add (n4 * 1)) (.int .u8 (IntKind.u8.wrap (x3 + 1))) (fun h => I25 a1 a2 a3 a4 a5 a6 a7 a8 (IntKind.i64.wrap (a9 + 1)) h) h))) h))) (palisadelaw12_DiskPlays.j31 U I8 a1 a2 a3 a4 a5 a6 a7 Q h)

def palisadelaw12_DiskPlays.j25 (U : Ifc) (I8 : Sl → (Option Ptr) → (Option Ptr) → (Option Ptr) → (Option Ptr) → Int → Heap → Prop) (a1 : Sl) (a2 : Option Ptr) (a3 : Option Ptr) (a4 : Option Ptr) (a5 : Option Ptr) (a6 : Int) (a7 : Ptr) (a8 : Sl) (a9 : Int) (Q : Bool → Heap → Prop) (h : Heap) : Prop :=
  ∀ I : Sl → (Option Ptr) → (Option Ptr) → (Option Ptr) → (Option Ptr) → Int → Ptr → Sl → Int → Heap → Prop, (∀ a1 a2 a3 a4 a5 a6 a7 a8 a9 h, palisadelaw12_DiskPlays.b25 U I8 I a1 a2 a3 a4 a5 a6 a7 a8 a9 Q h → I a1 a2 a3 a4 a5 a6 a7 a8 a9 h) → I a1 a2 a3 a4 a5 a6 a7 a8 a9 h

def palisadelaw12_DiskPlays.j22 (U : Ifc) (I8 : Sl → (Option Ptr) → (Option Ptr) → (Option Ptr) → (Option Ptr) → Int → Heap → Prop) (a1 : Sl) (a2 : Option Ptr) (a3 : Option Ptr) (a4 : Option Ptr) (a5 : Option Ptr) (a6 : Int) (a7 : Ptr) (a8 : Sl) (Q : Bool → Heap → Prop) (h : Heap) : Prop :=
  rdI .i64 (a7.add 5) (fun x1 => rdI .i64 (a7.add 5) (fun x2 => rdSl (a7.add 6) (fun x3 => disk_Disk_Put U a2 x1 a8 (fun r4 h => ck (a7.add 6) [.sl x3] 0 h ∧ ck (a7.add 5) [.int .i64 x2] 0 h ∧ (palisaderef12_Disk_Put a3 x2 x3 (fun r5 h => br (r4 != r5) (Q false h) (palisadelaw12_DiskPlays.j25 U I8 a1 a2 a3 a4 a5 a6 a7 a8 0 Q h)) h)) h) h) h) h

def palisadelaw12_DiskPlays.j30 (U : Ifc) (I8 : Sl → (Option Ptr) → (Option Ptr) → (Option Ptr) → (Option Ptr) → Int → Heap → Prop) (a1 : Sl) (a2 : Option Ptr) (a3 : Option Ptr) (a4 : Option Ptr) (a5 : Option Ptr) (a6 : Int) (a7 : Ptr) (Q : Bool → Heap → Prop) (h : Heap) : Prop :=
  rdI .i64 (a7.add 5) (fun x1 => rdSl (a7.add 6) (fun x2 => palisaderef04_Memory_Put a5 (IntKind.u64.wrap ((IntKind.u64.wrap (ibits .and .i64 x1 3)) * 256)) x2 (fun r3 h => palisadelaw12_DiskPlays.j31 U I8 a1 a2 a3 a4 a5 a6 a7 Q h) h) h) h

def palisadelaw12_DiskPlays.j39 (U : Ifc)  (a1 : Option Ptr) (a2 : Option Ptr) (Q : Bool → Heap → Prop) (h : Heap) : Prop :=
  mem_Memory_Bytes a1 0 1024 (fun r1 r2 h => der a2 (fun p3 => rdSl (p3.add 0) (fun x4 => (cellsS 1 r1 (fun cs5 => bytesOf cs5 (fun s6 => ck (p3.add 0) [.sl x4] 0 h ∧ (cellsS 1 x4 (fun cs7 => bytesOf cs7 (fun s8 => Q (s6 == s8) h)) h))) h) ∧ (cellsS 1 x4 (fun cs9 => bytesOf cs9 (fun s10 => cellsS 1 r1 (fun cs11 => bytesOf cs11 (fun s12 => Q (s12 == s10) h)) h)) h)) h)) h

def palisadelaw12_DiskPlays.b8 (U : Ifc)  (I8 : Sl → (Option Ptr) → (Option Ptr) → (Option Ptr) → (Option Ptr) → Int → Heap → Prop) (a1 : Sl) (a2 : Option Ptr) (a3 : Option Ptr) (a4 : Option Ptr) (a5 : Option Ptr) (a6 : Int) (Q : Bool → Heap → Prop) (h : Heap) : Prop :=
  br (decide (a6 < ((a1.len : Nat) : Int))) (br (!a3.isNone) (ix a6 a1.len (fun n1 => der a1.p (fun p2 => rdI .i64 ((p2.add (n1 * 7)).add 0) (fun x3 => rdI .i64 ((p2.add (n1 * 7)).add 1) (fun x4 => rdB ((p2.add (n1 * 7)).add 2) (fun x5 => rdI .i64 ((p2.add (n1 * 7)).add 3) (fun x6 => rdI .i64 ((p2.add (n1 * 7)).add 4) (fun x7 => rdI .i64 ((p2.add (n1 * 7)).add 5) (fun x8 => rdSl ((p2.add (n1 * 7)).add 6) (fun x9 => al z_palisade_palisadelaw12_Act (fun b10 h => wrL [.int .i64 x3, .int .i64 x4, .bool x5, .int .i64 x6, .int .i64 x7, .int .i64 x8, .sl x9] (⟨b10, 0⟩ : Ptr) 0 (fun h => rdI .i64 ((⟨b10, 0⟩ : Ptr).add 0) (fun x11 => br (x11 == 0) (rdI .i64 (((⟨b10, 0⟩ : Ptr).add 1).add 0) (fun x12 => rdB (((⟨b10, 0⟩ : Ptr).add 1).add 1) (fun x13 => rdI .i64 (((⟨b10, 0⟩ : Ptr).add 1).add 2) (fun x14 => rdI .i64 (((⟨b10, 0⟩ : Ptr).add 1).add 3) (fun x15 => rdI .i64 (((⟨b10, 0⟩ : Ptr).add 1).add 0) (fun x16 => rdB (((⟨b10, 0⟩ : Ptr).add 1).add 1) (fun x17 => rdI .i64 (((⟨b10, 0⟩ : Ptr).add 1).add 2) (fun x18 => rdI .i64 (((⟨b10, 0⟩ : Ptr).add 1).add 3) (fun x19 => disk_Disk_Submit U a2 x12 x13 x14 x15 (fun r20 h => ck ((⟨b10, 0⟩ : Ptr).add 1) [.int .i64 x16, .bool x17, .int .i64 x18, .int .i64 x19] 0 h ∧ (palisaderef12_Disk_Submit a3 x16 x17 x18 x19 (fun r21 h => br (r20 != r21) (palisadelaw12_DiskPlays.j14 U I8 Q h) (palisadelaw12_DiskPlays.j31 U I8 a1 a2 a3 a4 a5 a6 (⟨b10, 0⟩ : Ptr) Q h)) h)) h) h) h) h) h) h) h) h) h) (br (x11 == 1) (rdI .i64 ((⟨b10, 0⟩ : Ptr).add 5) (fun x22 => disk_Disk_Complete U a2 a4 x22 (fun r23 r24 r25 r26 r27 h => al [.int .i64 0, .bool false, .int .i64 0, .int .i64 0] (fun b28 h => wrL [.int .i64 r23, .bool r24, .int .i64 r25, .int .i64 r26] (⟨b28, 0⟩ : Ptr) 0 (fun h => palisadelaw12_DiskPlays.j17 U I8 a1 a2 a3 a4 a5 a6 (⟨b10, 0⟩ : Ptr) (⟨b28, 0⟩ : Ptr) r27 Q h) h) h) h) h) (br (x11 == 2) (al [] (fun b29 h => rdSl ((⟨b10, 0⟩ : Ptr).add 6) (fun x30 => cellsS 1 x30 (fun cs32 => appS 1 1 [.int .u8 0] ⟨some ⟨b29, 0⟩, 0, 0⟩ cs32 x30.len (fun s31 h => palisadelaw12_DiskPlays.j22 U I8 a1 a2 a3 a4 a5 a6 (⟨b10, 0⟩ : Ptr) s31 Q h) h) h) h) h) (br (x11 == 3) (rdI .i64 ((⟨b10, 0⟩ : Ptr).add 5) (fun x33 => rdSl ((⟨b10, 0⟩ : Ptr).add 6) (fun x34 => mem_Memory_Put a4 (IntKind.u64.wrap ((IntKind.u64.wrap (ibits .and .i64 x33 3)) * 256)) x34 (fun r35 h => palisadelaw12_DiskPlays.j30 U I8 a1 a2 a3 a4 a5 a6 (⟨b10, 0⟩ : Ptr) Q h) h) h) h) (palisadelaw12_DiskPlays.j31 U I8 a1 a2 a3 a4 a5 a6 (⟨b10, 0⟩ : Ptr) Q h))))) h) h) h) h) h) h) h) h) h) h))) (palisadelaw12_DiskPlays.j39 U a4 a5 Q h)) (palisadelaw12_DiskPlays.j39 U a4 a5 Q h)

def palisadelaw12_DiskPlays.j8 (U : Ifc)  (a1 : Sl) (a2 : Option Ptr) (a3 : Option Ptr) (a4 : Option Ptr) (a5 : Option Ptr) (a6 : Int) (Q : Bool → Heap → Prop) (h : Heap) : Prop :=
  ∀ I : Sl → (Option Ptr) → (Option Ptr) → (Option Ptr) → (Option Ptr) → Int → Heap → Prop, (∀ a1 a2 a3 a4 a5 a6 h, palisadelaw12_DiskPlays.b8 U  I a1 a2 a3 a4 a5 a6 Q h → I a1 a2 a3 a4 a5 a6 h) → I a1 a2 a3 a4 a5 a6 h

def palisadelaw12_DiskPlays.j5 (U : Ifc)  (a1 : Sl) (a2 : Option Ptr) (a3 : Int) (a4 : Option Ptr) (a5 : Int) (a6 : Option Ptr) (a7 : Int) (a8 : Option Ptr) (Q : Bool → Heap → Prop) (h : Heap) : Prop :=
  br (a3 != a5) (palisadelaw12_DiskPlays.j6 U Q h) (br (!(a2.isNone == a4.isNone)) (palisadelaw12_DiskPlays.j6 U Q h) (br (a7 != 0) (palisadelaw12_DiskPlays.j6 U Q h) (palisadelaw12_names (fun r1 h => br (!r1) (palisadelaw12_DiskPlays.j6 U Q h) (palisadelaw12_DiskPlays.j8 U a1 a2 a4 a6 a8 0 Q h)) h)))

def palisadelaw12_DiskPlays (U : Ifc) (a1 : Int) (a2 : Sl) (Q : Bool → Heap → Prop) (h : Heap) : Prop :=
  disk_New a1 (fun r1 r2 h => palisaderef12_New a1 (fun r3 r4 h => mem_New 4 (fun r5 r6 h => palisaderef04_New 4 (fun r7 r8 h => palisadelaw12_DiskPlays.j5 U a2 r1 r2 r3 r4 r5 r6 r7 Q h) h) h) h) h

def disk_Disk_Submit_c1 (a1 : Int) (a2 : Bool) (a3 : Int) (a4 : Int) (a5 : Ptr) (Q : Bool → Heap → Prop) (h : Heap) : Prop :=
  al [.int .i64 a1, .bool a2, .int .i64 a3, .int .i64 a4] (fun b1 h => rdI .i64 ((⟨b1, 0⟩ : Ptr).add 0) (fun x2 => rdI .i64 (a5.add 0) (fun x3 => Q (x2 == x3) h) h) h) h

def disk_Disk_Complete_c1 (a1 : Int) (a2 : Bool) (a3 : Int) (a4 : Int) (a5 : Ptr) (Q : Bool → Heap → Prop) (h : Heap) : Prop :=
  al [.int .i64 a1, .bool a2, .int .i64 a3, .int .i64 a4] (fun b1 h => rdI .i64 ((⟨b1, 0⟩ : Ptr).add 0) (fun x2 => rdB ((⟨b1, 0⟩ : Ptr).add 1) (fun x3 => rdI .i64 ((⟨b1, 0⟩ : Ptr).add 2) (fun x4 => rdI .i64 ((⟨b1, 0⟩ : Ptr).add 3) (fun x5 => rdI .i64 (a5.add 0) (fun x6 => rdB (a5.add 1) (fun x7 => rdI .i64 (a5.add 2) (fun x8 => rdI .i64 (a5.add 3) (fun x9 => Q (eqL [x2 == x6, x3 == x7, x4 == x8, x5 == x9]) h) h) h) h) h) h) h) h) h) h

def disk_Disk_Put_c1 (a1 : Int) (Q : Bool → Heap → Prop) (h : Heap) : Prop :=
  Q (a1 != 0) h

end Go.Fn
