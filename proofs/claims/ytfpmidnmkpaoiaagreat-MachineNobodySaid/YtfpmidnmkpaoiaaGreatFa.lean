/- The shallow functions. PRINTED by lift.py. -/
import Derived.Test.YtfpmidnmkpaoiaaGreatLiftB
set_option linter.unusedVariables false
set_option maxRecDepth 100000
namespace Go.Fn
open Go.Lift

def z_palisade_machine_Context : List V := [.int .i64 0, .int .u64 0, .int .u64 0, .int .u64 0, .int .u64 0, .int .u64 0, .int .u64 0, .int .u64 0, .int .u64 0, .int .u64 0, .int .u64 0, .int .u64 0, .int .u64 0, .int .u64 0, .int .u64 0, .int .u64 0, .int .u64 0, .int .u64 0, .int .i64 0, .ptr none, .int .i64 0]
def z_palisade_api_Regs : List V := [.int .u64 0, .int .u64 0, .int .u64 0, .int .u64 0, .int .u64 0, .int .u64 0, .int .u64 0, .int .u64 0, .int .u64 0, .int .u64 0, .int .u64 0, .int .u64 0, .int .u64 0, .int .u64 0, .int .u64 0, .int .u64 0, .int .u64 0, .int .i64 0]
def z_palisade_machine_core : List V := [.ptr none, .ptr none, .int .i64 0, .int .u64 0, .int .u64 0, .int .u64 0, .int .u64 0, .int .u64 0, .int .u64 0, .int .u64 0, .int .u64 0, .int .u64 0, .int .u64 0, .int .u64 0, .int .u64 0, .int .u64 0, .int .u64 0, .int .u64 0, .int .u64 0, .int .u64 0, .int .i64 0, .ptr none, .int .i64 0, .bool false, .ptr none, .map none, .bool false, .int .u64 0]
def z_12_uint64 : List V := [.int .u64 0, .int .u64 0, .int .u64 0, .int .u64 0, .int .u64 0, .int .u64 0, .int .u64 0, .int .u64 0, .int .u64 0, .int .u64 0, .int .u64 0, .int .u64 0]
def z_palisade_csr_File : List V := [.bool false, .int .u64 0, .int .u64 0, .int .u64 0, .int .u64 0, .int .u64 0, .int .u64 0, .int .u64 0, .int .u64 0, .int .u64 0, .int .u64 0, .int .u64 0, .int .u64 0]

def machine_Machine_Cores (a1 : Option Ptr) (Q : Int → Heap → Prop) (h : Heap) : Prop :=
  br a1.isNone (Q 0 h) (der a1 (fun p1 => rdSl (p1.add 1) (fun x2 => Q ((x2.len : Nat) : Int) h) h))

def machine_Machine_of.j4   (Q : (Option Ptr) → Int → Heap → Prop) (h : Heap) : Prop :=
  Q none 2 h

def machine_Machine_of.j5  (a1 : Option Ptr) (a2 : Int) (Q : (Option Ptr) → Int → Heap → Prop) (h : Heap) : Prop :=
  der a1 (fun p1 => rdSl (p1.add 1) (fun x2 => ix a2 x2.len (fun n3 => der x2.p (fun p4 => rdP (p4.add (n3 * 1)) (fun x5 => Q x5 0 h) h))) h)

def machine_Machine_of (a1 : Option Ptr) (a2 : Int) (Q : (Option Ptr) → Int → Heap → Prop) (h : Heap) : Prop :=
  machine_Machine_Cores a1 (fun r1 h => br (r1 == 0) (Q none 1 h) (br (decide (a2 < 0)) (machine_Machine_of.j4 Q h) (der a1 (fun p2 => rdSl (p2.add 1) (fun x3 => br (decide (a2 ≥ ((x3.len : Nat) : Int))) (machine_Machine_of.j4 Q h) (machine_Machine_of.j5 a1 a2 Q h)) h)))) h

def machine_Machine_Get.j3  (a1 : Ptr) (Q : (List V) → Bool → Heap → Prop) (h : Heap) : Prop :=
  z_palisade_machine_Context.length = 21 ∧ wrL z_palisade_machine_Context a1 0 (fun h => rdN 21 a1 (fun cs1 => Q cs1 false h) h) h

def machine_Machine_Get.j4  (a1 : Ptr) (a2 : Option Ptr) (Q : (List V) → Bool → Heap → Prop) (h : Heap) : Prop :=
  der a2 (fun p1 => rdN 21 (p1.add 2) (fun cs2 => cs2.length = 21 ∧ wrL cs2 a1 0 (fun h => rdN 21 a1 (fun cs3 => Q cs3 true h) h) h) h)

def machine_Machine_Get.j2  (a1 : Ptr) (a2 : Option Ptr) (a3 : Int) (Q : (List V) → Bool → Heap → Prop) (h : Heap) : Prop :=
  br (a3 != 0) (machine_Machine_Get.j3 a1 Q h) (der a2 (fun p1 => rdB (p1.add 23) (fun x2 => br (!x2) (machine_Machine_Get.j3 a1 Q h) (machine_Machine_Get.j4 a1 a2 Q h)) h))

def machine_Machine_Get (a1 : Option Ptr) (a2 : Int) (Q : (List V) → Bool → Heap → Prop) (h : Heap) : Prop :=
  al z_palisade_machine_Context (fun b1 h => machine_Machine_of a1 a2 (fun r2 r3 h => machine_Machine_Get.j2 (⟨b1, 0⟩ : Ptr) r2 r3 Q h) h) h

def machine_Machine_Take.j5  (a1 : Ptr) (Q : (List V) → Int → Heap → Prop) (h : Heap) : Prop :=
  z_palisade_machine_Context.length = 21 ∧ wrL z_palisade_machine_Context a1 0 (fun h => rdN 21 a1 (fun cs1 => Q cs1 14 h) h) h

def machine_Machine_Take.j8  (a1 : Ptr) (a2 : Ptr) (Q : (List V) → Int → Heap → Prop) (h : Heap) : Prop :=
  rdN 21 a2 (fun cs1 => cs1.length = 21 ∧ wrL cs1 a1 0 (fun h => rdN 21 a1 (fun cs2 => Q cs2 0 h) h) h) h

def machine_Machine_Take.j6  (a1 : Ptr) (a2 : Option Ptr) (Q : (List V) → Int → Heap → Prop) (h : Heap) : Prop :=
  der a2 (fun p1 => rdN 21 (p1.add 2) (fun cs2 => al z_palisade_machine_Context (fun b3 h => cs2.length = 21 ∧ wrL cs2 (⟨b3, 0⟩ : Ptr) 0 (fun h => der a2 (fun p4 => z_palisade_machine_Context.length = 21 ∧ wrL z_palisade_machine_Context (p4.add 2) 0 (fun h => der a2 (fun p5 => wr (p5.add 23) (.bool false) (fun h => der a2 (fun p6 => wrL [.bool false, .int .u64 0] (p6.add 26) 0 (fun h => machine_Machine_Take.j8 a1 (⟨b3, 0⟩ : Ptr) Q h) h)) h)) h)) h) h) h)

def machine_Machine_Take.j2  (a1 : Ptr) (a2 : Option Ptr) (a3 : Int) (Q : (List V) → Int → Heap → Prop) (h : Heap) : Prop :=
  br (a3 != 0) (z_palisade_machine_Context.length = 21 ∧ wrL z_palisade_machine_Context a1 0 (fun h => rdN 21 a1 (fun cs1 => Q cs1 a3 h) h) h) (der a2 (fun p2 => rdB (p2.add 23) (fun x3 => br (!x3) (machine_Machine_Take.j5 a1 Q h) (machine_Machine_Take.j6 a1 a2 Q h)) h))

def machine_Machine_Take (a1 : Option Ptr) (a2 : Int) (Q : (List V) → Int → Heap → Prop) (h : Heap) : Prop :=
  al z_palisade_machine_Context (fun b1 h => machine_Machine_of a1 a2 (fun r2 r3 h => machine_Machine_Take.j2 (⟨b1, 0⟩ : Ptr) r2 r3 Q h) h) h

def machine_Machine_Step.j5  (a1 : Ptr) (Q : Int → Int → Int → Int → Bool → Bool → Int → Heap → Prop) (h : Heap) : Prop :=
  wrL [.int .i64 0, .int .i64 0, .int .u64 0, .int .u64 0, .bool false, .bool false] a1 0 (fun h => rdI .i64 (a1.add 0) (fun x1 => rdI .i64 (a1.add 1) (fun x2 => rdI .u64 (a1.add 2) (fun x3 => rdI .u64 (a1.add 3) (fun x4 => rdB (a1.add 4) (fun x5 => rdB (a1.add 5) (fun x6 => Q x1 x2 x3 x4 x5 x6 14 h) h) h) h) h) h) h) h

def machine_Machine_Step.j6  (a1 : Ptr) (a2 : Option Ptr) (Q : Int → Int → Int → Int → Bool → Bool → Int → Heap → Prop) (h : Heap) : Prop :=
  der a2 (fun p1 => der a2 (fun p2 => rdP ((p2.add 2).add 19) (fun x3 => (ck ((p2.add 2).add 19) [.ptr x3] 0 h ∧ ((False) ∧ (al [.int .i64 0, .int .i64 0, .int .u64 0, .int .u64 0, .bool false, .bool false] (fun b4 h => ck ((p2.add 2).add 19) [.ptr x3] 0 h ∧ False) h))) ∧ (al [.int .i64 0, .int .i64 0, .int .u64 0, .int .u64 0, .bool false, .bool false] (fun b5 h => ck ((p2.add 2).add 19) [.ptr x3] 0 h ∧ ck ((p2.add 2).add 19) [.ptr x3] 0 h ∧ False) h)) h))

def machine_Machine_Step.j2  (a1 : Ptr) (a2 : Option Ptr) (a3 : Int) (Q : Int → Int → Int → Int → Bool → Bool → Int → Heap → Prop) (h : Heap) : Prop :=
  br (a3 != 0) (wrL [.int .i64 0, .int .i64 0, .int .u64 0, .int .u64 0, .bool false, .bool false] a1 0 (fun h => rdI .i64 (a1.add 0) (fun x1 => rdI .i64 (a1.add 1) (fun x2 => rdI .u64 (a1.add 2) (fun x3 => rdI .u64 (a1.add 3) (fun x4 => rdB (a1.add 4) (fun x5 => rdB (a1.add 5) (fun x6 => Q x1 x2 x3 x4 x5 x6 a3 h) h) h) h) h) h) h) h) (der a2 (fun p7 => rdB (p7.add 23) (fun x8 => br (!x8) (machine_Machine_Step.j5 a1 Q h) (machine_Machine_Step.j6 a1 a2 Q h)) h))

def machine_Machine_Step (a1 : Option Ptr) (a2 : Int) (Q : Int → Int → Int → Int → Bool → Bool → Int → Heap → Prop) (h : Heap) : Prop :=
  al [.int .i64 0, .int .i64 0, .int .u64 0, .int .u64 0, .bool false, .bool false] (fun b1 h => machine_Machine_of a1 a2 (fun r2 r3 h => machine_Machine_Step.j2 (⟨b1, 0⟩ : Ptr) r2 r3 Q h) h) h

def machine_Machine_Flush.j2  (a1 : Int) (a2 : Option Ptr) (a3 : Int) (Q : Int → Int → Heap → Prop) (h : Heap) : Prop :=
  br (a3 != 0) (Q 0 a3 h) (False)

def machine_Machine_Flush (a1 : Option Ptr) (a2 : Int) (a3 : Int) (Q : Int → Int → Heap → Prop) (h : Heap) : Prop :=
  machine_Machine_of a1 a2 (fun r1 r2 h => machine_Machine_Flush.j2 a3 r1 r2 Q h) h

def machine_Machine_Memory (a1 : Option Ptr) (Q : (Option Ptr) → Heap → Prop) (h : Heap) : Prop :=
  br a1.isNone (Q none h) (der a1 (fun p1 => rdP (p1.add 0) (fun x2 => Q x2 h) h))

def csr_New.j3  (a1 : Ptr) (Q : (Option Ptr) → Heap → Prop) (h : Heap) : Prop :=
  Q (some a1) h

def csr_New (a1 : Int) (Q : (Option Ptr) → Heap → Prop) (h : Heap) : Prop :=
  al [.bool true, .int .u64 0, .int .u64 0, .int .u64 0, .int .u64 0, .int .u64 0, .int .u64 0, .int .u64 0, .int .u64 0, .int .u64 0, .int .u64 0, .int .u64 0, .int .u64 0] (fun b1 h => ix 11 12 (fun n2 => wr (((⟨b1, 0⟩ : Ptr).add 1).add (n2 * 1)) (.int .u64 (IntKind.u64.wrap a1)) (fun h => csr_New.j3 (⟨b1, 0⟩ : Ptr) Q h) h)) h

def machine_Machine_Put.j2  (a1 : Option Ptr) (a2 : Ptr) (a3 : Option Ptr) (a4 : Int) (Q : Int → Heap → Prop) (h : Heap) : Prop :=
  br (a4 != 0) (Q a4 h) (rdP (a2.add 19) (fun x1 => False) h)

def machine_Machine_Put (a1 : Option Ptr) (a2 : Int) (a3 : List V) (Q : Int → Heap → Prop) (h : Heap) : Prop :=
  a3.length = 21 ∧ al a3 (fun b1 h => machine_Machine_of a1 a2 (fun r2 r3 h => machine_Machine_Put.j2 a1 (⟨b1, 0⟩ : Ptr) r2 r3 Q h) h) h

def machine_Machine_Kept.b6  (I6 : Int → (Option Ptr) → Sl → Sl → Int → Int → Heap → Prop) (a1 : Int) (a2 : Option Ptr) (a3 : Sl) (a4 : Sl) (a5 : Int) (a6 : Int) (Q : Sl → Heap → Prop) (h : Heap) : Prop :=
  br (decide (a6 < a5)) (ix a6 a4.len (fun n1 => der a4.p (fun p2 => rdI .i64 ((p2.add (n1 * 3)).add 0) (fun x3 => rdI .u64 ((p2.add (n1 * 3)).add 1) (fun x4 => rdB ((p2.add (n1 * 3)).add 2) (fun x5 => al [.int .i64 0, .int .u64 0, .bool false] (fun b6 h => wrL [.int .i64 x3, .int .u64 x4, .bool x5] (⟨b6, 0⟩ : Ptr) 0 (fun h => der a2 (fun p7 => rdP (p7.add 24) (fun x8 => rdI .i64 ((⟨b6, 0⟩ : Ptr).add 0) (fun x9 => rdI .u64 ((⟨b6, 0⟩ : Ptr).add 1) (fun x10 => rdB ((⟨b6, 0⟩ : Ptr).add 2) (fun x11 => (False) ∧ (al [.int .i64 0, .bool false, .bool false, .bool false, .bool false, .int .i64 0] (fun b12 h => ck (⟨b6, 0⟩ : Ptr) [.int .i64 x9, .int .u64 x10, .bool x11] 0 h ∧ ck (p7.add 24) [.ptr x8] 0 h ∧ False) h)) h) h) h) h)) h) h) h) h) h))) (False)

def machine_Machine_Kept.j6  (a1 : Int) (a2 : Option Ptr) (a3 : Sl) (a4 : Sl) (a5 : Int) (a6 : Int) (Q : Sl → Heap → Prop) (h : Heap) : Prop :=
  ∀ I : Int → (Option Ptr) → Sl → Sl → Int → Int → Heap → Prop, (∀ a1 a2 a3 a4 a5 a6 h, machine_Machine_Kept.b6  I a1 a2 a3 a4 a5 a6 Q h → I a1 a2 a3 a4 a5 a6 h) → I a1 a2 a3 a4 a5 a6 h

def machine_Machine_Kept.j2  (a1 : Int) (a2 : Option Ptr) (a3 : Int) (Q : Sl → Heap → Prop) (h : Heap) : Prop :=
  br (a3 != 0) (Q ⟨none, 0, 0⟩ h) (der a2 (fun p1 => rdM (p1.add 25) (fun x2 => mapGet (.int .i64) x2 (.int .i64 a1) (fun o3 => asSl (o3.getD (.sl ⟨none, 0, 0⟩)) (fun x4 => machine_Machine_Kept.j6 a1 a2 ⟨none, 0, 0⟩ x4 ((x4.len : Nat) : Int) 0 Q h)) h) h))

def machine_Machine_Kept (a1 : Option Ptr) (a2 : Int) (a3 : Int) (Q : Sl → Heap → Prop) (h : Heap) : Prop :=
  machine_Machine_of a1 a2 (fun r1 r2 h => machine_Machine_Kept.j2 a3 r1 r2 Q h) h

def palisadelaw11_MachineNobody.j9 (I2 : Ptr → Sl → Int → Int → Heap → Prop)  (Q : Bool → Heap → Prop) (h : Heap) : Prop :=
  Q false h

def palisadelaw11_MachineNobody.j10 (I2 : Ptr → Sl → Int → Int → Heap → Prop) (a1 : Ptr) (a2 : Sl) (a3 : Int) (a4 : Int) (Q : Bool → Heap → Prop) (h : Heap) : Prop :=
  I2 a1 a2 a3 (IntKind.i64.wrap (a4 + 1)) h

def palisadelaw11_MachineNobody.j8 (I2 : Ptr → Sl → Int → Int → Heap → Prop) (a1 : Ptr) (a2 : Option Ptr) (a3 : Ptr) (a4 : Bool) (a5 : Ptr) (a6 : Int) (a7 : Ptr) (a8 : Int) (a9 : Int) (a10 : Int) (a11 : Sl) (a12 : Int) (a13 : Int) (Q : Bool → Heap → Prop) (h : Heap) : Prop :=
  machine_Machine_Cores a2 (fun r1 h => br (r1 != 0) (palisadelaw11_MachineNobody.j9 I2 Q h) (machine_Machine_Memory a2 (fun r2 h => br (!r2.isNone) (palisadelaw11_MachineNobody.j9 I2 Q h) (rdI .i64 (a1.add 1) (fun x3 => csr_New 0 (fun r4 h => ck (a1.add 1) [.int .i64 x3] 0 h ∧ ck (a1.add 1) [.int .i64 x3] 0 h ∧ machine_Machine_Put a2 x3 (putCells z_palisade_machine_Context 19 [.ptr r4]) (fun r5 h => br (r5 != 1) (palisadelaw11_MachineNobody.j9 I2 Q h) (rdP (a3.add 19) (fun x6 => br (!x6.isNone) (palisadelaw11_MachineNobody.j9 I2 Q h) (br a4 (palisadelaw11_MachineNobody.j9 I2 Q h) (rdP (a5.add 19) (fun x7 => br (!x7.isNone) (palisadelaw11_MachineNobody.j9 I2 Q h) (br (a6 != 1) (palisadelaw11_MachineNobody.j9 I2 Q h) (rdI .i64 (a7.add 0) (fun x8 => rdI .i64 (a7.add 1) (fun x9 => rdI .u64 (a7.add 2) (fun x10 => rdI .u64 (a7.add 3) (fun x11 => rdB (a7.add 4) (fun x12 => rdB (a7.add 5) (fun x13 => ck a7 [.int .i64 x8, .int .i64 x9, .int .u64 x10, .int .u64 x11, .bool x12, .bool x13] 0 h ∧ (br (!(eqL [x8 == 0, eqL [x9 == 0, x10 == 0, x11 == 0], x12 == false, x13 == false])) (palisadelaw11_MachineNobody.j9 I2 Q h) (br (a8 != 1) (palisadelaw11_MachineNobody.j9 I2 Q h) (br (a9 != 0) (palisadelaw11_MachineNobody.j9 I2 Q h) (br (a10 != 1) (palisadelaw11_MachineNobody.j9 I2 Q h) (rdI .i64 (a1.add 1) (fun x14 => rdI .i64 (a1.add 2) (fun x15 => machine_Machine_Kept a2 x14 x15 (fun r16 h => br (((r16.len : Nat) : Int) != 0) (palisadelaw11_MachineNobody.j9 I2 Q h) (palisadelaw11_MachineNobody.j10 I2 a1 a11 a12 a13 Q h)) h) h) h)))))) h) h) h) h) h) h))) h))) h)) h) h) h)) h)) h

def palisadelaw11_MachineNobody.j7 (I2 : Ptr → Sl → Int → Int → Heap → Prop) (a1 : Ptr) (a2 : Option Ptr) (a3 : Ptr) (a4 : Bool) (a5 : Ptr) (a6 : Int) (a7 : Ptr) (a8 : Int) (a9 : Sl) (a10 : Int) (a11 : Int) (Q : Bool → Heap → Prop) (h : Heap) : Prop :=
  rdI .i64 (a1.add 1) (fun x1 => rdI .i64 (a1.add 2) (fun x2 => machine_Machine_Flush a2 x1 x2 (fun r3 r4 h => palisadelaw11_MachineNobody.j8 I2 a1 a2 a3 a4 a5 a6 a7 a8 r3 r4 a9 a10 a11 Q h) h) h) h

def palisadelaw11_MachineNobody.j6 (I2 : Ptr → Sl → Int → Int → Heap → Prop) (a1 : Ptr) (a2 : Option Ptr) (a3 : Ptr) (a4 : Bool) (a5 : Ptr) (a6 : Int) (a7 : Sl) (a8 : Int) (a9 : Int) (Q : Bool → Heap → Prop) (h : Heap) : Prop :=
  rdI .i64 (a1.add 1) (fun x1 => machine_Machine_Step a2 x1 (fun r2 r3 r4 r5 r6 r7 r8 h => al [.int .i64 0, .int .i64 0, .int .u64 0, .int .u64 0, .bool false, .bool false] (fun b9 h => wrL [.int .i64 r2, .int .i64 r3, .int .u64 r4, .int .u64 r5, .bool r6, .bool r7] (⟨b9, 0⟩ : Ptr) 0 (fun h => palisadelaw11_MachineNobody.j7 I2 a1 a2 a3 a4 a5 a6 (⟨b9, 0⟩ : Ptr) r8 a7 a8 a9 Q h) h) h) h) h

def palisadelaw11_MachineNobody.j5 (I2 : Ptr → Sl → Int → Int → Heap → Prop) (a1 : Ptr) (a2 : Option Ptr) (a3 : Ptr) (a4 : Bool) (a5 : Sl) (a6 : Int) (a7 : Int) (Q : Bool → Heap → Prop) (h : Heap) : Prop :=
  rdI .i64 (a1.add 1) (fun x1 => machine_Machine_Take a2 x1 (fun r2 r3 h => al z_palisade_machine_Context (fun b4 h => r2.length = 21 ∧ wrL r2 (⟨b4, 0⟩ : Ptr) 0 (fun h => palisadelaw11_MachineNobody.j6 I2 a1 a2 a3 a4 (⟨b4, 0⟩ : Ptr) r3 a5 a6 a7 Q h) h) h) h) h

def palisadelaw11_MachineNobody.b2  (I2 : Ptr → Sl → Int → Int → Heap → Prop) (a1 : Ptr) (a2 : Sl) (a3 : Int) (a4 : Int) (Q : Bool → Heap → Prop) (h : Heap) : Prop :=
  br (decide (a4 < a3)) (ix a4 a2.len (fun n1 => der a2.p (fun p2 => rdP (p2.add (n1 * 1)) (fun x3 => rdI .i64 (a1.add 1) (fun x4 => machine_Machine_Get x3 x4 (fun r5 r6 h => al z_palisade_machine_Context (fun b7 h => r5.length = 21 ∧ wrL r5 (⟨b7, 0⟩ : Ptr) 0 (fun h => palisadelaw11_MachineNobody.j5 I2 a1 x3 (⟨b7, 0⟩ : Ptr) r6 a2 a3 a4 Q h) h) h) h) h) h))) (Q true h)

def palisadelaw11_MachineNobody.j2  (a1 : Ptr) (a2 : Sl) (a3 : Int) (a4 : Int) (Q : Bool → Heap → Prop) (h : Heap) : Prop :=
  ∀ I : Ptr → Sl → Int → Int → Heap → Prop, (∀ a1 a2 a3 a4 h, palisadelaw11_MachineNobody.b2  I a1 a2 a3 a4 Q h → I a1 a2 a3 a4 h) → I a1 a2 a3 a4 h

def palisadelaw11_MachineNobody (a1 : Int) (a2 : Int) (a3 : Int) (a4 : Int) (a5 : Int) (Q : Bool → Heap → Prop) (h : Heap) : Prop :=
  al [.int .i64 a1, .int .i64 a2, .int .i64 a3, .int .u64 a4, .int .u64 a5] (fun b1 h => al [.ptr none, .sl ⟨none, 0, 0⟩] (fun b2 h => al [.ptr none, .ptr (some (⟨b2, 0⟩ : Ptr))] (fun b3 h => palisadelaw11_MachineNobody.j2 (⟨b1, 0⟩ : Ptr) ⟨some ⟨b3, 0⟩, 2, 2⟩ ((2 : Nat) : Int) 0 Q h) h) h) h

end Go.Fn
