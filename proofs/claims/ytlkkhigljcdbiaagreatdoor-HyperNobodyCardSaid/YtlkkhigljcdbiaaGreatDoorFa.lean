/- The shallow functions. PRINTED by lift.py. -/
import Derived.Test.YtlkkhigljcdbiaaGreatDoorLiftB
set_option linter.unusedVariables false
set_option maxRecDepth 100000
namespace Go.Fn
open Go.Lift

def z_palisade_api_Regs : List V := [.int .u64 0, .int .u64 0, .int .u64 0, .int .u64 0, .int .u64 0, .int .u64 0, .int .u64 0, .int .u64 0, .int .u64 0, .int .u64 0, .int .u64 0, .int .u64 0, .int .u64 0, .int .u64 0, .int .u64 0, .int .u64 0, .int .u64 0, .int .i64 0]
def z_palisade_hyper_Hyper : List V := [.ptr none, .ptr none, .ptr none, .ptr none, .ptr none, .ptr none, .ptr none, .int .i64 0, .int .u64 0, .map none, .int .i64 0, .sl ⟨none, 0, 0⟩]
def z_palisade_hyper_Spec : List V := [.int .i64 0, .int .i64 0, .int .i64 0, .int .i64 0, .int .i64 0, .int .i64 0, .sl ⟨none, 0, 0⟩]
def z_16_uint64 : List V := [.int .u64 0, .int .u64 0, .int .u64 0, .int .u64 0, .int .u64 0, .int .u64 0, .int .u64 0, .int .u64 0, .int .u64 0, .int .u64 0, .int .u64 0, .int .u64 0, .int .u64 0, .int .u64 0, .int .u64 0, .int .u64 0]
def z_palisade_hyper_guest : List V := [.int .i64 0, .int .i64 0, .ptr none, .sl ⟨none, 0, 0⟩, .ptr none, .ptr none, .ptr none, .ptr none, .ptr none, .ptr none, .ptr none, .ptr none, .int .i64 0, .int .i64 0, .int .i64 0]
def z_palisade_console_Console : List V := [.bool false, .sl ⟨none, 0, 0⟩, .sl ⟨none, 0, 0⟩, .int .i64 0, .int .i64 0, .int .i64 0, .int .i64 0]
def z_palisade_frames_Frames : List V := [.int .i64 0, .int .i64 0, .map none, .map none, .int .i64 0, .int .i64 0, .int .i64 0, .int .i64 0, .int .i64 0, .int .i64 0, .int .i64 0, .int .i64 0, .int .i64 0, .int .i64 0, .int .i64 0, .int .i64 0, .int .i64 0, .int .i64 0, .int .i64 0, .int .i64 0, .int .i64 0, .int .i64 0, .int .i64 0, .int .i64 0, .int .i64 0, .int .i64 0, .int .i64 0, .int .i64 0, .int .i64 0, .int .i64 0, .int .i64 0, .int .i64 0, .int .i64 0, .int .i64 0, .int .i64 0, .int .i64 0, .int .i64 0, .int .i64 0, .int .i64 0]

def hyper_Hyper_none (a1 : Option Ptr) (Q : Bool → Heap → Prop) (h : Heap) : Prop :=
  br a1.isNone (Q true h) (der a1 (fun p1 => rdP (p1.add 0) (fun x2 => Q x2.isNone h) h))

def hyper_Hyper_Create (a1 : Option Ptr) (a2 : Int) (a3 : Int) (a4 : Int) (a5 : Int) (a6 : Int) (a7 : Int) (a8 : Sl) (Q : Int → Int → Heap → Prop) (h : Heap) : Prop :=
  al [.int .i64 a2, .int .i64 a3, .int .i64 a4, .int .i64 a5, .int .i64 a6, .int .i64 a7, .sl a8] (fun b1 h => hyper_Hyper_none a1 (fun r2 h => br r2 (Q 0 1 h) (rdI .i64 ((⟨b1, 0⟩ : Ptr).add 0) (fun x3 => rdI .i64 ((⟨b1, 0⟩ : Ptr).add 1) (fun x4 => rdI .i64 ((⟨b1, 0⟩ : Ptr).add 2) (fun x5 => rdI .i64 ((⟨b1, 0⟩ : Ptr).add 3) (fun x6 => rdI .i64 ((⟨b1, 0⟩ : Ptr).add 4) (fun x7 => rdI .i64 ((⟨b1, 0⟩ : Ptr).add 5) (fun x8 => rdSl ((⟨b1, 0⟩ : Ptr).add 6) (fun x9 => False) h) h) h) h) h) h) h)) h) h

def hyper_Hyper_Step (a1 : Option Ptr) (a2 : Int) (Q : Int → Int → Int → Int → Int → Int → Int → Heap → Prop) (h : Heap) : Prop :=
  al [.int .i64 0, .int .i64 0, .int .i64 0, .int .i64 0, .int .u64 0, .int .u64 0] (fun b1 h => hyper_Hyper_none a1 (fun r2 h => br r2 (wrL [.int .i64 0, .int .i64 0, .int .i64 0, .int .i64 0, .int .u64 0, .int .u64 0] (⟨b1, 0⟩ : Ptr) 0 (fun h => rdI .i64 ((⟨b1, 0⟩ : Ptr).add 0) (fun x3 => rdI .i64 ((⟨b1, 0⟩ : Ptr).add 1) (fun x4 => rdI .i64 ((⟨b1, 0⟩ : Ptr).add 2) (fun x5 => rdI .i64 ((⟨b1, 0⟩ : Ptr).add 3) (fun x6 => rdI .u64 ((⟨b1, 0⟩ : Ptr).add 4) (fun x7 => rdI .u64 ((⟨b1, 0⟩ : Ptr).add 5) (fun x8 => Q x3 x4 x5 x6 x7 x8 1 h) h) h) h) h) h) h) h) (br (decide (a2 < 0)) (wrL [.int .i64 0, .int .i64 0, .int .i64 0, .int .i64 0, .int .u64 0, .int .u64 0] (⟨b1, 0⟩ : Ptr) 0 (fun h => rdI .i64 ((⟨b1, 0⟩ : Ptr).add 0) (fun x9 => rdI .i64 ((⟨b1, 0⟩ : Ptr).add 1) (fun x10 => rdI .i64 ((⟨b1, 0⟩ : Ptr).add 2) (fun x11 => rdI .i64 ((⟨b1, 0⟩ : Ptr).add 3) (fun x12 => rdI .u64 ((⟨b1, 0⟩ : Ptr).add 4) (fun x13 => rdI .u64 ((⟨b1, 0⟩ : Ptr).add 5) (fun x14 => Q x9 x10 x11 x12 x13 x14 2 h) h) h) h) h) h) h) h) (der a1 (fun p15 => rdP (p15.add 0) (fun x16 => False) h)))) h) h

def hyper_Hyper_of.j5   (Q : (Option Ptr) → (Option Ptr) → Heap → Prop) (h : Heap) : Prop :=
  Q none none h

def hyper_Hyper_of.j6  (a1 : Int) (a2 : Option Ptr) (Q : (Option Ptr) → (Option Ptr) → Heap → Prop) (h : Heap) : Prop :=
  der a2 (fun p1 => rdSl (p1.add 3) (fun x2 => ix a1 x2.len (fun n3 => der x2.p (fun p4 => rdP (p4.add (n3 * 1)) (fun x5 => Q a2 x5 h) h))) h)

def hyper_Hyper_of (a1 : Option Ptr) (a2 : Int) (a3 : Int) (Q : (Option Ptr) → (Option Ptr) → Heap → Prop) (h : Heap) : Prop :=
  hyper_Hyper_none a1 (fun r1 h => br r1 (Q none none h) (der a1 (fun p2 => rdM (p2.add 9) (fun x3 => mapGet (.int .i64) x3 (.int .i64 a2) (fun o4 => asP (o4.getD (.ptr none)) (fun x5 => br x5.isNone (hyper_Hyper_of.j5 Q h) (br (decide (a3 < 0)) (hyper_Hyper_of.j5 Q h) (der x5 (fun p6 => rdSl (p6.add 3) (fun x7 => br (decide (a3 ≥ ((x7.len : Nat) : Int))) (hyper_Hyper_of.j5 Q h) (hyper_Hyper_of.j6 a3 x5 Q h)) h))))) h) h))) h

def hyper_Hyper_Input (a1 : Option Ptr) (a2 : Int) (a3 : Sl) (Q : Int → Int → Heap → Prop) (h : Heap) : Prop :=
  hyper_Hyper_of a1 a2 0 (fun r1 r2 h => hyper_Hyper_none a1 (fun r3 h => br r3 (Q 0 1 h) (br r1.isNone (Q 0 14 h) (der r1 (fun p4 => rdP (p4.add 5) (fun x5 => False) h)))) h) h

def hyper_Hyper_Regs (a1 : Option Ptr) (a2 : Int) (a3 : Int) (Q : (List V) → Bool → Heap → Prop) (h : Heap) : Prop :=
  al z_palisade_api_Regs (fun b1 h => hyper_Hyper_of a1 a2 a3 (fun r2 r3 h => br r3.isNone (z_palisade_api_Regs.length = 18 ∧ wrL z_palisade_api_Regs (⟨b1, 0⟩ : Ptr) 0 (fun h => rdN 18 (⟨b1, 0⟩ : Ptr) (fun cs4 => Q cs4 false h) h) h) (der r3 (fun p5 => rdP (p5.add 0) (fun x6 => der a1 (fun p7 => rdP (p7.add 0) (fun x8 => False) h)) h))) h) h

def hyper_Hyper_State (a1 : Option Ptr) (a2 : Int) (a3 : Int) (Q : Int → Bool → Heap → Prop) (h : Heap) : Prop :=
  hyper_Hyper_of a1 a2 a3 (fun r1 r2 h => br r2.isNone (Q 0 false h) (der r2 (fun p3 => rdB (p3.add 1) (fun x4 => br (!x4) (Q 4 true h) (der r2 (fun p5 => rdP (p5.add 0) (fun x6 => False) h))) h))) h

def hyper_Hyper_Page (a1 : Option Ptr) (a2 : Int) (a3 : Int) (Q : Sl → Int → Bool → Heap → Prop) (h : Heap) : Prop :=
  hyper_Hyper_of a1 a2 0 (fun r1 r2 h => br r1.isNone (Q ⟨none, 0, 0⟩ 0 false h) (der r1 (fun p3 => rdP (p3.add 2) (fun x4 => False) h))) h

def hyper_Hyper_Destroy (a1 : Option Ptr) (a2 : Int) (Q : Int → Heap → Prop) (h : Heap) : Prop :=
  hyper_Hyper_none a1 (fun r1 h => br r1 (Q 1 h) (der a1 (fun p2 => rdM (p2.add 9) (fun x3 => mapGet (.int .i64) x3 (.int .i64 a2) (fun o4 => asP (o4.getD (.ptr none)) (fun x5 => br (!o4.isSome) (Q 14 h) (der x5 (fun p6 => rdP (p6.add 11) (fun x7 => False) h)))) h) h))) h

def hyper_Hyper_Tick.j4   (Q : Int → Heap → Prop) (h : Heap) : Prop :=
  Q 2 h

def hyper_Hyper_Tick.j7  (a1 : Option Ptr) (a2 : Int) (a3 : Int) (Q : Int → Heap → Prop) (h : Heap) : Prop :=
  der a1 (fun p1 => rdP (p1.add 0) (fun x2 => False) h)

def hyper_Hyper_Tick (a1 : Option Ptr) (a2 : Int) (Q : Int → Heap → Prop) (h : Heap) : Prop :=
  hyper_Hyper_none a1 (fun r1 h => br r1 (Q 1 h) (br (decide (a2 < 0)) (hyper_Hyper_Tick.j4 Q h) (br (decide (a2 > 1048576)) (hyper_Hyper_Tick.j4 Q h) (der a1 (fun p2 => rdI .u64 (p2.add 8) (fun x3 => der a1 (fun p4 => rdI .u64 (p4.add 8) (fun x5 => der a1 (fun p6 => wr (p6.add 8) (.int .u64 (minI (IntKind.u64.wrap (x5 + (IntKind.u64.wrap a2))) 2305843009213693952)) (fun h => hyper_Hyper_Tick.j7 a1 a2 x3 Q h) h)) h)) h))))) h

def hyper_Hyper_Complete (a1 : Option Ptr) (a2 : Int) (Q : Int → Heap → Prop) (h : Heap) : Prop :=
  hyper_Hyper_none a1 (fun r1 h => br r1 (Q 1 h) (der a1 (fun p2 => rdP (p2.add 2) (fun x3 => der a1 (fun p4 => rdP (p4.add 0) (fun x5 => (False) ∧ (al [.int .i64 0, .bool false, .int .i64 0, .int .i64 0] (fun b6 h => ck (p4.add 0) [.ptr x5] 0 h ∧ ck (p2.add 2) [.ptr x3] 0 h ∧ False) h)) h)) h))) h

def hyper_Hyper_Inject (a1 : Option Ptr) (a2 : Int) (a3 : Sl) (Q : Int → Heap → Prop) (h : Heap) : Prop :=
  hyper_Hyper_of a1 a2 0 (fun r1 r2 h => hyper_Hyper_none a1 (fun r3 h => br r3 (Q 1 h) (br r1.isNone (Q 14 h) (der a1 (fun p4 => rdP (p4.add 3) (fun x5 => False) h)))) h) h

def hyper_Hyper_Console (a1 : Option Ptr) (a2 : Int) (Q : (Option Ptr) → Heap → Prop) (h : Heap) : Prop :=
  hyper_Hyper_of a1 a2 0 (fun r1 r2 h => br r1.isNone (Q none h) (der r1 (fun p3 => rdP (p3.add 5) (fun x4 => Q x4 h) h))) h

def hyper_Hyper_Machine (a1 : Option Ptr) (Q : (Option Ptr) → Heap → Prop) (h : Heap) : Prop :=
  hyper_Hyper_none a1 (fun r1 h => br r1 (Q none h) (der a1 (fun p2 => rdP (p2.add 0) (fun x3 => Q x3 h) h))) h

def hyper_Hyper_Frames (a1 : Option Ptr) (Q : (Option Ptr) → Heap → Prop) (h : Heap) : Prop :=
  hyper_Hyper_none a1 (fun r1 h => br r1 (Q none h) (der a1 (fun p2 => rdP (p2.add 1) (fun x3 => Q x3 h) h))) h

def hyper_Hyper_Disk (a1 : Option Ptr) (Q : (Option Ptr) → Heap → Prop) (h : Heap) : Prop :=
  hyper_Hyper_none a1 (fun r1 h => br r1 (Q none h) (der a1 (fun p2 => rdP (p2.add 2) (fun x3 => Q x3 h) h))) h

def hyper_Hyper_Wire (a1 : Option Ptr) (Q : (Option Ptr) → Heap → Prop) (h : Heap) : Prop :=
  hyper_Hyper_none a1 (fun r1 h => br r1 (Q none h) (der a1 (fun p2 => rdP (p2.add 3) (fun x3 => Q x3 h) h))) h

def hyper_Hyper_Now (a1 : Option Ptr) (Q : Int → Heap → Prop) (h : Heap) : Prop :=
  hyper_Hyper_none a1 (fun r1 h => br r1 (Q 0 h) (der a1 (fun p2 => rdI .u64 (p2.add 8) (fun x3 => Q x3 h) h))) h

def hyper_Hyper_Guests (a1 : Option Ptr) (Q : Sl → Heap → Prop) (h : Heap) : Prop :=
  hyper_Hyper_none a1 (fun r1 h => br r1 (Q ⟨none, 0, 0⟩ h) (der a1 (fun p2 => rdM (p2.add 9) (fun x3 => False) h))) h

def palisadelaw26_HyperNobody.j11 (I2 : Int → Sl → Sl → Int → Int → Heap → Prop)  (Q : Bool → Heap → Prop) (h : Heap) : Prop :=
  Q false h

def palisadelaw26_HyperNobody.j13 (I2 : Int → Sl → Sl → Int → Int → Heap → Prop)  (Q : Bool → Heap → Prop) (h : Heap) : Prop :=
  Q false h

def palisadelaw26_HyperNobody.j14 (I2 : Int → Sl → Sl → Int → Int → Heap → Prop) (a1 : Int) (a2 : Sl) (a3 : Sl) (a4 : Int) (a5 : Int) (Q : Bool → Heap → Prop) (h : Heap) : Prop :=
  I2 a1 a2 a3 a4 (IntKind.i64.wrap (a5 + 1)) h

def palisadelaw26_HyperNobody.j12 (I2 : Int → Sl → Sl → Int → Int → Heap → Prop) (a1 : Int) (a2 : Sl) (a3 : Option Ptr) (a4 : Sl) (a5 : Int) (a6 : Int) (Q : Bool → Heap → Prop) (h : Heap) : Prop :=
  hyper_Hyper_Console a3 a1 (fun r1 h => br (!r1.isNone) (palisadelaw26_HyperNobody.j13 I2 Q h) (hyper_Hyper_Machine a3 (fun r2 h => br (!r2.isNone) (palisadelaw26_HyperNobody.j13 I2 Q h) (hyper_Hyper_Frames a3 (fun r3 h => br (!r3.isNone) (palisadelaw26_HyperNobody.j13 I2 Q h) (hyper_Hyper_Disk a3 (fun r4 h => br (!r4.isNone) (palisadelaw26_HyperNobody.j13 I2 Q h) (hyper_Hyper_Wire a3 (fun r5 h => br (!r5.isNone) (palisadelaw26_HyperNobody.j13 I2 Q h) (hyper_Hyper_Now a3 (fun r6 h => br (r6 != 0) (palisadelaw26_HyperNobody.j13 I2 Q h) (hyper_Hyper_Guests a3 (fun r7 h => br (((r7.len : Nat) : Int) != 0) (palisadelaw26_HyperNobody.j13 I2 Q h) (palisadelaw26_HyperNobody.j14 I2 a1 a2 a4 a5 a6 Q h)) h)) h)) h)) h)) h)) h)) h

def palisadelaw26_HyperNobody.j10 (I2 : Int → Sl → Sl → Int → Int → Heap → Prop) (a1 : Int) (a2 : Sl) (a3 : Option Ptr) (a4 : Int) (a5 : Int) (a6 : Ptr) (a7 : Int) (a8 : Int) (a9 : Int) (a10 : Ptr) (a11 : Bool) (a12 : Int) (a13 : Bool) (a14 : Sl) (a15 : Int) (a16 : Bool) (a17 : Sl) (a18 : Int) (a19 : Int) (Q : Bool → Heap → Prop) (h : Heap) : Prop :=
  br (a4 != 0) (palisadelaw26_HyperNobody.j11 I2 Q h) (br (a5 != 1) (palisadelaw26_HyperNobody.j11 I2 Q h) (hyper_Hyper_Destroy a3 a1 (fun r1 h => br (r1 != 1) (palisadelaw26_HyperNobody.j11 I2 Q h) (rdI .i64 (a6.add 0) (fun x2 => rdI .i64 (a6.add 1) (fun x3 => rdI .i64 (a6.add 2) (fun x4 => rdI .i64 (a6.add 3) (fun x5 => rdI .u64 (a6.add 4) (fun x6 => rdI .u64 (a6.add 5) (fun x7 => br (!(eqL [x2 == 0, x3 == 0, x4 == 0, eqL [x5 == 0, x6 == 0, x7 == 0]])) (palisadelaw26_HyperNobody.j11 I2 Q h) (br (a7 != 1) (palisadelaw26_HyperNobody.j11 I2 Q h) (hyper_Hyper_Tick a3 1 (fun r8 h => br (r8 != 1) (palisadelaw26_HyperNobody.j11 I2 Q h) (hyper_Hyper_Complete a3 0 (fun r9 h => br (r9 != 1) (palisadelaw26_HyperNobody.j11 I2 Q h) (hyper_Hyper_Inject a3 a1 a2 (fun r10 h => br (r10 != 1) (palisadelaw26_HyperNobody.j11 I2 Q h) (br (a8 != 0) (palisadelaw26_HyperNobody.j11 I2 Q h) (br (a9 != 1) (palisadelaw26_HyperNobody.j11 I2 Q h) (rdN 18 a10 (fun cs11 => eqAgo [.int .u64, .int .u64, .int .u64, .int .u64, .int .u64, .int .u64, .int .u64, .int .u64, .int .u64, .int .u64, .int .u64, .int .u64, .int .u64, .int .u64, .int .u64, .int .u64, .int .u64, .int .i64] cs11 z_palisade_api_Regs (fun c12 => br (!c12) (palisadelaw26_HyperNobody.j11 I2 Q h) (br a11 (palisadelaw26_HyperNobody.j11 I2 Q h) (br (a12 != 0) (palisadelaw26_HyperNobody.j11 I2 Q h) (br a13 (palisadelaw26_HyperNobody.j11 I2 Q h) (br (((a14.len : Nat) : Int) != 0) (palisadelaw26_HyperNobody.j11 I2 Q h) (br (a15 != 0) (palisadelaw26_HyperNobody.j11 I2 Q h) (br a16 (palisadelaw26_HyperNobody.j11 I2 Q h) (palisadelaw26_HyperNobody.j12 I2 a1 a2 a3 a17 a18 a19 Q h))))))))) h)))) h)) h)) h))) h) h) h) h) h) h)) h))

def palisadelaw26_HyperNobody.j7 (I2 : Int → Sl → Sl → Int → Int → Heap → Prop) (a1 : Int) (a2 : Sl) (a3 : Option Ptr) (a4 : Int) (a5 : Int) (a6 : Ptr) (a7 : Int) (a8 : Int) (a9 : Int) (a10 : Sl) (a11 : Int) (a12 : Int) (Q : Bool → Heap → Prop) (h : Heap) : Prop :=
  hyper_Hyper_Regs a3 a1 0 (fun r1 r2 h => al z_palisade_api_Regs (fun b3 h => r1.length = 18 ∧ wrL r1 (⟨b3, 0⟩ : Ptr) 0 (fun h => hyper_Hyper_State a3 a1 0 (fun r4 r5 h => hyper_Hyper_Page a3 a1 0 (fun r6 r7 r8 h => palisadelaw26_HyperNobody.j10 I2 a1 a2 a3 a4 a5 a6 a7 a8 a9 (⟨b3, 0⟩ : Ptr) r2 r4 r5 r6 r7 r8 a10 a11 a12 Q h) h) h) h) h) h

def palisadelaw26_HyperNobody.b2  (I2 : Int → Sl → Sl → Int → Int → Heap → Prop) (a1 : Int) (a2 : Sl) (a3 : Sl) (a4 : Int) (a5 : Int) (Q : Bool → Heap → Prop) (h : Heap) : Prop :=
  br (decide (a5 < a4)) (ix a5 a3.len (fun n1 => der a3.p (fun p2 => rdP (p2.add (n1 * 1)) (fun x3 => hyper_Hyper_Create x3 0 0 0 0 0 0 ⟨none, 0, 0⟩ (fun r4 r5 h => hyper_Hyper_Step x3 a1 (fun r6 r7 r8 r9 r10 r11 r12 h => al [.int .i64 0, .int .i64 0, .int .i64 0, .int .i64 0, .int .u64 0, .int .u64 0] (fun b13 h => wrL [.int .i64 r6, .int .i64 r7, .int .i64 r8, .int .i64 r9, .int .u64 r10, .int .u64 r11] (⟨b13, 0⟩ : Ptr) 0 (fun h => hyper_Hyper_Input x3 a1 a2 (fun r14 r15 h => palisadelaw26_HyperNobody.j7 I2 a1 a2 x3 r4 r5 (⟨b13, 0⟩ : Ptr) r12 r14 r15 a3 a4 a5 Q h) h) h) h) h) h) h))) (Q true h)

def palisadelaw26_HyperNobody.j2  (a1 : Int) (a2 : Sl) (a3 : Sl) (a4 : Int) (a5 : Int) (Q : Bool → Heap → Prop) (h : Heap) : Prop :=
  ∀ I : Int → Sl → Sl → Int → Int → Heap → Prop, (∀ a1 a2 a3 a4 a5 h, palisadelaw26_HyperNobody.b2  I a1 a2 a3 a4 a5 Q h → I a1 a2 a3 a4 a5 h) → I a1 a2 a3 a4 a5 h

def palisadelaw26_HyperNobody (a1 : Int) (a2 : Sl) (Q : Bool → Heap → Prop) (h : Heap) : Prop :=
  al [.ptr none, .ptr none, .ptr none, .ptr none, .ptr none, .ptr none, .ptr none, .int .i64 0, .int .u64 0, .map none, .int .i64 0, .sl ⟨none, 0, 0⟩] (fun b1 h => al [.ptr none, .ptr (some (⟨b1, 0⟩ : Ptr))] (fun b2 h => palisadelaw26_HyperNobody.j2 a1 a2 ⟨some ⟨b2, 0⟩, 2, 2⟩ ((2 : Nat) : Int) 0 Q h) h) h

end Go.Fn
