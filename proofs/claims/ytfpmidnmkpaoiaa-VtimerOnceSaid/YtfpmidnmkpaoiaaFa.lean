/- The shallow functions. PRINTED by lift.py. -/
import Derived.Test.YtfpmidnmkpaoiaaLiftB
set_option linter.unusedVariables false
set_option maxRecDepth 100000
namespace Go.Fn
open Go.Lift



def vtimer_New  (Q : (Option Ptr) → Heap → Prop) (h : Heap) : Prop :=
  alM (.int .i64) (fun b1 h => al [.map (some b1)] (fun b2 h => Q (some (⟨b2, 0⟩ : Ptr)) h) h) h

def vtimer_Timers_of.j2   (Q : (Option Ptr) → Int → Heap → Prop) (h : Heap) : Prop :=
  Q none 1 h

def vtimer_Timers_of (a1 : Option Ptr) (a2 : Int) (Q : (Option Ptr) → Int → Heap → Prop) (h : Heap) : Prop :=
  br a1.isNone (vtimer_Timers_of.j2 Q h) (der a1 (fun p1 => rdM (p1.add 0) (fun x2 => br x2.isNone (vtimer_Timers_of.j2 Q h) (der a1 (fun p3 => rdM (p3.add 0) (fun x4 => mapGet (.int .i64) x4 (.int .i64 a2) (fun o5 => asP (o5.getD (.ptr none)) (fun x6 => br (!o5.isSome) (Q none 14 h) (Q x6 0 h))) h) h))) h))

def vtimer_Timers_Begin.j9   (Q : Int → Heap → Prop) (h : Heap) : Prop :=
  Q 0 h

def vtimer_Timers_Begin (a1 : Option Ptr) (a2 : Int) (a3 : Int) (Q : Int → Heap → Prop) (h : Heap) : Prop :=
  vtimer_Timers_of a1 a2 (fun r1 r2 h => br (r2 == 1) (Q r2 h) (br (r2 == 0) (Q 13 h) (der a1 (fun p3 => rdM (p3.add 0) (fun x4 => mapLen x4 (fun n5 => br (decide (n5 ≥ 64)) (Q 18 h) (der a1 (fun p6 => rdM (p6.add 0) (fun x7 => al [.int .u64 (minI a3 4611686018427387904), .bool false, .int .u64 0, .bool false, .int .u64 0] (fun b8 h => mapPut (.int .i64) x7 (.int .i64 a2) (.ptr (some (⟨b8, 0⟩ : Ptr))) (fun h => vtimer_Timers_Begin.j9 Q h) h) h) h))) h) h)))) h

def vtimer_Timers_Set (a1 : Option Ptr) (a2 : Int) (a3 : Int) (Q : Int → Heap → Prop) (h : Heap) : Prop :=
  vtimer_Timers_of a1 a2 (fun r1 r2 h => br (r2 == 0) (der r1 (fun p3 => wr (p3.add 3) (.bool true) (fun h => der r1 (fun p4 => wr (p4.add 4) (.int .u64 (minI a3 4611686018427387904)) (fun h => Q r2 h) h)) h)) (Q r2 h)) h

def vtimer_timer_now (a1 : Option Ptr) (a2 : Int) (Q : Int → Heap → Prop) (h : Heap) : Prop :=
  der a1 (fun p1 => rdB (p1.add 1) (fun x2 => br x2 (der a1 (fun p3 => rdI .u64 (p3.add 2) (fun x4 => Q x4 h) h)) (der a1 (fun p5 => rdI .u64 (p5.add 0) (fun x6 => der a1 (fun p7 => rdI .u64 (p7.add 0) (fun x8 => ck (p7.add 0) [.int .u64 x8] 0 h ∧ ck (p5.add 0) [.int .u64 x6] 0 h ∧ ck (p7.add 0) [.int .u64 x8] 0 h ∧ (Q (IntKind.u64.wrap ((maxI (minI a2 4611686018427387904) x6) - x8)) h)) h)) h))) h)

def vtimer_Timers_Halt.j7   (Q : Int → Heap → Prop) (h : Heap) : Prop :=
  Q 0 h

def vtimer_Timers_Halt (a1 : Option Ptr) (a2 : Int) (a3 : Int) (Q : Int → Heap → Prop) (h : Heap) : Prop :=
  vtimer_Timers_of a1 a2 (fun r1 r2 h => br (r2 != 0) (Q r2 h) (der r1 (fun p3 => rdB (p3.add 1) (fun x4 => br x4 (Q 21 h) (vtimer_timer_now r1 a3 (fun r5 h => der r1 (fun p6 => wr (p6.add 2) (.int .u64 r5) (fun h => der r1 (fun p7 => wr (p7.add 1) (.bool true) (fun h => vtimer_Timers_Halt.j7 Q h) h)) h)) h)) h))) h

def math_bits_Len64.j7  (a1 : Int) (a2 : Int) (Q : Int → Heap → Prop) (h : Heap) : Prop :=
  br (decide (a1 ≥ 256)) (nneg 8 (ix (IntKind.u8.wrap (shrI .u64 a1 8)) (([0, 1, 2, 2, 3, 3, 3, 3, 4, 4, 4, 4, 4, 4, 4, 4, 5, 5, 5, 5, 5, 5, 5, 5, 5, 5, 5, 5, 5, 5, 5, 5, 6, 6, 6, 6, 6, 6, 6, 6, 6, 6, 6, 6, 6, 6, 6, 6, 6, 6, 6, 6, 6, 6, 6, 6, 6, 6, 6, 6, 6, 6, 6, 6, 7, 7, 7, 7, 7, 7, 7, 7, 7, 7, 7, 7, 7, 7, 7, 7, 7, 7, 7, 7, 7, 7, 7, 7, 7, 7, 7, 7, 7, 7, 7, 7, 7, 7, 7, 7, 7, 7, 7, 7, 7, 7, 7, 7, 7, 7, 7, 7, 7, 7, 7, 7, 7, 7, 7, 7, 7, 7, 7, 7, 7, 7, 7, 7, 8, 8, 8, 8, 8, 8, 8, 8, 8, 8, 8, 8, 8, 8, 8, 8, 8, 8, 8, 8, 8, 8, 8, 8, 8, 8, 8, 8, 8, 8, 8, 8, 8, 8, 8, 8, 8, 8, 8, 8, 8, 8, 8, 8, 8, 8, 8, 8, 8, 8, 8, 8, 8, 8, 8, 8, 8, 8, 8, 8, 8, 8, 8, 8, 8, 8, 8, 8, 8, 8, 8, 8, 8, 8, 8, 8, 8, 8, 8, 8, 8, 8, 8, 8, 8, 8, 8, 8, 8, 8, 8, 8, 8, 8, 8, 8, 8, 8, 8, 8, 8, 8, 8, 8, 8, 8, 8, 8, 8, 8, 8, 8, 8, 8, 8, 8, 8, 8, 8, 8, 8, 8, 8, 8, 8, 8, 8, 8] : List UInt8).length) (fun n1 => Q (IntKind.i64.wrap ((IntKind.i64.wrap (a2 + 8)) + (IntKind.i64.wrap ((([0, 1, 2, 2, 3, 3, 3, 3, 4, 4, 4, 4, 4, 4, 4, 4, 5, 5, 5, 5, 5, 5, 5, 5, 5, 5, 5, 5, 5, 5, 5, 5, 6, 6, 6, 6, 6, 6, 6, 6, 6, 6, 6, 6, 6, 6, 6, 6, 6, 6, 6, 6, 6, 6, 6, 6, 6, 6, 6, 6, 6, 6, 6, 6, 7, 7, 7, 7, 7, 7, 7, 7, 7, 7, 7, 7, 7, 7, 7, 7, 7, 7, 7, 7, 7, 7, 7, 7, 7, 7, 7, 7, 7, 7, 7, 7, 7, 7, 7, 7, 7, 7, 7, 7, 7, 7, 7, 7, 7, 7, 7, 7, 7, 7, 7, 7, 7, 7, 7, 7, 7, 7, 7, 7, 7, 7, 7, 7, 8, 8, 8, 8, 8, 8, 8, 8, 8, 8, 8, 8, 8, 8, 8, 8, 8, 8, 8, 8, 8, 8, 8, 8, 8, 8, 8, 8, 8, 8, 8, 8, 8, 8, 8, 8, 8, 8, 8, 8, 8, 8, 8, 8, 8, 8, 8, 8, 8, 8, 8, 8, 8, 8, 8, 8, 8, 8, 8, 8, 8, 8, 8, 8, 8, 8, 8, 8, 8, 8, 8, 8, 8, 8, 8, 8, 8, 8, 8, 8, 8, 8, 8, 8, 8, 8, 8, 8, 8, 8, 8, 8, 8, 8, 8, 8, 8, 8, 8, 8, 8, 8, 8, 8, 8, 8, 8, 8, 8, 8, 8, 8, 8, 8, 8, 8, 8, 8, 8, 8, 8, 8, 8, 8, 8, 8, 8, 8] : List UInt8).getD n1 0).toNat : Int)))) h))) (ix (IntKind.u8.wrap a1) (([0, 1, 2, 2, 3, 3, 3, 3, 4, 4, 4, 4, 4, 4, 4, 4, 5, 5, 5, 5, 5, 5, 5, 5, 5, 5, 5, 5, 5, 5, 5, 5, 6, 6, 6, 6, 6, 6, 6, 6, 6, 6, 6, 6, 6, 6, 6, 6, 6, 6, 6, 6, 6, 6, 6, 6, 6, 6, 6, 6, 6, 6, 6, 6, 7, 7, 7, 7, 7, 7, 7, 7, 7, 7, 7, 7, 7, 7, 7, 7, 7, 7, 7, 7, 7, 7, 7, 7, 7, 7, 7, 7, 7, 7, 7, 7, 7, 7, 7, 7, 7, 7, 7, 7, 7, 7, 7, 7, 7, 7, 7, 7, 7, 7, 7, 7, 7, 7, 7, 7, 7, 7, 7, 7, 7, 7, 7, 7, 8, 8, 8, 8, 8, 8, 8, 8, 8, 8, 8, 8, 8, 8, 8, 8, 8, 8, 8, 8, 8, 8, 8, 8, 8, 8, 8, 8, 8, 8, 8, 8, 8, 8, 8, 8, 8, 8, 8, 8, 8, 8, 8, 8, 8, 8, 8, 8, 8, 8, 8, 8, 8, 8, 8, 8, 8, 8, 8, 8, 8, 8, 8, 8, 8, 8, 8, 8, 8, 8, 8, 8, 8, 8, 8, 8, 8, 8, 8, 8, 8, 8, 8, 8, 8, 8, 8, 8, 8, 8, 8, 8, 8, 8, 8, 8, 8, 8, 8, 8, 8, 8, 8, 8, 8, 8, 8, 8, 8, 8, 8, 8, 8, 8, 8, 8, 8, 8, 8, 8, 8, 8, 8, 8, 8, 8, 8, 8] : List UInt8).length) (fun n2 => Q (IntKind.i64.wrap (a2 + (IntKind.i64.wrap ((([0, 1, 2, 2, 3, 3, 3, 3, 4, 4, 4, 4, 4, 4, 4, 4, 5, 5, 5, 5, 5, 5, 5, 5, 5, 5, 5, 5, 5, 5, 5, 5, 6, 6, 6, 6, 6, 6, 6, 6, 6, 6, 6, 6, 6, 6, 6, 6, 6, 6, 6, 6, 6, 6, 6, 6, 6, 6, 6, 6, 6, 6, 6, 6, 7, 7, 7, 7, 7, 7, 7, 7, 7, 7, 7, 7, 7, 7, 7, 7, 7, 7, 7, 7, 7, 7, 7, 7, 7, 7, 7, 7, 7, 7, 7, 7, 7, 7, 7, 7, 7, 7, 7, 7, 7, 7, 7, 7, 7, 7, 7, 7, 7, 7, 7, 7, 7, 7, 7, 7, 7, 7, 7, 7, 7, 7, 7, 7, 8, 8, 8, 8, 8, 8, 8, 8, 8, 8, 8, 8, 8, 8, 8, 8, 8, 8, 8, 8, 8, 8, 8, 8, 8, 8, 8, 8, 8, 8, 8, 8, 8, 8, 8, 8, 8, 8, 8, 8, 8, 8, 8, 8, 8, 8, 8, 8, 8, 8, 8, 8, 8, 8, 8, 8, 8, 8, 8, 8, 8, 8, 8, 8, 8, 8, 8, 8, 8, 8, 8, 8, 8, 8, 8, 8, 8, 8, 8, 8, 8, 8, 8, 8, 8, 8, 8, 8, 8, 8, 8, 8, 8, 8, 8, 8, 8, 8, 8, 8, 8, 8, 8, 8, 8, 8, 8, 8, 8, 8, 8, 8, 8, 8, 8, 8, 8, 8, 8, 8, 8, 8, 8, 8, 8, 8, 8, 8] : List UInt8).getD n2 0).toNat : Int)))) h))

def math_bits_Len64.j4  (a1 : Int) (a2 : Int) (Q : Int → Heap → Prop) (h : Heap) : Prop :=
  br (decide (a1 ≥ 65536)) (nneg 16 (math_bits_Len64.j7 (shrI .u64 a1 16) (IntKind.i64.wrap (a2 + 16)) Q h)) (math_bits_Len64.j7 a1 a2 Q h)

def math_bits_Len64 (a1 : Int) (Q : Int → Heap → Prop) (h : Heap) : Prop :=
  br (decide (a1 ≥ 4294967296)) (nneg 32 (math_bits_Len64.j4 (shrI .u64 a1 32) 32 Q h)) (math_bits_Len64.j4 a1 0 Q h)

def math_bits_Len (a1 : Int) (Q : Int → Heap → Prop) (h : Heap) : Prop :=
  math_bits_Len64 a1 (fun r1 h => Q r1 h) h

def cmp_isNaN_int (a1 : Int) (Q : Bool → Heap → Prop) (h : Heap) : Prop :=
  Q (a1 != a1) h

def cmp_Less_int (a1 : Int) (a2 : Int) (Q : Bool → Heap → Prop) (h : Heap) : Prop :=
  cmp_isNaN_int a1 (fun r1 h => br r1 (cmp_isNaN_int a2 (fun r2 h => br (!r2) (Q true h) (Q (decide (a1 < a2)) h)) h) (Q (decide (a1 < a2)) h)) h

def slices_insertionSortOrdered_int.j5 (I1 : Sl → Int → Int → Int → Heap → Prop) (I4 : Sl → Int → Int → Int → Int → Heap → Prop) (a1 : Sl) (a2 : Int) (a3 : Int) (a4 : Int) (a5 : Int) (Q : Heap → Prop) (h : Heap) : Prop :=
  I4 a1 a2 a3 a4 (IntKind.i64.wrap (a5 - 1)) h

def slices_insertionSortOrdered_int.j2 (I1 : Sl → Int → Int → Int → Heap → Prop) (a1 : Sl) (a2 : Int) (a3 : Int) (a4 : Int) (Q : Heap → Prop) (h : Heap) : Prop :=
  I1 a1 a2 a3 (IntKind.i64.wrap (a4 + 1)) h

def slices_insertionSortOrdered_int.b4 (I1 : Sl → Int → Int → Int → Heap → Prop) (I4 : Sl → Int → Int → Int → Int → Heap → Prop) (a1 : Sl) (a2 : Int) (a3 : Int) (a4 : Int) (a5 : Int) (Q : Heap → Prop) (h : Heap) : Prop :=
  br (decide (a5 > a2)) (ix a5 a1.len (fun n1 => der a1.p (fun p2 => rdI .i64 (p2.add (n1 * 1)) (fun x3 => ix (IntKind.i64.wrap (a5 - 1)) a1.len (fun n4 => der a1.p (fun p5 => rdI .i64 (p5.add (n4 * 1)) (fun x6 => cmp_Less_int x3 x6 (fun r7 h => br r7 (ix (IntKind.i64.wrap (a5 - 1)) a1.len (fun n8 => der a1.p (fun p9 => rdI .i64 (p9.add (n8 * 1)) (fun x10 => ix a5 a1.len (fun n11 => der a1.p (fun p12 => rdI .i64 (p12.add (n11 * 1)) (fun x13 => ix a5 a1.len (fun n14 => der a1.p (fun p15 => wr (p15.add (n14 * 1)) (.int .i64 x10) (fun h => ix (IntKind.i64.wrap (a5 - 1)) a1.len (fun n16 => der a1.p (fun p17 => wr (p17.add (n16 * 1)) (.int .i64 x13) (fun h => slices_insertionSortOrdered_int.j5 I1 I4 a1 a2 a3 a4 a5 Q h) h))) h))) h))) h))) (slices_insertionSortOrdered_int.j2 I1 a1 a2 a3 a4 Q h)) h) h))) h))) (slices_insertionSortOrdered_int.j2 I1 a1 a2 a3 a4 Q h)

def slices_insertionSortOrdered_int.j4 (I1 : Sl → Int → Int → Int → Heap → Prop) (a1 : Sl) (a2 : Int) (a3 : Int) (a4 : Int) (a5 : Int) (Q : Heap → Prop) (h : Heap) : Prop :=
  ∀ I : Sl → Int → Int → Int → Int → Heap → Prop, (∀ a1 a2 a3 a4 a5 h, slices_insertionSortOrdered_int.b4 I1 I a1 a2 a3 a4 a5 Q h → I a1 a2 a3 a4 a5 h) → I a1 a2 a3 a4 a5 h

def slices_insertionSortOrdered_int.b1  (I1 : Sl → Int → Int → Int → Heap → Prop) (a1 : Sl) (a2 : Int) (a3 : Int) (a4 : Int) (Q : Heap → Prop) (h : Heap) : Prop :=
  br (decide (a4 < a3)) (slices_insertionSortOrdered_int.j4 I1 a1 a2 a3 a4 a4 Q h) (Q h)

def slices_insertionSortOrdered_int.j1  (a1 : Sl) (a2 : Int) (a3 : Int) (a4 : Int) (Q : Heap → Prop) (h : Heap) : Prop :=
  ∀ I : Sl → Int → Int → Int → Heap → Prop, (∀ a1 a2 a3 a4 h, slices_insertionSortOrdered_int.b1  I a1 a2 a3 a4 Q h → I a1 a2 a3 a4 h) → I a1 a2 a3 a4 h

def slices_insertionSortOrdered_int (a1 : Sl) (a2 : Int) (a3 : Int) (Q : Heap → Prop) (h : Heap) : Prop :=
  slices_insertionSortOrdered_int.j1 a1 a2 a3 (IntKind.i64.wrap (a2 + 1)) Q h

def slices_siftDownOrdered_int.j7 (I1 : Sl → Int → Int → Int → Heap → Prop) (a1 : Sl) (a2 : Int) (a3 : Int) (a4 : Int) (Q : Heap → Prop) (h : Heap) : Prop :=
  I1 a1 a2 a3 a4 h

def slices_siftDownOrdered_int.j5 (I1 : Sl → Int → Int → Int → Heap → Prop) (a1 : Sl) (a2 : Int) (a3 : Int) (a4 : Int) (a5 : Int) (Q : Heap → Prop) (h : Heap) : Prop :=
  ix (IntKind.i64.wrap (a3 + a4)) a1.len (fun n1 => der a1.p (fun p2 => rdI .i64 (p2.add (n1 * 1)) (fun x3 => ix (IntKind.i64.wrap (a3 + a5)) a1.len (fun n4 => der a1.p (fun p5 => rdI .i64 (p5.add (n4 * 1)) (fun x6 => cmp_Less_int x3 x6 (fun r7 h => br (!r7) (Q h) (ix (IntKind.i64.wrap (a3 + a5)) a1.len (fun n8 => der a1.p (fun p9 => rdI .i64 (p9.add (n8 * 1)) (fun x10 => ix (IntKind.i64.wrap (a3 + a4)) a1.len (fun n11 => der a1.p (fun p12 => rdI .i64 (p12.add (n11 * 1)) (fun x13 => ix (IntKind.i64.wrap (a3 + a4)) a1.len (fun n14 => der a1.p (fun p15 => wr (p15.add (n14 * 1)) (.int .i64 x10) (fun h => ix (IntKind.i64.wrap (a3 + a5)) a1.len (fun n16 => der a1.p (fun p17 => wr (p17.add (n16 * 1)) (.int .i64 x13) (fun h => slices_siftDownOrdered_int.j7 I1 a1 a2 a3 a5 Q h) h))) h))) h))) h)))) h) h))) h))

def slices_siftDownOrdered_int.j4 (I1 : Sl → Int → Int → Int → Heap → Prop) (a1 : Sl) (a2 : Int) (a3 : Int) (a4 : Int) (a5 : Int) (Q : Heap → Prop) (h : Heap) : Prop :=
  slices_siftDownOrdered_int.j5 I1 a1 a2 a3 a4 (IntKind.i64.wrap (a5 + 1)) Q h

def slices_siftDownOrdered_int.b1  (I1 : Sl → Int → Int → Int → Heap → Prop) (a1 : Sl) (a2 : Int) (a3 : Int) (a4 : Int) (Q : Heap → Prop) (h : Heap) : Prop :=
  br (decide ((IntKind.i64.wrap ((IntKind.i64.wrap (2 * a4)) + 1)) ≥ a2)) (Q h) (br (decide ((IntKind.i64.wrap ((IntKind.i64.wrap ((IntKind.i64.wrap (2 * a4)) + 1)) + 1)) < a2)) (ix (IntKind.i64.wrap (a3 + (IntKind.i64.wrap ((IntKind.i64.wrap (2 * a4)) + 1)))) a1.len (fun n1 => der a1.p (fun p2 => rdI .i64 (p2.add (n1 * 1)) (fun x3 => ix (IntKind.i64.wrap ((IntKind.i64.wrap (a3 + (IntKind.i64.wrap ((IntKind.i64.wrap (2 * a4)) + 1)))) + 1)) a1.len (fun n4 => der a1.p (fun p5 => rdI .i64 (p5.add (n4 * 1)) (fun x6 => cmp_Less_int x3 x6 (fun r7 h => br r7 (slices_siftDownOrdered_int.j4 I1 a1 a2 a3 a4 (IntKind.i64.wrap ((IntKind.i64.wrap (2 * a4)) + 1)) Q h) (slices_siftDownOrdered_int.j5 I1 a1 a2 a3 a4 (IntKind.i64.wrap ((IntKind.i64.wrap (2 * a4)) + 1)) Q h)) h) h))) h))) (slices_siftDownOrdered_int.j5 I1 a1 a2 a3 a4 (IntKind.i64.wrap ((IntKind.i64.wrap (2 * a4)) + 1)) Q h))

def slices_siftDownOrdered_int.j1  (a1 : Sl) (a2 : Int) (a3 : Int) (a4 : Int) (Q : Heap → Prop) (h : Heap) : Prop :=
  ∀ I : Sl → Int → Int → Int → Heap → Prop, (∀ a1 a2 a3 a4 h, slices_siftDownOrdered_int.b1  I a1 a2 a3 a4 Q h → I a1 a2 a3 a4 h) → I a1 a2 a3 a4 h

def slices_siftDownOrdered_int (a1 : Sl) (a2 : Int) (a3 : Int) (a4 : Int) (Q : Heap → Prop) (h : Heap) : Prop :=
  slices_siftDownOrdered_int.j1 a1 a3 a4 a2 Q h

def slices_heapSortOrdered_int.j9 (I8 : Sl → Int → Int → Int → Heap → Prop) (a1 : Sl) (a2 : Int) (a3 : Int) (a4 : Int) (Q : Heap → Prop) (h : Heap) : Prop :=
  I8 a1 a2 a3 (IntKind.i64.wrap (a4 - 1)) h

def slices_heapSortOrdered_int.b8  (I8 : Sl → Int → Int → Int → Heap → Prop) (a1 : Sl) (a2 : Int) (a3 : Int) (a4 : Int) (Q : Heap → Prop) (h : Heap) : Prop :=
  br (decide (a4 ≥ 0)) (ix (IntKind.i64.wrap (a2 + a4)) a1.len (fun n1 => der a1.p (fun p2 => rdI .i64 (p2.add (n1 * 1)) (fun x3 => ix a2 a1.len (fun n4 => der a1.p (fun p5 => rdI .i64 (p5.add (n4 * 1)) (fun x6 => ix a2 a1.len (fun n7 => der a1.p (fun p8 => wr (p8.add (n7 * 1)) (.int .i64 x3) (fun h => ix (IntKind.i64.wrap (a2 + a4)) a1.len (fun n9 => der a1.p (fun p10 => wr (p10.add (n9 * 1)) (.int .i64 x6) (fun h => slices_siftDownOrdered_int a1 a3 a4 a2 (fun h => slices_heapSortOrdered_int.j9 I8 a1 a2 a3 a4 Q h) h) h))) h))) h))) h))) (Q h)

def slices_heapSortOrdered_int.j8  (a1 : Sl) (a2 : Int) (a3 : Int) (a4 : Int) (Q : Heap → Prop) (h : Heap) : Prop :=
  ∀ I : Sl → Int → Int → Int → Heap → Prop, (∀ a1 a2 a3 a4 h, slices_heapSortOrdered_int.b8  I a1 a2 a3 a4 Q h → I a1 a2 a3 a4 h) → I a1 a2 a3 a4 h

def slices_heapSortOrdered_int.b4  (I4 : Sl → Int → Int → Int → Int → Heap → Prop) (a1 : Sl) (a2 : Int) (a3 : Int) (a4 : Int) (a5 : Int) (Q : Heap → Prop) (h : Heap) : Prop :=
  br (decide (a5 ≥ 0)) (slices_siftDownOrdered_int a1 a5 a4 a2 (fun h => I4 a1 a2 a3 a4 (IntKind.i64.wrap (a5 - 1)) h) h) (slices_heapSortOrdered_int.j8 a1 a2 a3 (IntKind.i64.wrap (a4 - 1)) Q h)

def slices_heapSortOrdered_int.j4  (a1 : Sl) (a2 : Int) (a3 : Int) (a4 : Int) (a5 : Int) (Q : Heap → Prop) (h : Heap) : Prop :=
  ∀ I : Sl → Int → Int → Int → Int → Heap → Prop, (∀ a1 a2 a3 a4 a5 h, slices_heapSortOrdered_int.b4  I a1 a2 a3 a4 a5 Q h → I a1 a2 a3 a4 a5 h) → I a1 a2 a3 a4 a5 h

def slices_heapSortOrdered_int (a1 : Sl) (a2 : Int) (a3 : Int) (Q : Heap → Prop) (h : Heap) : Prop :=
  nz 2 (slices_heapSortOrdered_int.j4 a1 a2 0 (IntKind.i64.wrap (a3 - a2)) (IntKind.i64.wrap ((IntKind.i64.wrap ((IntKind.i64.wrap (a3 - a2)) - 1)).tdiv 2)) Q h)

def slices_order2Ordered_int (a1 : Sl) (a2 : Int) (a3 : Int) (a4 : Option Ptr) (Q : Int → Int → Heap → Prop) (h : Heap) : Prop :=
  ix a3 a1.len (fun n1 => der a1.p (fun p2 => rdI .i64 (p2.add (n1 * 1)) (fun x3 => ix a2 a1.len (fun n4 => der a1.p (fun p5 => rdI .i64 (p5.add (n4 * 1)) (fun x6 => cmp_Less_int x3 x6 (fun r7 h => br r7 (der a4 (fun p8 => rdI .i64 p8 (fun x9 => der a4 (fun p10 => wr p10 (.int .i64 (IntKind.i64.wrap (x9 + 1))) (fun h => Q a3 a2 h) h)) h)) (Q a2 a3 h)) h) h))) h))

def slices_medianOrdered_int.j4  (a1 : Int) (Q : Int → Heap → Prop) (h : Heap) : Prop :=
  Q a1 h

def slices_medianOrdered_int (a1 : Sl) (a2 : Int) (a3 : Int) (a4 : Int) (a5 : Option Ptr) (Q : Int → Heap → Prop) (h : Heap) : Prop :=
  slices_order2Ordered_int a1 a2 a3 a5 (fun r1 r2 h => slices_order2Ordered_int a1 r2 a4 a5 (fun r3 r4 h => slices_order2Ordered_int a1 r1 r3 a5 (fun r5 r6 h => slices_medianOrdered_int.j4 r6 Q h) h) h) h

def slices_medianAdjacentOrdered_int (a1 : Sl) (a2 : Int) (a3 : Option Ptr) (Q : Int → Heap → Prop) (h : Heap) : Prop :=
  slices_medianOrdered_int a1 (IntKind.i64.wrap (a2 - 1)) a2 (IntKind.i64.wrap (a2 + 1)) a3 (fun r1 h => Q r1 h) h

def slices_choosePivotOrdered_int.j11  (a1 : Sl) (a2 : Ptr) (a3 : Int) (a4 : Int) (a5 : Int) (Q : Int → Int → Heap → Prop) (h : Heap) : Prop :=
  slices_medianOrdered_int a1 a3 a4 a5 (some a2) (fun r1 h => rdI .i64 a2 (fun x2 => br (x2 == 0) (Q r1 1 h) (br (x2 == 12) (Q r1 2 h) (Q r1 0 h))) h) h

def slices_choosePivotOrdered_int.j6  (a1 : Sl) (a2 : Int) (a3 : Ptr) (a4 : Int) (a5 : Int) (a6 : Int) (Q : Int → Int → Heap → Prop) (h : Heap) : Prop :=
  br (decide (a2 ≥ 8)) (br (decide (a2 ≥ 50)) (slices_medianAdjacentOrdered_int a1 a4 (some a3) (fun r1 h => slices_medianAdjacentOrdered_int a1 a5 (some a3) (fun r2 h => slices_medianAdjacentOrdered_int a1 a6 (some a3) (fun r3 h => slices_choosePivotOrdered_int.j11 a1 a3 r1 r2 r3 Q h) h) h) h) (slices_choosePivotOrdered_int.j11 a1 a3 a4 a5 a6 Q h)) (rdI .i64 a3 (fun x4 => br (x4 == 0) (Q a5 1 h) (br (x4 == 12) (Q a5 2 h) (Q a5 0 h))) h)

def slices_choosePivotOrdered_int (a1 : Sl) (a2 : Int) (a3 : Int) (Q : Int → Int → Heap → Prop) (h : Heap) : Prop :=
  al [.int .i64 0] (fun b1 h => nz 4 (nz 4 (nz 4 (slices_choosePivotOrdered_int.j6 a1 (IntKind.i64.wrap (a3 - a2)) (⟨b1, 0⟩ : Ptr) (IntKind.i64.wrap (a2 + (IntKind.i64.wrap ((IntKind.i64.wrap ((IntKind.i64.wrap (a3 - a2)).tdiv 4)) * 1)))) (IntKind.i64.wrap (a2 + (IntKind.i64.wrap ((IntKind.i64.wrap ((IntKind.i64.wrap (a3 - a2)).tdiv 4)) * 2)))) (IntKind.i64.wrap (a2 + (IntKind.i64.wrap ((IntKind.i64.wrap ((IntKind.i64.wrap (a3 - a2)).tdiv 4)) * 3)))) Q h)))) h

def slices_reverseRangeOrdered_int.b2  (I2 : Sl → Int → Int → Heap → Prop) (a1 : Sl) (a2 : Int) (a3 : Int) (Q : Heap → Prop) (h : Heap) : Prop :=
  br (decide (a2 < a3)) (ix a3 a1.len (fun n1 => der a1.p (fun p2 => rdI .i64 (p2.add (n1 * 1)) (fun x3 => ix a2 a1.len (fun n4 => der a1.p (fun p5 => rdI .i64 (p5.add (n4 * 1)) (fun x6 => ix a2 a1.len (fun n7 => der a1.p (fun p8 => wr (p8.add (n7 * 1)) (.int .i64 x3) (fun h => ix a3 a1.len (fun n9 => der a1.p (fun p10 => wr (p10.add (n9 * 1)) (.int .i64 x6) (fun h => I2 a1 (IntKind.i64.wrap (a2 + 1)) (IntKind.i64.wrap (a3 - 1)) h) h))) h))) h))) h))) (Q h)

def slices_reverseRangeOrdered_int.j2  (a1 : Sl) (a2 : Int) (a3 : Int) (Q : Heap → Prop) (h : Heap) : Prop :=
  ∀ I : Sl → Int → Int → Heap → Prop, (∀ a1 a2 a3 h, slices_reverseRangeOrdered_int.b2  I a1 a2 a3 Q h → I a1 a2 a3 h) → I a1 a2 a3 h

def slices_reverseRangeOrdered_int (a1 : Sl) (a2 : Int) (a3 : Int) (Q : Heap → Prop) (h : Heap) : Prop :=
  slices_reverseRangeOrdered_int.j2 a1 a2 (IntKind.i64.wrap (a3 - 1)) Q h

def slices_partialInsertionSortOrdered_int.j4 (I3 : Sl → Int → Int → Int → Int → Heap → Prop) (a1 : Sl) (a2 : Int) (a3 : Int) (a4 : Int) (a5 : Int) (Q : Bool → Heap → Prop) (h : Heap) : Prop :=
  I3 a1 a2 a3 a4 (IntKind.i64.wrap (a5 + 1)) h

def slices_partialInsertionSortOrdered_int.j21 (I3 : Sl → Int → Int → Int → Int → Heap → Prop) (I20 : Sl → Int → Int → Int → Int → Int → Heap → Prop) (a1 : Sl) (a2 : Int) (a3 : Int) (a4 : Int) (a5 : Int) (a6 : Int) (Q : Bool → Heap → Prop) (h : Heap) : Prop :=
  I20 a1 a2 a3 a4 a5 (IntKind.i64.wrap (a6 + 1)) h

def slices_partialInsertionSortOrdered_int.b20 (I3 : Sl → Int → Int → Int → Int → Heap → Prop) (I20 : Sl → Int → Int → Int → Int → Int → Heap → Prop) (a1 : Sl) (a2 : Int) (a3 : Int) (a4 : Int) (a5 : Int) (a6 : Int) (Q : Bool → Heap → Prop) (h : Heap) : Prop :=
  br (decide (a6 < a3)) (ix a6 a1.len (fun n1 => der a1.p (fun p2 => rdI .i64 (p2.add (n1 * 1)) (fun x3 => ix (IntKind.i64.wrap (a6 - 1)) a1.len (fun n4 => der a1.p (fun p5 => rdI .i64 (p5.add (n4 * 1)) (fun x6 => cmp_Less_int x3 x6 (fun r7 h => br (!r7) (slices_partialInsertionSortOrdered_int.j4 I3 a1 a2 a3 a4 a5 Q h) (ix (IntKind.i64.wrap (a6 - 1)) a1.len (fun n8 => der a1.p (fun p9 => rdI .i64 (p9.add (n8 * 1)) (fun x10 => ix a6 a1.len (fun n11 => der a1.p (fun p12 => rdI .i64 (p12.add (n11 * 1)) (fun x13 => ix a6 a1.len (fun n14 => der a1.p (fun p15 => wr (p15.add (n14 * 1)) (.int .i64 x10) (fun h => ix (IntKind.i64.wrap (a6 - 1)) a1.len (fun n16 => der a1.p (fun p17 => wr (p17.add (n16 * 1)) (.int .i64 x13) (fun h => slices_partialInsertionSortOrdered_int.j21 I3 I20 a1 a2 a3 a4 a5 a6 Q h) h))) h))) h))) h)))) h) h))) h))) (slices_partialInsertionSortOrdered_int.j4 I3 a1 a2 a3 a4 a5 Q h)

def slices_partialInsertionSortOrdered_int.j20 (I3 : Sl → Int → Int → Int → Int → Heap → Prop) (a1 : Sl) (a2 : Int) (a3 : Int) (a4 : Int) (a5 : Int) (a6 : Int) (Q : Bool → Heap → Prop) (h : Heap) : Prop :=
  ∀ I : Sl → Int → Int → Int → Int → Int → Heap → Prop, (∀ a1 a2 a3 a4 a5 a6 h, slices_partialInsertionSortOrdered_int.b20 I3 I a1 a2 a3 a4 a5 a6 Q h → I a1 a2 a3 a4 a5 a6 h) → I a1 a2 a3 a4 a5 a6 h

def slices_partialInsertionSortOrdered_int.j18 (I3 : Sl → Int → Int → Int → Int → Heap → Prop) (a1 : Sl) (a2 : Int) (a3 : Int) (a4 : Int) (a5 : Int) (Q : Bool → Heap → Prop) (h : Heap) : Prop :=
  br (decide ((IntKind.i64.wrap (a3 - a4)) ≥ 2)) (slices_partialInsertionSortOrdered_int.j20 I3 a1 a2 a3 a4 a5 (IntKind.i64.wrap (a4 + 1)) Q h) (slices_partialInsertionSortOrdered_int.j4 I3 a1 a2 a3 a4 a5 Q h)

def slices_partialInsertionSortOrdered_int.j15 (I3 : Sl → Int → Int → Int → Int → Heap → Prop) (I14 : Sl → Int → Int → Int → Int → Int → Heap → Prop) (a1 : Sl) (a2 : Int) (a3 : Int) (a4 : Int) (a5 : Int) (a6 : Int) (Q : Bool → Heap → Prop) (h : Heap) : Prop :=
  I14 a1 a2 a3 a4 a5 (IntKind.i64.wrap (a6 - 1)) h

def slices_partialInsertionSortOrdered_int.b14 (I3 : Sl → Int → Int → Int → Int → Heap → Prop) (I14 : Sl → Int → Int → Int → Int → Int → Heap → Prop) (a1 : Sl) (a2 : Int) (a3 : Int) (a4 : Int) (a5 : Int) (a6 : Int) (Q : Bool → Heap → Prop) (h : Heap) : Prop :=
  br (decide (a6 ≥ 1)) (ix a6 a1.len (fun n1 => der a1.p (fun p2 => rdI .i64 (p2.add (n1 * 1)) (fun x3 => ix (IntKind.i64.wrap (a6 - 1)) a1.len (fun n4 => der a1.p (fun p5 => rdI .i64 (p5.add (n4 * 1)) (fun x6 => cmp_Less_int x3 x6 (fun r7 h => br (!r7) (slices_partialInsertionSortOrdered_int.j18 I3 a1 a2 a3 a4 a5 Q h) (ix (IntKind.i64.wrap (a6 - 1)) a1.len (fun n8 => der a1.p (fun p9 => rdI .i64 (p9.add (n8 * 1)) (fun x10 => ix a6 a1.len (fun n11 => der a1.p (fun p12 => rdI .i64 (p12.add (n11 * 1)) (fun x13 => ix a6 a1.len (fun n14 => der a1.p (fun p15 => wr (p15.add (n14 * 1)) (.int .i64 x10) (fun h => ix (IntKind.i64.wrap (a6 - 1)) a1.len (fun n16 => der a1.p (fun p17 => wr (p17.add (n16 * 1)) (.int .i64 x13) (fun h => slices_partialInsertionSortOrdered_int.j15 I3 I14 a1 a2 a3 a4 a5 a6 Q h) h))) h))) h))) h)))) h) h))) h))) (slices_partialInsertionSortOrdered_int.j18 I3 a1 a2 a3 a4 a5 Q h)

def slices_partialInsertionSortOrdered_int.j14 (I3 : Sl → Int → Int → Int → Int → Heap → Prop) (a1 : Sl) (a2 : Int) (a3 : Int) (a4 : Int) (a5 : Int) (a6 : Int) (Q : Bool → Heap → Prop) (h : Heap) : Prop :=
  ∀ I : Sl → Int → Int → Int → Int → Int → Heap → Prop, (∀ a1 a2 a3 a4 a5 a6 h, slices_partialInsertionSortOrdered_int.b14 I3 I a1 a2 a3 a4 a5 a6 Q h → I a1 a2 a3 a4 a5 a6 h) → I a1 a2 a3 a4 a5 a6 h

def slices_partialInsertionSortOrdered_int.j12 (I3 : Sl → Int → Int → Int → Int → Heap → Prop) (a1 : Sl) (a2 : Int) (a3 : Int) (a4 : Int) (a5 : Int) (Q : Bool → Heap → Prop) (h : Heap) : Prop :=
  br (decide ((IntKind.i64.wrap (a4 - a2)) ≥ 2)) (slices_partialInsertionSortOrdered_int.j14 I3 a1 a2 a3 a4 a5 (IntKind.i64.wrap (a4 - 1)) Q h) (slices_partialInsertionSortOrdered_int.j18 I3 a1 a2 a3 a4 a5 Q h)

def slices_partialInsertionSortOrdered_int.j7 (I3 : Sl → Int → Int → Int → Int → Heap → Prop) (a1 : Sl) (a2 : Int) (a3 : Int) (a4 : Int) (a5 : Int) (Q : Bool → Heap → Prop) (h : Heap) : Prop :=
  br (a4 == a3) (Q true h) (br (decide ((IntKind.i64.wrap (a3 - a2)) < 50)) (Q false h) (ix (IntKind.i64.wrap (a4 - 1)) a1.len (fun n1 => der a1.p (fun p2 => rdI .i64 (p2.add (n1 * 1)) (fun x3 => ix a4 a1.len (fun n4 => der a1.p (fun p5 => rdI .i64 (p5.add (n4 * 1)) (fun x6 => ix a4 a1.len (fun n7 => der a1.p (fun p8 => wr (p8.add (n7 * 1)) (.int .i64 x3) (fun h => ix (IntKind.i64.wrap (a4 - 1)) a1.len (fun n9 => der a1.p (fun p10 => wr (p10.add (n9 * 1)) (.int .i64 x6) (fun h => slices_partialInsertionSortOrdered_int.j12 I3 a1 a2 a3 a4 a5 Q h) h))) h))) h))) h))))

def slices_partialInsertionSortOrdered_int.b5 (I3 : Sl → Int → Int → Int → Int → Heap → Prop) (I5 : Sl → Int → Int → Int → Int → Heap → Prop) (a1 : Sl) (a2 : Int) (a3 : Int) (a4 : Int) (a5 : Int) (Q : Bool → Heap → Prop) (h : Heap) : Prop :=
  br (decide (a4 < a3)) (ix a4 a1.len (fun n1 => der a1.p (fun p2 => rdI .i64 (p2.add (n1 * 1)) (fun x3 => ix (IntKind.i64.wrap (a4 - 1)) a1.len (fun n4 => der a1.p (fun p5 => rdI .i64 (p5.add (n4 * 1)) (fun x6 => cmp_Less_int x3 x6 (fun r7 h => br (!r7) (I5 a1 a2 a3 (IntKind.i64.wrap (a4 + 1)) a5 h) (slices_partialInsertionSortOrdered_int.j7 I3 a1 a2 a3 a4 a5 Q h)) h) h))) h))) (slices_partialInsertionSortOrdered_int.j7 I3 a1 a2 a3 a4 a5 Q h)

def slices_partialInsertionSortOrdered_int.j5 (I3 : Sl → Int → Int → Int → Int → Heap → Prop) (a1 : Sl) (a2 : Int) (a3 : Int) (a4 : Int) (a5 : Int) (Q : Bool → Heap → Prop) (h : Heap) : Prop :=
  ∀ I : Sl → Int → Int → Int → Int → Heap → Prop, (∀ a1 a2 a3 a4 a5 h, slices_partialInsertionSortOrdered_int.b5 I3 I a1 a2 a3 a4 a5 Q h → I a1 a2 a3 a4 a5 h) → I a1 a2 a3 a4 a5 h

def slices_partialInsertionSortOrdered_int.b3  (I3 : Sl → Int → Int → Int → Int → Heap → Prop) (a1 : Sl) (a2 : Int) (a3 : Int) (a4 : Int) (a5 : Int) (Q : Bool → Heap → Prop) (h : Heap) : Prop :=
  br (decide (a5 < 5)) (slices_partialInsertionSortOrdered_int.j5 I3 a1 a2 a3 a4 a5 Q h) (Q false h)

def slices_partialInsertionSortOrdered_int.j3  (a1 : Sl) (a2 : Int) (a3 : Int) (a4 : Int) (a5 : Int) (Q : Bool → Heap → Prop) (h : Heap) : Prop :=
  ∀ I : Sl → Int → Int → Int → Int → Heap → Prop, (∀ a1 a2 a3 a4 a5 h, slices_partialInsertionSortOrdered_int.b3  I a1 a2 a3 a4 a5 Q h → I a1 a2 a3 a4 a5 h) → I a1 a2 a3 a4 a5 h

def slices_partialInsertionSortOrdered_int (a1 : Sl) (a2 : Int) (a3 : Int) (Q : Bool → Heap → Prop) (h : Heap) : Prop :=
  slices_partialInsertionSortOrdered_int.j3 a1 a2 a3 (IntKind.i64.wrap (a2 + 1)) 0 Q h

def slices_partitionEqualOrdered_int.j7 (I3 : Sl → Int → Int → Int → Heap → Prop) (a1 : Sl) (a2 : Int) (a3 : Int) (a4 : Int) (Q : Int → Heap → Prop) (h : Heap) : Prop :=
  br (decide (a3 > a4)) (Q a3 h) (ix a4 a1.len (fun n1 => der a1.p (fun p2 => rdI .i64 (p2.add (n1 * 1)) (fun x3 => ix a3 a1.len (fun n4 => der a1.p (fun p5 => rdI .i64 (p5.add (n4 * 1)) (fun x6 => ix a3 a1.len (fun n7 => der a1.p (fun p8 => wr (p8.add (n7 * 1)) (.int .i64 x3) (fun h => ix a4 a1.len (fun n9 => der a1.p (fun p10 => wr (p10.add (n9 * 1)) (.int .i64 x6) (fun h => I3 a1 a2 (IntKind.i64.wrap (a3 + 1)) (IntKind.i64.wrap (a4 - 1)) h) h))) h))) h))) h)))

def slices_partitionEqualOrdered_int.b5 (I3 : Sl → Int → Int → Int → Heap → Prop) (I5 : Sl → Int → Int → Int → Heap → Prop) (a1 : Sl) (a2 : Int) (a3 : Int) (a4 : Int) (Q : Int → Heap → Prop) (h : Heap) : Prop :=
  br (decide (a3 ≤ a4)) (ix a2 a1.len (fun n1 => der a1.p (fun p2 => rdI .i64 (p2.add (n1 * 1)) (fun x3 => ix a4 a1.len (fun n4 => der a1.p (fun p5 => rdI .i64 (p5.add (n4 * 1)) (fun x6 => cmp_Less_int x3 x6 (fun r7 h => br r7 (I5 a1 a2 a3 (IntKind.i64.wrap (a4 - 1)) h) (slices_partitionEqualOrdered_int.j7 I3 a1 a2 a3 a4 Q h)) h) h))) h))) (slices_partitionEqualOrdered_int.j7 I3 a1 a2 a3 a4 Q h)

def slices_partitionEqualOrdered_int.j5 (I3 : Sl → Int → Int → Int → Heap → Prop) (a1 : Sl) (a2 : Int) (a3 : Int) (a4 : Int) (Q : Int → Heap → Prop) (h : Heap) : Prop :=
  ∀ I : Sl → Int → Int → Int → Heap → Prop, (∀ a1 a2 a3 a4 h, slices_partitionEqualOrdered_int.b5 I3 I a1 a2 a3 a4 Q h → I a1 a2 a3 a4 h) → I a1 a2 a3 a4 h

def slices_partitionEqualOrdered_int.b3  (I3 : Sl → Int → Int → Int → Heap → Prop) (a1 : Sl) (a2 : Int) (a3 : Int) (a4 : Int) (Q : Int → Heap → Prop) (h : Heap) : Prop :=
  br (decide (a3 ≤ a4)) (ix a2 a1.len (fun n1 => der a1.p (fun p2 => rdI .i64 (p2.add (n1 * 1)) (fun x3 => ix a3 a1.len (fun n4 => der a1.p (fun p5 => rdI .i64 (p5.add (n4 * 1)) (fun x6 => cmp_Less_int x3 x6 (fun r7 h => br (!r7) (I3 a1 a2 (IntKind.i64.wrap (a3 + 1)) a4 h) (slices_partitionEqualOrdered_int.j5 I3 a1 a2 a3 a4 Q h)) h) h))) h))) (slices_partitionEqualOrdered_int.j5 I3 a1 a2 a3 a4 Q h)

def slices_partitionEqualOrdered_int.j3  (a1 : Sl) (a2 : Int) (a3 : Int) (a4 : Int) (Q : Int → Heap → Prop) (h : Heap) : Prop :=
  ∀ I : Sl → Int → Int → Int → Heap → Prop, (∀ a1 a2 a3 a4 h, slices_partitionEqualOrdered_int.b3  I a1 a2 a3 a4 Q h → I a1 a2 a3 a4 h) → I a1 a2 a3 a4 h

def slices_partitionEqualOrdered_int (a1 : Sl) (a2 : Int) (a3 : Int) (a4 : Int) (Q : Int → Heap → Prop) (h : Heap) : Prop :=
  ix a4 a1.len (fun n1 => der a1.p (fun p2 => rdI .i64 (p2.add (n1 * 1)) (fun x3 => ix a2 a1.len (fun n4 => der a1.p (fun p5 => rdI .i64 (p5.add (n4 * 1)) (fun x6 => ix a2 a1.len (fun n7 => der a1.p (fun p8 => wr (p8.add (n7 * 1)) (.int .i64 x3) (fun h => ix a4 a1.len (fun n9 => der a1.p (fun p10 => wr (p10.add (n9 * 1)) (.int .i64 x6) (fun h => slices_partitionEqualOrdered_int.j3 a1 a2 (IntKind.i64.wrap (a2 + 1)) (IntKind.i64.wrap (a3 - 1)) Q h) h))) h))) h))) h))

def slices_partitionOrdered_int.j17 (I13 : Sl → Int → Int → Int → Heap → Prop) (a1 : Sl) (a2 : Int) (a3 : Int) (a4 : Int) (Q : Int → Bool → Heap → Prop) (h : Heap) : Prop :=
  br (decide (a3 > a4)) (ix a2 a1.len (fun n1 => der a1.p (fun p2 => rdI .i64 (p2.add (n1 * 1)) (fun x3 => ix a4 a1.len (fun n4 => der a1.p (fun p5 => rdI .i64 (p5.add (n4 * 1)) (fun x6 => ix a4 a1.len (fun n7 => der a1.p (fun p8 => wr (p8.add (n7 * 1)) (.int .i64 x3) (fun h => ix a2 a1.len (fun n9 => der a1.p (fun p10 => wr (p10.add (n9 * 1)) (.int .i64 x6) (fun h => Q a4 false h) h))) h))) h))) h))) (ix a4 a1.len (fun n11 => der a1.p (fun p12 => rdI .i64 (p12.add (n11 * 1)) (fun x13 => ix a3 a1.len (fun n14 => der a1.p (fun p15 => rdI .i64 (p15.add (n14 * 1)) (fun x16 => ix a3 a1.len (fun n17 => der a1.p (fun p18 => wr (p18.add (n17 * 1)) (.int .i64 x13) (fun h => ix a4 a1.len (fun n19 => der a1.p (fun p20 => wr (p20.add (n19 * 1)) (.int .i64 x16) (fun h => I13 a1 a2 (IntKind.i64.wrap (a3 + 1)) (IntKind.i64.wrap (a4 - 1)) h) h))) h))) h))) h)))

def slices_partitionOrdered_int.b15 (I13 : Sl → Int → Int → Int → Heap → Prop) (I15 : Sl → Int → Int → Int → Heap → Prop) (a1 : Sl) (a2 : Int) (a3 : Int) (a4 : Int) (Q : Int → Bool → Heap → Prop) (h : Heap) : Prop :=
  br (decide (a3 ≤ a4)) (ix a4 a1.len (fun n1 => der a1.p (fun p2 => rdI .i64 (p2.add (n1 * 1)) (fun x3 => ix a2 a1.len (fun n4 => der a1.p (fun p5 => rdI .i64 (p5.add (n4 * 1)) (fun x6 => cmp_Less_int x3 x6 (fun r7 h => br (!r7) (I15 a1 a2 a3 (IntKind.i64.wrap (a4 - 1)) h) (slices_partitionOrdered_int.j17 I13 a1 a2 a3 a4 Q h)) h) h))) h))) (slices_partitionOrdered_int.j17 I13 a1 a2 a3 a4 Q h)

def slices_partitionOrdered_int.j15 (I13 : Sl → Int → Int → Int → Heap → Prop) (a1 : Sl) (a2 : Int) (a3 : Int) (a4 : Int) (Q : Int → Bool → Heap → Prop) (h : Heap) : Prop :=
  ∀ I : Sl → Int → Int → Int → Heap → Prop, (∀ a1 a2 a3 a4 h, slices_partitionOrdered_int.b15 I13 I a1 a2 a3 a4 Q h → I a1 a2 a3 a4 h) → I a1 a2 a3 a4 h

def slices_partitionOrdered_int.b13  (I13 : Sl → Int → Int → Int → Heap → Prop) (a1 : Sl) (a2 : Int) (a3 : Int) (a4 : Int) (Q : Int → Bool → Heap → Prop) (h : Heap) : Prop :=
  br (decide (a3 ≤ a4)) (ix a3 a1.len (fun n1 => der a1.p (fun p2 => rdI .i64 (p2.add (n1 * 1)) (fun x3 => ix a2 a1.len (fun n4 => der a1.p (fun p5 => rdI .i64 (p5.add (n4 * 1)) (fun x6 => cmp_Less_int x3 x6 (fun r7 h => br r7 (I13 a1 a2 (IntKind.i64.wrap (a3 + 1)) a4 h) (slices_partitionOrdered_int.j15 I13 a1 a2 a3 a4 Q h)) h) h))) h))) (slices_partitionOrdered_int.j15 I13 a1 a2 a3 a4 Q h)

def slices_partitionOrdered_int.j13  (a1 : Sl) (a2 : Int) (a3 : Int) (a4 : Int) (Q : Int → Bool → Heap → Prop) (h : Heap) : Prop :=
  ∀ I : Sl → Int → Int → Int → Heap → Prop, (∀ a1 a2 a3 a4 h, slices_partitionOrdered_int.b13  I a1 a2 a3 a4 Q h → I a1 a2 a3 a4 h) → I a1 a2 a3 a4 h

def slices_partitionOrdered_int.j7  (a1 : Sl) (a2 : Int) (a3 : Int) (a4 : Int) (Q : Int → Bool → Heap → Prop) (h : Heap) : Prop :=
  br (decide (a3 > a4)) (ix a2 a1.len (fun n1 => der a1.p (fun p2 => rdI .i64 (p2.add (n1 * 1)) (fun x3 => ix a4 a1.len (fun n4 => der a1.p (fun p5 => rdI .i64 (p5.add (n4 * 1)) (fun x6 => ix a4 a1.len (fun n7 => der a1.p (fun p8 => wr (p8.add (n7 * 1)) (.int .i64 x3) (fun h => ix a2 a1.len (fun n9 => der a1.p (fun p10 => wr (p10.add (n9 * 1)) (.int .i64 x6) (fun h => Q a4 true h) h))) h))) h))) h))) (ix a4 a1.len (fun n11 => der a1.p (fun p12 => rdI .i64 (p12.add (n11 * 1)) (fun x13 => ix a3 a1.len (fun n14 => der a1.p (fun p15 => rdI .i64 (p15.add (n14 * 1)) (fun x16 => ix a3 a1.len (fun n17 => der a1.p (fun p18 => wr (p18.add (n17 * 1)) (.int .i64 x13) (fun h => ix a4 a1.len (fun n19 => der a1.p (fun p20 => wr (p20.add (n19 * 1)) (.int .i64 x16) (fun h => slices_partitionOrdered_int.j13 a1 a2 (IntKind.i64.wrap (a3 + 1)) (IntKind.i64.wrap (a4 - 1)) Q h) h))) h))) h))) h)))

def slices_partitionOrdered_int.b5  (I5 : Sl → Int → Int → Int → Heap → Prop) (a1 : Sl) (a2 : Int) (a3 : Int) (a4 : Int) (Q : Int → Bool → Heap → Prop) (h : Heap) : Prop :=
  br (decide (a3 ≤ a4)) (ix a4 a1.len (fun n1 => der a1.p (fun p2 => rdI .i64 (p2.add (n1 * 1)) (fun x3 => ix a2 a1.len (fun n4 => der a1.p (fun p5 => rdI .i64 (p5.add (n4 * 1)) (fun x6 => cmp_Less_int x3 x6 (fun r7 h => br (!r7) (I5 a1 a2 a3 (IntKind.i64.wrap (a4 - 1)) h) (slices_partitionOrdered_int.j7 a1 a2 a3 a4 Q h)) h) h))) h))) (slices_partitionOrdered_int.j7 a1 a2 a3 a4 Q h)

def slices_partitionOrdered_int.j5  (a1 : Sl) (a2 : Int) (a3 : Int) (a4 : Int) (Q : Int → Bool → Heap → Prop) (h : Heap) : Prop :=
  ∀ I : Sl → Int → Int → Int → Heap → Prop, (∀ a1 a2 a3 a4 h, slices_partitionOrdered_int.b5  I a1 a2 a3 a4 Q h → I a1 a2 a3 a4 h) → I a1 a2 a3 a4 h

def slices_partitionOrdered_int.b3  (I3 : Sl → Int → Int → Int → Heap → Prop) (a1 : Sl) (a2 : Int) (a3 : Int) (a4 : Int) (Q : Int → Bool → Heap → Prop) (h : Heap) : Prop :=
  br (decide (a3 ≤ a4)) (ix a3 a1.len (fun n1 => der a1.p (fun p2 => rdI .i64 (p2.add (n1 * 1)) (fun x3 => ix a2 a1.len (fun n4 => der a1.p (fun p5 => rdI .i64 (p5.add (n4 * 1)) (fun x6 => cmp_Less_int x3 x6 (fun r7 h => br r7 (I3 a1 a2 (IntKind.i64.wrap (a3 + 1)) a4 h) (slices_partitionOrdered_int.j5 a1 a2 a3 a4 Q h)) h) h))) h))) (slices_partitionOrdered_int.j5 a1 a2 a3 a4 Q h)

def slices_partitionOrdered_int.j3  (a1 : Sl) (a2 : Int) (a3 : Int) (a4 : Int) (Q : Int → Bool → Heap → Prop) (h : Heap) : Prop :=
  ∀ I : Sl → Int → Int → Int → Heap → Prop, (∀ a1 a2 a3 a4 h, slices_partitionOrdered_int.b3  I a1 a2 a3 a4 Q h → I a1 a2 a3 a4 h) → I a1 a2 a3 a4 h

def slices_partitionOrdered_int (a1 : Sl) (a2 : Int) (a3 : Int) (a4 : Int) (Q : Int → Bool → Heap → Prop) (h : Heap) : Prop :=
  ix a4 a1.len (fun n1 => der a1.p (fun p2 => rdI .i64 (p2.add (n1 * 1)) (fun x3 => ix a2 a1.len (fun n4 => der a1.p (fun p5 => rdI .i64 (p5.add (n4 * 1)) (fun x6 => ix a2 a1.len (fun n7 => der a1.p (fun p8 => wr (p8.add (n7 * 1)) (.int .i64 x3) (fun h => ix a4 a1.len (fun n9 => der a1.p (fun p10 => wr (p10.add (n9 * 1)) (.int .i64 x6) (fun h => slices_partitionOrdered_int.j3 a1 a2 (IntKind.i64.wrap (a2 + 1)) (IntKind.i64.wrap (a3 - 1)) Q h) h))) h))) h))) h))

def slices_nextPowerOfTwo (a1 : Int) (Q : Int → Heap → Prop) (h : Heap) : Prop :=
  math_bits_Len (IntKind.u64.wrap a1) (fun r1 h => nneg r1 (Q (shlI .u64 1 r1) h)) h

def slices_xorshift_Next.j4  (a1 : Option Ptr) (Q : Int → Heap → Prop) (h : Heap) : Prop :=
  der a1 (fun p1 => rdI .u64 p1 (fun x2 => Q x2 h) h)

def slices_xorshift_Next (a1 : Option Ptr) (Q : Int → Heap → Prop) (h : Heap) : Prop :=
  der a1 (fun p1 => rdI .u64 p1 (fun x2 => der a1 (fun p3 => rdI .u64 p3 (fun x4 => nneg 13 (der a1 (fun p5 => wr p5 (.int .u64 (ibits .xor .u64 x2 (shlI .u64 x4 13))) (fun h => der a1 (fun p6 => rdI .u64 p6 (fun x7 => der a1 (fun p8 => rdI .u64 p8 (fun x9 => nneg 7 (der a1 (fun p10 => wr p10 (.int .u64 (ibits .xor .u64 x7 (shrI .u64 x9 7))) (fun h => der a1 (fun p11 => rdI .u64 p11 (fun x12 => der a1 (fun p13 => rdI .u64 p13 (fun x14 => nneg 17 (der a1 (fun p15 => wr p15 (.int .u64 (ibits .xor .u64 x12 (shlI .u64 x14 17))) (fun h => slices_xorshift_Next.j4 a1 Q h) h))) h)) h)) h))) h)) h)) h))) h)) h)

def slices_breakPatternsOrdered_int.j6 (I5 : Sl → Int → Int → Ptr → Int → Int → Heap → Prop) (a1 : Sl) (a2 : Int) (a3 : Int) (a4 : Ptr) (a5 : Int) (a6 : Int) (Q : Heap → Prop) (h : Heap) : Prop :=
  I5 a1 a2 a3 a4 a5 (IntKind.i64.wrap (a6 + 1)) h

def slices_breakPatternsOrdered_int.j10 (I5 : Sl → Int → Int → Ptr → Int → Int → Heap → Prop) (a1 : Sl) (a2 : Int) (a3 : Int) (a4 : Ptr) (a5 : Int) (a6 : Int) (a7 : Int) (Q : Heap → Prop) (h : Heap) : Prop :=
  ix (IntKind.i64.wrap (a2 + a7)) a1.len (fun n1 => der a1.p (fun p2 => rdI .i64 (p2.add (n1 * 1)) (fun x3 => ix a6 a1.len (fun n4 => der a1.p (fun p5 => rdI .i64 (p5.add (n4 * 1)) (fun x6 => ix a6 a1.len (fun n7 => der a1.p (fun p8 => wr (p8.add (n7 * 1)) (.int .i64 x3) (fun h => ix (IntKind.i64.wrap (a2 + a7)) a1.len (fun n9 => der a1.p (fun p10 => wr (p10.add (n9 * 1)) (.int .i64 x6) (fun h => slices_breakPatternsOrdered_int.j6 I5 a1 a2 a3 a4 a5 a6 Q h) h))) h))) h))) h))

def slices_breakPatternsOrdered_int.b5  (I5 : Sl → Int → Int → Ptr → Int → Int → Heap → Prop) (a1 : Sl) (a2 : Int) (a3 : Int) (a4 : Ptr) (a5 : Int) (a6 : Int) (Q : Heap → Prop) (h : Heap) : Prop :=
  nz 4 (br (decide (a6 ≤ (IntKind.i64.wrap ((IntKind.i64.wrap (a2 + (IntKind.i64.wrap ((IntKind.i64.wrap (a3.tdiv 4)) * 2)))) + 1)))) (slices_xorshift_Next (some a4) (fun r1 h => br (decide ((IntKind.i64.wrap (ibits .and .u64 r1 (IntKind.u64.wrap (a5 - 1)))) ≥ a3)) (slices_breakPatternsOrdered_int.j10 I5 a1 a2 a3 a4 a5 a6 (IntKind.i64.wrap ((IntKind.i64.wrap (ibits .and .u64 r1 (IntKind.u64.wrap (a5 - 1)))) - a3)) Q h) (slices_breakPatternsOrdered_int.j10 I5 a1 a2 a3 a4 a5 a6 (IntKind.i64.wrap (ibits .and .u64 r1 (IntKind.u64.wrap (a5 - 1)))) Q h)) h) (Q h))

def slices_breakPatternsOrdered_int.j5  (a1 : Sl) (a2 : Int) (a3 : Int) (a4 : Ptr) (a5 : Int) (a6 : Int) (Q : Heap → Prop) (h : Heap) : Prop :=
  ∀ I : Sl → Int → Int → Ptr → Int → Int → Heap → Prop, (∀ a1 a2 a3 a4 a5 a6 h, slices_breakPatternsOrdered_int.b5  I a1 a2 a3 a4 a5 a6 Q h → I a1 a2 a3 a4 a5 a6 h) → I a1 a2 a3 a4 a5 a6 h

def slices_breakPatternsOrdered_int (a1 : Sl) (a2 : Int) (a3 : Int) (Q : Heap → Prop) (h : Heap) : Prop :=
  br (decide ((IntKind.i64.wrap (a3 - a2)) ≥ 8)) (al [.int .u64 0] (fun b1 h => wr (⟨b1, 0⟩ : Ptr) (.int .u64 (IntKind.u64.wrap (IntKind.i64.wrap (a3 - a2)))) (fun h => slices_nextPowerOfTwo (IntKind.i64.wrap (a3 - a2)) (fun r2 h => nz 4 (slices_breakPatternsOrdered_int.j5 a1 a2 (IntKind.i64.wrap (a3 - a2)) (⟨b1, 0⟩ : Ptr) r2 (IntKind.i64.wrap ((IntKind.i64.wrap (a2 + (IntKind.i64.wrap ((IntKind.i64.wrap ((IntKind.i64.wrap (a3 - a2)).tdiv 4)) * 2)))) - 1)) Q h)) h) h) h) (Q h)

def slices_pdqsortOrdered_int.j25 (I2 : Sl → Int → Int → Int → Bool → Bool → Heap → Prop) (a1 : Sl) (a2 : Int) (a3 : Int) (a4 : Int) (a5 : Bool) (a6 : Int) (a7 : Int) (a8 : Int) (Q : Heap → Prop) (h : Heap) : Prop :=
  False

def slices_pdqsortOrdered_int.j28 (I2 : Sl → Int → Int → Int → Bool → Bool → Heap → Prop) (a1 : Sl) (a2 : Int) (a3 : Int) (a4 : Int) (a5 : Bool) (a6 : Int) (a7 : Int) (a8 : Int) (Q : Heap → Prop) (h : Heap) : Prop :=
  False

def slices_pdqsortOrdered_int.j20 (I2 : Sl → Int → Int → Int → Bool → Bool → Heap → Prop) (a1 : Sl) (a2 : Int) (a3 : Int) (a4 : Int) (a5 : Int) (a6 : Int) (Q : Heap → Prop) (h : Heap) : Prop :=
  slices_partitionOrdered_int a1 a2 a3 a6 (fun r1 r2 h => nz 8 (br (decide ((IntKind.i64.wrap (r1 - a2)) < (IntKind.i64.wrap (a3 - r1)))) (slices_pdqsortOrdered_int.j25 I2 a1 a2 a3 a4 r2 r1 (IntKind.i64.wrap (r1 - a2)) (IntKind.i64.wrap (a5.tdiv 8)) Q h) (slices_pdqsortOrdered_int.j28 I2 a1 a2 a3 a4 r2 r1 (IntKind.i64.wrap (a3 - r1)) (IntKind.i64.wrap (a5.tdiv 8)) Q h))) h

def slices_pdqsortOrdered_int.j17 (I2 : Sl → Int → Int → Int → Bool → Bool → Heap → Prop) (a1 : Sl) (a2 : Int) (a3 : Int) (a4 : Int) (a5 : Bool) (a6 : Bool) (a7 : Int) (a8 : Int) (Q : Heap → Prop) (h : Heap) : Prop :=
  br (decide (a2 > 0)) (ix (IntKind.i64.wrap (a2 - 1)) a1.len (fun n1 => der a1.p (fun p2 => rdI .i64 (p2.add (n1 * 1)) (fun x3 => ix a8 a1.len (fun n4 => der a1.p (fun p5 => rdI .i64 (p5.add (n4 * 1)) (fun x6 => cmp_Less_int x3 x6 (fun r7 h => br (!r7) (slices_partitionEqualOrdered_int a1 a2 a3 a8 (fun r8 h => I2 a1 r8 a3 a4 a5 a6 h) h) (slices_pdqsortOrdered_int.j20 I2 a1 a2 a3 a4 a7 a8 Q h)) h) h))) h))) (slices_pdqsortOrdered_int.j20 I2 a1 a2 a3 a4 a7 a8 Q h)

def slices_pdqsortOrdered_int.j15 (I2 : Sl → Int → Int → Int → Bool → Bool → Heap → Prop) (a1 : Sl) (a2 : Int) (a3 : Int) (a4 : Int) (a5 : Bool) (a6 : Bool) (a7 : Int) (a8 : Int) (a9 : Int) (Q : Heap → Prop) (h : Heap) : Prop :=
  br a5 (br a6 (br (a9 == 1) (slices_partialInsertionSortOrdered_int a1 a2 a3 (fun r1 h => br r1 (Q h) (slices_pdqsortOrdered_int.j17 I2 a1 a2 a3 a4 a5 a6 a7 a8 Q h)) h) (slices_pdqsortOrdered_int.j17 I2 a1 a2 a3 a4 a5 a6 a7 a8 Q h)) (slices_pdqsortOrdered_int.j17 I2 a1 a2 a3 a4 a5 a6 a7 a8 Q h)) (slices_pdqsortOrdered_int.j17 I2 a1 a2 a3 a4 a5 a6 a7 a8 Q h)

def slices_pdqsortOrdered_int.j10 (I2 : Sl → Int → Int → Int → Bool → Bool → Heap → Prop) (a1 : Sl) (a2 : Int) (a3 : Int) (a4 : Int) (a5 : Bool) (a6 : Bool) (a7 : Int) (Q : Heap → Prop) (h : Heap) : Prop :=
  slices_choosePivotOrdered_int a1 a2 a3 (fun r1 r2 h => br (r2 == 2) (slices_reverseRangeOrdered_int a1 a2 a3 (fun h => slices_pdqsortOrdered_int.j15 I2 a1 a2 a3 a4 a5 a6 a7 (IntKind.i64.wrap ((IntKind.i64.wrap (a3 - 1)) - (IntKind.i64.wrap (r1 - a2)))) 1 Q h) h) (slices_pdqsortOrdered_int.j15 I2 a1 a2 a3 a4 a5 a6 a7 r1 r2 Q h)) h

def slices_pdqsortOrdered_int.b2  (I2 : Sl → Int → Int → Int → Bool → Bool → Heap → Prop) (a1 : Sl) (a2 : Int) (a3 : Int) (a4 : Int) (a5 : Bool) (a6 : Bool) (Q : Heap → Prop) (h : Heap) : Prop :=
  br (decide ((IntKind.i64.wrap (a3 - a2)) ≤ 12)) (slices_insertionSortOrdered_int a1 a2 a3 (fun h => Q h) h) (br (a4 == 0) (slices_heapSortOrdered_int a1 a2 a3 (fun h => Q h) h) (br (!a5) (slices_breakPatternsOrdered_int a1 a2 a3 (fun h => slices_pdqsortOrdered_int.j10 I2 a1 a2 a3 (IntKind.i64.wrap (a4 - 1)) a5 a6 (IntKind.i64.wrap (a3 - a2)) Q h) h) (slices_pdqsortOrdered_int.j10 I2 a1 a2 a3 a4 a5 a6 (IntKind.i64.wrap (a3 - a2)) Q h)))

def slices_pdqsortOrdered_int.j2  (a1 : Sl) (a2 : Int) (a3 : Int) (a4 : Int) (a5 : Bool) (a6 : Bool) (Q : Heap → Prop) (h : Heap) : Prop :=
  ∀ I : Sl → Int → Int → Int → Bool → Bool → Heap → Prop, (∀ a1 a2 a3 a4 a5 a6 h, slices_pdqsortOrdered_int.b2  I a1 a2 a3 a4 a5 a6 Q h → I a1 a2 a3 a4 a5 a6 h) → I a1 a2 a3 a4 a5 a6 h

def slices_pdqsortOrdered_int (a1 : Sl) (a2 : Int) (a3 : Int) (a4 : Int) (Q : Heap → Prop) (h : Heap) : Prop :=
  slices_pdqsortOrdered_int.j2 a1 a2 a3 a4 true true Q h

def slices_Sort_int_int (a1 : Sl) (Q : Heap → Prop) (h : Heap) : Prop :=
  math_bits_Len (IntKind.u64.wrap ((a1.len : Nat) : Int)) (fun r1 h => slices_pdqsortOrdered_int a1 0 ((a1.len : Nat) : Int) r1 (fun h => Q h) h) h

def vtimer_Timers_Due.j8 (I5 : Int → Sl → Ptr → Heap → Prop) (a1 : Int) (a2 : Sl) (a3 : Int) (a4 : Option Ptr) (a5 : Ptr) (Q : Sl → Heap → Prop) (h : Heap) : Prop :=
  der a4 (fun p1 => wr (p1.add 3) (.bool false) (fun h => al [.int .i64 a3] (fun b2 h => rdN (1 * 1) (⟨b2, 0⟩ : Ptr) (fun cs4 => appS 1 8 [.int .i64 0] a2 cs4 1 (fun s3 h => I5 a1 s3 a5 h) h) h) h) h)

def vtimer_Timers_Due.b5  (I5 : Int → Sl → Ptr → Heap → Prop) (a1 : Int) (a2 : Sl) (a3 : Ptr) (Q : Sl → Heap → Prop) (h : Heap) : Prop :=
  a3.o = 0 ∧ nextM a3.b (fun h => slices_Sort_int_int a2 (fun h => Q a2 h) h) (fun k1 u2 h => a3.o = 0 ∧ entryM a3.b (fun k3 u4 => asI .i64 k3 (fun x5 => asP u4 (fun x6 => der x6 (fun p7 => rdB (p7.add 3) (fun x8 => br x8 (der x6 (fun p9 => rdB (p9.add 1) (fun x10 => br (!x10) (der x6 (fun p11 => rdI .u64 (p11.add 4) (fun x12 => vtimer_timer_now x6 a1 (fun r13 h => ck (p11.add 4) [.int .u64 x12] 0 h ∧ (br (decide (r13 ≥ x12)) (vtimer_Timers_Due.j8 I5 a1 a2 x5 x6 a3 Q h) (I5 a1 a2 a3 h))) h) h)) (I5 a1 a2 a3 h)) h)) (I5 a1 a2 a3 h)) h)))) h) h

def vtimer_Timers_Due.j5  (a1 : Int) (a2 : Sl) (a3 : Ptr) (Q : Sl → Heap → Prop) (h : Heap) : Prop :=
  ∀ I : Int → Sl → Ptr → Heap → Prop, (∀ a1 a2 a3 h, vtimer_Timers_Due.b5  I a1 a2 a3 Q h → I a1 a2 a3 h) → I a1 a2 a3 h

def vtimer_Timers_Due (a1 : Option Ptr) (a2 : Int) (Q : Sl → Heap → Prop) (h : Heap) : Prop :=
  br a1.isNone (Q ⟨none, 0, 0⟩ h) (der a1 (fun p1 => rdM (p1.add 0) (fun x2 => rangeM x2 (fun b3 h => vtimer_Timers_Due.j5 a2 ⟨none, 0, 0⟩ (⟨b3, 0⟩ : Ptr) Q h) h) h))

def vtimer_Timers_Go.j7   (Q : Int → Heap → Prop) (h : Heap) : Prop :=
  Q 0 h

def vtimer_Timers_Go (a1 : Option Ptr) (a2 : Int) (a3 : Int) (Q : Int → Heap → Prop) (h : Heap) : Prop :=
  vtimer_Timers_of a1 a2 (fun r1 r2 h => br (r2 != 0) (Q r2 h) (der r1 (fun p3 => rdB (p3.add 1) (fun x4 => br (!x4) (Q 21 h) (der r1 (fun p5 => rdI .u64 (p5.add 2) (fun x6 => der r1 (fun p7 => rdI .u64 (p7.add 2) (fun x8 => ck (p7.add 2) [.int .u64 x8] 0 h ∧ ck (p5.add 2) [.int .u64 x6] 0 h ∧ ck (p7.add 2) [.int .u64 x8] 0 h ∧ (der r1 (fun p9 => wr (p9.add 0) (.int .u64 (IntKind.u64.wrap ((maxI (minI a3 4611686018427387904) x6) - x8))) (fun h => der r1 (fun p10 => wr (p10.add 1) (.bool false) (fun h => vtimer_Timers_Go.j7 Q h) h)) h))) h)) h))) h))) h

def vtimer_Timers_Now (a1 : Option Ptr) (a2 : Int) (a3 : Int) (Q : Int → Bool → Heap → Prop) (h : Heap) : Prop :=
  vtimer_Timers_of a1 a2 (fun r1 r2 h => br (r2 != 0) (Q 0 false h) (vtimer_timer_now r1 a3 (fun r3 h => Q r3 true h) h)) h

def vtimer_Timers_Next.j9 (I5 : Int → Bool → Ptr → Heap → Prop) (a1 : Int) (a2 : Ptr) (Q : Int → Bool → Heap → Prop) (h : Heap) : Prop :=
  I5 a1 true a2 h

def vtimer_Timers_Next.b5  (I5 : Int → Bool → Ptr → Heap → Prop) (a1 : Int) (a2 : Bool) (a3 : Ptr) (Q : Int → Bool → Heap → Prop) (h : Heap) : Prop :=
  a3.o = 0 ∧ nextM a3.b (fun h => Q a1 a2 h) (fun k1 u2 h => a3.o = 0 ∧ entryM a3.b (fun k3 u4 => asI .i64 k3 (fun x5 => asP u4 (fun x6 => der x6 (fun p7 => rdI .u64 (p7.add 0) (fun x8 => der x6 (fun p9 => rdI .u64 (p9.add 4) (fun x10 => der x6 (fun p11 => rdB (p11.add 3) (fun x12 => br x12 (der x6 (fun p13 => rdB (p13.add 1) (fun x14 => br (!x14) (br (!a2) (vtimer_Timers_Next.j9 I5 (minI (IntKind.u64.wrap (x8 + x10)) 4611686018427387904) a3 Q h) (br (decide ((minI (IntKind.u64.wrap (x8 + x10)) 4611686018427387904) < a1)) (vtimer_Timers_Next.j9 I5 (minI (IntKind.u64.wrap (x8 + x10)) 4611686018427387904) a3 Q h) (I5 a1 a2 a3 h))) (I5 a1 a2 a3 h)) h)) (I5 a1 a2 a3 h)) h)) h)) h)))) h) h

def vtimer_Timers_Next.j5  (a1 : Int) (a2 : Bool) (a3 : Ptr) (Q : Int → Bool → Heap → Prop) (h : Heap) : Prop :=
  ∀ I : Int → Bool → Ptr → Heap → Prop, (∀ a1 a2 a3 h, vtimer_Timers_Next.b5  I a1 a2 a3 Q h → I a1 a2 a3 h) → I a1 a2 a3 h

def vtimer_Timers_Next (a1 : Option Ptr) (Q : Int → Bool → Heap → Prop) (h : Heap) : Prop :=
  br a1.isNone (Q 0 false h) (der a1 (fun p1 => rdM (p1.add 0) (fun x2 => rangeM x2 (fun b3 h => vtimer_Timers_Next.j5 0 false (⟨b3, 0⟩ : Ptr) Q h) h) h))

def palisadelaw21_VtimerOnce.j4   (Q : Bool → Heap → Prop) (h : Heap) : Prop :=
  Q false h

def palisadelaw21_VtimerOnce.j11 (I7 : Int → Int → Sl → (Option Ptr) → Int → Int → Int → Heap → Prop)  (Q : Bool → Heap → Prop) (h : Heap) : Prop :=
  Q false h

def palisadelaw21_VtimerOnce.j19 (I7 : Int → Int → Sl → (Option Ptr) → Int → Int → Int → Heap → Prop)  (Q : Bool → Heap → Prop) (h : Heap) : Prop :=
  Q false h

def palisadelaw21_VtimerOnce.j8 (I7 : Int → Int → Sl → (Option Ptr) → Int → Int → Int → Heap → Prop) (a1 : Int) (a2 : Int) (a3 : Sl) (a4 : Option Ptr) (a5 : Int) (a6 : Int) (a7 : Int) (Q : Bool → Heap → Prop) (h : Heap) : Prop :=
  I7 a1 a2 a3 a4 a5 a6 (IntKind.i64.wrap (a7 + 1)) h

def palisadelaw21_VtimerOnce.j20 (I7 : Int → Int → Sl → (Option Ptr) → Int → Int → Int → Heap → Prop) (a1 : Int) (a2 : Int) (a3 : Sl) (a4 : Option Ptr) (a5 : Int) (a6 : Int) (a7 : Int) (a8 : Sl) (Q : Bool → Heap → Prop) (h : Heap) : Prop :=
  br (((a8.len : Nat) : Int) == 1) (vtimer_Timers_Next a4 (fun r1 r2 h => br (!r2) (vtimer_Timers_Due a4 4611686018427387904 (fun r3 h => Q (((r3.len : Nat) : Int) == 0) h) h) (Q false h)) h) (palisadelaw21_VtimerOnce.j8 I7 a1 a2 a3 a4 a5 a6 a7 Q h)

def palisadelaw21_VtimerOnce.j17 (I7 : Int → Int → Sl → (Option Ptr) → Int → Int → Int → Heap → Prop) (a1 : Int) (a2 : Int) (a3 : Sl) (a4 : Option Ptr) (a5 : Int) (a6 : Int) (a7 : Int) (a8 : Sl) (Q : Bool → Heap → Prop) (h : Heap) : Prop :=
  vtimer_Timers_Now a4 4 a5 (fun r1 r2 h => br (!r2) (palisadelaw21_VtimerOnce.j19 I7 Q h) (br (r1 != (IntKind.u64.wrap ((IntKind.u64.wrap (a5 - a1)) - a6))) (palisadelaw21_VtimerOnce.j19 I7 Q h) (br (!((((a8.len : Nat) : Int) == 1) == (decide (r1 ≥ a2)))) (palisadelaw21_VtimerOnce.j19 I7 Q h) (br (((a8.len : Nat) : Int) == 1) (ix 0 a8.len (fun n3 => der a8.p (fun p4 => rdI .i64 (p4.add (n3 * 1)) (fun x5 => br (x5 != 4) (palisadelaw21_VtimerOnce.j19 I7 Q h) (palisadelaw21_VtimerOnce.j20 I7 a1 a2 a3 a4 a5 a6 a7 a8 Q h)) h))) (palisadelaw21_VtimerOnce.j20 I7 a1 a2 a3 a4 a5 a6 a7 a8 Q h))))) h

def palisadelaw21_VtimerOnce.j12 (I7 : Int → Int → Sl → (Option Ptr) → Int → Int → Int → Heap → Prop) (a1 : Int) (a2 : Int) (a3 : Sl) (a4 : Option Ptr) (a5 : Int) (a6 : Int) (a7 : Int) (a8 : Int) (Q : Bool → Heap → Prop) (h : Heap) : Prop :=
  vtimer_Timers_Go a4 4 (IntKind.u64.wrap (a5 + a8)) (fun r1 h => br (r1 != 0) (Q false h) (ix a7 a3.len (fun n2 => der a3.p (fun p3 => rdI .u64 (p3.add (n2 * 1)) (fun x4 => nneg 16 (vtimer_Timers_Due a4 (IntKind.u64.wrap ((IntKind.u64.wrap (a5 + a8)) + (ibits .and .u64 (shrI .u64 x4 16) 255))) (fun r5 h => palisadelaw21_VtimerOnce.j17 I7 a1 a2 a3 a4 (IntKind.u64.wrap ((IntKind.u64.wrap (a5 + a8)) + (ibits .and .u64 (shrI .u64 x4 16) 255))) (IntKind.u64.wrap (a6 + a8)) a7 r5 Q h) h)) h)))) h

def palisadelaw21_VtimerOnce.j25   (Q : Bool → Heap → Prop) (h : Heap) : Prop :=
  Q false h

def palisadelaw21_VtimerOnce.j26  (a1 : Option Ptr) (a2 : Int) (Q : Bool → Heap → Prop) (h : Heap) : Prop :=
  vtimer_Timers_Due a1 a2 (fun r1 h => br (((r1.len : Nat) : Int) == 1) (vtimer_Timers_Due a1 a2 (fun r2 h => Q (((r2.len : Nat) : Int) == 0) h) h) (Q false h)) h

def palisadelaw21_VtimerOnce.j23  (a1 : Int) (a2 : Int) (a3 : Option Ptr) (a4 : Int) (a5 : Int) (Q : Bool → Heap → Prop) (h : Heap) : Prop :=
  vtimer_Timers_Next a3 (fun r1 r2 h => br (!r2) (palisadelaw21_VtimerOnce.j25 Q h) (br (r1 != (IntKind.u64.wrap ((IntKind.u64.wrap (a1 + a5)) + a2))) (palisadelaw21_VtimerOnce.j25 Q h) (br (decide (r1 > 0)) (br (decide (r1 > a4)) (vtimer_Timers_Due a3 (IntKind.u64.wrap (r1 - 1)) (fun r3 h => br (((r3.len : Nat) : Int) != 0) (palisadelaw21_VtimerOnce.j25 Q h) (palisadelaw21_VtimerOnce.j26 a3 r1 Q h)) h) (palisadelaw21_VtimerOnce.j26 a3 r1 Q h)) (palisadelaw21_VtimerOnce.j26 a3 r1 Q h)))) h

def palisadelaw21_VtimerOnce.b7  (I7 : Int → Int → Sl → (Option Ptr) → Int → Int → Int → Heap → Prop) (a1 : Int) (a2 : Int) (a3 : Sl) (a4 : Option Ptr) (a5 : Int) (a6 : Int) (a7 : Int) (Q : Bool → Heap → Prop) (h : Heap) : Prop :=
  br (decide (a7 < ((a3.len : Nat) : Int))) (br (decide (a7 < 200)) (ix a7 a3.len (fun n1 => der a3.p (fun p2 => rdI .u64 (p2.add (n1 * 1)) (fun x3 => vtimer_Timers_Halt a4 4 a5 (fun r4 h => br (r4 != 0) (palisadelaw21_VtimerOnce.j11 I7 Q h) (vtimer_Timers_Due a4 (IntKind.u64.wrap (a5 + (ibits .and .u64 x3 4095))) (fun r5 h => br (((r5.len : Nat) : Int) != 0) (palisadelaw21_VtimerOnce.j11 I7 Q h) (palisadelaw21_VtimerOnce.j12 I7 a1 a2 a3 a4 a5 a6 a7 (ibits .and .u64 x3 4095) Q h)) h)) h) h))) (palisadelaw21_VtimerOnce.j23 a1 a2 a4 a5 a6 Q h)) (palisadelaw21_VtimerOnce.j23 a1 a2 a4 a5 a6 Q h)

def palisadelaw21_VtimerOnce.j7  (a1 : Int) (a2 : Int) (a3 : Sl) (a4 : Option Ptr) (a5 : Int) (a6 : Int) (a7 : Int) (Q : Bool → Heap → Prop) (h : Heap) : Prop :=
  ∀ I : Int → Int → Sl → (Option Ptr) → Int → Int → Int → Heap → Prop, (∀ a1 a2 a3 a4 a5 a6 a7 h, palisadelaw21_VtimerOnce.b7  I a1 a2 a3 a4 a5 a6 a7 Q h → I a1 a2 a3 a4 a5 a6 a7 h) → I a1 a2 a3 a4 a5 a6 a7 h

def palisadelaw21_VtimerOnce.j6  (a1 : Int) (a2 : Int) (a3 : Sl) (a4 : Option Ptr) (a5 : Int) (a6 : Int) (Q : Bool → Heap → Prop) (h : Heap) : Prop :=
  palisadelaw21_VtimerOnce.j7 a1 a2 a3 a4 a5 a6 0 Q h

def palisadelaw21_VtimerOnce (a1 : Int) (a2 : Int) (a3 : Sl) (Q : Bool → Heap → Prop) (h : Heap) : Prop :=
  vtimer_New (fun r1 h => br r1.isNone (palisadelaw21_VtimerOnce.j4 Q h) (vtimer_Timers_Begin r1 4 (ibits .and .u64 a1 16777215) (fun r2 h => br (r2 != 0) (palisadelaw21_VtimerOnce.j4 Q h) (vtimer_Timers_Set r1 4 (ibits .and .u64 a2 65535) (fun r3 h => br (r3 != 0) (palisadelaw21_VtimerOnce.j4 Q h) (palisadelaw21_VtimerOnce.j6 (ibits .and .u64 a1 16777215) (ibits .and .u64 a2 65535) a3 r1 (ibits .and .u64 a1 16777215) 0 Q h)) h)) h)) h

def vtimer_Timers_Stop (a1 : Option Ptr) (a2 : Int) (Q : Int → Heap → Prop) (h : Heap) : Prop :=
  vtimer_Timers_of a1 a2 (fun r1 r2 h => br (r2 == 0) (der r1 (fun p3 => wr (p3.add 3) (.bool false) (fun h => Q r2 h) h)) (Q r2 h)) h

def vtimer_Timers_End (a1 : Option Ptr) (a2 : Int) (Q : Int → Heap → Prop) (h : Heap) : Prop :=
  vtimer_Timers_of a1 a2 (fun r1 r2 h => br (r2 == 0) (der a1 (fun p3 => rdM (p3.add 0) (fun x4 => mapDel (.int .i64) x4 (.int .i64 a2) (fun h => Q r2 h) h) h)) (Q r2 h)) h

def palisadelaw21_VtimerNobody.j7 (I2 : Ptr → Sl → Int → Int → Heap → Prop)  (Q : Bool → Heap → Prop) (h : Heap) : Prop :=
  Q false h

def palisadelaw21_VtimerNobody.j8 (I2 : Ptr → Sl → Int → Int → Heap → Prop) (a1 : Ptr) (a2 : Sl) (a3 : Int) (a4 : Int) (Q : Bool → Heap → Prop) (h : Heap) : Prop :=
  I2 a1 a2 a3 (IntKind.i64.wrap (a4 + 1)) h

def palisadelaw21_VtimerNobody.b2  (I2 : Ptr → Sl → Int → Int → Heap → Prop) (a1 : Ptr) (a2 : Sl) (a3 : Int) (a4 : Int) (Q : Bool → Heap → Prop) (h : Heap) : Prop :=
  br (decide (a4 < a3)) (ix a4 a2.len (fun n1 => der a2.p (fun p2 => rdP (p2.add (n1 * 1)) (fun x3 => rdI .i64 (a1.add 1) (fun x4 => rdI .u64 (a1.add 2) (fun x5 => vtimer_Timers_Now x3 x4 x5 (fun r6 r7 h => vtimer_Timers_Next x3 (fun r8 r9 h => rdI .i64 (a1.add 1) (fun x10 => rdI .u64 (a1.add 2) (fun x11 => vtimer_Timers_Begin x3 x10 x11 (fun r12 h => br (r12 != 1) (palisadelaw21_VtimerNobody.j7 I2 Q h) (br (r6 != 0) (palisadelaw21_VtimerNobody.j7 I2 Q h) (br r7 (palisadelaw21_VtimerNobody.j7 I2 Q h) (rdI .i64 (a1.add 1) (fun x13 => rdI .u64 (a1.add 2) (fun x14 => vtimer_Timers_Set x3 x13 x14 (fun r15 h => br (r15 != 1) (palisadelaw21_VtimerNobody.j7 I2 Q h) (rdI .i64 (a1.add 1) (fun x16 => vtimer_Timers_Stop x3 x16 (fun r17 h => br (r17 != 1) (palisadelaw21_VtimerNobody.j7 I2 Q h) (rdI .i64 (a1.add 1) (fun x18 => rdI .u64 (a1.add 2) (fun x19 => vtimer_Timers_Halt x3 x18 x19 (fun r20 h => br (r20 != 1) (palisadelaw21_VtimerNobody.j7 I2 Q h) (rdI .i64 (a1.add 1) (fun x21 => rdI .u64 (a1.add 2) (fun x22 => vtimer_Timers_Go x3 x21 x22 (fun r23 h => br (r23 != 1) (palisadelaw21_VtimerNobody.j7 I2 Q h) (br (r8 != 0) (palisadelaw21_VtimerNobody.j7 I2 Q h) (br r9 (palisadelaw21_VtimerNobody.j7 I2 Q h) (rdI .u64 (a1.add 2) (fun x24 => vtimer_Timers_Due x3 x24 (fun r25 h => br (((r25.len : Nat) : Int) != 0) (palisadelaw21_VtimerNobody.j7 I2 Q h) (rdI .i64 (a1.add 1) (fun x26 => vtimer_Timers_End x3 x26 (fun r27 h => br (r27 != 1) (palisadelaw21_VtimerNobody.j7 I2 Q h) (palisadelaw21_VtimerNobody.j8 I2 a1 a2 a3 a4 Q h)) h) h)) h) h)))) h) h) h)) h) h) h)) h) h)) h) h) h)))) h) h) h) h) h) h) h) h))) (Q true h)

def palisadelaw21_VtimerNobody.j2  (a1 : Ptr) (a2 : Sl) (a3 : Int) (a4 : Int) (Q : Bool → Heap → Prop) (h : Heap) : Prop :=
  ∀ I : Ptr → Sl → Int → Int → Heap → Prop, (∀ a1 a2 a3 a4 h, palisadelaw21_VtimerNobody.b2  I a1 a2 a3 a4 Q h → I a1 a2 a3 a4 h) → I a1 a2 a3 a4 h

def palisadelaw21_VtimerNobody (a1 : Int) (a2 : Int) (a3 : Int) (Q : Bool → Heap → Prop) (h : Heap) : Prop :=
  al [.int .i64 a1, .int .i64 a2, .int .u64 a3] (fun b1 h => al [.map none] (fun b2 h => al [.ptr none, .ptr (some (⟨b2, 0⟩ : Ptr))] (fun b3 h => palisadelaw21_VtimerNobody.j2 (⟨b1, 0⟩ : Ptr) ⟨some ⟨b3, 0⟩, 2, 2⟩ ((2 : Nat) : Int) 0 Q h) h) h) h

end Go.Fn
