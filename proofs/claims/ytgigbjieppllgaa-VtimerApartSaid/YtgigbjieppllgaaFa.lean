/- The shallow functions. PRINTED by lift.py. -/
import Derived.Test.YtgigbjieppllgaaLiftB
import Derived.Test.YtgigbjieppllgaaLiftY
set_option linter.unusedVariables false
set_option maxRecDepth 100000
namespace Go.Fn
open Go.Lift



def vtimer_New  (Q : (Option Ptr) → Heap → Prop) (h : Heap) : Prop :=
  alM (.int .i64) (fun b1 h => al [.map (some b1)] (fun b2 h => Q (some (⟨b2, 0⟩ : Ptr)) h) h) h

def vtimer_Timers_of.j2   (Q : (Option Ptr) → Int → Heap → Prop) (h : Heap) : Prop :=
  Q none 1 h

def vtimer_Timers_of (a1 : Option Ptr) (a2 : Int) (Q : (Option Ptr) → Int → Heap → Prop) (h : Heap) : Prop :=
  br a1.isNone (vtimer_Timers_of.j2 Q h) (der a1 (fun p1 => rdM (p1.add 0) (fun x2 => br x2.isNone (vtimer_Timers_of.j2 Q h) (der a1 (fun p3 => rdM (p3.add 0) (fun x4 => mapGet (.int .i64) x4 (.int .i64 a2) (fun o5 => asP (o5.getD (.ptr none)) (fun x6 => br (!o5.isSome) (Q none 14 h) (Q x6 0 h))) h) h))) h))

def vtimer_Timers_Begin.j9   (Q : Int → Heap → Prop) (h : Heap) : Prop :=
  Q 0 h

def vtimer_Timers_Begin (a1 : Option Ptr) (a2 : Int) (a3 : Int) (Q : Int → Heap → Prop) (h : Heap) : Prop :=
  vtimer_Timers_of a1 a2 (fun r1 r2 h => br (r2 == 1) (Q r2 h) (br (r2 == 0) (Q 13 h) (der a1 (fun p3 => rdM (p3.add 0) (fun x4 => mapLen x4 (fun n5 => br (decide (n5 ≥ 64)) (Q 18 h) (der a1 (fun p6 => rdM (p6.add 0) (fun x7 => al [.int .u64 (minI a3 4611686018427387904), .bool false, .int .u64 0, .bool false, .int .u64 0] (fun b8 h => mapPut (.int .i64) x7 (.int .i64 a2) (.ptr (some (⟨b8, 0⟩ : Ptr))) (fun h => vtimer_Timers_Begin.j9 Q h) h) h) h))) h) h)))) h

def vtimer_Timers_Set (a1 : Option Ptr) (a2 : Int) (a3 : Int) (Q : Int → Heap → Prop) (h : Heap) : Prop :=
  vtimer_Timers_of a1 a2 (fun r1 r2 h => br (r2 == 0) (der r1 (fun p3 => wr (p3.add 3) (.bool true) (fun h => der r1 (fun p4 => wr (p4.add 4) (.int .u64 (minI a3 4611686018427387904)) (fun h => Q r2 h) h)) h)) (Q r2 h)) h

def vtimer_Timers_End (a1 : Option Ptr) (a2 : Int) (Q : Int → Heap → Prop) (h : Heap) : Prop :=
  vtimer_Timers_of a1 a2 (fun r1 r2 h => br (r2 == 0) (der a1 (fun p3 => rdM (p3.add 0) (fun x4 => mapDel (.int .i64) x4 (.int .i64 a2) (fun h => Q r2 h) h) h)) (Q r2 h)) h

def slices_Sort_int_int (a1 : Sl) (Q : Heap → Prop) (h : Heap) : Prop :=
  sortI a1 Q h

def vtimer_timer_now (a1 : Option Ptr) (a2 : Int) (Q : Int → Heap → Prop) (h : Heap) : Prop :=
  der a1 (fun p1 => rdB (p1.add 1) (fun x2 => br x2 (der a1 (fun p3 => rdI .u64 (p3.add 2) (fun x4 => Q x4 h) h)) (der a1 (fun p5 => rdI .u64 (p5.add 0) (fun x6 => der a1 (fun p7 => rdI .u64 (p7.add 0) (fun x8 => ck (p7.add 0) [.int .u64 x8] 0 h ∧ ck (p5.add 0) [.int .u64 x6] 0 h ∧ ck (p7.add 0) [.int .u64 x8] 0 h ∧ (Q (IntKind.u64.wrap ((maxI (minI a2 4611686018427387904) x6) - x8)) h)) h)) h))) h)

def vtimer_Timers_Due.j8 (I5 : Int → Sl → Ptr → Heap → Prop) (a1 : Int) (a2 : Sl) (a3 : Int) (a4 : Option Ptr) (a5 : Ptr) (Q : Sl → Heap → Prop) (h : Heap) : Prop :=
  der a4 (fun p1 => wr (p1.add 3) (.bool false) (fun h => al [.int .i64 a3] (fun b2 h => rdN (1 * 1) (⟨b2, 0⟩ : Ptr) (fun cs4 => appS 1 8 [.int .i64 0] a2 cs4 1 (fun s3 h => I5 a1 s3 a5 h) h) h) h) h)

def vtimer_Timers_Due.b5  (I5 : Int → Sl → Ptr → Heap → Prop) (a1 : Int) (a2 : Sl) (a3 : Ptr) (Q : Sl → Heap → Prop) (h : Heap) : Prop :=
  a3.o = 0 ∧ nextM a3.b (fun h => slices_Sort_int_int a2 (fun h => Q a2 h) h) (fun k1 u2 h => a3.o = 0 ∧ entryM a3.b (fun k3 u4 => asI .i64 k3 (fun x5 => asP u4 (fun x6 => der x6 (fun p7 => rdB (p7.add 3) (fun x8 => br x8 (der x6 (fun p9 => rdB (p9.add 1) (fun x10 => br (!x10) (der x6 (fun p11 => rdI .u64 (p11.add 4) (fun x12 => vtimer_timer_now x6 a1 (fun r13 h => ck (p11.add 4) [.int .u64 x12] 0 h ∧ (br (decide (r13 ≥ x12)) (vtimer_Timers_Due.j8 I5 a1 a2 x5 x6 a3 Q h) (I5 a1 a2 a3 h))) h) h)) (I5 a1 a2 a3 h)) h)) (I5 a1 a2 a3 h)) h)))) h) h

def vtimer_Timers_Due.j5  (a1 : Int) (a2 : Sl) (a3 : Ptr) (Q : Sl → Heap → Prop) (h : Heap) : Prop :=
  ∀ I : Int → Sl → Ptr → Heap → Prop, (∀ a1 a2 a3 h, vtimer_Timers_Due.b5  I a1 a2 a3 Q h → I a1 a2 a3 h) → I a1 a2 a3 h

def vtimer_Timers_Due (a1 : Option Ptr) (a2 : Int) (Q : Sl → Heap → Prop) (h : Heap) : Prop :=
  br a1.isNone (Q ⟨none, 0, 0⟩ h) (der a1 (fun p1 => rdM (p1.add 0) (fun x2 => rangeM x2 (fun b3 h => vtimer_Timers_Due.j5 a2 ⟨none, 0, 0⟩ (⟨b3, 0⟩ : Ptr) Q h) h) h))

def vtimer_Timers_Next.j9 (I5 : Int → Bool → Ptr → Heap → Prop) (a1 : Int) (a2 : Ptr) (Q : Int → Bool → Heap → Prop) (h : Heap) : Prop :=
  I5 a1 true a2 h

def vtimer_Timers_Next.b5  (I5 : Int → Bool → Ptr → Heap → Prop) (a1 : Int) (a2 : Bool) (a3 : Ptr) (Q : Int → Bool → Heap → Prop) (h : Heap) : Prop :=
  a3.o = 0 ∧ nextM a3.b (fun h => Q a1 a2 h) (fun k1 u2 h => a3.o = 0 ∧ entryM a3.b (fun k3 u4 => asI .i64 k3 (fun x5 => asP u4 (fun x6 => der x6 (fun p7 => rdI .u64 (p7.add 0) (fun x8 => der x6 (fun p9 => rdI .u64 (p9.add 4) (fun x10 => der x6 (fun p11 => rdB (p11.add 3) (fun x12 => br x12 (der x6 (fun p13 => rdB (p13.add 1) (fun x14 => br (!x14) (br (!a2) (vtimer_Timers_Next.j9 I5 (minI (IntKind.u64.wrap (x8 + x10)) 4611686018427387904) a3 Q h) (br (decide ((minI (IntKind.u64.wrap (x8 + x10)) 4611686018427387904) < a1)) (vtimer_Timers_Next.j9 I5 (minI (IntKind.u64.wrap (x8 + x10)) 4611686018427387904) a3 Q h) (I5 a1 a2 a3 h))) (I5 a1 a2 a3 h)) h)) (I5 a1 a2 a3 h)) h)) h)) h)))) h) h

def vtimer_Timers_Next.j5  (a1 : Int) (a2 : Bool) (a3 : Ptr) (Q : Int → Bool → Heap → Prop) (h : Heap) : Prop :=
  ∀ I : Int → Bool → Ptr → Heap → Prop, (∀ a1 a2 a3 h, vtimer_Timers_Next.b5  I a1 a2 a3 Q h → I a1 a2 a3 h) → I a1 a2 a3 h

def vtimer_Timers_Next (a1 : Option Ptr) (Q : Int → Bool → Heap → Prop) (h : Heap) : Prop :=
  br a1.isNone (Q 0 false h) (der a1 (fun p1 => rdM (p1.add 0) (fun x2 => rangeM x2 (fun b3 h => vtimer_Timers_Next.j5 0 false (⟨b3, 0⟩ : Ptr) Q h) h) h))

def palisadelaw21_VtimerApart.j9 (I6 : Sl → Int → (Option Ptr) → Int → Int → Heap → Prop)  (Q : Bool → Heap → Prop) (h : Heap) : Prop :=
  Q false h

def palisadelaw21_VtimerApart.j14   (Q : Bool → Heap → Prop) (h : Heap) : Prop :=
  Q false h

def palisadelaw21_VtimerApart.j25 (I16 : Sl → (Option Ptr) → Int → Int → Int → Heap → Prop) (I21 : Sl → (Option Ptr) → Int → Int → Int → Sl → Int → Int → Heap → Prop)  (Q : Bool → Heap → Prop) (h : Heap) : Prop :=
  Q false h

def palisadelaw21_VtimerApart.j22 (I16 : Sl → (Option Ptr) → Int → Int → Int → Heap → Prop) (I21 : Sl → (Option Ptr) → Int → Int → Int → Sl → Int → Int → Heap → Prop) (a1 : Sl) (a2 : Option Ptr) (a3 : Int) (a4 : Int) (a5 : Int) (a6 : Sl) (a7 : Int) (a8 : Int) (Q : Bool → Heap → Prop) (h : Heap) : Prop :=
  I21 a1 a2 a3 a4 a5 a6 a7 (IntKind.i64.wrap (a8 + 1)) h

def palisadelaw21_VtimerApart.j26 (I16 : Sl → (Option Ptr) → Int → Int → Int → Heap → Prop) (I21 : Sl → (Option Ptr) → Int → Int → Int → Sl → Int → Int → Heap → Prop) (a1 : Sl) (a2 : Option Ptr) (a3 : Int) (a4 : Int) (a5 : Int) (a6 : Sl) (a7 : Int) (a8 : Int) (Q : Bool → Heap → Prop) (h : Heap) : Prop :=
  palisadelaw21_VtimerApart.j22 I16 I21 a1 a2 a3 a4 a5 a6 (IntKind.i64.wrap (a7 + 1)) a8 Q h

def palisadelaw21_VtimerApart.b21 (I16 : Sl → (Option Ptr) → Int → Int → Int → Heap → Prop) (I21 : Sl → (Option Ptr) → Int → Int → Int → Sl → Int → Int → Heap → Prop) (a1 : Sl) (a2 : Option Ptr) (a3 : Int) (a4 : Int) (a5 : Int) (a6 : Sl) (a7 : Int) (a8 : Int) (Q : Bool → Heap → Prop) (h : Heap) : Prop :=
  br (decide (a8 < a3)) (br (a8 != a4) (ix a8 a1.len (fun n1 => der a1.p (fun p2 => rdI .u64 (p2.add (n1 * 1)) (fun x3 => br ((ibits .and .u64 x3 255) == a5) (br (decide (a7 ≥ ((a6.len : Nat) : Int))) (palisadelaw21_VtimerApart.j25 I16 I21 Q h) (ix a7 a6.len (fun n4 => der a6.p (fun p5 => rdI .i64 (p5.add (n4 * 1)) (fun x6 => br (x6 != a8) (palisadelaw21_VtimerApart.j25 I16 I21 Q h) (palisadelaw21_VtimerApart.j26 I16 I21 a1 a2 a3 a4 a5 a6 a7 a8 Q h)) h)))) (palisadelaw21_VtimerApart.j22 I16 I21 a1 a2 a3 a4 a5 a6 a7 a8 Q h)) h))) (palisadelaw21_VtimerApart.j22 I16 I21 a1 a2 a3 a4 a5 a6 a7 a8 Q h)) (br (a7 != ((a6.len : Nat) : Int)) (Q false h) (I16 a1 a2 a3 a4 (IntKind.u64.wrap (a5 + 1)) h))

def palisadelaw21_VtimerApart.j21 (I16 : Sl → (Option Ptr) → Int → Int → Int → Heap → Prop) (a1 : Sl) (a2 : Option Ptr) (a3 : Int) (a4 : Int) (a5 : Int) (a6 : Sl) (a7 : Int) (a8 : Int) (Q : Bool → Heap → Prop) (h : Heap) : Prop :=
  ∀ I : Sl → (Option Ptr) → Int → Int → Int → Sl → Int → Int → Heap → Prop, (∀ a1 a2 a3 a4 a5 a6 a7 a8 h, palisadelaw21_VtimerApart.b21 I16 I a1 a2 a3 a4 a5 a6 a7 a8 Q h → I a1 a2 a3 a4 a5 a6 a7 a8 h) → I a1 a2 a3 a4 a5 a6 a7 a8 h

def palisadelaw21_VtimerApart.b16  (I16 : Sl → (Option Ptr) → Int → Int → Int → Heap → Prop) (a1 : Sl) (a2 : Option Ptr) (a3 : Int) (a4 : Int) (a5 : Int) (Q : Bool → Heap → Prop) (h : Heap) : Prop :=
  br (decide (a5 < 256)) (vtimer_Timers_Due a2 a5 (fun r1 h => palisadelaw21_VtimerApart.j21 I16 a1 a2 a3 a4 a5 r1 0 0 Q h) h) (vtimer_Timers_Next a2 (fun r2 r3 h => Q (!r3) h) h)

def palisadelaw21_VtimerApart.j16  (a1 : Sl) (a2 : Option Ptr) (a3 : Int) (a4 : Int) (a5 : Int) (Q : Bool → Heap → Prop) (h : Heap) : Prop :=
  ∀ I : Sl → (Option Ptr) → Int → Int → Int → Heap → Prop, (∀ a1 a2 a3 a4 a5 h, palisadelaw21_VtimerApart.b16  I a1 a2 a3 a4 a5 Q h → I a1 a2 a3 a4 a5 h) → I a1 a2 a3 a4 a5 h

def palisadelaw21_VtimerApart.j15  (a1 : Sl) (a2 : Option Ptr) (a3 : Int) (a4 : Int) (Q : Bool → Heap → Prop) (h : Heap) : Prop :=
  palisadelaw21_VtimerApart.j16 a1 a2 a3 a4 0 Q h

def palisadelaw21_VtimerApart.b6  (I6 : Sl → Int → (Option Ptr) → Int → Int → Heap → Prop) (a1 : Sl) (a2 : Int) (a3 : Option Ptr) (a4 : Int) (a5 : Int) (Q : Bool → Heap → Prop) (h : Heap) : Prop :=
  br (decide (a5 < a4)) (vtimer_Timers_Begin a3 a5 0 (fun r1 h => br (r1 != 0) (palisadelaw21_VtimerApart.j9 I6 Q h) (ix a5 a1.len (fun n2 => der a1.p (fun p3 => rdI .u64 (p3.add (n2 * 1)) (fun x4 => vtimer_Timers_Set a3 a5 (ibits .and .u64 x4 255) (fun r5 h => br (r5 != 0) (palisadelaw21_VtimerApart.j9 I6 Q h) (I6 a1 a2 a3 a4 (IntKind.i64.wrap (a5 + 1)) h)) h) h)))) h) (br (decide (a4 > 0)) (nz a4 (nz a4 (vtimer_Timers_End a3 ((IntKind.i64.wrap ((a2.tmod a4) + a4)).tmod a4) (fun r6 h => br (r6 != 0) (palisadelaw21_VtimerApart.j14 Q h) (vtimer_Timers_End a3 ((IntKind.i64.wrap ((a2.tmod a4) + a4)).tmod a4) (fun r7 h => br (r7 != 14) (palisadelaw21_VtimerApart.j14 Q h) (palisadelaw21_VtimerApart.j15 a1 a3 a4 ((IntKind.i64.wrap ((a2.tmod a4) + a4)).tmod a4) Q h)) h)) h))) (palisadelaw21_VtimerApart.j15 a1 a3 a4 (-1) Q h))

def palisadelaw21_VtimerApart.j6  (a1 : Sl) (a2 : Int) (a3 : Option Ptr) (a4 : Int) (a5 : Int) (Q : Bool → Heap → Prop) (h : Heap) : Prop :=
  ∀ I : Sl → Int → (Option Ptr) → Int → Int → Heap → Prop, (∀ a1 a2 a3 a4 a5 h, palisadelaw21_VtimerApart.b6  I a1 a2 a3 a4 a5 Q h → I a1 a2 a3 a4 a5 h) → I a1 a2 a3 a4 a5 h

def palisadelaw21_VtimerApart (a1 : Sl) (a2 : Int) (Q : Bool → Heap → Prop) (h : Heap) : Prop :=
  vtimer_New (fun r1 h => br r1.isNone (Q false h) (palisadelaw21_VtimerApart.j6 a1 a2 r1 (minI ((a1.len : Nat) : Int) 40) 0 Q h)) h

end Go.Fn
