/- The shallow functions. PRINTED by lift.py. -/
import Derived.Test.YtmpjgafkdhineaaDoorLa

set_option linter.unusedVariables false
set_option maxRecDepth 100000
namespace Go.Fn
open Go.Lift

def zf62 : List V := [.int .i64 0, .int .i64 0, .map none, .map none, .int .i64 0, .int .i64 0, .int .i64 0, .int .i64 0, .int .i64 0, .int .i64 0, .int .i64 0, .int .i64 0, .int .i64 0, .int .i64 0, .int .i64 0, .int .i64 0, .int .i64 0, .int .i64 0, .int .i64 0, .int .i64 0, .int .i64 0, .int .i64 0, .int .i64 0, .int .i64 0, .int .i64 0, .int .i64 0, .int .i64 0, .int .i64 0, .int .i64 0, .int .i64 0, .int .i64 0, .int .i64 0, .int .i64 0, .int .i64 0, .int .i64 0, .int .i64 0, .int .i64 0, .int .i64 0, .int .i64 0]
def zf63 : List V := [.ptr none, .ptr none, .ptr none, .ptr none, .ptr none, .ptr none, .ptr none, .ptr none, .ptr none]
def zf61 : List V := [.ptr none, .ptr none, .int .i64 0, .int .i64 0, .ptr none, .int .i64 0, .int .i64 0, .map none]
def zf60 : List V := [.int .i64 0, .int .i64 0, .int .i64 0, .int .i64 0, .int .i64 0, .int .i64 0, .int .i64 0, .int .i64 0, .int .i64 0, .int .i64 0, .int .i64 0, .int .i64 0, .int .i64 0, .int .i64 0, .int .i64 0, .int .i64 0, .int .i64 0]

def zf30 (a1 : Int) (Q : (Option Ptr) → Int → Heap → Prop) (h : Heap) : Prop :=
  br (decide (a1 < 1)) (Q none 2 h) (br (decide (a1 > 65536)) (Q none 2 h) (mkSl 1 [.int .u8 0] (IntKind.i64.wrap (a1 * 256)) (IntKind.i64.wrap (a1 * 256)) (fun s1 h => al [.sl s1] (fun b2 h => Q (some (⟨b2, 0⟩ : Ptr)) 0 h) h) h))

def zf19.j2   (Q : (Option Ptr) → Int → Heap → Prop) (h : Heap) : Prop :=
  Q none 2 h

def zf19.b11  (I11 : Int → Ptr → Int → Heap → Prop) (a1 : Int) (a2 : Ptr) (a3 : Int) (Q : (Option Ptr) → Int → Heap → Prop) (h : Heap) : Prop :=
  br (decide (a3 < 17)) (ix a3 17 (fun n1 => wr ((a2.add 21).add (n1 * 1)) (.int .i64 a1) (fun h => I11 a1 a2 (IntKind.i64.wrap (a3 + 1)) h) h)) (Q (some a2) 0 h)

def zf19.j11  (a1 : Int) (a2 : Ptr) (a3 : Int) (Q : (Option Ptr) → Int → Heap → Prop) (h : Heap) : Prop :=
  ∀ I : Int → Ptr → Int → Heap → Prop, (∀ a1 a2 a3 h, zf19.b11  I a1 a2 a3 Q h → I a1 a2 a3 h) → I a1 a2 a3 h

def zf19.b5  (I5 : Int → Int → Ptr → Int → Int → Heap → Prop) (a1 : Int) (a2 : Int) (a3 : Ptr) (a4 : Int) (a5 : Int) (Q : (Option Ptr) → Int → Heap → Prop) (h : Heap) : Prop :=
  br (decide (a5 < a4)) (rdM (a3.add 2) (fun x1 => mapPut (.int .i64) x1 (.int .i64 a5) (.int .i64 1) (fun h => I5 a1 a2 a3 a4 (IntKind.i64.wrap (a5 + 1)) h) h) h) (ix 0 17 (fun n2 => wr ((a3.add 4).add (n2 * 1)) (.int .i64 a2) (fun h => zf19.j11 a1 a3 0 Q h) h))

def zf19.j5  (a1 : Int) (a2 : Int) (a3 : Ptr) (a4 : Int) (a5 : Int) (Q : (Option Ptr) → Int → Heap → Prop) (h : Heap) : Prop :=
  ∀ I : Int → Int → Ptr → Int → Int → Heap → Prop, (∀ a1 a2 a3 a4 a5 h, zf19.b5  I a1 a2 a3 a4 a5 Q h → I a1 a2 a3 a4 a5 h) → I a1 a2 a3 a4 a5 h

def zf19.j4  (a1 : Int) (a2 : Int) (a3 : Ptr) (Q : (Option Ptr) → Int → Heap → Prop) (h : Heap) : Prop :=
  zf19.j5 a1 a2 a3 a2 0 Q h

def zf19 (a1 : Int) (a2 : Int) (Q : (Option Ptr) → Int → Heap → Prop) (h : Heap) : Prop :=
  br (decide (a1 < 1)) (zf19.j2 Q h) (br (decide (a1 > 65536)) (zf19.j2 Q h) (br (decide (a2 < 0)) (zf19.j2 Q h) (br (decide (a2 > a1)) (zf19.j2 Q h) (alM (.int .i64) (fun b1 h => alM (.int .i64) (fun b2 h => (putCells (putCells (putCells (putCells (putCells zf62 0 [.int .i64 a1]) 1 [.int .i64 a2]) 2 [.map (some b1)]) 3 [.map (some b2)]) 38 [.int .i64 a2]).length = 39 ∧ al (putCells (putCells (putCells (putCells (putCells zf62 0 [.int .i64 a1]) 1 [.int .i64 a2]) 2 [.map (some b1)]) 3 [.map (some b2)]) 38 [.int .i64 a2]) (fun b3 h => zf19.j4 a1 a2 (⟨b3, 0⟩ : Ptr) Q h) h) h) h))))

def zf15 (a1 : Int) (Q : (Option Ptr) → Int → Heap → Prop) (h : Heap) : Prop :=
  br (decide (a1 < 1)) (Q none 2 h) (br (decide (a1 > 65536)) (Q none 2 h) (alM (.int .i64) (fun b1 h => al [.int .i64 a1, .map (some b1), .sl ⟨none, 0, 0⟩] (fun b2 h => Q (some (⟨b2, 0⟩ : Ptr)) 0 h) h) h))

def zf17 (a1 : Option Ptr) (Q : Bool → Heap → Prop) (h : Heap) : Prop :=
  br a1.isNone (Q true h) (der a1 (fun p1 => rdM (p1.add 2) (fun x2 => Q x2.isNone h) h))

def zf20 (a1 : Int) (Q : Bool → Heap → Prop) (h : Heap) : Prop :=
  br (decide (a1 ≥ 0)) (Q (decide (a1 < 17)) h) (Q false h)

def zf18.b4  (I4 : Sl → Int → Int → Heap → Prop) (a1 : Sl) (a2 : Int) (a3 : Int) (Q : Int → Heap → Prop) (h : Heap) : Prop :=
  br (decide (a3 < a2)) (ix a3 a1.len (fun n1 => der a1.p (fun p2 => rdI .i64 (p2.add (n1 * 1)) (fun x3 => zf20 x3 (fun r4 h => br (!r4) (Q 2 h) (I4 a1 a2 (IntKind.i64.wrap (a3 + 1)) h)) h) h))) (Q 0 h)

def zf18.j4  (a1 : Sl) (a2 : Int) (a3 : Int) (Q : Int → Heap → Prop) (h : Heap) : Prop :=
  ∀ I : Sl → Int → Int → Heap → Prop, (∀ a1 a2 a3 h, zf18.b4  I a1 a2 a3 Q h → I a1 a2 a3 h) → I a1 a2 a3 h

def zf18 (a1 : Option Ptr) (a2 : Sl) (Q : Int → Heap → Prop) (h : Heap) : Prop :=
  zf17 a1 (fun r1 h => br r1 (Q 1 h) (zf18.j4 a2 ((a2.len : Nat) : Int) 0 Q h)) h

def zf16.j11  (a1 : Option Ptr) (a2 : Int) (Q : Int → Int → Heap → Prop) (h : Heap) : Prop :=
  der a1 (fun p1 => ix a2 17 (fun n2 => rdI .i64 ((p1.add 4).add (n2 * 1)) (fun x3 => der a1 (fun p4 => ix a2 17 (fun n5 => wr ((p4.add 4).add (n5 * 1)) (.int .i64 (IntKind.i64.wrap (x3 + 1))) (fun h => der a1 (fun p6 => rdI .i64 (p6.add 38) (fun x7 => Q x7 0 h) h)) h))) h))

def zf16.j8  (a1 : Option Ptr) (a2 : Int) (Q : Int → Int → Heap → Prop) (h : Heap) : Prop :=
  der a1 (fun p1 => rdI .i64 (p1.add 38) (fun x2 => der a1 (fun p3 => rdI .i64 (p3.add 0) (fun x4 => br (x2 == x4) (Q 0 20 h) (der a1 (fun p5 => rdM (p5.add 2) (fun x6 => der a1 (fun p7 => rdI .i64 (p7.add 38) (fun x8 => der a1 (fun p9 => rdM (p9.add 3) (fun x10 => der a1 (fun p11 => rdI .i64 (p11.add 38) (fun x12 => mapEnt (.int .i64) x6 (.int .i64 x8) (.int .i64 0) (fun r13 b14 h => asI .i64 r13 (fun x15 => entPut x6 b14 (.int .i64 1) (fun h => mapEnt (.int .i64) x10 (.int .i64 x12) (.int .i64 0) (fun r16 b17 h => asI .i64 r16 (fun x18 => entPut x10 b17 (.int .i64 a2) (fun h => zf16.j11 a1 a2 Q h) h)) h) h)) h) h)) h)) h)) h))) h)) h)

def zf16.b6  (I6 : (Option Ptr) → Int → Heap → Prop) (a1 : Option Ptr) (a2 : Int) (Q : Int → Int → Heap → Prop) (h : Heap) : Prop :=
  der a1 (fun p1 => rdI .i64 (p1.add 38) (fun x2 => der a1 (fun p3 => rdI .i64 (p3.add 0) (fun x4 => br (decide (x2 < x4)) (der a1 (fun p5 => rdM (p5.add 2) (fun x6 => der a1 (fun p7 => rdI .i64 (p7.add 38) (fun x8 => mapGet (.int .i64) x6 (.int .i64 x8) (fun o9 => asI .i64 (o9.getD (.int .i64 0)) (fun x10 => br (decide (x10 > 0)) (der a1 (fun p11 => rdI .i64 (p11.add 38) (fun x12 => der a1 (fun p13 => wr (p13.add 38) (.int .i64 (IntKind.i64.wrap (x12 + 1))) (fun h => I6 a1 a2 h) h)) h)) (zf16.j8 a1 a2 Q h))) h) h)) h)) (zf16.j8 a1 a2 Q h)) h)) h)

def zf16.j6  (a1 : Option Ptr) (a2 : Int) (Q : Int → Int → Heap → Prop) (h : Heap) : Prop :=
  ∀ I : (Option Ptr) → Int → Heap → Prop, (∀ a1 a2 h, zf16.b6  I a1 a2 Q h → I a1 a2 h) → I a1 a2 h

def zf16 (a1 : Option Ptr) (a2 : Int) (Q : Int → Int → Heap → Prop) (h : Heap) : Prop :=
  al [.int .i64 a2] (fun b1 h => zf18 a1 ⟨some ⟨b1, 0⟩, 1, 1⟩ (fun r2 h => br (r2 != 0) (Q 0 r2 h) (der a1 (fun p3 => ix a2 17 (fun n4 => rdI .i64 ((p3.add 4).add (n4 * 1)) (fun x5 => der a1 (fun p6 => ix a2 17 (fun n7 => rdI .i64 ((p6.add 21).add (n7 * 1)) (fun x8 => br (decide (x5 ≥ x8)) (Q 0 19 h) (zf16.j6 a1 a2 Q h)) h))) h)))) h) h

def zf47 (a1 : Int) (Q : Bool → Heap → Prop) (h : Heap) : Prop :=
  br (decide (a1 ≥ 1)) (br (decide (a1 ≤ 64)) (Q ((ibits .and .i64 a1 (IntKind.i64.wrap (a1 - 1))) == 0) h) (Q false h)) (Q false h)

def zf40 (a1 : Int) (a2 : Int) (Q : (Option Ptr) → Int → Heap → Prop) (h : Heap) : Prop :=
  zf47 a2 (fun r1 h => br (!r1) (Q none 2 h) (nz 8 (br ((a1.tmod 8) != 0) (Q none 2 h) (br (decide (a1 > 1099511627776)) (Q none 2 h) (al [.int .u64 a1, .int .u64 (IntKind.u64.wrap a2), .int .u64 0, .int .u64 0, .bool false] (fun b2 h => Q (some (⟨b2, 0⟩ : Ptr)) 0 h) h))))) h

def zf14 (a1 : Option Ptr) (Q : Bool → Heap → Prop) (h : Heap) : Prop :=
  br a1.isNone (Q true h) (der a1 (fun p1 => rdM (p1.add 1) (fun x2 => Q x2.isNone h) h))

def zf13 (a1 : Option Ptr) (Q : Int → Heap → Prop) (h : Heap) : Prop :=
  zf14 a1 (fun r1 h => br r1 (Q 0 h) (der a1 (fun p2 => rdI .i64 (p2.add 0) (fun x3 => Q x3 h) h))) h

def zf4.j4   (Q : (Option Ptr) → Int → Heap → Prop) (h : Heap) : Prop :=
  Q none 2 h

def zf4.j5  (a1 : Option Ptr) (a2 : Option Ptr) (a3 : Int) (a4 : Int) (a5 : Option Ptr) (a6 : Int) (Q : (Option Ptr) → Int → Heap → Prop) (h : Heap) : Prop :=
  alM (.int .i64) (fun b1 h => al [.ptr a1, .ptr a2, .int .i64 a3, .int .i64 a4, .ptr a5, .int .i64 a6, .int .i64 0, .map (some b1)] (fun b2 h => Q (some (⟨b2, 0⟩ : Ptr)) 0 h) h) h

def zf4 (a1 : Option Ptr) (a2 : Option Ptr) (a3 : Int) (a4 : Int) (a5 : Option Ptr) (a6 : Int) (Q : (Option Ptr) → Int → Heap → Prop) (h : Heap) : Prop :=
  br a1.isNone (Q none 1 h) (br a2.isNone (Q none 1 h) (br a5.isNone (Q none 1 h) (br (decide (a6 < 1)) (zf4.j4 Q h) (br (decide (a6 > 16)) (zf4.j4 Q h) (br (decide (a3 < 0)) (zf4.j4 Q h) (br (decide (a4 < 0)) (zf4.j4 Q h) (zf13 a2 (fun r1 h => br (decide (a3 > r1)) (zf4.j4 Q h) (zf13 a2 (fun r2 h => br (decide (a4 > (IntKind.i64.wrap (r2 - a3)))) (zf4.j4 Q h) (zf4.j5 a1 a2 a3 a4 a5 a6 Q h)) h)) h)))))))

def zf38.j5   (Q : (Option Ptr) → Heap → Prop) (h : Heap) : Prop :=
  Q none h

def zf38.j16 (I8 : (Option Ptr) → (Option Ptr) → (Option Ptr) → Ptr → Int → Heap → Prop) (I12 : (Option Ptr) → (Option Ptr) → (Option Ptr) → Ptr → Int → Int → Heap → Prop)  (Q : (Option Ptr) → Heap → Prop) (h : Heap) : Prop :=
  Q none h

def zf38.j20 (I8 : (Option Ptr) → (Option Ptr) → (Option Ptr) → Ptr → Int → Heap → Prop)  (Q : (Option Ptr) → Heap → Prop) (h : Heap) : Prop :=
  Q none h

def zf38.j9 (I8 : (Option Ptr) → (Option Ptr) → (Option Ptr) → Ptr → Int → Heap → Prop) (a1 : Option Ptr) (a2 : Option Ptr) (a3 : Option Ptr) (a4 : Ptr) (a5 : Int) (Q : (Option Ptr) → Heap → Prop) (h : Heap) : Prop :=
  I8 a1 a2 a3 a4 (IntKind.i64.wrap (a5 + 1)) h

def zf38.j21 (I8 : (Option Ptr) → (Option Ptr) → (Option Ptr) → Ptr → Int → Heap → Prop) (a1 : Option Ptr) (a2 : Option Ptr) (a3 : Option Ptr) (a4 : Ptr) (a5 : Int) (a6 : Option Ptr) (a7 : Option Ptr) (Q : (Option Ptr) → Heap → Prop) (h : Heap) : Prop :=
  ix a5 2 (fun n1 => wr ((a4.add 5).add (n1 * 1)) (.ptr a6) (fun h => ix a5 2 (fun n2 => wr ((a4.add 7).add (n2 * 1)) (.ptr a7) (fun h => zf38.j9 I8 a1 a2 a3 a4 a5 Q h) h)) h)

def zf38.b12 (I8 : (Option Ptr) → (Option Ptr) → (Option Ptr) → Ptr → Int → Heap → Prop) (I12 : (Option Ptr) → (Option Ptr) → (Option Ptr) → Ptr → Int → Int → Heap → Prop) (a1 : Option Ptr) (a2 : Option Ptr) (a3 : Option Ptr) (a4 : Ptr) (a5 : Int) (a6 : Int) (Q : (Option Ptr) → Heap → Prop) (h : Heap) : Prop :=
  br (decide (a6 < 16)) (zf16 a2 (IntKind.i64.wrap (1 + a5)) (fun r1 r2 h => br (r1 != (IntKind.i64.wrap ((IntKind.i64.wrap (4 + (IntKind.i64.wrap (16 * a5)))) + a6))) (zf38.j16 I8 I12 Q h) (br (r2 != 0) (zf38.j16 I8 I12 Q h) (I12 a1 a2 a3 a4 a5 (IntKind.i64.wrap (a6 + 1)) h))) h) (zf40 0 8 (fun r3 r4 h => zf4 r3 a3 (IntKind.i64.wrap (4 * a5)) 4 a2 (IntKind.i64.wrap (1 + a5)) (fun r5 r6 h => br (r4 != 0) (zf38.j20 I8 Q h) (br (r6 != 0) (zf38.j20 I8 Q h) (br r5.isNone (zf38.j20 I8 Q h) (zf38.j21 I8 a1 a2 a3 a4 a5 r3 r5 Q h)))) h) h)

def zf38.j12 (I8 : (Option Ptr) → (Option Ptr) → (Option Ptr) → Ptr → Int → Heap → Prop) (a1 : Option Ptr) (a2 : Option Ptr) (a3 : Option Ptr) (a4 : Ptr) (a5 : Int) (a6 : Int) (Q : (Option Ptr) → Heap → Prop) (h : Heap) : Prop :=
  ∀ I : (Option Ptr) → (Option Ptr) → (Option Ptr) → Ptr → Int → Int → Heap → Prop, (∀ a1 a2 a3 a4 a5 a6 h, zf38.b12 I8 I a1 a2 a3 a4 a5 a6 Q h → I a1 a2 a3 a4 a5 a6 h) → I a1 a2 a3 a4 a5 a6 h

def zf38.b8  (I8 : (Option Ptr) → (Option Ptr) → (Option Ptr) → Ptr → Int → Heap → Prop) (a1 : Option Ptr) (a2 : Option Ptr) (a3 : Option Ptr) (a4 : Ptr) (a5 : Int) (Q : (Option Ptr) → Heap → Prop) (h : Heap) : Prop :=
  br (decide (a5 < 2)) (al [.ptr a1, .int .i64 (IntKind.i64.wrap (4 + (IntKind.i64.wrap (16 * a5)))), .int .i64 16] (fun b1 h => ix a5 2 (fun n2 => wr ((a4.add 3).add (n2 * 1)) (.ptr (some (⟨b1, 0⟩ : Ptr))) (fun h => zf38.j12 I8 a1 a2 a3 a4 a5 0 Q h) h)) h) (Q (some a4) h)

def zf38.j8  (a1 : Option Ptr) (a2 : Option Ptr) (a3 : Option Ptr) (a4 : Ptr) (a5 : Int) (Q : (Option Ptr) → Heap → Prop) (h : Heap) : Prop :=
  ∀ I : (Option Ptr) → (Option Ptr) → (Option Ptr) → Ptr → Int → Heap → Prop, (∀ a1 a2 a3 a4 a5 h, zf38.b8  I a1 a2 a3 a4 a5 Q h → I a1 a2 a3 a4 a5 h) → I a1 a2 a3 a4 a5 h

def zf38.j6  (a1 : Option Ptr) (a2 : Option Ptr) (a3 : Option Ptr) (Q : (Option Ptr) → Heap → Prop) (h : Heap) : Prop :=
  al [.ptr a1, .ptr a2, .ptr a3, .ptr none, .ptr none, .ptr none, .ptr none, .ptr none, .ptr none] (fun b1 h => zf38.j8 a1 a2 a3 (⟨b1, 0⟩ : Ptr) 0 Q h) h

def zf38  (Q : (Option Ptr) → Heap → Prop) (h : Heap) : Prop :=
  zf30 40 (fun r1 r2 h => zf19 40 4 (fun r3 r4 h => zf15 12 (fun r5 r6 h => br (r2 != 0) (zf38.j5 Q h) (br (r4 != 0) (zf38.j5 Q h) (br (r6 != 0) (zf38.j5 Q h) (br r1.isNone (zf38.j5 Q h) (br r3.isNone (zf38.j5 Q h) (br r5.isNone (zf38.j5 Q h) (zf38.j6 r1 r3 r5 Q h))))))) h) h) h

def zf49 (a1 : Sl) (Q : Sl → Heap → Prop) (h : Heap) : Prop :=
  br a1.p.isNone (Q ⟨none, 0, 0⟩ h) (al [] (fun b1 h => cellsS 1 a1 (fun cs3 => appS 1 8 [.int .i64 0] ⟨some ⟨b1, 0⟩, 0, 0⟩ cs3 a1.len (fun s2 h => Q s2 h) h) h) h)

def zf50.j2   (Q : (Option Ptr) → Int → Heap → Prop) (h : Heap) : Prop :=
  Q none 2 h

def zf50.b5  (I5 : Ptr → Int → Int → Heap → Prop) (a1 : Ptr) (a2 : Int) (a3 : Int) (Q : (Option Ptr) → Int → Heap → Prop) (h : Heap) : Prop :=
  br (decide (a3 < a2)) (rdSl (a1.add 1) (fun x1 => alC 16 (fun b2 h => ck (a1.add 1) [.sl x1] 0 h ∧ al [.chan (some b2)] (fun b3 h => ck (a1.add 1) [.sl x1] 0 h ∧ (rdN (1 * 1) (⟨b3, 0⟩ : Ptr) (fun cs5 => appS 1 8 [.chan none] x1 cs5 1 (fun s4 h => wr (a1.add 1) (.sl s4) (fun h => I5 a1 a2 (IntKind.i64.wrap (a3 + 1)) h) h) h) h)) h) h) h) (Q (some a1) 0 h)

def zf50.j5  (a1 : Ptr) (a2 : Int) (a3 : Int) (Q : (Option Ptr) → Int → Heap → Prop) (h : Heap) : Prop :=
  ∀ I : Ptr → Int → Int → Heap → Prop, (∀ a1 a2 a3 h, zf50.b5  I a1 a2 a3 Q h → I a1 a2 a3 h) → I a1 a2 a3 h

def zf50 (a1 : Sl) (Q : (Option Ptr) → Int → Heap → Prop) (h : Heap) : Prop :=
  br (decide (((a1.len : Nat) : Int) < 1)) (zf50.j2 Q h) (br (decide (((a1.len : Nat) : Int) > 32)) (zf50.j2 Q h) (zf49 a1 (fun r1 h => al [.sl r1, .sl ⟨none, 0, 0⟩] (fun b2 h => zf50.j5 (⟨b2, 0⟩ : Ptr) ((a1.len : Nat) : Int) 0 Q h) h) h))

def zf5 (a1 : Option Ptr) (a2 : Option Ptr) (a3 : Option Ptr) (a4 : Int) (Q : (Option Ptr) → Int → Heap → Prop) (h : Heap) : Prop :=
  br a1.isNone (Q none 1 h) (br a2.isNone (Q none 1 h) (br a3.isNone (Q none 1 h) (br (decide (a4 < 0)) (Q none 2 h) (br (decide (a4 ≥ 32)) (Q none 2 h) (al [.ptr a1, .ptr a2, .ptr a3, .int .i64 a4] (fun b1 h => Q (some (⟨b1, 0⟩ : Ptr)) 0 h) h)))))

def zf26 (a1 : Option Ptr) (Q : Bool → Heap → Prop) (h : Heap) : Prop :=
  br a1.isNone (Q true h) (der a1 (fun p1 => rdSl (p1.add 0) (fun x2 => Q x2.p.isNone h) h))

def zf29 (a1 : Ptr) (a2 : Ptr) (a3 : Ptr) (Q : Bool → Heap → Prop) (h : Heap) : Prop :=
  rdI .i64 a1 (fun x1 => rdP a2 (fun x2 => der x2 (fun p3 => rdSl (p3.add 0) (fun x4 => br (decide (x1 ≤ ((x4.len : Nat) : Int))) (rdI .u64 a3 (fun x5 => rdP a2 (fun x6 => der x6 (fun p7 => rdSl (p7.add 0) (fun x8 => rdI .i64 a1 (fun x9 => Q (decide (x5 ≤ (IntKind.u64.wrap (IntKind.i64.wrap (((x8.len : Nat) : Int) - x9))))) h) h) h)) h) h) (Q false h)) h)) h) h

def zf28 (a1 : Option Ptr) (a2 : Int) (a3 : Int) (Q : Sl → Int → Heap → Prop) (h : Heap) : Prop :=
  al [.ptr a1] (fun b1 h => al [.int .u64 a2] (fun b2 h => al [.int .i64 a3] (fun b3 h => rdP (⟨b1, 0⟩ : Ptr) (fun x4 => zf26 x4 (fun r5 h => br r5 (Q ⟨none, 0, 0⟩ 1 h) (rdI .i64 (⟨b3, 0⟩ : Ptr) (fun x6 => br (decide (x6 < 0)) (Q ⟨none, 0, 0⟩ 2 h) (zf29 (⟨b3, 0⟩ : Ptr) (⟨b1, 0⟩ : Ptr) (⟨b2, 0⟩ : Ptr) (fun r7 h => br (!r7) (Q ⟨none, 0, 0⟩ 12 h) (rdI .u64 (⟨b2, 0⟩ : Ptr) (fun x8 => rdI .i64 (⟨b3, 0⟩ : Ptr) (fun x9 => rdP (⟨b1, 0⟩ : Ptr) (fun x10 => der x10 (fun p11 => rdSl (p11.add 0) (fun x12 => rdI .u64 (⟨b2, 0⟩ : Ptr) (fun x13 => sb (IntKind.i64.wrap ((IntKind.i64.wrap x8) + x9)) x12.cap (fun n14 => sb (IntKind.i64.wrap ((IntKind.i64.wrap x8) + x9)) n14 (fun n15 => sb x13 n15 (fun n16 => Q ⟨slp x12.p (n16 * 1) n16 n14, n15 - n16, n14 - n16⟩ 0 h)))) h) h)) h) h) h)) h)) h)) h) h) h) h) h

def zf27.j5  (a1 : Option Ptr) (a2 : Int) (a3 : Int) (Q : Sl → Int → Heap → Prop) (h : Heap) : Prop :=
  nz (IntKind.u64.wrap a3) (br ((a2.tmod (IntKind.u64.wrap a3)) != 0) (Q ⟨none, 0, 0⟩ 11 h) (zf28 a1 a2 a3 (fun r1 r2 h => Q r1 r2 h) h))

def zf27 (a1 : Option Ptr) (a2 : Int) (a3 : Int) (Q : Sl → Int → Heap → Prop) (h : Heap) : Prop :=
  zf26 a1 (fun r1 h => br r1 (Q ⟨none, 0, 0⟩ 1 h) (br (a3 != 1) (br (a3 != 4) (br (a3 != 8) (Q ⟨none, 0, 0⟩ 2 h) (zf27.j5 a1 a2 a3 Q h)) (zf27.j5 a1 a2 a3 Q h)) (zf27.j5 a1 a2 a3 Q h))) h

def zf59.j6 (U : Ifc) (I2 : Int → Int → Int → Int → Int → Int → Heap → Prop) (a1 : Int) (a2 : Int) (a3 : Int) (a4 : Int) (a5 : Int) (a6 : Int) (Q : Bool → Heap → Prop) (h : Heap) : Prop :=
  I2 a1 a2 a3 a4 a5 (IntKind.i64.wrap (a6 + 1)) h

def zf59.b2 (U : Ifc)  (I2 : Int → Int → Int → Int → Int → Int → Heap → Prop) (a1 : Int) (a2 : Int) (a3 : Int) (a4 : Int) (a5 : Int) (a6 : Int) (Q : Bool → Heap → Prop) (h : Heap) : Prop :=
  br (decide (a6 < 4)) (ix a6 4 (fun n1 => ∃ x3, ([.int .i64 a2, .int .i64 a3, .int .i64 a4, .int .i64 a5] : List V)[n1 * 1]? = some (.int .i64 x3) ∧ br (x3 == a1) (br (decide (x3 > 0)) (Q true h) (zf59.j6 U I2 a1 a2 a3 a4 a5 a6 Q h)) (zf59.j6 U I2 a1 a2 a3 a4 a5 a6 Q h))) (Q false h)

def zf59.j2 (U : Ifc)  (a1 : Int) (a2 : Int) (a3 : Int) (a4 : Int) (a5 : Int) (a6 : Int) (Q : Bool → Heap → Prop) (h : Heap) : Prop :=
  ∀ I : Int → Int → Int → Int → Int → Int → Heap → Prop, (∀ a1 a2 a3 a4 a5 a6 h, zf59.b2 U  I a1 a2 a3 a4 a5 a6 Q h → I a1 a2 a3 a4 a5 a6 h) → I a1 a2 a3 a4 a5 a6 h

def zf59 (U : Ifc) (a1 : Int) (Q : Bool → Heap → Prop) (h : Heap) : Prop :=
  rdI .i64 ((⟨U.glob 1, 0⟩ : Ptr).add 0) (fun x1 => rdI .i64 ((⟨U.glob 1, 0⟩ : Ptr).add 1) (fun x2 => rdI .i64 ((⟨U.glob 1, 0⟩ : Ptr).add 2) (fun x3 => rdI .i64 ((⟨U.glob 1, 0⟩ : Ptr).add 3) (fun x4 => zf59.j2 U a1 x1 x2 x3 x4 0 Q h) h) h) h) h

def zf58.b5 (U : Ifc)  (I5 : Int → Sl → Int → Int → Heap → Prop) (a1 : Int) (a2 : Sl) (a3 : Int) (a4 : Int) (Q : Sl → Heap → Prop) (h : Heap) : Prop :=
  br (decide (a4 < a3)) (nneg (IntKind.i64.wrap (8 * a4)) (ix a4 a2.len (fun n1 => der a2.p (fun p2 => wr (p2.add (n1 * 1)) (.int .u8 (IntKind.u8.wrap (shrI .u64 a1 (IntKind.i64.wrap (8 * a4))))) (fun h => I5 a1 a2 a3 (IntKind.i64.wrap (a4 + 1)) h) h)))) (Q a2 h)

def zf58.j5 (U : Ifc)  (a1 : Int) (a2 : Sl) (a3 : Int) (a4 : Int) (Q : Sl → Heap → Prop) (h : Heap) : Prop :=
  ∀ I : Int → Sl → Int → Int → Heap → Prop, (∀ a1 a2 a3 a4 h, zf58.b5 U  I a1 a2 a3 a4 Q h → I a1 a2 a3 a4 h) → I a1 a2 a3 a4 h

def zf58 (U : Ifc) (a1 : Int) (a2 : Int) (Q : Sl → Heap → Prop) (h : Heap) : Prop :=
  zf59 U a2 (fun r1 h => br (!r1) (Q ⟨none, 0, 0⟩ h) (mkSl 1 [.int .u8 0] a2 a2 (fun s2 h => zf58.j5 U a1 s2 ((s2.len : Nat) : Int) 0 Q h) h)) h

def zf25 (U : Ifc) (a1 : Option Ptr) (a2 : Int) (a3 : Int) (a4 : Int) (Q : Int → Heap → Prop) (h : Heap) : Prop :=
  zf27 a1 a2 a3 (fun r1 r2 h => br (r2 == 0) (zf58 U a4 a3 (fun r3 h => cellsS 1 r3 (fun cs4 => copyS 1 r1 cs4 r3.len (fun x5 h => Q r2 h) h) h) h) (Q r2 h)) h

def zf36 (U : Ifc) (a1 : Option Ptr) (a2 : Int) (a3 : Int) (a4 : Int) (Q : Int → Heap → Prop) (h : Heap) : Prop :=
  der a1 (fun p1 => rdI .i64 (p1.add 2) (fun x2 => br (decide (a2 ≥ (IntKind.u64.wrap (IntKind.i64.wrap (256 * x2))))) (Q 12 h) (der a1 (fun p3 => rdP (p3.add 0) (fun x4 => der a1 (fun p5 => rdI .i64 (p5.add 1) (fun x6 => zf25 U x4 (IntKind.u64.wrap (a2 + (IntKind.u64.wrap (IntKind.i64.wrap (256 * x6))))) a3 a4 (fun r7 h => Q r7 h) h) h)) h))) h)

def zf24 (a1 : Option Ptr) (a2 : Int) (a3 : Sl) (Q : Int → Heap → Prop) (h : Heap) : Prop :=
  zf28 a1 a2 ((a3.len : Nat) : Int) (fun r1 r2 h => br (r2 == 0) (cellsS 1 a3 (fun cs3 => copyS 1 r1 cs3 a3.len (fun x4 h => Q r2 h) h) h) (Q r2 h)) h

def zf35.j2   (Q : Int → Heap → Prop) (h : Heap) : Prop :=
  Q 12 h

def zf35 (a1 : Option Ptr) (a2 : Int) (a3 : Sl) (Q : Int → Heap → Prop) (h : Heap) : Prop :=
  der a1 (fun p1 => rdI .i64 (p1.add 2) (fun x2 => br (decide (a2 > (IntKind.u64.wrap (IntKind.i64.wrap (256 * x2))))) (zf35.j2 Q h) (der a1 (fun p3 => rdI .i64 (p3.add 2) (fun x4 => br (decide ((IntKind.u64.wrap ((a3.len : Nat) : Int)) > (IntKind.u64.wrap ((IntKind.u64.wrap (IntKind.i64.wrap (256 * x4))) - a2)))) (zf35.j2 Q h) (der a1 (fun p5 => rdP (p5.add 0) (fun x6 => der a1 (fun p7 => rdI .i64 (p7.add 1) (fun x8 => zf24 x6 (IntKind.u64.wrap (a2 + (IntKind.u64.wrap (IntKind.i64.wrap (256 * x8))))) a3 (fun r9 h => Q r9 h) h) h)) h))) h))) h)

def zf39.j2 (U : Ifc) (I1 : (Option Ptr) → Int → Sl → Int → Heap → Prop) (a1 : Option Ptr) (a2 : Int) (a3 : Sl) (a4 : Int) (Q : Heap → Prop) (h : Heap) : Prop :=
  I1 a1 a2 a3 (IntKind.i64.wrap (a4 + 1)) h

def zf39.j12 (U : Ifc) (I1 : (Option Ptr) → Int → Sl → Int → Heap → Prop) (a1 : Option Ptr) (a2 : Int) (a3 : Sl) (a4 : Int) (a5 : Int) (Q : Heap → Prop) (h : Heap) : Prop :=
  zf36 U a1 (IntKind.u64.wrap (a5 + 24)) 8 (IntKind.u64.wrap (IntKind.i64.wrap (a4 + 1))) (fun r1 h => zf39.j2 U I1 a1 a2 a3 a4 Q h) h

def zf39.j8 (U : Ifc) (I1 : (Option Ptr) → Int → Sl → Int → Heap → Prop) (a1 : Option Ptr) (a2 : Int) (a3 : Sl) (a4 : Int) (a5 : Int) (Q : Heap → Prop) (h : Heap) : Prop :=
  ix a4 a3.len (fun n1 => der a3.p (fun p2 => rdI .u64 ((p2.add (n1 * 3)).add 0) (fun x3 => zf36 U a1 (IntKind.u64.wrap (32 * (IntKind.u64.wrap a4))) 8 x3 (fun r4 h => ix a4 a3.len (fun n5 => der a3.p (fun p6 => rdI .i64 ((p6.add (n5 * 3)).add 1) (fun x7 => zf36 U a1 (IntKind.u64.wrap ((IntKind.u64.wrap (32 * (IntKind.u64.wrap a4))) + 8)) 8 (IntKind.u64.wrap x7) (fun r8 h => zf36 U a1 (IntKind.u64.wrap ((IntKind.u64.wrap (32 * (IntKind.u64.wrap a4))) + 16)) 8 a5 (fun r9 h => zf39.j12 U I1 a1 a2 a3 a4 (IntKind.u64.wrap (32 * (IntKind.u64.wrap a4))) Q h) h) h) h))) h) h))

def zf39.j6 (U : Ifc) (I1 : (Option Ptr) → Int → Sl → Int → Heap → Prop) (a1 : Option Ptr) (a2 : Int) (a3 : Sl) (a4 : Int) (a5 : Int) (Q : Heap → Prop) (h : Heap) : Prop :=
  br (decide ((IntKind.i64.wrap (a4 + 1)) < ((a3.len : Nat) : Int))) (br (decide (a4 < 7)) (zf39.j8 U I1 a1 a2 a3 a4 (IntKind.u64.wrap (a5 + 1)) Q h) (zf39.j8 U I1 a1 a2 a3 a4 a5 Q h)) (zf39.j8 U I1 a1 a2 a3 a4 a5 Q h)

def zf39.b1 (U : Ifc)  (I1 : (Option Ptr) → Int → Sl → Int → Heap → Prop) (a1 : Option Ptr) (a2 : Int) (a3 : Sl) (a4 : Int) (Q : Heap → Prop) (h : Heap) : Prop :=
  br (decide (a4 < ((a3.len : Nat) : Int))) (br (decide (a4 < 8)) (ix a4 a3.len (fun n1 => der a3.p (fun p2 => rdB ((p2.add (n1 * 3)).add 2) (fun x3 => br x3 (zf39.j6 U I1 a1 a2 a3 a4 2 Q h) (zf39.j6 U I1 a1 a2 a3 a4 0 Q h)) h))) (nz 8 (zf36 U a1 (IntKind.u64.wrap (264 + (IntKind.u64.wrap (8 * (IntKind.u64.wrap (a2.tmod 8)))))) 8 0 (fun r4 h => zf36 U a1 256 8 (IntKind.u64.wrap (IntKind.i64.wrap (a2 + 1))) (fun r5 h => Q h) h) h))) (nz 8 (zf36 U a1 (IntKind.u64.wrap (264 + (IntKind.u64.wrap (8 * (IntKind.u64.wrap (a2.tmod 8)))))) 8 0 (fun r6 h => zf36 U a1 256 8 (IntKind.u64.wrap (IntKind.i64.wrap (a2 + 1))) (fun r7 h => Q h) h) h))

def zf39.j1 (U : Ifc)  (a1 : Option Ptr) (a2 : Int) (a3 : Sl) (a4 : Int) (Q : Heap → Prop) (h : Heap) : Prop :=
  ∀ I : (Option Ptr) → Int → Sl → Int → Heap → Prop, (∀ a1 a2 a3 a4 h, zf39.b1 U  I a1 a2 a3 a4 Q h → I a1 a2 a3 a4 h) → I a1 a2 a3 a4 h

def zf39 (U : Ifc) (a1 : Option Ptr) (a2 : Int) (a3 : Sl) (Q : Heap → Prop) (h : Heap) : Prop :=
  zf39.j1 U a1 a2 a3 0 Q h

def zf3 (a1 : Option Ptr) (a2 : V) (Q : Bool → Heap → Prop) (h : Heap) : Prop :=
  br a1.isNone (Q true h) (der a1 (fun p1 => rdP (p1.add 2) (fun x2 => br x2.isNone (Q true h) (isNil a2 (fun c3 => Q c3 h))) h))

def zf44 (a1 : Option Ptr) (a2 : V) (Q : Int → Heap → Prop) (h : Heap) : Prop :=
  br a1.isNone (Q 1 h) (der a1 (fun p1 => rdI .u64 (p1.add 1) (fun x2 => br (x2 == 0) (Q 1 h) (isNil a2 (fun c3 => br c3 (Q 1 h) (der a1 (fun p4 => rdB (p4.add 4) (fun x5 => br x5 (Q 22 h) (Q 0 h)) h))))) h))

def zf45 (U : Ifc) (a1 : Option Ptr) (a2 : Int) (Q : Int → Heap → Prop) (h : Heap) : Prop :=
  der a1 (fun p1 => rdV (p1.add 0) (fun x2 => U.inv x2 "Load" [.int .u64 a2, .int .i64 8] (fun r3 h => asTupV r3 (fun l4 => asCons l4 (fun v5 l6 => asI .u64 v5 (fun x7 => asCons l6 (fun v8 l9 => asI .i64 v8 (fun x10 => asNil l9 (der a1 (fun p11 => rdB (p11.add 1) (fun x12 => br x12 (der a1 (fun p13 => wr (p13.add 1) (.bool true) (fun h => Q x7 h) h)) (der a1 (fun p14 => wr (p14.add 1) (.bool (x10 != 0)) (fun h => Q x7 h) h))) h)))))))) h) h)

def zf46.j7 (U : Ifc) (I3 : (Option Ptr) → Int → Ptr → Ptr → Int → Heap → Prop) (a1 : Option Ptr) (a2 : Int) (a3 : Ptr) (a4 : Ptr) (a5 : Int) (Q : Int → Int → Bool → Int → Bool → Heap → Prop) (h : Heap) : Prop :=
  I3 a1 a2 a3 a4 (IntKind.i64.wrap (a5 + 1)) h

def zf46.j9 (U : Ifc)  (a1 : Option Ptr) (a2 : Ptr) (Q : Int → Int → Bool → Int → Bool → Heap → Prop) (h : Heap) : Prop :=
  der a1 (fun p1 => wr (p1.add 1) (.bool true) (fun h => wrL [.int .u64 0, .int .i64 0, .bool false] a2 0 (fun h => rdI .u64 (a2.add 0) (fun x2 => rdI .i64 (a2.add 1) (fun x3 => rdB (a2.add 2) (fun x4 => Q x2 x3 x4 0 false h) h) h) h) h) h)

def zf46.b3 (U : Ifc)  (I3 : (Option Ptr) → Int → Ptr → Ptr → Int → Heap → Prop) (a1 : Option Ptr) (a2 : Int) (a3 : Ptr) (a4 : Ptr) (a5 : Int) (Q : Int → Int → Bool → Int → Bool → Heap → Prop) (h : Heap) : Prop :=
  br (decide (a5 < 4)) (der a1 (fun p1 => rdB (p1.add 1) (fun x2 => br (!x2) (zf45 U a1 (IntKind.u64.wrap (a2 + (IntKind.u64.wrap (8 * (IntKind.u64.wrap a5))))) (fun r3 h => ix a5 4 (fun n4 => wr (a4.add (n4 * 1)) (.int .u64 r3) (fun h => zf46.j7 U I3 a1 a2 a3 a4 a5 Q h) h)) h) (zf46.j7 U I3 a1 a2 a3 a4 a5 Q h)) h)) (ix 1 4 (fun n5 => rdI .u64 (a4.add (n5 * 1)) (fun x6 => br (decide (x6 < 1)) (zf46.j9 U a1 a3 Q h) (ix 1 4 (fun n7 => rdI .u64 (a4.add (n7 * 1)) (fun x8 => br (decide (x8 > 4096)) (zf46.j9 U a1 a3 Q h) (ix 2 4 (fun n9 => rdI .u64 (a4.add (n9 * 1)) (fun x10 => br (decide (x10 > 3)) (zf46.j9 U a1 a3 Q h) (ix 0 4 (fun n11 => rdI .u64 (a4.add (n11 * 1)) (fun x12 => ix 1 4 (fun n13 => rdI .u64 (a4.add (n13 * 1)) (fun x14 => br (decide (x12 > (IntKind.u64.wrap (1099511627776 - x14)))) (zf46.j9 U a1 a3 Q h) (ix 0 4 (fun n15 => rdI .u64 (a4.add (n15 * 1)) (fun x16 => ix 1 4 (fun n17 => rdI .u64 (a4.add (n17 * 1)) (fun x18 => ix 2 4 (fun n19 => rdI .u64 (a4.add (n19 * 1)) (fun x20 => ix 3 4 (fun n21 => rdI .u64 (a4.add (n21 * 1)) (fun x22 => ix 2 4 (fun n23 => rdI .u64 (a4.add (n23 * 1)) (fun x24 => ck (a4.add (n23 * 1)) [.int .u64 x24] 0 h ∧ ck (a4.add (n21 * 1)) [.int .u64 x22] 0 h ∧ wrL [.int .u64 x16, .int .i64 (IntKind.i64.wrap x18), .bool ((ibits .and .u64 x20 2) != 0)] a3 0 (fun h => ck (a4.add (n23 * 1)) [.int .u64 x24] 0 h ∧ ck (a4.add (n21 * 1)) [.int .u64 x22] 0 h ∧ (rdI .u64 (a3.add 0) (fun x25 => rdI .i64 (a3.add 1) (fun x26 => rdB (a3.add 2) (fun x27 => Q x25 x26 x27 x22 ((ibits .and .u64 x24 1) != 0) h) h) h) h)) h) h)) h)) h)) h)) h))) h)) h))) h))) h))) h))

def zf46.j3 (U : Ifc)  (a1 : Option Ptr) (a2 : Int) (a3 : Ptr) (a4 : Ptr) (a5 : Int) (Q : Int → Int → Bool → Int → Bool → Heap → Prop) (h : Heap) : Prop :=
  ∀ I : (Option Ptr) → Int → Ptr → Ptr → Int → Heap → Prop, (∀ a1 a2 a3 a4 a5 h, zf46.b3 U  I a1 a2 a3 a4 a5 Q h → I a1 a2 a3 a4 a5 h) → I a1 a2 a3 a4 a5 h

def zf46 (U : Ifc) (a1 : Option Ptr) (a2 : Int) (Q : Int → Int → Bool → Int → Bool → Heap → Prop) (h : Heap) : Prop :=
  al [.int .u64 0, .int .i64 0, .bool false] (fun b1 h => al [.int .u64 0, .int .u64 0, .int .u64 0, .int .u64 0] (fun b2 h => zf46.j3 U a1 a2 (⟨b1, 0⟩ : Ptr) (⟨b2, 0⟩ : Ptr) 0 Q h) h) h

def zf43.j9 (U : Ifc) (I3 : (Option Ptr) → (Option Ptr) → Int → Ptr → Bool → Int → Int → Int → Heap → Prop) (a1 : Ptr) (Q : Int → Sl → Bool → Heap → Prop) (h : Heap) : Prop :=
  wrL [.int .i64 0, .sl ⟨none, 0, 0⟩] a1 0 (fun h => rdI .i64 (a1.add 0) (fun x1 => rdSl (a1.add 1) (fun x2 => Q x1 x2 false h) h) h) h

def zf43.j10 (U : Ifc) (I3 : (Option Ptr) → (Option Ptr) → Int → Ptr → Bool → Int → Int → Int → Heap → Prop) (a1 : Option Ptr) (a2 : Option Ptr) (a3 : Int) (a4 : Ptr) (a5 : Ptr) (a6 : Int) (a7 : Bool) (a8 : Int) (a9 : Int) (Q : Int → Sl → Bool → Heap → Prop) (h : Heap) : Prop :=
  rdSl (a4.add 1) (fun x1 => rdI .u64 (a5.add 0) (fun x2 => rdI .i64 (a5.add 1) (fun x3 => rdB (a5.add 2) (fun x4 => al [.int .u64 x2, .int .i64 x3, .bool x4] (fun b5 h => rdN (1 * 3) (⟨b5, 0⟩ : Ptr) (fun cs7 => appS 3 24 [.int .u64 0, .int .i64 0, .bool false] x1 cs7 1 (fun s6 h => wr (a4.add 1) (.sl s6) (fun h => br (!a7) (wr (a4.add 0) (.int .i64 (IntKind.i64.wrap a3)) (fun h => rdI .i64 (a4.add 0) (fun x8 => rdSl (a4.add 1) (fun x9 => wrL [.int .i64 x8, .sl x9] a4 0 (fun h => rdI .i64 (a4.add 0) (fun x10 => rdSl (a4.add 1) (fun x11 => Q x10 x11 (!a7) h) h) h) h) h) h) h) (I3 a1 a2 a3 a4 (!a7) a6 a8 (IntKind.u64.wrap (a9 + 1)) h)) h) h) h) h) h) h) h) h

def zf43.j8 (U : Ifc) (I3 : (Option Ptr) → (Option Ptr) → Int → Ptr → Bool → Int → Int → Int → Heap → Prop) (a1 : Option Ptr) (a2 : Option Ptr) (a3 : Int) (a4 : Ptr) (a5 : Ptr) (a6 : Int) (a7 : Bool) (a8 : Int) (a9 : Int) (a10 : Int) (Q : Int → Sl → Bool → Heap → Prop) (h : Heap) : Prop :=
  der a2 (fun p1 => rdB (p1.add 1) (fun x2 => br x2 (zf43.j9 U I3 a4 Q h) (br (decide (a8 > 0)) (rdSl (a4.add 1) (fun x3 => ix (IntKind.i64.wrap (a8 - 1)) x3.len (fun n4 => der x3.p (fun p5 => rdB ((p5.add (n4 * 3)).add 2) (fun x6 => br x6 (rdB (a5.add 2) (fun x7 => br (!x7) (zf43.j9 U I3 a4 Q h) (zf43.j10 U I3 a1 a2 a3 a4 a5 a6 a7 a9 a10 Q h)) h) (zf43.j10 U I3 a1 a2 a3 a4 a5 a6 a7 a9 a10 Q h)) h))) h) (zf43.j10 U I3 a1 a2 a3 a4 a5 a6 a7 a9 a10 Q h))) h)

def zf43.b3 (U : Ifc)  (I3 : (Option Ptr) → (Option Ptr) → Int → Ptr → Bool → Int → Int → Int → Heap → Prop) (a1 : Option Ptr) (a2 : Option Ptr) (a3 : Int) (a4 : Ptr) (a5 : Bool) (a6 : Int) (a7 : Int) (a8 : Int) (Q : Int → Sl → Bool → Heap → Prop) (h : Heap) : Prop :=
  br (decide (a8 < a7)) (der a1 (fun p1 => rdI .u64 (p1.add 1) (fun x2 => br (decide (a6 ≥ x2)) (wrL [.int .i64 0, .sl ⟨none, 0, 0⟩] a4 0 (fun h => rdI .i64 (a4.add 0) (fun x3 => rdSl (a4.add 1) (fun x4 => Q x3 x4 false h) h) h) h) (der a1 (fun p5 => rdI .u64 (p5.add 0) (fun x6 => zf46 U a2 (IntKind.u64.wrap (x6 + (IntKind.u64.wrap (32 * a6)))) (fun r7 r8 r9 r10 r11 h => al [.int .u64 0, .int .i64 0, .bool false] (fun b12 h => wrL [.int .u64 r7, .int .i64 r8, .bool r9] (⟨b12, 0⟩ : Ptr) 0 (fun h => rdSl (a4.add 1) (fun x13 => zf43.j8 U I3 a1 a2 a3 a4 (⟨b12, 0⟩ : Ptr) r10 r11 ((x13.len : Nat) : Int) a7 a8 Q h) h) h) h) h) h))) h)) (wr (a4.add 0) (.int .i64 (IntKind.i64.wrap a3)) (fun h => rdI .i64 (a4.add 0) (fun x14 => rdSl (a4.add 1) (fun x15 => wrL [.int .i64 x14, .sl x15] a4 0 (fun h => rdI .i64 (a4.add 0) (fun x16 => rdSl (a4.add 1) (fun x17 => Q x16 x17 a5 h) h) h) h) h) h) h)

def zf43.j3 (U : Ifc)  (a1 : Option Ptr) (a2 : Option Ptr) (a3 : Int) (a4 : Ptr) (a5 : Bool) (a6 : Int) (a7 : Int) (a8 : Int) (Q : Int → Sl → Bool → Heap → Prop) (h : Heap) : Prop :=
  ∀ I : (Option Ptr) → (Option Ptr) → Int → Ptr → Bool → Int → Int → Int → Heap → Prop, (∀ a1 a2 a3 a4 a5 a6 a7 a8 h, zf43.b3 U  I a1 a2 a3 a4 a5 a6 a7 a8 Q h → I a1 a2 a3 a4 a5 a6 a7 a8 h) → I a1 a2 a3 a4 a5 a6 a7 a8 h

def zf43 (U : Ifc) (a1 : Option Ptr) (a2 : Option Ptr) (a3 : Int) (Q : Int → Sl → Bool → Heap → Prop) (h : Heap) : Prop :=
  al [.int .i64 0, .sl ⟨none, 0, 0⟩] (fun b1 h => der a1 (fun p2 => rdI .u64 (p2.add 1) (fun x3 => zf43.j3 U a1 a2 a3 (⟨b1, 0⟩ : Ptr) false a3 x3 0 Q h) h)) h

def zf41.j11 (U : Ifc)  (a1 : Option Ptr) (a2 : Ptr) (a3 : Ptr) (a4 : Int) (Q : Int → Sl → Bool → Int → Heap → Prop) (h : Heap) : Prop :=
  rdB (a3.add 1) (fun x1 => br (!x1) (zf43 U a1 (some a3) a4 (fun r2 r3 r4 h => al [.int .i64 0, .sl ⟨none, 0, 0⟩] (fun b5 h => wrL [.int .i64 r2, .sl r3] (⟨b5, 0⟩ : Ptr) 0 (fun h => br r4 (der a1 (fun p6 => rdI .u64 (p6.add 2) (fun x7 => der a1 (fun p8 => wr (p8.add 2) (.int .u64 (IntKind.u64.wrap (x7 + 1))) (fun h => rdI .i64 ((⟨b5, 0⟩ : Ptr).add 0) (fun x9 => rdSl ((⟨b5, 0⟩ : Ptr).add 1) (fun x10 => wrL [.int .i64 x9, .sl x10] a2 0 (fun h => rdI .i64 (a2.add 0) (fun x11 => rdSl (a2.add 1) (fun x12 => Q x11 x12 true 0 h) h) h) h) h) h) h)) h)) (der a1 (fun p13 => wr (p13.add 4) (.bool true) (fun h => wrL [.int .i64 0, .sl ⟨none, 0, 0⟩] a2 0 (fun h => rdI .i64 (a2.add 0) (fun x14 => rdSl (a2.add 1) (fun x15 => Q x14 x15 false 22 h) h) h) h) h))) h) h) h) (der a1 (fun p16 => wr (p16.add 4) (.bool true) (fun h => wrL [.int .i64 0, .sl ⟨none, 0, 0⟩] a2 0 (fun h => rdI .i64 (a2.add 0) (fun x17 => rdSl (a2.add 1) (fun x18 => Q x17 x18 false 22 h) h) h) h) h))) h

def zf41.j9 (U : Ifc)  (a1 : Option Ptr) (a2 : Ptr) (a3 : Ptr) (a4 : Int) (a5 : Int) (Q : Int → Sl → Bool → Int → Heap → Prop) (h : Heap) : Prop :=
  rdB (a3.add 1) (fun x1 => br (!x1) (der a1 (fun p2 => rdI .u64 (p2.add 2) (fun x3 => der a1 (fun p4 => rdI .u64 (p4.add 1) (fun x5 => br (decide ((IntKind.u64.wrap (a5 - x3)) ≤ x5)) (der a1 (fun p6 => rdI .u64 (p6.add 2) (fun x7 => der a1 (fun p8 => rdI .u64 (p8.add 1) (fun x9 => nz x9 (zf45 U (some a3) (IntKind.u64.wrap (a4 + (IntKind.u64.wrap (8 * (IntKind.u64.wrap (1 + (x7.tmod x9))))))) (fun r10 h => zf41.j11 U a1 a2 a3 r10 Q h) h)) h)) h)) (der a1 (fun p11 => wr (p11.add 4) (.bool true) (fun h => wrL [.int .i64 0, .sl ⟨none, 0, 0⟩] a2 0 (fun h => rdI .i64 (a2.add 0) (fun x12 => rdSl (a2.add 1) (fun x13 => Q x12 x13 false 22 h) h) h) h) h))) h)) h)) (der a1 (fun p14 => wr (p14.add 4) (.bool true) (fun h => wrL [.int .i64 0, .sl ⟨none, 0, 0⟩] a2 0 (fun h => rdI .i64 (a2.add 0) (fun x15 => rdSl (a2.add 1) (fun x16 => Q x15 x16 false 22 h) h) h) h) h))) h

def zf41.j7 (U : Ifc)  (a1 : Option Ptr) (a2 : Ptr) (a3 : Ptr) (a4 : Int) (a5 : Int) (Q : Int → Sl → Bool → Int → Heap → Prop) (h : Heap) : Prop :=
  rdB (a3.add 1) (fun x1 => br (!x1) (der a1 (fun p2 => rdI .u64 (p2.add 2) (fun x3 => br (a5 == x3) (wrL [.int .i64 0, .sl ⟨none, 0, 0⟩] a2 0 (fun h => rdI .i64 (a2.add 0) (fun x4 => rdSl (a2.add 1) (fun x5 => Q x4 x5 false 0 h) h) h) h) (zf41.j9 U a1 a2 a3 a4 a5 Q h)) h)) (zf41.j9 U a1 a2 a3 a4 a5 Q h)) h

def zf41 (U : Ifc) (a1 : Option Ptr) (a2 : V) (Q : Int → Sl → Bool → Int → Heap → Prop) (h : Heap) : Prop :=
  al [.int .i64 0, .sl ⟨none, 0, 0⟩] (fun b1 h => zf44 a1 a2 (fun r2 h => br (r2 != 0) (wrL [.int .i64 0, .sl ⟨none, 0, 0⟩] (⟨b1, 0⟩ : Ptr) 0 (fun h => rdI .i64 ((⟨b1, 0⟩ : Ptr).add 0) (fun x3 => rdSl ((⟨b1, 0⟩ : Ptr).add 1) (fun x4 => Q x3 x4 false r2 h) h) h) h) (chk (V.one a2) (al [a2, .bool false] (fun b5 h => der a1 (fun p6 => rdI .u64 (p6.add 0) (fun x7 => der a1 (fun p8 => rdI .u64 (p8.add 1) (fun x9 => zf45 U (some (⟨b5, 0⟩ : Ptr)) (IntKind.u64.wrap (x7 + (IntKind.u64.wrap (32 * x9)))) (fun r10 h => zf41.j7 U a1 (⟨b1, 0⟩ : Ptr) (⟨b5, 0⟩ : Ptr) (IntKind.u64.wrap (x7 + (IntKind.u64.wrap (32 * x9)))) r10 Q h) h) h)) h)) h))) h) h

def zf42.j5 (U : Ifc)   (Q : Int → Heap → Prop) (h : Heap) : Prop :=
  Q 2 h

def zf42.j7 (U : Ifc)   (Q : Int → Heap → Prop) (h : Heap) : Prop :=
  Q 21 h

def zf42.b11 (U : Ifc)  (I11 : (Option Ptr) → V → Sl → Int → Int → Heap → Prop) (a1 : Option Ptr) (a2 : V) (a3 : Sl) (a4 : Int) (a5 : Int) (Q : Int → Heap → Prop) (h : Heap) : Prop :=
  br (decide (a5 < a4)) (ix a5 a3.len (fun n1 => der a3.p (fun p2 => rdI .u64 ((p2.add (n1 * 2)).add 0) (fun x3 => rdI .u64 ((p2.add (n1 * 2)).add 1) (fun x4 => al [.int .u64 0, .int .u64 0] (fun b5 h => wrL [.int .u64 x3, .int .u64 x4] (⟨b5, 0⟩ : Ptr) 0 (fun h => rdI .u64 ((⟨b5, 0⟩ : Ptr).add 0) (fun x6 => rdI .u64 ((⟨b5, 0⟩ : Ptr).add 1) (fun x7 => U.inv a2 "Store" [.int .u64 x6, .int .i64 8, .int .u64 x7] (fun r8 h => asI .i64 r8 (fun x9 => br (x9 != 0) (der a1 (fun p10 => wr (p10.add 4) (.bool true) (fun h => Q 22 h) h)) (I11 a1 a2 a3 a4 (IntKind.i64.wrap (a5 + 1)) h))) h) h) h) h) h) h) h))) (der a1 (fun p11 => rdI .u64 (p11.add 3) (fun x12 => der a1 (fun p13 => wr (p13.add 3) (.int .u64 (IntKind.u64.wrap (x12 + 1))) (fun h => Q 0 h) h)) h))

def zf42.j11 (U : Ifc)  (a1 : Option Ptr) (a2 : V) (a3 : Sl) (a4 : Int) (a5 : Int) (Q : Int → Heap → Prop) (h : Heap) : Prop :=
  ∀ I : (Option Ptr) → V → Sl → Int → Int → Heap → Prop, (∀ a1 a2 a3 a4 a5 h, zf42.b11 U  I a1 a2 a3 a4 a5 Q h → I a1 a2 a3 a4 a5 h) → I a1 a2 a3 a4 a5 h

def zf42.j10 (U : Ifc)  (a1 : Option Ptr) (a2 : V) (a3 : Int) (a4 : Int) (a5 : Int) (a6 : Int) (Q : Int → Heap → Prop) (h : Heap) : Prop :=
  der a1 (fun p1 => rdI .u64 (p1.add 3) (fun x2 => al [.int .u64 a6, .int .u64 (IntKind.u64.wrap a3), .int .u64 (IntKind.u64.wrap (a6 + 8)), .int .u64 (IntKind.u64.wrap a4), .int .u64 a5, .int .u64 (IntKind.u64.wrap (x2 + 1))] (fun b3 h => zf42.j11 U a1 a2 ⟨some ⟨b3, 0⟩, 3, 3⟩ ((3 : Nat) : Int) 0 Q h) h) h)

def zf42.j8 (U : Ifc)  (a1 : Option Ptr) (a2 : V) (a3 : Int) (a4 : Int) (Q : Int → Heap → Prop) (h : Heap) : Prop :=
  der a1 (fun p1 => rdI .u64 (p1.add 0) (fun x2 => der a1 (fun p3 => rdI .u64 (p3.add 1) (fun x4 => der a1 (fun p5 => rdI .u64 (p5.add 3) (fun x6 => der a1 (fun p7 => rdI .u64 (p7.add 1) (fun x8 => nz x8 (zf42.j10 U a1 a2 a3 a4 (IntKind.u64.wrap ((IntKind.u64.wrap (x2 + (IntKind.u64.wrap (40 * x4)))) + 8)) (IntKind.u64.wrap ((IntKind.u64.wrap ((IntKind.u64.wrap ((IntKind.u64.wrap (x2 + (IntKind.u64.wrap (40 * x4)))) + 8)) + 8)) + (IntKind.u64.wrap (16 * (x6.tmod x8))))) Q h)) h)) h)) h)) h)

def zf42 (U : Ifc) (a1 : Option Ptr) (a2 : V) (a3 : Int) (a4 : Int) (Q : Int → Heap → Prop) (h : Heap) : Prop :=
  zf44 a1 a2 (fun r1 h => br (r1 != 0) (Q r1 h) (br (decide (a3 < 0)) (zf42.j5 U Q h) (der a1 (fun p2 => rdI .u64 (p2.add 1) (fun x3 => br (decide ((IntKind.u64.wrap a3) ≥ x3)) (zf42.j5 U Q h) (br (decide (a4 < 0)) (zf42.j5 U Q h) (der a1 (fun p4 => rdI .u64 (p4.add 3) (fun x5 => der a1 (fun p6 => rdI .u64 (p6.add 2) (fun x7 => br (x5 == x7) (zf42.j7 U Q h) (zf42.j8 U a1 a2 a3 a4 Q h)) h)) h)))) h)))) h

def zf7.j5 (U : Ifc) (I3 : V → (Option Ptr) → V → Int → Heap → Prop) (a1 : Int) (a2 : Int) (Q : Int → Int → Heap → Prop) (h : Heap) : Prop :=
  Q a1 a2 h

def zf7.j2 (U : Ifc) (I3 : V → (Option Ptr) → V → Int → Heap → Prop) (a1 : V) (a2 : Option Ptr) (a3 : V) (a4 : Int) (Q : Int → Int → Heap → Prop) (h : Heap) : Prop :=
  I3 a1 a2 a3 (IntKind.i64.wrap (a4 + 1)) h

def zf7.j8 (U : Ifc) (I3 : V → (Option Ptr) → V → Int → Heap → Prop) (a1 : V) (a2 : Option Ptr) (a3 : V) (a4 : Int) (a5 : Ptr) (Q : Int → Int → Heap → Prop) (h : Heap) : Prop :=
  rdI .i64 ((a5.add 0).add 0) (fun x1 => rdI .i64 (a5.add 2) (fun x2 => zf42 U a2 a1 x1 x2 (fun r3 h => br (r3 != 0) (Q a4 r3 h) (zf7.j2 U I3 a1 a2 a3 a4 Q h)) h) h) h

def zf7.b3 (U : Ifc)  (I3 : V → (Option Ptr) → V → Int → Heap → Prop) (a1 : V) (a2 : Option Ptr) (a3 : V) (a4 : Int) (Q : Int → Int → Heap → Prop) (h : Heap) : Prop :=
  zf41 U a2 a1 (fun r1 r2 r3 r4 h => al [.int .i64 0, .sl ⟨none, 0, 0⟩] (fun b5 h => wrL [.int .i64 r1, .sl r2] (⟨b5, 0⟩ : Ptr) 0 (fun h => br (!r3) (zf7.j5 U I3 a4 r4 Q h) (br (r4 != 0) (zf7.j5 U I3 a4 r4 Q h) (rdI .i64 ((⟨b5, 0⟩ : Ptr).add 0) (fun x6 => rdSl ((⟨b5, 0⟩ : Ptr).add 1) (fun x7 => al [.int .i64 0, .sl ⟨none, 0, 0⟩, .int .i64 0] (fun b8 h => wrL [.int .i64 x6, .sl x7, .int .i64 0] (⟨b8, 0⟩ : Ptr) 0 (fun h => rdI .i64 ((⟨b5, 0⟩ : Ptr).add 0) (fun x9 => rdSl ((⟨b5, 0⟩ : Ptr).add 1) (fun x10 => U.callV a3 [.agg [.int .i64 x9, .sl x10]] (fun r11 h => asI .i64 r11 (fun x12 => wr ((⟨b8, 0⟩ : Ptr).add 2) (.int .i64 x12) (fun h => zf7.j8 U I3 a1 a2 a3 a4 (⟨b8, 0⟩ : Ptr) Q h) h)) h) h) h) h) h) h) h))) h) h) h

def zf7.j3 (U : Ifc)  (a1 : V) (a2 : Option Ptr) (a3 : V) (a4 : Int) (Q : Int → Int → Heap → Prop) (h : Heap) : Prop :=
  ∀ I : V → (Option Ptr) → V → Int → Heap → Prop, (∀ a1 a2 a3 a4 h, zf7.b3 U  I a1 a2 a3 a4 Q h → I a1 a2 a3 a4 h) → I a1 a2 a3 a4 h

def zf7 (U : Ifc) (a1 : V) (a2 : Option Ptr) (a3 : V) (Q : Int → Int → Heap → Prop) (h : Heap) : Prop :=
  zf7.j3 U a1 a2 a3 0 Q h

def zf0 (U : Ifc) (a1 : Option Ptr) (a2 : V) (Q : Int → Int → Heap → Prop) (h : Heap) : Prop :=
  al [.ptr a1] (fun b1 h => chk (V.one a2) (al [a2] (fun b2 h => rdP (⟨b1, 0⟩ : Ptr) (fun x3 => rdV (⟨b2, 0⟩ : Ptr) (fun x4 => zf3 x3 x4 (fun r5 h => br r5 (Q 0 1 h) (rdV (⟨b2, 0⟩ : Ptr) (fun x6 => rdP (⟨b1, 0⟩ : Ptr) (fun x7 => der x7 (fun p8 => rdP (p8.add 0) (fun x9 => ck (p8.add 0) [.ptr x9] 0 h ∧ ck (⟨b1, 0⟩ : Ptr) [.ptr x7] 0 h ∧ ck (⟨b2, 0⟩ : Ptr) (V.cells x6) 0 h ∧ (zf7 U x6 x9 (.fn 257 [.ptr (some (⟨b2, 0⟩ : Ptr)), .ptr (some (⟨b1, 0⟩ : Ptr))]) (fun r10 r11 h => Q r10 r11 h) h)) h)) h) h)) h) h) h) h)) h

def zf56 (a1 : Option Ptr) (a2 : Int) (Q : Int → Heap → Prop) (h : Heap) : Prop :=
  br a1.isNone (Q 1 h) (der a1 (fun p1 => rdSl (p1.add 1) (fun x2 => br x2.p.isNone (Q 1 h) (br (decide (a2 < 0)) (Q 2 h) (der a1 (fun p3 => rdSl (p3.add 1) (fun x4 => br (decide (a2 ≥ ((x4.len : Nat) : Int))) (Q 2 h) (Q 0 h)) h)))) h))

def zf53 (a1 : Option Ptr) (a2 : Int) (Q : Int → Heap → Prop) (h : Heap) : Prop :=
  zf56 a1 a2 (fun r1 h => br (r1 != 0) (Q 0 h) (der a1 (fun p2 => rdSl (p2.add 1) (fun x3 => ix a2 x3.len (fun n4 => der x3.p (fun p5 => rdC (p5.add (n4 * 1)) (fun x6 => chLen x6 (fun n7 => Q n7 h) h) h))) h))) h

def zf51 (a1 : Option Ptr) (a2 : Int) (Q : Int → Sl → Bool → Heap → Prop) (h : Heap) : Prop :=
  al [.int .i64 0, .sl ⟨none, 0, 0⟩] (fun b1 h => zf56 a1 a2 (fun r2 h => br (r2 != 0) (wrL [.int .i64 0, .sl ⟨none, 0, 0⟩] (⟨b1, 0⟩ : Ptr) 0 (fun h => rdI .i64 ((⟨b1, 0⟩ : Ptr).add 0) (fun x3 => rdSl ((⟨b1, 0⟩ : Ptr).add 1) (fun x4 => Q x3 x4 false h) h) h) h) (der a1 (fun p5 => rdSl (p5.add 1) (fun x6 => ix a2 x6.len (fun n7 => der x6.p (fun p8 => rdC (p8.add (n7 * 1)) (fun x9 => chRecv x9 (.agg [.int .i64 0, .sl ⟨none, 0, 0⟩]) (fun k10 b11 v12 h => asAggV v12 (fun l13 => asCons l13 (fun v14 l15 => asI .i64 v14 (fun x16 => asCons l15 (fun v17 l18 => asSl v17 (fun x19 => asNil l18 (br (k10 == 0) (al [.int .i64 0, .sl ⟨none, 0, 0⟩] (fun b20 h => wrL [.int .i64 x16, .sl x19] (⟨b20, 0⟩ : Ptr) 0 (fun h => rdI .i64 ((⟨b20, 0⟩ : Ptr).add 0) (fun x21 => rdSl ((⟨b20, 0⟩ : Ptr).add 1) (fun x22 => wrL [.int .i64 x21, .sl x22] (⟨b1, 0⟩ : Ptr) 0 (fun h => rdI .i64 ((⟨b1, 0⟩ : Ptr).add 0) (fun x23 => rdSl ((⟨b1, 0⟩ : Ptr).add 1) (fun x24 => Q x23 x24 true h) h) h) h) h) h) h) h) (wrL [.int .i64 0, .sl ⟨none, 0, 0⟩] (⟨b1, 0⟩ : Ptr) 0 (fun h => rdI .i64 ((⟨b1, 0⟩ : Ptr).add 0) (fun x25 => rdSl ((⟨b1, 0⟩ : Ptr).add 1) (fun x26 => Q x25 x26 false h) h) h) h)))))))) h) h))) h))) h) h

def zf6.b3  (I3 : Int → Sl → Int → Int → Heap → Prop) (a1 : Int) (a2 : Sl) (a3 : Int) (a4 : Int) (Q : Sl → Heap → Prop) (h : Heap) : Prop :=
  br (decide (a4 < a3)) (nneg (IntKind.i64.wrap (8 * a4)) (ix a4 a2.len (fun n1 => der a2.p (fun p2 => wr (p2.add (n1 * 1)) (.int .u8 (IntKind.u8.wrap (shrI .u64 a1 (IntKind.i64.wrap (8 * a4))))) (fun h => I3 a1 a2 a3 (IntKind.i64.wrap (a4 + 1)) h) h)))) (Q a2 h)

def zf6.j3  (a1 : Int) (a2 : Sl) (a3 : Int) (a4 : Int) (Q : Sl → Heap → Prop) (h : Heap) : Prop :=
  ∀ I : Int → Sl → Int → Int → Heap → Prop, (∀ a1 a2 a3 a4 h, zf6.b3  I a1 a2 a3 a4 Q h → I a1 a2 a3 a4 h) → I a1 a2 a3 a4 h

def zf6 (a1 : Int) (Q : Sl → Heap → Prop) (h : Heap) : Prop :=
  mkSl 1 [.int .u8 0] 8 8 (fun s1 h => zf6.j3 a1 s1 ((s1.len : Nat) : Int) 0 Q h) h

def zf10.j10 (U : Ifc) (I3 : V → Sl → Int → Sl → Int → Int → Heap → Prop) (a1 : V) (a2 : Sl) (a3 : Int) (a4 : Sl) (a5 : Int) (a6 : Int) (Q : Int → Heap → Prop) (h : Heap) : Prop :=
  I3 a1 a2 a3 a4 a5 (IntKind.i64.wrap (a6 + 1)) h

def zf10.j11 (U : Ifc)  (a1 : Int) (Q : Int → Heap → Prop) (h : Heap) : Prop :=
  Q a1 h

def zf10.j8 (U : Ifc) (I3 : V → Sl → Int → Sl → Int → Int → Heap → Prop) (a1 : V) (a2 : Sl) (a3 : Int) (a4 : Int) (a5 : Sl) (a6 : Int) (a7 : Int) (Q : Int → Heap → Prop) (h : Heap) : Prop :=
  sb a4 a2.len (fun n1 => zf10.j10 U I3 a1 ⟨slp a2.p (n1 * 1) n1 a2.cap, a2.len - n1, a2.cap - n1⟩ (IntKind.i64.wrap (a3 + a4)) a5 a6 a7 Q h)

def zf10.b3 (U : Ifc)  (I3 : V → Sl → Int → Sl → Int → Int → Heap → Prop) (a1 : V) (a2 : Sl) (a3 : Int) (a4 : Sl) (a5 : Int) (a6 : Int) (Q : Int → Heap → Prop) (h : Heap) : Prop :=
  br (decide (a6 < a5)) (ix a6 a4.len (fun n1 => der a4.p (fun p2 => rdI .u64 ((p2.add (n1 * 3)).add 0) (fun x3 => rdI .i64 ((p2.add (n1 * 3)).add 1) (fun x4 => rdB ((p2.add (n1 * 3)).add 2) (fun x5 => al [.int .u64 0, .int .i64 0, .bool false] (fun b6 h => wrL [.int .u64 x3, .int .i64 x4, .bool x5] (⟨b6, 0⟩ : Ptr) 0 (fun h => rdI .i64 ((⟨b6, 0⟩ : Ptr).add 1) (fun x7 => rdB ((⟨b6, 0⟩ : Ptr).add 2) (fun x8 => br (!x8) (zf10.j10 U I3 a1 a2 a3 a4 a5 a6 Q h) (br ((minI x7 ((a2.len : Nat) : Int)) == 0) (zf10.j10 U I3 a1 a2 a3 a4 a5 a6 Q h) (rdI .u64 ((⟨b6, 0⟩ : Ptr).add 0) (fun x9 => sb (minI x7 ((a2.len : Nat) : Int)) a2.cap (fun n10 => mthC "Put" a1 (fun v11 => ck ((⟨b6, 0⟩ : Ptr).add 0) [.int .u64 x9] 0 h ∧ (nilCU U v11 (fun v12 => U.inv a1 "Put" [.int .u64 x9, .sl ⟨slp a2.p (0 * 1) 0 a2.cap, n10 - 0, a2.cap - 0⟩] (fun r13 h => asI .i64 r13 (fun x14 => br (x14 != 0) (zf10.j11 U a3 Q h) (zf10.j8 U I3 a1 a2 a3 (minI x7 ((a2.len : Nat) : Int)) a4 a5 a6 Q h))) h))))) h))) h) h) h) h) h) h) h))) (zf10.j11 U a3 Q h)

def zf10.j3 (U : Ifc)  (a1 : V) (a2 : Sl) (a3 : Int) (a4 : Sl) (a5 : Int) (a6 : Int) (Q : Int → Heap → Prop) (h : Heap) : Prop :=
  ∀ I : V → Sl → Int → Sl → Int → Int → Heap → Prop, (∀ a1 a2 a3 a4 a5 a6 h, zf10.b3 U  I a1 a2 a3 a4 a5 a6 Q h → I a1 a2 a3 a4 a5 a6 h) → I a1 a2 a3 a4 a5 a6 h

def zf10 (U : Ifc) (a1 : V) (a2 : Int) (a3 : Sl) (a4 : Sl) (Q : Int → Heap → Prop) (h : Heap) : Prop :=
  al [.int .i64 a2, .sl a3] (fun b1 h => rdSl ((⟨b1, 0⟩ : Ptr).add 1) (fun x2 => zf10.j3 U a1 a4 0 x2 ((x2.len : Nat) : Int) 0 Q h) h) h

def zf2.j7 (U : Ifc) (I4 : (Option Ptr) → V → Int → Heap → Prop) (a1 : Int) (a2 : Int) (Q : Int → Int → Heap → Prop) (h : Heap) : Prop :=
  Q a1 a2 h

def zf2.j9 (U : Ifc) (I4 : (Option Ptr) → V → Int → Heap → Prop) (a1 : Option Ptr) (a2 : V) (a3 : Int) (a4 : Ptr) (a5 : Ptr) (Q : Int → Int → Heap → Prop) (h : Heap) : Prop :=
  rdI .i64 (a4.add 0) (fun x1 => rdSl (a4.add 1) (fun x2 => rdI .i64 (a5.add 0) (fun x3 => rdSl (a5.add 1) (fun x4 => zf6 (IntKind.u64.wrap x3) (fun r5 h => ck (a5.add 1) [.sl x4] 0 h ∧ ck a4 [.int .i64 x1, .sl x2] 0 h ∧ cellsS 1 x4 (fun cs7 => appS 1 1 [.int .u8 0] r5 cs7 x4.len (fun s6 h => ck a4 [.int .i64 x1, .sl x2] 0 h ∧ (zf10 U a2 x1 x2 s6 (fun r8 h => der a1 (fun p9 => rdP (p9.add 1) (fun x10 => rdI .i64 (a4.add 0) (fun x11 => zf42 U x10 a2 x11 r8 (fun r12 h => br (r12 != 0) (Q a3 r12 h) (I4 a1 a2 (IntKind.i64.wrap (a3 + 1)) h)) h) h) h)) h)) h) h) h) h) h) h) h

def zf2.j8 (U : Ifc) (I4 : (Option Ptr) → V → Int → Heap → Prop) (a1 : Option Ptr) (a2 : V) (a3 : Int) (a4 : Ptr) (Q : Int → Int → Heap → Prop) (h : Heap) : Prop :=
  der a1 (fun p1 => rdP (p1.add 2) (fun x2 => der a1 (fun p3 => rdI .i64 (p3.add 3) (fun x4 => (zf51 x2 x4 (fun r5 r6 r7 h => al [.int .i64 0, .sl ⟨none, 0, 0⟩] (fun b8 h => wrL [.int .i64 r5, .sl r6] (⟨b8, 0⟩ : Ptr) 0 (fun h => zf2.j9 U I4 a1 a2 a3 a4 (⟨b8, 0⟩ : Ptr) Q h) h) h) h) ∧ (al [.int .i64 0, .sl ⟨none, 0, 0⟩] (fun b9 h => ck (p3.add 3) [.int .i64 x4] 0 h ∧ ck (p1.add 2) [.ptr x2] 0 h ∧ (zf51 x2 x4 (fun r10 r11 r12 h => wrL [.int .i64 r10, .sl r11] (⟨b9, 0⟩ : Ptr) 0 (fun h => zf2.j9 U I4 a1 a2 a3 a4 (⟨b9, 0⟩ : Ptr) Q h) h) h)) h)) h)) h)

def zf2.b4 (U : Ifc)  (I4 : (Option Ptr) → V → Int → Heap → Prop) (a1 : Option Ptr) (a2 : V) (a3 : Int) (Q : Int → Int → Heap → Prop) (h : Heap) : Prop :=
  der a1 (fun p1 => rdP (p1.add 2) (fun x2 => der a1 (fun p3 => rdI .i64 (p3.add 3) (fun x4 => zf53 x2 x4 (fun r5 h => br (decide (r5 > 0)) (der a1 (fun p6 => rdP (p6.add 1) (fun x7 => zf41 U x7 a2 (fun r8 r9 r10 r11 h => al [.int .i64 0, .sl ⟨none, 0, 0⟩] (fun b12 h => wrL [.int .i64 r8, .sl r9] (⟨b12, 0⟩ : Ptr) 0 (fun h => br (!r10) (zf2.j7 U I4 a3 r11 Q h) (br (r11 != 0) (zf2.j7 U I4 a3 r11 Q h) (zf2.j8 U I4 a1 a2 a3 (⟨b12, 0⟩ : Ptr) Q h))) h) h) h) h)) (Q a3 0 h)) h) h)) h)

def zf2.j4 (U : Ifc)  (a1 : Option Ptr) (a2 : V) (a3 : Int) (Q : Int → Int → Heap → Prop) (h : Heap) : Prop :=
  ∀ I : (Option Ptr) → V → Int → Heap → Prop, (∀ a1 a2 a3 h, zf2.b4 U  I a1 a2 a3 Q h → I a1 a2 a3 h) → I a1 a2 a3 h

def zf2 (U : Ifc) (a1 : Option Ptr) (a2 : V) (Q : Int → Int → Heap → Prop) (h : Heap) : Prop :=
  zf3 a1 a2 (fun r1 h => br r1 (Q 0 1 h) (zf2.j4 U a1 a2 0 Q h)) h

def zf57.j2 (U : Ifc)   (Q : Int → Bool → Heap → Prop) (h : Heap) : Prop :=
  Q 0 false h

def zf57.b5 (U : Ifc)  (I5 : Int → Int → Sl → Int → Int → Heap → Prop) (a1 : Int) (a2 : Int) (a3 : Sl) (a4 : Int) (a5 : Int) (Q : Int → Bool → Heap → Prop) (h : Heap) : Prop :=
  br (decide (a5 < a4)) (ix a5 a3.len (fun n1 => der a3.p (fun p2 => rdI .u8 (p2.add (n1 * 1)) (fun x3 => nneg (IntKind.i64.wrap (8 * a5)) (I5 a1 (ibits .or .u64 a2 (shlI .u64 (IntKind.u64.wrap x3) (IntKind.i64.wrap (8 * a5)))) a3 a4 (IntKind.i64.wrap (a5 + 1)) h)) h))) (br (a1 == 4) (Q (IntKind.u64.wrap (IntKind.i64.wrap (IntKind.i32.wrap a2))) true h) (Q a2 true h))

def zf57.j5 (U : Ifc)  (a1 : Int) (a2 : Int) (a3 : Sl) (a4 : Int) (a5 : Int) (Q : Int → Bool → Heap → Prop) (h : Heap) : Prop :=
  ∀ I : Int → Int → Sl → Int → Int → Heap → Prop, (∀ a1 a2 a3 a4 a5 h, zf57.b5 U  I a1 a2 a3 a4 a5 Q h → I a1 a2 a3 a4 a5 h) → I a1 a2 a3 a4 a5 h

def zf57 (U : Ifc) (a1 : Sl) (a2 : Int) (a3 : Int) (Q : Int → Bool → Heap → Prop) (h : Heap) : Prop :=
  zf59 U a3 (fun r1 h => br (!r1) (zf57.j2 U Q h) (br (decide (a2 < 0)) (zf57.j2 U Q h) (br (decide (a2 > (IntKind.i64.wrap (((a1.len : Nat) : Int) - a3)))) (zf57.j2 U Q h) (sb (IntKind.i64.wrap (a2 + a3)) a1.cap (fun n2 => sb a2 n2 (fun n3 => zf57.j5 U a3 0 ⟨slp a1.p (n3 * 1) n3 a1.cap, n2 - n3, a1.cap - n3⟩ ((n2 - n3 : Nat) : Int) 0 Q h)))))) h

def zf23 (U : Ifc) (a1 : Option Ptr) (a2 : Int) (a3 : Int) (Q : Int → Int → Heap → Prop) (h : Heap) : Prop :=
  zf27 a1 a2 a3 (fun r1 r2 h => br (r2 != 0) (Q 0 r2 h) (zf57 U r1 0 a3 (fun r3 r4 h => Q r3 0 h) h)) h

def zf34 (U : Ifc) (a1 : Option Ptr) (a2 : Int) (a3 : Int) (Q : Int → Int → Heap → Prop) (h : Heap) : Prop :=
  der a1 (fun p1 => rdI .i64 (p1.add 2) (fun x2 => br (decide (a2 ≥ (IntKind.u64.wrap (IntKind.i64.wrap (256 * x2))))) (Q 0 12 h) (der a1 (fun p3 => rdP (p3.add 0) (fun x4 => der a1 (fun p5 => rdI .i64 (p5.add 1) (fun x6 => zf23 U x4 (IntKind.u64.wrap (a2 + (IntKind.u64.wrap (IntKind.i64.wrap (256 * x6))))) a3 (fun r7 r8 h => Q r7 r8 h) h) h)) h))) h)

def zf37 (U : Ifc) (a1 : Option Ptr) (Q : Int → Int → Heap → Prop) (h : Heap) : Prop :=
  zf34 U a1 328 8 (fun r1 r2 h => nz 8 (zf34 U a1 (IntKind.u64.wrap ((IntKind.u64.wrap (336 + (IntKind.u64.wrap (16 * ((IntKind.u64.wrap (r1 - 1)).tmod 8))))) + 8)) 8 (fun r3 r4 h => Q (IntKind.i64.wrap r1) (IntKind.i64.wrap r3) h) h)) h

def zf12 (a1 : Sl) (Q : Sl → Heap → Prop) (h : Heap) : Prop :=
  br a1.p.isNone (Q ⟨none, 0, 0⟩ h) (al [] (fun b1 h => cellsS 1 a1 (fun cs3 => appS 1 1 [.int .u8 0] ⟨some ⟨b1, 0⟩, 0, 0⟩ cs3 a1.len (fun s2 h => Q s2 h) h) h) h)

def zf21 (a1 : Option Ptr) (a2 : Int) (a3 : Int) (Q : Sl → Int → Heap → Prop) (h : Heap) : Prop :=
  zf28 a1 a2 a3 (fun r1 r2 h => zf12 r1 (fun r3 h => Q r3 r2 h) h) h

def zf32.j2   (Q : Sl → Int → Heap → Prop) (h : Heap) : Prop :=
  Q ⟨none, 0, 0⟩ 12 h

def zf32.j3  (a1 : Option Ptr) (a2 : Int) (a3 : Int) (Q : Sl → Int → Heap → Prop) (h : Heap) : Prop :=
  der a1 (fun p1 => rdP (p1.add 0) (fun x2 => der a1 (fun p3 => rdI .i64 (p3.add 1) (fun x4 => zf21 x2 (IntKind.u64.wrap (a2 + (IntKind.u64.wrap (IntKind.i64.wrap (256 * x4))))) a3 (fun r5 r6 h => Q r5 r6 h) h) h)) h)

def zf32 (a1 : Option Ptr) (a2 : Int) (a3 : Int) (Q : Sl → Int → Heap → Prop) (h : Heap) : Prop :=
  br (decide (a3 < 0)) (zf32.j2 Q h) (der a1 (fun p1 => rdI .i64 (p1.add 2) (fun x2 => br (decide (a2 > (IntKind.u64.wrap (IntKind.i64.wrap (256 * x2))))) (zf32.j2 Q h) (der a1 (fun p3 => rdI .i64 (p3.add 2) (fun x4 => br (decide ((IntKind.u64.wrap a3) > (IntKind.u64.wrap ((IntKind.u64.wrap (IntKind.i64.wrap (256 * x4))) - a2)))) (zf32.j2 Q h) (zf32.j3 a1 a2 a3 Q h)) h))) h))

def zf31.j7 (U : Ifc)   (Q : Bool → Heap → Prop) (h : Heap) : Prop :=
  Q false h

def zf31.j14 (U : Ifc)   (Q : Bool → Heap → Prop) (h : Heap) : Prop :=
  Q false h

def zf31.j21 (U : Ifc)   (Q : Bool → Heap → Prop) (h : Heap) : Prop :=
  Q false h

def zf31.j28 (U : Ifc)  (a1 : Sl) (a2 : Int) (a3 : Option Ptr) (a4 : Int) (a5 : Option Ptr) (a6 : Int) (a7 : Int) (Q : Bool → Heap → Prop) (h : Heap) : Prop :=
  zf37 U a5 (fun r1 r2 h => zf32 a5 2048 (minI a2 ((a1.len : Nat) : Int)) (fun r3 r4 h => br (a6 == 1) (br (a4 == 0) (br (a7 == 0) (br (r2 == (IntKind.i64.wrap (8 + (minI a2 ((a1.len : Nat) : Int))))) (sb (minI a2 ((a1.len : Nat) : Int)) a1.cap (fun n5 => (cellsS 1 r3 (fun cs6 => bytesOf cs6 (fun s7 => cellsS 1 ⟨slp a1.p (0 * 1) 0 a1.cap, n5 - 0, a1.cap - 0⟩ (fun cs8 => bytesOf cs8 (fun s9 => br (s7 == s9) (zf53 a3 1 (fun r10 h => Q (r10 == 0) h) h) (Q false h))) h)) h) ∧ (cellsS 1 ⟨slp a1.p (0 * 1) 0 a1.cap, n5 - 0, a1.cap - 0⟩ (fun cs11 => bytesOf cs11 (fun s12 => cellsS 1 r3 (fun cs13 => bytesOf cs13 (fun s14 => br (s14 == s12) (zf53 a3 1 (fun r15 h => Q (r15 == 0) h) h) (Q false h))) h)) h))) ((Q false h) ∧ (Q false h))) ((Q false h) ∧ (Q false h))) ((Q false h) ∧ (Q false h))) ((Q false h) ∧ (Q false h))) h) h

def zf31.j22 (U : Ifc)  (a1 : Sl) (a2 : Int) (a3 : Bool) (a4 : Option Ptr) (a5 : Option Ptr) (a6 : Option Ptr) (Q : Bool → Heap → Prop) (h : Heap) : Prop :=
  al [.int .u64 1024, .int .i64 8, .bool true, .int .u64 2048, .int .i64 (IntKind.i64.wrap (1 + (ibits .and .i64 a2 1023))), .bool true] (fun b1 h => zf39 U a6 0 ⟨some ⟨b1, 0⟩, 2, 2⟩ (fun h => zf2 U a5 (.iface 4 (.ptr a6)) (fun r2 r3 h => br (!a3) (br (r2 == 0) (Q (r3 == 0) h) (Q false h)) (zf34 U a6 1024 8 (fun r4 r5 h => zf31.j28 U a1 (IntKind.i64.wrap (1 + (ibits .and .i64 a2 1023))) a4 r3 a6 r2 r4 Q h) h)) h) h) h

def zf31.j16 (U : Ifc)  (a1 : Sl) (a2 : Int) (a3 : Bool) (a4 : Option Ptr) (a5 : Option Ptr) (a6 : Option Ptr) (a7 : Option Ptr) (a8 : Option Ptr) (Q : Bool → Heap → Prop) (h : Heap) : Prop :=
  zf36 U a7 1024 8 1 (fun r1 h => zf35 a7 1032 a1 (fun r2 h => al [.int .u64 1024, .int .i64 5, .bool false, .int .u64 1029, .int .i64 (IntKind.i64.wrap (3 + ((a1.len : Nat) : Int))), .bool false] (fun b3 h => zf39 U a7 0 ⟨some ⟨b3, 0⟩, 2, 2⟩ (fun h => zf0 U a5 (.iface 4 (.ptr a7)) (fun r4 r5 h => br (r4 != 1) (zf31.j21 U Q h) (br (r5 != 0) (zf31.j21 U Q h) (zf53 a4 1 (fun r6 h => br (!((r6 == 1) == a3)) (zf31.j21 U Q h) (zf31.j22 U a1 a2 a3 a4 a6 a8 Q h)) h))) h) h) h) h) h

def zf31.j13 (U : Ifc)  (a1 : Sl) (a2 : Int) (a3 : Bool) (a4 : Option Ptr) (a5 : Option Ptr) (a6 : Option Ptr) (a7 : Int) (a8 : Option Ptr) (a9 : Int) (Q : Bool → Heap → Prop) (h : Heap) : Prop :=
  br (a7 != 0) (zf31.j14 U Q h) (br (a9 != 0) (zf31.j14 U Q h) (br a6.isNone (zf31.j14 U Q h) (br a8.isNone (zf31.j14 U Q h) (der a4 (fun p1 => ix 0 2 (fun n2 => rdP ((p1.add 3).add (n2 * 1)) (fun x3 => der a4 (fun p4 => ix 1 2 (fun n5 => rdP ((p4.add 3).add (n5 * 1)) (fun x6 => zf31.j16 U a1 a2 a3 a5 a6 a8 x3 x6 Q h) h))) h))))))

def zf31.j10 (U : Ifc)  (a1 : Sl) (a2 : Int) (a3 : Bool) (a4 : Option Ptr) (a5 : Option Ptr) (Q : Bool → Heap → Prop) (h : Heap) : Prop :=
  zf40 0 8 (fun r1 r2 h => der a4 (fun p3 => ix 0 2 (fun n4 => rdP ((p3.add 5).add (n4 * 1)) (fun x5 => zf5 x5 r1 a5 0 (fun r6 r7 h => der a4 (fun p8 => ix 1 2 (fun n9 => rdP ((p8.add 5).add (n9 * 1)) (fun x10 => zf5 r1 x10 a5 1 (fun r11 r12 h => zf31.j13 U a1 a2 a3 a4 a5 r6 r7 r11 r12 Q h) h) h))) h) h))) h

def zf31.j5 (U : Ifc)  (a1 : Sl) (a2 : Int) (a3 : Bool) (a4 : Option Ptr) (a5 : Sl) (Q : Bool → Heap → Prop) (h : Heap) : Prop :=
  zf50 a5 (fun r1 r2 h => br a4.isNone (zf31.j7 U Q h) (br (r2 != 0) (zf31.j7 U Q h) (br r1.isNone (zf31.j7 U Q h) (br (decide (((a1.len : Nat) : Int) > 1000)) (sb 1000 a1.cap (fun n3 => zf31.j10 U ⟨slp a1.p (0 * 1) 0 a1.cap, n3 - 0, a1.cap - 0⟩ a2 a3 a4 r1 Q h)) (zf31.j10 U a1 a2 a3 a4 r1 Q h))))) h

def zf31 (U : Ifc) (a1 : Sl) (a2 : Int) (a3 : Bool) (Q : Bool → Heap → Prop) (h : Heap) : Prop :=
  zf38 (fun r1 h => al [.int .i64 1, .int .i64 1] (fun b2 h => br (!a3) (ix 1 2 (fun n3 => wr ((⟨b2, 0⟩ : Ptr).add (n3 * 1)) (.int .i64 2) (fun h => zf31.j5 U a1 a2 a3 r1 ⟨some ⟨b2, 0⟩, 2, 2⟩ Q h) h)) (zf31.j5 U a1 a2 a3 r1 ⟨some ⟨b2, 0⟩, 2, 2⟩ Q h)) h) h

def zf11 (U : Ifc) (a1 : V) (a2 : Int) (a3 : Sl) (a4 : Int) (Q : Int → Heap → Prop) (h : Heap) : Prop :=
  al [.int .i64 a2, .sl a3] (fun b1 h => rdSl ((⟨b1, 0⟩ : Ptr).add 1) (fun x2 => rdSl ((⟨b1, 0⟩ : Ptr).add 1) (fun x3 => ix (IntKind.i64.wrap (((x3.len : Nat) : Int) - 1)) x2.len (fun n4 => der x2.p (fun p5 => rdI .u64 ((p5.add (n4 * 3)).add 0) (fun x6 => rdI .i64 ((p5.add (n4 * 3)).add 1) (fun x7 => rdB ((p5.add (n4 * 3)).add 2) (fun x8 => al [.int .u64 0, .int .i64 0, .bool false] (fun b9 h => wrL [.int .u64 x6, .int .i64 x7, .bool x8] (⟨b9, 0⟩ : Ptr) 0 (fun h => rdB ((⟨b9, 0⟩ : Ptr).add 2) (fun x10 => br x10 (rdI .u64 ((⟨b9, 0⟩ : Ptr).add 0) (fun x11 => al [.int .u8 a4] (fun b12 h => U.inv a1 "Put" [.int .u64 x11, .sl ⟨some ⟨b12, 0⟩, 1, 1⟩] (fun r13 h => asI .i64 r13 (fun x14 => br (x14 == 0) (Q 1 h) (Q 0 h))) h) h) h) (Q 0 h)) h) h) h) h) h) h))) h) h) h

def zf22 (a1 : Option Ptr) (Q : Int → Heap → Prop) (h : Heap) : Prop :=
  zf26 a1 (fun r1 h => br r1 (Q 0 h) (der a1 (fun p2 => rdSl (p2.add 0) (fun x3 => nz 256 (Q (IntKind.i64.wrap (((x3.len : Nat) : Int).tdiv 256)) h)) h))) h

def zf9.b2  (I2 : Sl → Int → Int → Heap → Prop) (a1 : Sl) (a2 : Int) (a3 : Int) (Q : Int → Heap → Prop) (h : Heap) : Prop :=
  br (decide (a3 ≥ 0)) (nneg 8 (ix a3 a1.len (fun n1 => der a1.p (fun p2 => rdI .u8 (p2.add (n1 * 1)) (fun x3 => I2 a1 (ibits .or .u64 (shlI .u64 a2 8) (IntKind.u64.wrap x3)) (IntKind.i64.wrap (a3 - 1)) h) h)))) (Q a2 h)

def zf9.j2  (a1 : Sl) (a2 : Int) (a3 : Int) (Q : Int → Heap → Prop) (h : Heap) : Prop :=
  ∀ I : Sl → Int → Int → Heap → Prop, (∀ a1 a2 a3 h, zf9.b2  I a1 a2 a3 Q h → I a1 a2 a3 h) → I a1 a2 a3 h

def zf9 (a1 : Sl) (Q : Int → Heap → Prop) (h : Heap) : Prop :=
  zf9.j2 a1 0 7 Q h

def zf33 (a1 : Option Ptr) (a2 : Int) (a3 : Bool) (Q : Int → Bool → Heap → Prop) (h : Heap) : Prop :=
  br (decide (a2 < 0)) (Q 0 false h) (der a1 (fun p1 => rdI .i64 (p1.add 2) (fun x2 => br (decide (a2 ≥ x2)) (Q 0 false h) (der a1 (fun p3 => rdI .i64 (p3.add 1) (fun x4 => Q (IntKind.i64.wrap (x4 + a2)) true h) h))) h))

def zf8.j8 (U : Ifc) (I3 : V → Int → Sl → Sl → Int → Int → Heap → Prop)  (Q : Sl → Bool → Heap → Prop) (h : Heap) : Prop :=
  Q ⟨none, 0, 0⟩ false h

def zf8.j9 (U : Ifc) (I3 : V → Int → Sl → Sl → Int → Int → Heap → Prop) (a1 : V) (a2 : Int) (a3 : Sl) (a4 : Sl) (a5 : Sl) (a6 : Int) (a7 : Int) (Q : Sl → Bool → Heap → Prop) (h : Heap) : Prop :=
  cellsS 1 a4 (fun cs2 => appS 1 1 [.int .u8 0] a3 cs2 a4.len (fun s1 h => I3 a1 a2 s1 a5 a6 (IntKind.i64.wrap (a7 + 1)) h) h) h

def zf8.b3 (U : Ifc)  (I3 : V → Int → Sl → Sl → Int → Int → Heap → Prop) (a1 : V) (a2 : Int) (a3 : Sl) (a4 : Sl) (a5 : Int) (a6 : Int) (Q : Sl → Bool → Heap → Prop) (h : Heap) : Prop :=
  br (decide (a6 < a5)) (ix a6 a4.len (fun n1 => der a4.p (fun p2 => rdI .u64 ((p2.add (n1 * 3)).add 0) (fun x3 => rdI .i64 ((p2.add (n1 * 3)).add 1) (fun x4 => rdB ((p2.add (n1 * 3)).add 2) (fun x5 => al [.int .u64 0, .int .i64 0, .bool false] (fun b6 h => wrL [.int .u64 x3, .int .i64 x4, .bool x5] (⟨b6, 0⟩ : Ptr) 0 (fun h => rdB ((⟨b6, 0⟩ : Ptr).add 2) (fun x7 => br x7 (I3 a1 a2 a3 a4 a5 (IntKind.i64.wrap (a6 + 1)) h) (rdI .u64 ((⟨b6, 0⟩ : Ptr).add 0) (fun x8 => rdI .i64 ((⟨b6, 0⟩ : Ptr).add 1) (fun x9 => U.inv a1 "Bytes" [.int .u64 x8, .int .i64 x9] (fun r10 h => asTupV r10 (fun l11 => asCons l11 (fun v12 l13 => asSl v12 (fun x14 => asCons l13 (fun v15 l16 => asI .i64 v15 (fun x17 => asNil l16 (br (x17 != 0) (zf8.j8 U I3 Q h) (br (decide ((IntKind.i64.wrap (((a3.len : Nat) : Int) + ((x14.len : Nat) : Int))) > a2)) (zf8.j8 U I3 Q h) (zf8.j9 U I3 a1 a2 a3 x14 a4 a5 a6 Q h))))))))) h) h) h)) h) h) h) h) h) h))) (Q a3 true h)

def zf8.j3 (U : Ifc)  (a1 : V) (a2 : Int) (a3 : Sl) (a4 : Sl) (a5 : Int) (a6 : Int) (Q : Sl → Bool → Heap → Prop) (h : Heap) : Prop :=
  ∀ I : V → Int → Sl → Sl → Int → Int → Heap → Prop, (∀ a1 a2 a3 a4 a5 a6 h, zf8.b3 U  I a1 a2 a3 a4 a5 a6 Q h → I a1 a2 a3 a4 a5 a6 h) → I a1 a2 a3 a4 a5 a6 h

def zf8 (U : Ifc) (a1 : V) (a2 : Int) (a3 : Sl) (a4 : Int) (Q : Sl → Bool → Heap → Prop) (h : Heap) : Prop :=
  al [.int .i64 a2, .sl a3] (fun b1 h => rdSl ((⟨b1, 0⟩ : Ptr).add 1) (fun x2 => zf8.j3 U a1 a4 ⟨none, 0, 0⟩ x2 ((x2.len : Nat) : Int) 0 Q h) h) h

def zf48 (a1 : Sl) (Q : Sl → Heap → Prop) (h : Heap) : Prop :=
  br a1.p.isNone (Q ⟨none, 0, 0⟩ h) (al [] (fun b1 h => cellsS 1 a1 (fun cs3 => appS 1 1 [.int .u8 0] ⟨some ⟨b1, 0⟩, 0, 0⟩ cs3 a1.len (fun s2 h => Q s2 h) h) h) h)

def zf55 (a1 : Option Ptr) (a2 : Int) (a3 : Int) (a4 : Sl) (Q : Bool → Heap → Prop) (h : Heap) : Prop :=
  der a1 (fun p1 => rdSl (p1.add 1) (fun x2 => ix a2 x2.len (fun n3 => der x2.p (fun p4 => rdC (p4.add (n3 * 1)) (fun x5 => zf48 a4 (fun r6 h => chSend x5 (.agg [.int .i64 a3, .sl r6]) (fun k7 h => br (k7 == 0) (Q true h) (Q false h)) h) h) h))) h)

def zf54.j7 (I3 : (Option Ptr) → Int → Sl → Int → Int → Int → Heap → Prop) (a1 : Option Ptr) (a2 : Int) (a3 : Sl) (a4 : Int) (a5 : Int) (a6 : Int) (Q : Int → Heap → Prop) (h : Heap) : Prop :=
  I3 a1 a2 a3 a4 a5 (IntKind.i64.wrap (a6 + 1)) h

def zf54.j6 (I3 : (Option Ptr) → Int → Sl → Int → Int → Int → Heap → Prop) (a1 : Option Ptr) (a2 : Int) (a3 : Sl) (a4 : Int) (a5 : Int) (a6 : Int) (Q : Int → Heap → Prop) (h : Heap) : Prop :=
  zf54.j7 I3 a1 a2 a3 (IntKind.i64.wrap (a4 + 1)) a5 a6 Q h

def zf54.b3  (I3 : (Option Ptr) → Int → Sl → Int → Int → Int → Heap → Prop) (a1 : Option Ptr) (a2 : Int) (a3 : Sl) (a4 : Int) (a5 : Int) (a6 : Int) (Q : Int → Heap → Prop) (h : Heap) : Prop :=
  br (decide (a6 < a5)) (br (a6 != a2) (der a1 (fun p1 => rdSl (p1.add 0) (fun x2 => ix a6 x2.len (fun n3 => der x2.p (fun p4 => rdI .i64 (p4.add (n3 * 1)) (fun x5 => der a1 (fun p6 => rdSl (p6.add 0) (fun x7 => ix a2 x7.len (fun n8 => der x7.p (fun p9 => rdI .i64 (p9.add (n8 * 1)) (fun x10 => br (x5 == x10) (zf55 a1 a6 a2 a3 (fun r11 h => br r11 (zf54.j6 I3 a1 a2 a3 a4 a5 a6 Q h) (zf54.j7 I3 a1 a2 a3 a4 a5 a6 Q h)) h) (zf54.j7 I3 a1 a2 a3 a4 a5 a6 Q h)) h))) h)) h))) h)) (zf54.j7 I3 a1 a2 a3 a4 a5 a6 Q h)) (Q a4 h)

def zf54.j3  (a1 : Option Ptr) (a2 : Int) (a3 : Sl) (a4 : Int) (a5 : Int) (a6 : Int) (Q : Int → Heap → Prop) (h : Heap) : Prop :=
  ∀ I : (Option Ptr) → Int → Sl → Int → Int → Int → Heap → Prop, (∀ a1 a2 a3 a4 a5 a6 h, zf54.b3  I a1 a2 a3 a4 a5 a6 Q h → I a1 a2 a3 a4 a5 a6 h) → I a1 a2 a3 a4 a5 a6 h

def zf54 (a1 : Option Ptr) (a2 : Int) (a3 : Sl) (Q : Int → Heap → Prop) (h : Heap) : Prop :=
  der a1 (fun p1 => rdSl (p1.add 1) (fun x2 => zf54.j3 a1 a2 a3 0 ((x2.len : Nat) : Int) 0 Q h) h)

def zf52.j9   (Q : Int → Int → Heap → Prop) (h : Heap) : Prop :=
  Q 0 14 h

def zf52.j15   (Q : Int → Int → Heap → Prop) (h : Heap) : Prop :=
  Q 0 18 h

def zf52.j16   (Q : Int → Int → Heap → Prop) (h : Heap) : Prop :=
  Q 1 0 h

def zf52.j10  (a1 : Option Ptr) (a2 : Int) (a3 : Int) (a4 : Sl) (Q : Int → Int → Heap → Prop) (h : Heap) : Prop :=
  br (decide (a3 < 0)) (zf54 a1 a2 a4 (fun r1 h => Q r1 0 h) h) (br (a3 == a2) (Q 0 14 h) (der a1 (fun p2 => rdSl (p2.add 0) (fun x3 => ix a3 x3.len (fun n4 => der x3.p (fun p5 => rdI .i64 (p5.add (n4 * 1)) (fun x6 => der a1 (fun p7 => rdSl (p7.add 0) (fun x8 => ix a2 x8.len (fun n9 => der x8.p (fun p10 => rdI .i64 (p10.add (n9 * 1)) (fun x11 => br (x6 != x11) (Q 0 14 h) (zf55 a1 a3 a2 a4 (fun r12 h => br (!r12) (zf52.j15 Q h) (zf52.j16 Q h)) h)) h))) h)) h))) h)))

def zf52 (a1 : Option Ptr) (a2 : Int) (a3 : Int) (a4 : Sl) (Q : Int → Int → Heap → Prop) (h : Heap) : Prop :=
  zf56 a1 a2 (fun r1 h => br (r1 != 0) (Q 0 r1 h) (der a1 (fun p2 => rdSl (p2.add 1) (fun x3 => br (decide (a3 ≥ ((x3.len : Nat) : Int))) (Q 0 2 h) (br (decide (((a4.len : Nat) : Int) > 2048)) (Q 0 3 h) (der a1 (fun p4 => rdSl (p4.add 0) (fun x5 => ix a2 x5.len (fun n6 => der x5.p (fun p7 => rdI .i64 (p7.add (n6 * 1)) (fun x8 => br (decide (x8 < 0)) (zf52.j9 Q h) (zf52.j10 a1 a2 a3 a4 Q h)) h))) h)))) h))) h

def zf1.j4 (U : Ifc)   (Q : Int → Heap → Prop) (h : Heap) : Prop :=
  Q 0 h

def zf1 (U : Ifc) (a1 : Int) (a2 : Sl) (a3 : Ptr) (a4 : Ptr) (Q : Int → Heap → Prop) (h : Heap) : Prop :=
  al [.int .i64 a1, .sl a2] (fun b1 h => rdV a3 (fun x2 => rdI .i64 ((⟨b1, 0⟩ : Ptr).add 0) (fun x3 => rdSl ((⟨b1, 0⟩ : Ptr).add 1) (fun x4 => zf8 U x2 x3 x4 2056 (fun r5 r6 h => br r6 (br (decide (((r5.len : Nat) : Int) ≥ 8)) (rdP a4 (fun x7 => der x7 (fun p8 => rdP (p8.add 2) (fun x9 => rdP a4 (fun x10 => der x10 (fun p11 => rdI .i64 (p11.add 3) (fun x12 => sb 8 r5.len (fun n13 => zf9 r5 (fun r14 h => ck (p11.add 3) [.int .i64 x12] 0 h ∧ ck a4 [.ptr x10] 0 h ∧ ck (p8.add 2) [.ptr x9] 0 h ∧ ck a4 [.ptr x7] 0 h ∧ (zf52 x9 x12 (IntKind.i64.wrap r14) ⟨slp r5.p (n13 * 1) n13 r5.cap, r5.len - n13, r5.cap - n13⟩ (fun r15 r16 h => zf1.j4 U Q h) h)) h)) h)) h) h)) h) (zf1.j4 U Q h)) (zf1.j4 U Q h)) h) h) h) h) h

end Go.Fn
