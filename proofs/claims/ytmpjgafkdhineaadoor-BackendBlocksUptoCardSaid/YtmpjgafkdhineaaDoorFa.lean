/- The shallow functions. PRINTED by lift.py. -/
import Derived.Test.YtmpjgafkdhineaaDoorLa

set_option linter.unusedVariables false
set_option maxRecDepth 100000
namespace Go.Fn
open Go.Lift

def zf72 : List V := [.int .i64 0, .int .i64 0, .map none, .map none, .int .i64 0, .int .i64 0, .int .i64 0, .int .i64 0, .int .i64 0, .int .i64 0, .int .i64 0, .int .i64 0, .int .i64 0, .int .i64 0, .int .i64 0, .int .i64 0, .int .i64 0, .int .i64 0, .int .i64 0, .int .i64 0, .int .i64 0, .int .i64 0, .int .i64 0, .int .i64 0, .int .i64 0, .int .i64 0, .int .i64 0, .int .i64 0, .int .i64 0, .int .i64 0, .int .i64 0, .int .i64 0, .int .i64 0, .int .i64 0, .int .i64 0, .int .i64 0, .int .i64 0, .int .i64 0, .int .i64 0]
def zf70 : List V := [.str [], .str [], .str [], .str [], .str [], .str [], .str [], .str []]
def zf73 : List V := [.ptr none, .ptr none, .ptr none, .ptr none, .ptr none, .ptr none, .ptr none, .ptr none, .ptr none]
def zf71 : List V := [.ptr none, .ptr none, .int .i64 0, .int .i64 0, .ptr none, .int .i64 0, .int .i64 0, .map none]
def zf69 : List V := [.int .i64 0, .int .i64 0, .int .i64 0, .int .i64 0, .int .i64 0, .int .i64 0, .int .i64 0, .int .i64 0, .int .i64 0, .int .i64 0, .int .i64 0, .int .i64 0, .int .i64 0, .int .i64 0, .int .i64 0, .int .i64 0, .int .i64 0]

def zf40 (a1 : Int) (Q : (Option Ptr) → Int → Heap → Prop) (h : Heap) : Prop :=
  br (decide (a1 < 1)) (Q none 2 h) (br (decide (a1 > 65536)) (Q none 2 h) (mkSl 1 [.int .u8 0] (IntKind.i64.wrap (a1 * 256)) (IntKind.i64.wrap (a1 * 256)) (fun s1 h => al [.sl s1] (fun b2 h => Q (some (⟨b2, 0⟩ : Ptr)) 0 h) h) h))

def zf29.j2   (Q : (Option Ptr) → Int → Heap → Prop) (h : Heap) : Prop :=
  Q none 2 h

def zf29.b11  (I11 : Int → Ptr → Int → Heap → Prop) (a1 : Int) (a2 : Ptr) (a3 : Int) (Q : (Option Ptr) → Int → Heap → Prop) (h : Heap) : Prop :=
  br (decide (a3 < 17)) (ix a3 17 (fun n1 => wr ((a2.add 21).add (n1 * 1)) (.int .i64 a1) (fun h => I11 a1 a2 (IntKind.i64.wrap (a3 + 1)) h) h)) (Q (some a2) 0 h)

def zf29.j11  (a1 : Int) (a2 : Ptr) (a3 : Int) (Q : (Option Ptr) → Int → Heap → Prop) (h : Heap) : Prop :=
  ∀ I : Int → Ptr → Int → Heap → Prop, (∀ a1 a2 a3 h, zf29.b11  I a1 a2 a3 Q h → I a1 a2 a3 h) → I a1 a2 a3 h

def zf29.b5  (I5 : Int → Int → Ptr → Int → Int → Heap → Prop) (a1 : Int) (a2 : Int) (a3 : Ptr) (a4 : Int) (a5 : Int) (Q : (Option Ptr) → Int → Heap → Prop) (h : Heap) : Prop :=
  br (decide (a5 < a4)) (rdM (a3.add 2) (fun x1 => mapPut (.int .i64) x1 (.int .i64 a5) (.int .i64 1) (fun h => I5 a1 a2 a3 a4 (IntKind.i64.wrap (a5 + 1)) h) h) h) (ix 0 17 (fun n2 => wr ((a3.add 4).add (n2 * 1)) (.int .i64 a2) (fun h => zf29.j11 a1 a3 0 Q h) h))

def zf29.j5  (a1 : Int) (a2 : Int) (a3 : Ptr) (a4 : Int) (a5 : Int) (Q : (Option Ptr) → Int → Heap → Prop) (h : Heap) : Prop :=
  ∀ I : Int → Int → Ptr → Int → Int → Heap → Prop, (∀ a1 a2 a3 a4 a5 h, zf29.b5  I a1 a2 a3 a4 a5 Q h → I a1 a2 a3 a4 a5 h) → I a1 a2 a3 a4 a5 h

def zf29.j4  (a1 : Int) (a2 : Int) (a3 : Ptr) (Q : (Option Ptr) → Int → Heap → Prop) (h : Heap) : Prop :=
  zf29.j5 a1 a2 a3 a2 0 Q h

def zf29 (a1 : Int) (a2 : Int) (Q : (Option Ptr) → Int → Heap → Prop) (h : Heap) : Prop :=
  br (decide (a1 < 1)) (zf29.j2 Q h) (br (decide (a1 > 65536)) (zf29.j2 Q h) (br (decide (a2 < 0)) (zf29.j2 Q h) (br (decide (a2 > a1)) (zf29.j2 Q h) (alM (.int .i64) (fun b1 h => alM (.int .i64) (fun b2 h => (putCells (putCells (putCells (putCells (putCells zf72 0 [.int .i64 a1]) 1 [.int .i64 a2]) 2 [.map (some b1)]) 3 [.map (some b2)]) 38 [.int .i64 a2]).length = 39 ∧ al (putCells (putCells (putCells (putCells (putCells zf72 0 [.int .i64 a1]) 1 [.int .i64 a2]) 2 [.map (some b1)]) 3 [.map (some b2)]) 38 [.int .i64 a2]) (fun b3 h => zf29.j4 a1 a2 (⟨b3, 0⟩ : Ptr) Q h) h) h) h))))

def zf21 (a1 : Int) (Q : (Option Ptr) → Int → Heap → Prop) (h : Heap) : Prop :=
  br (decide (a1 < 1)) (Q none 2 h) (br (decide (a1 > 65536)) (Q none 2 h) (alM (.int .i64) (fun b1 h => al [.int .i64 a1, .map (some b1), .sl ⟨none, 0, 0⟩] (fun b2 h => Q (some (⟨b2, 0⟩ : Ptr)) 0 h) h) h))

def zf26 (a1 : Option Ptr) (Q : Bool → Heap → Prop) (h : Heap) : Prop :=
  br a1.isNone (Q true h) (der a1 (fun p1 => rdM (p1.add 2) (fun x2 => Q x2.isNone h) h))

def zf30 (a1 : Int) (Q : Bool → Heap → Prop) (h : Heap) : Prop :=
  br (decide (a1 ≥ 0)) (Q (decide (a1 < 17)) h) (Q false h)

def zf27.b4  (I4 : Sl → Int → Int → Heap → Prop) (a1 : Sl) (a2 : Int) (a3 : Int) (Q : Int → Heap → Prop) (h : Heap) : Prop :=
  br (decide (a3 < a2)) (ix a3 a1.len (fun n1 => der a1.p (fun p2 => rdI .i64 (p2.add (n1 * 1)) (fun x3 => zf30 x3 (fun r4 h => br (!r4) (Q 2 h) (I4 a1 a2 (IntKind.i64.wrap (a3 + 1)) h)) h) h))) (Q 0 h)

def zf27.j4  (a1 : Sl) (a2 : Int) (a3 : Int) (Q : Int → Heap → Prop) (h : Heap) : Prop :=
  ∀ I : Sl → Int → Int → Heap → Prop, (∀ a1 a2 a3 h, zf27.b4  I a1 a2 a3 Q h → I a1 a2 a3 h) → I a1 a2 a3 h

def zf27 (a1 : Option Ptr) (a2 : Sl) (Q : Int → Heap → Prop) (h : Heap) : Prop :=
  zf26 a1 (fun r1 h => br r1 (Q 1 h) (zf27.j4 a2 ((a2.len : Nat) : Int) 0 Q h)) h

def zf22.j11  (a1 : Option Ptr) (a2 : Int) (Q : Int → Int → Heap → Prop) (h : Heap) : Prop :=
  der a1 (fun p1 => ix a2 17 (fun n2 => rdI .i64 ((p1.add 4).add (n2 * 1)) (fun x3 => der a1 (fun p4 => ix a2 17 (fun n5 => wr ((p4.add 4).add (n5 * 1)) (.int .i64 (IntKind.i64.wrap (x3 + 1))) (fun h => der a1 (fun p6 => rdI .i64 (p6.add 38) (fun x7 => Q x7 0 h) h)) h))) h))

def zf22.j8  (a1 : Option Ptr) (a2 : Int) (Q : Int → Int → Heap → Prop) (h : Heap) : Prop :=
  der a1 (fun p1 => rdI .i64 (p1.add 38) (fun x2 => der a1 (fun p3 => rdI .i64 (p3.add 0) (fun x4 => br (x2 == x4) (Q 0 20 h) (der a1 (fun p5 => rdM (p5.add 2) (fun x6 => der a1 (fun p7 => rdI .i64 (p7.add 38) (fun x8 => der a1 (fun p9 => rdM (p9.add 3) (fun x10 => der a1 (fun p11 => rdI .i64 (p11.add 38) (fun x12 => mapEnt (.int .i64) x6 (.int .i64 x8) (.int .i64 0) (fun r13 b14 h => asI .i64 r13 (fun x15 => entPut x6 b14 (.int .i64 1) (fun h => mapEnt (.int .i64) x10 (.int .i64 x12) (.int .i64 0) (fun r16 b17 h => asI .i64 r16 (fun x18 => entPut x10 b17 (.int .i64 a2) (fun h => zf22.j11 a1 a2 Q h) h)) h) h)) h) h)) h)) h)) h))) h)) h)

def zf22.b6  (I6 : (Option Ptr) → Int → Heap → Prop) (a1 : Option Ptr) (a2 : Int) (Q : Int → Int → Heap → Prop) (h : Heap) : Prop :=
  der a1 (fun p1 => rdI .i64 (p1.add 38) (fun x2 => der a1 (fun p3 => rdI .i64 (p3.add 0) (fun x4 => br (decide (x2 < x4)) (der a1 (fun p5 => rdM (p5.add 2) (fun x6 => der a1 (fun p7 => rdI .i64 (p7.add 38) (fun x8 => mapGet (.int .i64) x6 (.int .i64 x8) (fun o9 => asI .i64 (o9.getD (.int .i64 0)) (fun x10 => br (decide (x10 > 0)) (der a1 (fun p11 => rdI .i64 (p11.add 38) (fun x12 => der a1 (fun p13 => wr (p13.add 38) (.int .i64 (IntKind.i64.wrap (x12 + 1))) (fun h => I6 a1 a2 h) h)) h)) (zf22.j8 a1 a2 Q h))) h) h)) h)) (zf22.j8 a1 a2 Q h)) h)) h)

def zf22.j6  (a1 : Option Ptr) (a2 : Int) (Q : Int → Int → Heap → Prop) (h : Heap) : Prop :=
  ∀ I : (Option Ptr) → Int → Heap → Prop, (∀ a1 a2 h, zf22.b6  I a1 a2 Q h → I a1 a2 h) → I a1 a2 h

def zf22 (a1 : Option Ptr) (a2 : Int) (Q : Int → Int → Heap → Prop) (h : Heap) : Prop :=
  al [.int .i64 a2] (fun b1 h => zf27 a1 ⟨some ⟨b1, 0⟩, 1, 1⟩ (fun r2 h => br (r2 != 0) (Q 0 r2 h) (der a1 (fun p3 => ix a2 17 (fun n4 => rdI .i64 ((p3.add 4).add (n4 * 1)) (fun x5 => der a1 (fun p6 => ix a2 17 (fun n7 => rdI .i64 ((p6.add 21).add (n7 * 1)) (fun x8 => br (decide (x5 ≥ x8)) (Q 0 19 h) (zf22.j6 a1 a2 Q h)) h))) h)))) h) h

def zf58 (a1 : Int) (Q : Bool → Heap → Prop) (h : Heap) : Prop :=
  br (decide (a1 ≥ 1)) (br (decide (a1 ≤ 64)) (Q ((ibits .and .i64 a1 (IntKind.i64.wrap (a1 - 1))) == 0) h) (Q false h)) (Q false h)

def zf51 (a1 : Int) (a2 : Int) (Q : (Option Ptr) → Int → Heap → Prop) (h : Heap) : Prop :=
  zf58 a2 (fun r1 h => br (!r1) (Q none 2 h) (nz 8 (br ((a1.tmod 8) != 0) (Q none 2 h) (br (decide (a1 > 1099511627776)) (Q none 2 h) (al [.int .u64 a1, .int .u64 (IntKind.u64.wrap a2), .int .u64 0, .int .u64 0, .bool false] (fun b2 h => Q (some (⟨b2, 0⟩ : Ptr)) 0 h) h))))) h

def zf19 (a1 : Option Ptr) (Q : Bool → Heap → Prop) (h : Heap) : Prop :=
  br a1.isNone (Q true h) (der a1 (fun p1 => rdM (p1.add 1) (fun x2 => Q x2.isNone h) h))

def zf11 (a1 : Option Ptr) (Q : Int → Heap → Prop) (h : Heap) : Prop :=
  zf19 a1 (fun r1 h => br r1 (Q 0 h) (der a1 (fun p2 => rdI .i64 (p2.add 0) (fun x3 => Q x3 h) h))) h

def zf6.j4   (Q : (Option Ptr) → Int → Heap → Prop) (h : Heap) : Prop :=
  Q none 2 h

def zf6.j5  (a1 : Option Ptr) (a2 : Option Ptr) (a3 : Int) (a4 : Int) (a5 : Option Ptr) (a6 : Int) (Q : (Option Ptr) → Int → Heap → Prop) (h : Heap) : Prop :=
  alM (.int .i64) (fun b1 h => al [.ptr a1, .ptr a2, .int .i64 a3, .int .i64 a4, .ptr a5, .int .i64 a6, .int .i64 0, .map (some b1)] (fun b2 h => Q (some (⟨b2, 0⟩ : Ptr)) 0 h) h) h

def zf6 (a1 : Option Ptr) (a2 : Option Ptr) (a3 : Int) (a4 : Int) (a5 : Option Ptr) (a6 : Int) (Q : (Option Ptr) → Int → Heap → Prop) (h : Heap) : Prop :=
  br a1.isNone (Q none 1 h) (br a2.isNone (Q none 1 h) (br a5.isNone (Q none 1 h) (br (decide (a6 < 1)) (zf6.j4 Q h) (br (decide (a6 > 16)) (zf6.j4 Q h) (br (decide (a3 < 0)) (zf6.j4 Q h) (br (decide (a4 < 0)) (zf6.j4 Q h) (zf11 a2 (fun r1 h => br (decide (a3 > r1)) (zf6.j4 Q h) (zf11 a2 (fun r2 h => br (decide (a4 > (IntKind.i64.wrap (r2 - a3)))) (zf6.j4 Q h) (zf6.j5 a1 a2 a3 a4 a5 a6 Q h)) h)) h)))))))

def zf48.j5   (Q : (Option Ptr) → Heap → Prop) (h : Heap) : Prop :=
  Q none h

def zf48.j16 (I8 : (Option Ptr) → (Option Ptr) → (Option Ptr) → Ptr → Int → Heap → Prop) (I12 : (Option Ptr) → (Option Ptr) → (Option Ptr) → Ptr → Int → Int → Heap → Prop)  (Q : (Option Ptr) → Heap → Prop) (h : Heap) : Prop :=
  Q none h

def zf48.j20 (I8 : (Option Ptr) → (Option Ptr) → (Option Ptr) → Ptr → Int → Heap → Prop)  (Q : (Option Ptr) → Heap → Prop) (h : Heap) : Prop :=
  Q none h

def zf48.j9 (I8 : (Option Ptr) → (Option Ptr) → (Option Ptr) → Ptr → Int → Heap → Prop) (a1 : Option Ptr) (a2 : Option Ptr) (a3 : Option Ptr) (a4 : Ptr) (a5 : Int) (Q : (Option Ptr) → Heap → Prop) (h : Heap) : Prop :=
  I8 a1 a2 a3 a4 (IntKind.i64.wrap (a5 + 1)) h

def zf48.j21 (I8 : (Option Ptr) → (Option Ptr) → (Option Ptr) → Ptr → Int → Heap → Prop) (a1 : Option Ptr) (a2 : Option Ptr) (a3 : Option Ptr) (a4 : Ptr) (a5 : Int) (a6 : Option Ptr) (a7 : Option Ptr) (Q : (Option Ptr) → Heap → Prop) (h : Heap) : Prop :=
  ix a5 2 (fun n1 => wr ((a4.add 5).add (n1 * 1)) (.ptr a6) (fun h => ix a5 2 (fun n2 => wr ((a4.add 7).add (n2 * 1)) (.ptr a7) (fun h => zf48.j9 I8 a1 a2 a3 a4 a5 Q h) h)) h)

def zf48.b12 (I8 : (Option Ptr) → (Option Ptr) → (Option Ptr) → Ptr → Int → Heap → Prop) (I12 : (Option Ptr) → (Option Ptr) → (Option Ptr) → Ptr → Int → Int → Heap → Prop) (a1 : Option Ptr) (a2 : Option Ptr) (a3 : Option Ptr) (a4 : Ptr) (a5 : Int) (a6 : Int) (Q : (Option Ptr) → Heap → Prop) (h : Heap) : Prop :=
  br (decide (a6 < 16)) (zf22 a2 (IntKind.i64.wrap (1 + a5)) (fun r1 r2 h => br (r1 != (IntKind.i64.wrap ((IntKind.i64.wrap (4 + (IntKind.i64.wrap (16 * a5)))) + a6))) (zf48.j16 I8 I12 Q h) (br (r2 != 0) (zf48.j16 I8 I12 Q h) (I12 a1 a2 a3 a4 a5 (IntKind.i64.wrap (a6 + 1)) h))) h) (zf51 0 8 (fun r3 r4 h => zf6 r3 a3 (IntKind.i64.wrap (4 * a5)) 4 a2 (IntKind.i64.wrap (1 + a5)) (fun r5 r6 h => br (r4 != 0) (zf48.j20 I8 Q h) (br (r6 != 0) (zf48.j20 I8 Q h) (br r5.isNone (zf48.j20 I8 Q h) (zf48.j21 I8 a1 a2 a3 a4 a5 r3 r5 Q h)))) h) h)

def zf48.j12 (I8 : (Option Ptr) → (Option Ptr) → (Option Ptr) → Ptr → Int → Heap → Prop) (a1 : Option Ptr) (a2 : Option Ptr) (a3 : Option Ptr) (a4 : Ptr) (a5 : Int) (a6 : Int) (Q : (Option Ptr) → Heap → Prop) (h : Heap) : Prop :=
  ∀ I : (Option Ptr) → (Option Ptr) → (Option Ptr) → Ptr → Int → Int → Heap → Prop, (∀ a1 a2 a3 a4 a5 a6 h, zf48.b12 I8 I a1 a2 a3 a4 a5 a6 Q h → I a1 a2 a3 a4 a5 a6 h) → I a1 a2 a3 a4 a5 a6 h

def zf48.b8  (I8 : (Option Ptr) → (Option Ptr) → (Option Ptr) → Ptr → Int → Heap → Prop) (a1 : Option Ptr) (a2 : Option Ptr) (a3 : Option Ptr) (a4 : Ptr) (a5 : Int) (Q : (Option Ptr) → Heap → Prop) (h : Heap) : Prop :=
  br (decide (a5 < 2)) (al [.ptr a1, .int .i64 (IntKind.i64.wrap (4 + (IntKind.i64.wrap (16 * a5)))), .int .i64 16] (fun b1 h => ix a5 2 (fun n2 => wr ((a4.add 3).add (n2 * 1)) (.ptr (some (⟨b1, 0⟩ : Ptr))) (fun h => zf48.j12 I8 a1 a2 a3 a4 a5 0 Q h) h)) h) (Q (some a4) h)

def zf48.j8  (a1 : Option Ptr) (a2 : Option Ptr) (a3 : Option Ptr) (a4 : Ptr) (a5 : Int) (Q : (Option Ptr) → Heap → Prop) (h : Heap) : Prop :=
  ∀ I : (Option Ptr) → (Option Ptr) → (Option Ptr) → Ptr → Int → Heap → Prop, (∀ a1 a2 a3 a4 a5 h, zf48.b8  I a1 a2 a3 a4 a5 Q h → I a1 a2 a3 a4 a5 h) → I a1 a2 a3 a4 a5 h

def zf48.j6  (a1 : Option Ptr) (a2 : Option Ptr) (a3 : Option Ptr) (Q : (Option Ptr) → Heap → Prop) (h : Heap) : Prop :=
  al [.ptr a1, .ptr a2, .ptr a3, .ptr none, .ptr none, .ptr none, .ptr none, .ptr none, .ptr none] (fun b1 h => zf48.j8 a1 a2 a3 (⟨b1, 0⟩ : Ptr) 0 Q h) h

def zf48  (Q : (Option Ptr) → Heap → Prop) (h : Heap) : Prop :=
  zf40 40 (fun r1 r2 h => zf29 40 4 (fun r3 r4 h => zf21 12 (fun r5 r6 h => br (r2 != 0) (zf48.j5 Q h) (br (r4 != 0) (zf48.j5 Q h) (br (r6 != 0) (zf48.j5 Q h) (br r1.isNone (zf48.j5 Q h) (br r3.isNone (zf48.j5 Q h) (br r5.isNone (zf48.j5 Q h) (zf48.j6 r1 r3 r5 Q h))))))) h) h) h

def zf36 (a1 : Option Ptr) (Q : Bool → Heap → Prop) (h : Heap) : Prop :=
  br a1.isNone (Q true h) (der a1 (fun p1 => rdSl (p1.add 0) (fun x2 => Q x2.p.isNone h) h))

def zf39 (a1 : Ptr) (a2 : Ptr) (a3 : Ptr) (Q : Bool → Heap → Prop) (h : Heap) : Prop :=
  rdI .i64 a1 (fun x1 => rdP a2 (fun x2 => der x2 (fun p3 => rdSl (p3.add 0) (fun x4 => br (decide (x1 ≤ ((x4.len : Nat) : Int))) (rdI .u64 a3 (fun x5 => rdP a2 (fun x6 => der x6 (fun p7 => rdSl (p7.add 0) (fun x8 => rdI .i64 a1 (fun x9 => Q (decide (x5 ≤ (IntKind.u64.wrap (IntKind.i64.wrap (((x8.len : Nat) : Int) - x9))))) h) h) h)) h) h) (Q false h)) h)) h) h

def zf38 (a1 : Option Ptr) (a2 : Int) (a3 : Int) (Q : Sl → Int → Heap → Prop) (h : Heap) : Prop :=
  al [.ptr a1] (fun b1 h => al [.int .u64 a2] (fun b2 h => al [.int .i64 a3] (fun b3 h => rdP (⟨b1, 0⟩ : Ptr) (fun x4 => zf36 x4 (fun r5 h => br r5 (Q ⟨none, 0, 0⟩ 1 h) (rdI .i64 (⟨b3, 0⟩ : Ptr) (fun x6 => br (decide (x6 < 0)) (Q ⟨none, 0, 0⟩ 2 h) (zf39 (⟨b3, 0⟩ : Ptr) (⟨b1, 0⟩ : Ptr) (⟨b2, 0⟩ : Ptr) (fun r7 h => br (!r7) (Q ⟨none, 0, 0⟩ 12 h) (rdI .u64 (⟨b2, 0⟩ : Ptr) (fun x8 => rdI .i64 (⟨b3, 0⟩ : Ptr) (fun x9 => rdP (⟨b1, 0⟩ : Ptr) (fun x10 => der x10 (fun p11 => rdSl (p11.add 0) (fun x12 => rdI .u64 (⟨b2, 0⟩ : Ptr) (fun x13 => sb (IntKind.i64.wrap ((IntKind.i64.wrap x8) + x9)) x12.cap (fun n14 => sb (IntKind.i64.wrap ((IntKind.i64.wrap x8) + x9)) n14 (fun n15 => sb x13 n15 (fun n16 => Q ⟨slp x12.p (n16 * 1) n16 n14, n15 - n16, n14 - n16⟩ 0 h)))) h) h)) h) h) h)) h)) h)) h) h) h) h) h

def zf34 (a1 : Option Ptr) (a2 : Int) (a3 : Sl) (Q : Int → Heap → Prop) (h : Heap) : Prop :=
  zf38 a1 a2 ((a3.len : Nat) : Int) (fun r1 r2 h => br (r2 == 0) (cellsS 1 a3 (fun cs3 => copyS 1 r1 cs3 a3.len (fun x4 h => Q r2 h) h) h) (Q r2 h)) h

def zf45.j2   (Q : Int → Heap → Prop) (h : Heap) : Prop :=
  Q 12 h

def zf45 (a1 : Option Ptr) (a2 : Int) (a3 : Sl) (Q : Int → Heap → Prop) (h : Heap) : Prop :=
  der a1 (fun p1 => rdI .i64 (p1.add 2) (fun x2 => br (decide (a2 > (IntKind.u64.wrap (IntKind.i64.wrap (256 * x2))))) (zf45.j2 Q h) (der a1 (fun p3 => rdI .i64 (p3.add 2) (fun x4 => br (decide ((IntKind.u64.wrap ((a3.len : Nat) : Int)) > (IntKind.u64.wrap ((IntKind.u64.wrap (IntKind.i64.wrap (256 * x4))) - a2)))) (zf45.j2 Q h) (der a1 (fun p5 => rdP (p5.add 0) (fun x6 => der a1 (fun p7 => rdI .i64 (p7.add 1) (fun x8 => zf34 x6 (IntKind.u64.wrap (a2 + (IntKind.u64.wrap (IntKind.i64.wrap (256 * x8))))) a3 (fun r9 h => Q r9 h) h) h)) h))) h))) h)

def zf37.j5  (a1 : Option Ptr) (a2 : Int) (a3 : Int) (Q : Sl → Int → Heap → Prop) (h : Heap) : Prop :=
  nz (IntKind.u64.wrap a3) (br ((a2.tmod (IntKind.u64.wrap a3)) != 0) (Q ⟨none, 0, 0⟩ 11 h) (zf38 a1 a2 a3 (fun r1 r2 h => Q r1 r2 h) h))

def zf37 (a1 : Option Ptr) (a2 : Int) (a3 : Int) (Q : Sl → Int → Heap → Prop) (h : Heap) : Prop :=
  zf36 a1 (fun r1 h => br r1 (Q ⟨none, 0, 0⟩ 1 h) (br (a3 != 1) (br (a3 != 4) (br (a3 != 8) (Q ⟨none, 0, 0⟩ 2 h) (zf37.j5 a1 a2 a3 Q h)) (zf37.j5 a1 a2 a3 Q h)) (zf37.j5 a1 a2 a3 Q h))) h

def zf68.j6 (U : Ifc) (I2 : Int → Int → Int → Int → Int → Int → Heap → Prop) (a1 : Int) (a2 : Int) (a3 : Int) (a4 : Int) (a5 : Int) (a6 : Int) (Q : Bool → Heap → Prop) (h : Heap) : Prop :=
  I2 a1 a2 a3 a4 a5 (IntKind.i64.wrap (a6 + 1)) h

def zf68.b2 (U : Ifc)  (I2 : Int → Int → Int → Int → Int → Int → Heap → Prop) (a1 : Int) (a2 : Int) (a3 : Int) (a4 : Int) (a5 : Int) (a6 : Int) (Q : Bool → Heap → Prop) (h : Heap) : Prop :=
  br (decide (a6 < 4)) (ix a6 4 (fun n1 => ∃ x3, ([.int .i64 a2, .int .i64 a3, .int .i64 a4, .int .i64 a5] : List V)[n1 * 1]? = some (.int .i64 x3) ∧ br (x3 == a1) (br (decide (x3 > 0)) (Q true h) (zf68.j6 U I2 a1 a2 a3 a4 a5 a6 Q h)) (zf68.j6 U I2 a1 a2 a3 a4 a5 a6 Q h))) (Q false h)

def zf68.j2 (U : Ifc)  (a1 : Int) (a2 : Int) (a3 : Int) (a4 : Int) (a5 : Int) (a6 : Int) (Q : Bool → Heap → Prop) (h : Heap) : Prop :=
  ∀ I : Int → Int → Int → Int → Int → Int → Heap → Prop, (∀ a1 a2 a3 a4 a5 a6 h, zf68.b2 U  I a1 a2 a3 a4 a5 a6 Q h → I a1 a2 a3 a4 a5 a6 h) → I a1 a2 a3 a4 a5 a6 h

def zf68 (U : Ifc) (a1 : Int) (Q : Bool → Heap → Prop) (h : Heap) : Prop :=
  rdI .i64 ((⟨U.glob 1, 0⟩ : Ptr).add 0) (fun x1 => rdI .i64 ((⟨U.glob 1, 0⟩ : Ptr).add 1) (fun x2 => rdI .i64 ((⟨U.glob 1, 0⟩ : Ptr).add 2) (fun x3 => rdI .i64 ((⟨U.glob 1, 0⟩ : Ptr).add 3) (fun x4 => zf68.j2 U a1 x1 x2 x3 x4 0 Q h) h) h) h) h

def zf67.b5 (U : Ifc)  (I5 : Int → Sl → Int → Int → Heap → Prop) (a1 : Int) (a2 : Sl) (a3 : Int) (a4 : Int) (Q : Sl → Heap → Prop) (h : Heap) : Prop :=
  br (decide (a4 < a3)) (nneg (IntKind.i64.wrap (8 * a4)) (ix a4 a2.len (fun n1 => der a2.p (fun p2 => wr (p2.add (n1 * 1)) (.int .u8 (IntKind.u8.wrap (shrI .u64 a1 (IntKind.i64.wrap (8 * a4))))) (fun h => I5 a1 a2 a3 (IntKind.i64.wrap (a4 + 1)) h) h)))) (Q a2 h)

def zf67.j5 (U : Ifc)  (a1 : Int) (a2 : Sl) (a3 : Int) (a4 : Int) (Q : Sl → Heap → Prop) (h : Heap) : Prop :=
  ∀ I : Int → Sl → Int → Int → Heap → Prop, (∀ a1 a2 a3 a4 h, zf67.b5 U  I a1 a2 a3 a4 Q h → I a1 a2 a3 a4 h) → I a1 a2 a3 a4 h

def zf67 (U : Ifc) (a1 : Int) (a2 : Int) (Q : Sl → Heap → Prop) (h : Heap) : Prop :=
  zf68 U a2 (fun r1 h => br (!r1) (Q ⟨none, 0, 0⟩ h) (mkSl 1 [.int .u8 0] a2 a2 (fun s2 h => zf67.j5 U a1 s2 ((s2.len : Nat) : Int) 0 Q h) h)) h

def zf35 (U : Ifc) (a1 : Option Ptr) (a2 : Int) (a3 : Int) (a4 : Int) (Q : Int → Heap → Prop) (h : Heap) : Prop :=
  zf37 a1 a2 a3 (fun r1 r2 h => br (r2 == 0) (zf67 U a4 a3 (fun r3 h => cellsS 1 r3 (fun cs4 => copyS 1 r1 cs4 r3.len (fun x5 h => Q r2 h) h) h) h) (Q r2 h)) h

def zf46 (U : Ifc) (a1 : Option Ptr) (a2 : Int) (a3 : Int) (a4 : Int) (Q : Int → Heap → Prop) (h : Heap) : Prop :=
  der a1 (fun p1 => rdI .i64 (p1.add 2) (fun x2 => br (decide (a2 ≥ (IntKind.u64.wrap (IntKind.i64.wrap (256 * x2))))) (Q 12 h) (der a1 (fun p3 => rdP (p3.add 0) (fun x4 => der a1 (fun p5 => rdI .i64 (p5.add 1) (fun x6 => zf35 U x4 (IntKind.u64.wrap (a2 + (IntKind.u64.wrap (IntKind.i64.wrap (256 * x6))))) a3 a4 (fun r7 h => Q r7 h) h) h)) h))) h)

def zf50 (U : Ifc) (a1 : Option Ptr) (a2 : Int) (a3 : Int) (a4 : Int) (Q : Sl → Heap → Prop) (h : Heap) : Prop :=
  zf46 U a1 1024 8 a2 (fun r1 h => zf46 U a1 1032 8 a3 (fun r2 h => zf46 U a1 1096 8 8608480567731124087 (fun r3 h => al [.int .u64 1024, .int .i64 16, .bool false, .int .u64 (IntKind.u64.wrap (IntKind.i64.wrap (256 * a4))), .int .i64 256, .bool (a2 == 0), .int .u64 1100, .int .i64 1, .bool true] (fun b4 h => Q ⟨some ⟨b4, 0⟩, 3, 3⟩ h) h) h) h) h

def zf49.j2 (U : Ifc) (I1 : (Option Ptr) → Int → Sl → Int → Heap → Prop) (a1 : Option Ptr) (a2 : Int) (a3 : Sl) (a4 : Int) (Q : Heap → Prop) (h : Heap) : Prop :=
  I1 a1 a2 a3 (IntKind.i64.wrap (a4 + 1)) h

def zf49.j12 (U : Ifc) (I1 : (Option Ptr) → Int → Sl → Int → Heap → Prop) (a1 : Option Ptr) (a2 : Int) (a3 : Sl) (a4 : Int) (a5 : Int) (Q : Heap → Prop) (h : Heap) : Prop :=
  zf46 U a1 (IntKind.u64.wrap (a5 + 24)) 8 (IntKind.u64.wrap (IntKind.i64.wrap (a4 + 1))) (fun r1 h => zf49.j2 U I1 a1 a2 a3 a4 Q h) h

def zf49.j8 (U : Ifc) (I1 : (Option Ptr) → Int → Sl → Int → Heap → Prop) (a1 : Option Ptr) (a2 : Int) (a3 : Sl) (a4 : Int) (a5 : Int) (Q : Heap → Prop) (h : Heap) : Prop :=
  ix a4 a3.len (fun n1 => der a3.p (fun p2 => rdI .u64 ((p2.add (n1 * 3)).add 0) (fun x3 => zf46 U a1 (IntKind.u64.wrap (32 * (IntKind.u64.wrap a4))) 8 x3 (fun r4 h => ix a4 a3.len (fun n5 => der a3.p (fun p6 => rdI .i64 ((p6.add (n5 * 3)).add 1) (fun x7 => zf46 U a1 (IntKind.u64.wrap ((IntKind.u64.wrap (32 * (IntKind.u64.wrap a4))) + 8)) 8 (IntKind.u64.wrap x7) (fun r8 h => zf46 U a1 (IntKind.u64.wrap ((IntKind.u64.wrap (32 * (IntKind.u64.wrap a4))) + 16)) 8 a5 (fun r9 h => zf49.j12 U I1 a1 a2 a3 a4 (IntKind.u64.wrap (32 * (IntKind.u64.wrap a4))) Q h) h) h) h))) h) h))

def zf49.j6 (U : Ifc) (I1 : (Option Ptr) → Int → Sl → Int → Heap → Prop) (a1 : Option Ptr) (a2 : Int) (a3 : Sl) (a4 : Int) (a5 : Int) (Q : Heap → Prop) (h : Heap) : Prop :=
  br (decide ((IntKind.i64.wrap (a4 + 1)) < ((a3.len : Nat) : Int))) (br (decide (a4 < 7)) (zf49.j8 U I1 a1 a2 a3 a4 (IntKind.u64.wrap (a5 + 1)) Q h) (zf49.j8 U I1 a1 a2 a3 a4 a5 Q h)) (zf49.j8 U I1 a1 a2 a3 a4 a5 Q h)

def zf49.b1 (U : Ifc)  (I1 : (Option Ptr) → Int → Sl → Int → Heap → Prop) (a1 : Option Ptr) (a2 : Int) (a3 : Sl) (a4 : Int) (Q : Heap → Prop) (h : Heap) : Prop :=
  br (decide (a4 < ((a3.len : Nat) : Int))) (br (decide (a4 < 8)) (ix a4 a3.len (fun n1 => der a3.p (fun p2 => rdB ((p2.add (n1 * 3)).add 2) (fun x3 => br x3 (zf49.j6 U I1 a1 a2 a3 a4 2 Q h) (zf49.j6 U I1 a1 a2 a3 a4 0 Q h)) h))) (nz 8 (zf46 U a1 (IntKind.u64.wrap (264 + (IntKind.u64.wrap (8 * (IntKind.u64.wrap (a2.tmod 8)))))) 8 0 (fun r4 h => zf46 U a1 256 8 (IntKind.u64.wrap (IntKind.i64.wrap (a2 + 1))) (fun r5 h => Q h) h) h))) (nz 8 (zf46 U a1 (IntKind.u64.wrap (264 + (IntKind.u64.wrap (8 * (IntKind.u64.wrap (a2.tmod 8)))))) 8 0 (fun r6 h => zf46 U a1 256 8 (IntKind.u64.wrap (IntKind.i64.wrap (a2 + 1))) (fun r7 h => Q h) h) h))

def zf49.j1 (U : Ifc)  (a1 : Option Ptr) (a2 : Int) (a3 : Sl) (a4 : Int) (Q : Heap → Prop) (h : Heap) : Prop :=
  ∀ I : (Option Ptr) → Int → Sl → Int → Heap → Prop, (∀ a1 a2 a3 a4 h, zf49.b1 U  I a1 a2 a3 a4 Q h → I a1 a2 a3 a4 h) → I a1 a2 a3 a4 h

def zf49 (U : Ifc) (a1 : Option Ptr) (a2 : Int) (a3 : Sl) (Q : Heap → Prop) (h : Heap) : Prop :=
  zf49.j1 U a1 a2 a3 0 Q h

def zf4 (a1 : Option Ptr) (a2 : V) (Q : Bool → Heap → Prop) (h : Heap) : Prop :=
  br a1.isNone (Q true h) (der a1 (fun p1 => rdM (p1.add 7) (fun x2 => br x2.isNone (Q true h) (isNil a2 (fun c3 => Q c3 h))) h))

def zf55 (a1 : Option Ptr) (a2 : V) (Q : Int → Heap → Prop) (h : Heap) : Prop :=
  br a1.isNone (Q 1 h) (der a1 (fun p1 => rdI .u64 (p1.add 1) (fun x2 => br (x2 == 0) (Q 1 h) (isNil a2 (fun c3 => br c3 (Q 1 h) (der a1 (fun p4 => rdB (p4.add 4) (fun x5 => br x5 (Q 22 h) (Q 0 h)) h))))) h))

def zf56 (U : Ifc) (a1 : Option Ptr) (a2 : Int) (Q : Int → Heap → Prop) (h : Heap) : Prop :=
  der a1 (fun p1 => rdV (p1.add 0) (fun x2 => U.inv x2 "Load" [.int .u64 a2, .int .i64 8] (fun r3 h => asTupV r3 (fun l4 => asCons l4 (fun v5 l6 => asI .u64 v5 (fun x7 => asCons l6 (fun v8 l9 => asI .i64 v8 (fun x10 => asNil l9 (der a1 (fun p11 => rdB (p11.add 1) (fun x12 => br x12 (der a1 (fun p13 => wr (p13.add 1) (.bool true) (fun h => Q x7 h) h)) (der a1 (fun p14 => wr (p14.add 1) (.bool (x10 != 0)) (fun h => Q x7 h) h))) h)))))))) h) h)

def zf57.j7 (U : Ifc) (I3 : (Option Ptr) → Int → Ptr → Ptr → Int → Heap → Prop) (a1 : Option Ptr) (a2 : Int) (a3 : Ptr) (a4 : Ptr) (a5 : Int) (Q : Int → Int → Bool → Int → Bool → Heap → Prop) (h : Heap) : Prop :=
  I3 a1 a2 a3 a4 (IntKind.i64.wrap (a5 + 1)) h

def zf57.j9 (U : Ifc)  (a1 : Option Ptr) (a2 : Ptr) (Q : Int → Int → Bool → Int → Bool → Heap → Prop) (h : Heap) : Prop :=
  der a1 (fun p1 => wr (p1.add 1) (.bool true) (fun h => wrL [.int .u64 0, .int .i64 0, .bool false] a2 0 (fun h => rdI .u64 (a2.add 0) (fun x2 => rdI .i64 (a2.add 1) (fun x3 => rdB (a2.add 2) (fun x4 => Q x2 x3 x4 0 false h) h) h) h) h) h)

def zf57.b3 (U : Ifc)  (I3 : (Option Ptr) → Int → Ptr → Ptr → Int → Heap → Prop) (a1 : Option Ptr) (a2 : Int) (a3 : Ptr) (a4 : Ptr) (a5 : Int) (Q : Int → Int → Bool → Int → Bool → Heap → Prop) (h : Heap) : Prop :=
  br (decide (a5 < 4)) (der a1 (fun p1 => rdB (p1.add 1) (fun x2 => br (!x2) (zf56 U a1 (IntKind.u64.wrap (a2 + (IntKind.u64.wrap (8 * (IntKind.u64.wrap a5))))) (fun r3 h => ix a5 4 (fun n4 => wr (a4.add (n4 * 1)) (.int .u64 r3) (fun h => zf57.j7 U I3 a1 a2 a3 a4 a5 Q h) h)) h) (zf57.j7 U I3 a1 a2 a3 a4 a5 Q h)) h)) (ix 1 4 (fun n5 => rdI .u64 (a4.add (n5 * 1)) (fun x6 => br (decide (x6 < 1)) (zf57.j9 U a1 a3 Q h) (ix 1 4 (fun n7 => rdI .u64 (a4.add (n7 * 1)) (fun x8 => br (decide (x8 > 4096)) (zf57.j9 U a1 a3 Q h) (ix 2 4 (fun n9 => rdI .u64 (a4.add (n9 * 1)) (fun x10 => br (decide (x10 > 3)) (zf57.j9 U a1 a3 Q h) (ix 0 4 (fun n11 => rdI .u64 (a4.add (n11 * 1)) (fun x12 => ix 1 4 (fun n13 => rdI .u64 (a4.add (n13 * 1)) (fun x14 => br (decide (x12 > (IntKind.u64.wrap (1099511627776 - x14)))) (zf57.j9 U a1 a3 Q h) (ix 0 4 (fun n15 => rdI .u64 (a4.add (n15 * 1)) (fun x16 => ix 1 4 (fun n17 => rdI .u64 (a4.add (n17 * 1)) (fun x18 => ix 2 4 (fun n19 => rdI .u64 (a4.add (n19 * 1)) (fun x20 => ix 3 4 (fun n21 => rdI .u64 (a4.add (n21 * 1)) (fun x22 => ix 2 4 (fun n23 => rdI .u64 (a4.add (n23 * 1)) (fun x24 => ck (a4.add (n23 * 1)) [.int .u64 x24] 0 h ∧ ck (a4.add (n21 * 1)) [.int .u64 x22] 0 h ∧ wrL [.int .u64 x16, .int .i64 (IntKind.i64.wrap x18), .bool ((ibits .and .u64 x20 2) != 0)] a3 0 (fun h => ck (a4.add (n23 * 1)) [.int .u64 x24] 0 h ∧ ck (a4.add (n21 * 1)) [.int .u64 x22] 0 h ∧ (rdI .u64 (a3.add 0) (fun x25 => rdI .i64 (a3.add 1) (fun x26 => rdB (a3.add 2) (fun x27 => Q x25 x26 x27 x22 ((ibits .and .u64 x24 1) != 0) h) h) h) h)) h) h)) h)) h)) h)) h))) h)) h))) h))) h))) h))

def zf57.j3 (U : Ifc)  (a1 : Option Ptr) (a2 : Int) (a3 : Ptr) (a4 : Ptr) (a5 : Int) (Q : Int → Int → Bool → Int → Bool → Heap → Prop) (h : Heap) : Prop :=
  ∀ I : (Option Ptr) → Int → Ptr → Ptr → Int → Heap → Prop, (∀ a1 a2 a3 a4 a5 h, zf57.b3 U  I a1 a2 a3 a4 a5 Q h → I a1 a2 a3 a4 a5 h) → I a1 a2 a3 a4 a5 h

def zf57 (U : Ifc) (a1 : Option Ptr) (a2 : Int) (Q : Int → Int → Bool → Int → Bool → Heap → Prop) (h : Heap) : Prop :=
  al [.int .u64 0, .int .i64 0, .bool false] (fun b1 h => al [.int .u64 0, .int .u64 0, .int .u64 0, .int .u64 0] (fun b2 h => zf57.j3 U a1 a2 (⟨b1, 0⟩ : Ptr) (⟨b2, 0⟩ : Ptr) 0 Q h) h) h

def zf54.j9 (U : Ifc) (I3 : (Option Ptr) → (Option Ptr) → Int → Ptr → Bool → Int → Int → Int → Heap → Prop) (a1 : Ptr) (Q : Int → Sl → Bool → Heap → Prop) (h : Heap) : Prop :=
  wrL [.int .i64 0, .sl ⟨none, 0, 0⟩] a1 0 (fun h => rdI .i64 (a1.add 0) (fun x1 => rdSl (a1.add 1) (fun x2 => Q x1 x2 false h) h) h) h

def zf54.j10 (U : Ifc) (I3 : (Option Ptr) → (Option Ptr) → Int → Ptr → Bool → Int → Int → Int → Heap → Prop) (a1 : Option Ptr) (a2 : Option Ptr) (a3 : Int) (a4 : Ptr) (a5 : Ptr) (a6 : Int) (a7 : Bool) (a8 : Int) (a9 : Int) (Q : Int → Sl → Bool → Heap → Prop) (h : Heap) : Prop :=
  rdSl (a4.add 1) (fun x1 => rdI .u64 (a5.add 0) (fun x2 => rdI .i64 (a5.add 1) (fun x3 => rdB (a5.add 2) (fun x4 => al [.int .u64 x2, .int .i64 x3, .bool x4] (fun b5 h => rdN (1 * 3) (⟨b5, 0⟩ : Ptr) (fun cs7 => appS 3 24 [.int .u64 0, .int .i64 0, .bool false] x1 cs7 1 (fun s6 h => wr (a4.add 1) (.sl s6) (fun h => br (!a7) (wr (a4.add 0) (.int .i64 (IntKind.i64.wrap a3)) (fun h => rdI .i64 (a4.add 0) (fun x8 => rdSl (a4.add 1) (fun x9 => wrL [.int .i64 x8, .sl x9] a4 0 (fun h => rdI .i64 (a4.add 0) (fun x10 => rdSl (a4.add 1) (fun x11 => Q x10 x11 (!a7) h) h) h) h) h) h) h) (I3 a1 a2 a3 a4 (!a7) a6 a8 (IntKind.u64.wrap (a9 + 1)) h)) h) h) h) h) h) h) h) h

def zf54.j8 (U : Ifc) (I3 : (Option Ptr) → (Option Ptr) → Int → Ptr → Bool → Int → Int → Int → Heap → Prop) (a1 : Option Ptr) (a2 : Option Ptr) (a3 : Int) (a4 : Ptr) (a5 : Ptr) (a6 : Int) (a7 : Bool) (a8 : Int) (a9 : Int) (a10 : Int) (Q : Int → Sl → Bool → Heap → Prop) (h : Heap) : Prop :=
  der a2 (fun p1 => rdB (p1.add 1) (fun x2 => br x2 (zf54.j9 U I3 a4 Q h) (br (decide (a8 > 0)) (rdSl (a4.add 1) (fun x3 => ix (IntKind.i64.wrap (a8 - 1)) x3.len (fun n4 => der x3.p (fun p5 => rdB ((p5.add (n4 * 3)).add 2) (fun x6 => br x6 (rdB (a5.add 2) (fun x7 => br (!x7) (zf54.j9 U I3 a4 Q h) (zf54.j10 U I3 a1 a2 a3 a4 a5 a6 a7 a9 a10 Q h)) h) (zf54.j10 U I3 a1 a2 a3 a4 a5 a6 a7 a9 a10 Q h)) h))) h) (zf54.j10 U I3 a1 a2 a3 a4 a5 a6 a7 a9 a10 Q h))) h)

def zf54.b3 (U : Ifc)  (I3 : (Option Ptr) → (Option Ptr) → Int → Ptr → Bool → Int → Int → Int → Heap → Prop) (a1 : Option Ptr) (a2 : Option Ptr) (a3 : Int) (a4 : Ptr) (a5 : Bool) (a6 : Int) (a7 : Int) (a8 : Int) (Q : Int → Sl → Bool → Heap → Prop) (h : Heap) : Prop :=
  br (decide (a8 < a7)) (der a1 (fun p1 => rdI .u64 (p1.add 1) (fun x2 => br (decide (a6 ≥ x2)) (wrL [.int .i64 0, .sl ⟨none, 0, 0⟩] a4 0 (fun h => rdI .i64 (a4.add 0) (fun x3 => rdSl (a4.add 1) (fun x4 => Q x3 x4 false h) h) h) h) (der a1 (fun p5 => rdI .u64 (p5.add 0) (fun x6 => zf57 U a2 (IntKind.u64.wrap (x6 + (IntKind.u64.wrap (32 * a6)))) (fun r7 r8 r9 r10 r11 h => al [.int .u64 0, .int .i64 0, .bool false] (fun b12 h => wrL [.int .u64 r7, .int .i64 r8, .bool r9] (⟨b12, 0⟩ : Ptr) 0 (fun h => rdSl (a4.add 1) (fun x13 => zf54.j8 U I3 a1 a2 a3 a4 (⟨b12, 0⟩ : Ptr) r10 r11 ((x13.len : Nat) : Int) a7 a8 Q h) h) h) h) h) h))) h)) (wr (a4.add 0) (.int .i64 (IntKind.i64.wrap a3)) (fun h => rdI .i64 (a4.add 0) (fun x14 => rdSl (a4.add 1) (fun x15 => wrL [.int .i64 x14, .sl x15] a4 0 (fun h => rdI .i64 (a4.add 0) (fun x16 => rdSl (a4.add 1) (fun x17 => Q x16 x17 a5 h) h) h) h) h) h) h)

def zf54.j3 (U : Ifc)  (a1 : Option Ptr) (a2 : Option Ptr) (a3 : Int) (a4 : Ptr) (a5 : Bool) (a6 : Int) (a7 : Int) (a8 : Int) (Q : Int → Sl → Bool → Heap → Prop) (h : Heap) : Prop :=
  ∀ I : (Option Ptr) → (Option Ptr) → Int → Ptr → Bool → Int → Int → Int → Heap → Prop, (∀ a1 a2 a3 a4 a5 a6 a7 a8 h, zf54.b3 U  I a1 a2 a3 a4 a5 a6 a7 a8 Q h → I a1 a2 a3 a4 a5 a6 a7 a8 h) → I a1 a2 a3 a4 a5 a6 a7 a8 h

def zf54 (U : Ifc) (a1 : Option Ptr) (a2 : Option Ptr) (a3 : Int) (Q : Int → Sl → Bool → Heap → Prop) (h : Heap) : Prop :=
  al [.int .i64 0, .sl ⟨none, 0, 0⟩] (fun b1 h => der a1 (fun p2 => rdI .u64 (p2.add 1) (fun x3 => zf54.j3 U a1 a2 a3 (⟨b1, 0⟩ : Ptr) false a3 x3 0 Q h) h)) h

def zf52.j11 (U : Ifc)  (a1 : Option Ptr) (a2 : Ptr) (a3 : Ptr) (a4 : Int) (Q : Int → Sl → Bool → Int → Heap → Prop) (h : Heap) : Prop :=
  rdB (a3.add 1) (fun x1 => br (!x1) (zf54 U a1 (some a3) a4 (fun r2 r3 r4 h => al [.int .i64 0, .sl ⟨none, 0, 0⟩] (fun b5 h => wrL [.int .i64 r2, .sl r3] (⟨b5, 0⟩ : Ptr) 0 (fun h => br r4 (der a1 (fun p6 => rdI .u64 (p6.add 2) (fun x7 => der a1 (fun p8 => wr (p8.add 2) (.int .u64 (IntKind.u64.wrap (x7 + 1))) (fun h => rdI .i64 ((⟨b5, 0⟩ : Ptr).add 0) (fun x9 => rdSl ((⟨b5, 0⟩ : Ptr).add 1) (fun x10 => wrL [.int .i64 x9, .sl x10] a2 0 (fun h => rdI .i64 (a2.add 0) (fun x11 => rdSl (a2.add 1) (fun x12 => Q x11 x12 true 0 h) h) h) h) h) h) h)) h)) (der a1 (fun p13 => wr (p13.add 4) (.bool true) (fun h => wrL [.int .i64 0, .sl ⟨none, 0, 0⟩] a2 0 (fun h => rdI .i64 (a2.add 0) (fun x14 => rdSl (a2.add 1) (fun x15 => Q x14 x15 false 22 h) h) h) h) h))) h) h) h) (der a1 (fun p16 => wr (p16.add 4) (.bool true) (fun h => wrL [.int .i64 0, .sl ⟨none, 0, 0⟩] a2 0 (fun h => rdI .i64 (a2.add 0) (fun x17 => rdSl (a2.add 1) (fun x18 => Q x17 x18 false 22 h) h) h) h) h))) h

def zf52.j9 (U : Ifc)  (a1 : Option Ptr) (a2 : Ptr) (a3 : Ptr) (a4 : Int) (a5 : Int) (Q : Int → Sl → Bool → Int → Heap → Prop) (h : Heap) : Prop :=
  rdB (a3.add 1) (fun x1 => br (!x1) (der a1 (fun p2 => rdI .u64 (p2.add 2) (fun x3 => der a1 (fun p4 => rdI .u64 (p4.add 1) (fun x5 => br (decide ((IntKind.u64.wrap (a5 - x3)) ≤ x5)) (der a1 (fun p6 => rdI .u64 (p6.add 2) (fun x7 => der a1 (fun p8 => rdI .u64 (p8.add 1) (fun x9 => nz x9 (zf56 U (some a3) (IntKind.u64.wrap (a4 + (IntKind.u64.wrap (8 * (IntKind.u64.wrap (1 + (x7.tmod x9))))))) (fun r10 h => zf52.j11 U a1 a2 a3 r10 Q h) h)) h)) h)) (der a1 (fun p11 => wr (p11.add 4) (.bool true) (fun h => wrL [.int .i64 0, .sl ⟨none, 0, 0⟩] a2 0 (fun h => rdI .i64 (a2.add 0) (fun x12 => rdSl (a2.add 1) (fun x13 => Q x12 x13 false 22 h) h) h) h) h))) h)) h)) (der a1 (fun p14 => wr (p14.add 4) (.bool true) (fun h => wrL [.int .i64 0, .sl ⟨none, 0, 0⟩] a2 0 (fun h => rdI .i64 (a2.add 0) (fun x15 => rdSl (a2.add 1) (fun x16 => Q x15 x16 false 22 h) h) h) h) h))) h

def zf52.j7 (U : Ifc)  (a1 : Option Ptr) (a2 : Ptr) (a3 : Ptr) (a4 : Int) (a5 : Int) (Q : Int → Sl → Bool → Int → Heap → Prop) (h : Heap) : Prop :=
  rdB (a3.add 1) (fun x1 => br (!x1) (der a1 (fun p2 => rdI .u64 (p2.add 2) (fun x3 => br (a5 == x3) (wrL [.int .i64 0, .sl ⟨none, 0, 0⟩] a2 0 (fun h => rdI .i64 (a2.add 0) (fun x4 => rdSl (a2.add 1) (fun x5 => Q x4 x5 false 0 h) h) h) h) (zf52.j9 U a1 a2 a3 a4 a5 Q h)) h)) (zf52.j9 U a1 a2 a3 a4 a5 Q h)) h

def zf52 (U : Ifc) (a1 : Option Ptr) (a2 : V) (Q : Int → Sl → Bool → Int → Heap → Prop) (h : Heap) : Prop :=
  al [.int .i64 0, .sl ⟨none, 0, 0⟩] (fun b1 h => zf55 a1 a2 (fun r2 h => br (r2 != 0) (wrL [.int .i64 0, .sl ⟨none, 0, 0⟩] (⟨b1, 0⟩ : Ptr) 0 (fun h => rdI .i64 ((⟨b1, 0⟩ : Ptr).add 0) (fun x3 => rdSl ((⟨b1, 0⟩ : Ptr).add 1) (fun x4 => Q x3 x4 false r2 h) h) h) h) (chk (V.one a2) (al [a2, .bool false] (fun b5 h => der a1 (fun p6 => rdI .u64 (p6.add 0) (fun x7 => der a1 (fun p8 => rdI .u64 (p8.add 1) (fun x9 => zf56 U (some (⟨b5, 0⟩ : Ptr)) (IntKind.u64.wrap (x7 + (IntKind.u64.wrap (32 * x9)))) (fun r10 h => zf52.j7 U a1 (⟨b1, 0⟩ : Ptr) (⟨b5, 0⟩ : Ptr) (IntKind.u64.wrap (x7 + (IntKind.u64.wrap (32 * x9)))) r10 Q h) h) h)) h)) h))) h) h

def zf7.b2  (I2 : Sl → Int → Int → Heap → Prop) (a1 : Sl) (a2 : Int) (a3 : Int) (Q : Int → Heap → Prop) (h : Heap) : Prop :=
  br (decide (a3 ≥ 0)) (nneg 8 (ix a3 a1.len (fun n1 => der a1.p (fun p2 => rdI .u8 (p2.add (n1 * 1)) (fun x3 => I2 a1 (ibits .or .u64 (shlI .u64 a2 8) (IntKind.u64.wrap x3)) (IntKind.i64.wrap (a3 - 1)) h) h)))) (Q a2 h)

def zf7.j2  (a1 : Sl) (a2 : Int) (a3 : Int) (Q : Int → Heap → Prop) (h : Heap) : Prop :=
  ∀ I : Sl → Int → Int → Heap → Prop, (∀ a1 a2 a3 h, zf7.b2  I a1 a2 a3 Q h → I a1 a2 a3 h) → I a1 a2 a3 h

def zf7 (a1 : Sl) (Q : Int → Heap → Prop) (h : Heap) : Prop :=
  zf7.j2 a1 0 7 Q h

def zf25.j2   (Q : Int → Int → Bool → Heap → Prop) (h : Heap) : Prop :=
  Q 0 0 false h

def zf25 (a1 : Option Ptr) (a2 : Int) (Q : Int → Int → Bool → Heap → Prop) (h : Heap) : Prop :=
  zf26 a1 (fun r1 h => br r1 (zf25.j2 Q h) (der a1 (fun p2 => rdM (p2.add 2) (fun x3 => mapGet (.int .i64) x3 (.int .i64 a2) (fun o4 => asI .i64 (o4.getD (.int .i64 0)) (fun x5 => br (x5 == 0) (zf25.j2 Q h) (der a1 (fun p6 => rdM (p6.add 3) (fun x7 => der a1 (fun p8 => rdM (p8.add 2) (fun x9 => (mapGet (.int .i64) x7 (.int .i64 a2) (fun o10 => asI .i64 (o10.getD (.int .i64 0)) (fun x11 => ck (p8.add 2) [.map x9] 0 h ∧ (mapGet (.int .i64) x9 (.int .i64 a2) (fun o12 => asI .i64 (o12.getD (.int .i64 0)) (fun x13 => Q x11 x13 true h)) h))) h) ∧ (mapGet (.int .i64) x9 (.int .i64 a2) (fun o14 => asI .i64 (o14.getD (.int .i64 0)) (fun x15 => ck (p6.add 3) [.map x7] 0 h ∧ (mapGet (.int .i64) x7 (.int .i64 a2) (fun o16 => asI .i64 (o16.getD (.int .i64 0)) (fun x17 => Q x17 x15 true h)) h))) h)) h)) h)))) h) h))) h

def zf3.j5 (U : Ifc)  (a1 : Ptr) (Q : Int → Bool → Int → Int → Int → Heap → Prop) (h : Heap) : Prop :=
  wrL [.int .i64 0, .bool false, .int .i64 0, .int .i64 0] a1 0 (fun h => rdI .i64 (a1.add 0) (fun x1 => rdB (a1.add 1) (fun x2 => rdI .i64 (a1.add 2) (fun x3 => rdI .i64 (a1.add 3) (fun x4 => Q x1 x2 x3 x4 2 h) h) h) h) h) h

def zf3.j11 (U : Ifc)  (a1 : Ptr) (Q : Int → Bool → Int → Int → Int → Heap → Prop) (h : Heap) : Prop :=
  wrL [.int .i64 0, .bool false, .int .i64 0, .int .i64 0] a1 0 (fun h => rdI .i64 (a1.add 0) (fun x1 => rdB (a1.add 1) (fun x2 => rdI .i64 (a1.add 2) (fun x3 => rdI .i64 (a1.add 3) (fun x4 => Q x1 x2 x3 x4 2 h) h) h) h) h) h

def zf3.j15 (U : Ifc)  (a1 : Ptr) (Q : Int → Bool → Int → Int → Int → Heap → Prop) (h : Heap) : Prop :=
  wrL [.int .i64 0, .bool false, .int .i64 0, .int .i64 0] a1 0 (fun h => rdI .i64 (a1.add 0) (fun x1 => rdB (a1.add 1) (fun x2 => rdI .i64 (a1.add 2) (fun x3 => rdI .i64 (a1.add 3) (fun x4 => Q x1 x2 x3 x4 2 h) h) h) h) h) h

def zf3.j14 (U : Ifc)  (a1 : Option Ptr) (a2 : Ptr) (a3 : Int) (a4 : Int) (a5 : Int) (a6 : Bool) (a7 : Int) (a8 : Bool) (Q : Int → Bool → Int → Int → Int → Heap → Prop) (h : Heap) : Prop :=
  br (!a6) (zf3.j15 U a2 Q h) (br (!a8) (zf3.j15 U a2 Q h) (der a1 (fun p1 => rdI .i64 (p1.add 5) (fun x2 => br (a7 != x2) (zf3.j15 U a2 Q h) (der a1 (fun p3 => rdI .i64 (p3.add 3) (fun x4 => br (decide (a4 ≥ (IntKind.u64.wrap x4))) (wrL [.int .i64 0, .bool false, .int .i64 0, .int .i64 0] a2 0 (fun h => rdI .i64 (a2.add 0) (fun x5 => rdB (a2.add 1) (fun x6 => rdI .i64 (a2.add 2) (fun x7 => rdI .i64 (a2.add 3) (fun x8 => Q x5 x6 x7 x8 1 h) h) h) h) h) h) (der a1 (fun p9 => rdI .i64 (p9.add 5) (fun x10 => nneg 32 (der a1 (fun p11 => rdI .i64 (p11.add 6) (fun x12 => der a1 (fun p13 => rdI .i64 (p13.add 2) (fun x14 => wrL [.int .i64 (IntKind.i64.wrap ((shlI .i64 x10 32) + x12)), .bool (a3 == 1), .int .i64 (IntKind.i64.wrap (x14 + (IntKind.i64.wrap a4))), .int .i64 a5] a2 0 (fun h => rdI .i64 (a2.add 0) (fun x15 => rdB (a2.add 1) (fun x16 => rdI .i64 (a2.add 2) (fun x17 => rdI .i64 (a2.add 3) (fun x18 => Q x15 x16 x17 x18 0 h) h) h) h) h) h) h)) h))) h))) h))) h)))

def zf3.j12 (U : Ifc)  (a1 : Option Ptr) (a2 : V) (a3 : Ptr) (a4 : Ptr) (a5 : Int) (a6 : Int) (Q : Int → Bool → Int → Int → Int → Heap → Prop) (h : Heap) : Prop :=
  rdI .u64 (a4.add 0) (fun x1 => nz 256 (rdB (a4.add 2) (fun x2 => U.inv a2 "Frame" [.int .i64 (IntKind.i64.wrap (IntKind.u64.wrap (x1.tdiv 256))), .bool x2] (fun r3 h => asTupV r3 (fun l4 => asCons l4 (fun v5 l6 => asI .i64 v5 (fun x7 => asCons l6 (fun v8 l9 => asB v8 (fun x10 => asNil l9 (der a1 (fun p11 => rdP (p11.add 4) (fun x12 => zf25 x12 x7 (fun r13 r14 r15 h => zf3.j14 U a1 a3 a5 a6 x7 x10 r13 r15 Q h) h) h)))))))) h) h)) h

def zf3.j6 (U : Ifc)  (a1 : Option Ptr) (a2 : V) (a3 : Ptr) (a4 : Ptr) (a5 : Ptr) (Q : Int → Bool → Int → Int → Int → Heap → Prop) (h : Heap) : Prop :=
  rdI .u64 (a4.add 0) (fun x1 => U.inv a2 "Bytes" [.int .u64 x1, .int .i64 16] (fun r2 h => asTupV r2 (fun l3 => asCons l3 (fun v4 l5 => asSl v4 (fun x6 => asCons l5 (fun v7 l8 => asI .i64 v7 (fun x9 => asNil l8 (br (x9 != 0) (wrL [.int .i64 0, .bool false, .int .i64 0, .int .i64 0] a3 0 (fun h => rdI .i64 (a3.add 0) (fun x10 => rdB (a3.add 1) (fun x11 => rdI .i64 (a3.add 2) (fun x12 => rdI .i64 (a3.add 3) (fun x13 => Q x10 x11 x12 x13 2 h) h) h) h) h) h) (sb 8 x6.len (fun n14 => zf7 x6 (fun r15 h => zf7 ⟨slp x6.p (n14 * 1) n14 x6.cap, x6.len - n14, x6.cap - n14⟩ (fun r16 h => br (decide (r15 > 1)) (zf3.j11 U a3 Q h) (rdB (a5.add 2) (fun x17 => br (!(x17 == (r15 == 0))) (zf3.j11 U a3 Q h) (zf3.j12 U a1 a2 a3 a5 r15 r16 Q h)) h)) h) h))))))))) h) h

def zf3.j4 (U : Ifc)  (a1 : Option Ptr) (a2 : V) (a3 : Ptr) (a4 : Ptr) (a5 : Ptr) (a6 : Ptr) (Q : Int → Bool → Int → Int → Int → Heap → Prop) (h : Heap) : Prop :=
  rdB (a4.add 2) (fun x1 => br x1 (zf3.j5 U a3 Q h) (rdI .i64 (a4.add 1) (fun x2 => br (x2 != 16) (zf3.j5 U a3 Q h) (rdI .i64 (a5.add 1) (fun x3 => br (x3 != 256) (zf3.j5 U a3 Q h) (rdI .u64 (a5.add 0) (fun x4 => nz 256 (br ((x4.tmod 256) != 0) (zf3.j5 U a3 Q h) (rdB (a6.add 2) (fun x5 => br (!x5) (zf3.j5 U a3 Q h) (rdI .i64 (a6.add 1) (fun x6 => br (x6 != 1) (zf3.j5 U a3 Q h) (zf3.j6 U a1 a2 a3 a4 a5 Q h)) h)) h))) h)) h)) h)) h

def zf3 (U : Ifc) (a1 : Option Ptr) (a2 : V) (a3 : Int) (a4 : Sl) (Q : Int → Bool → Int → Int → Int → Heap → Prop) (h : Heap) : Prop :=
  al [.int .i64 a3, .sl a4] (fun b1 h => al [.int .i64 0, .bool false, .int .i64 0, .int .i64 0] (fun b2 h => rdSl ((⟨b1, 0⟩ : Ptr).add 1) (fun x3 => br (((x3.len : Nat) : Int) != 3) (wrL [.int .i64 0, .bool false, .int .i64 0, .int .i64 0] (⟨b2, 0⟩ : Ptr) 0 (fun h => rdI .i64 ((⟨b2, 0⟩ : Ptr).add 0) (fun x4 => rdB ((⟨b2, 0⟩ : Ptr).add 1) (fun x5 => rdI .i64 ((⟨b2, 0⟩ : Ptr).add 2) (fun x6 => rdI .i64 ((⟨b2, 0⟩ : Ptr).add 3) (fun x7 => Q x4 x5 x6 x7 2 h) h) h) h) h) h) (rdSl ((⟨b1, 0⟩ : Ptr).add 1) (fun x8 => ix 0 x8.len (fun n9 => der x8.p (fun p10 => rdI .u64 ((p10.add (n9 * 3)).add 0) (fun x11 => rdI .i64 ((p10.add (n9 * 3)).add 1) (fun x12 => rdB ((p10.add (n9 * 3)).add 2) (fun x13 => rdSl ((⟨b1, 0⟩ : Ptr).add 1) (fun x14 => ix 1 x14.len (fun n15 => der x14.p (fun p16 => rdI .u64 ((p16.add (n15 * 3)).add 0) (fun x17 => rdI .i64 ((p16.add (n15 * 3)).add 1) (fun x18 => rdB ((p16.add (n15 * 3)).add 2) (fun x19 => rdSl ((⟨b1, 0⟩ : Ptr).add 1) (fun x20 => ix 2 x20.len (fun n21 => der x20.p (fun p22 => rdI .u64 ((p22.add (n21 * 3)).add 0) (fun x23 => rdI .i64 ((p22.add (n21 * 3)).add 1) (fun x24 => rdB ((p22.add (n21 * 3)).add 2) (fun x25 => (al [.int .u64 0, .int .i64 0, .bool false] (fun b26 h => ck (p22.add (n21 * 3)) [.int .u64 x23, .int .i64 x24, .bool x25] 0 h ∧ ck ((⟨b1, 0⟩ : Ptr).add 1) [.sl x20] 0 h ∧ ck (p16.add (n15 * 3)) [.int .u64 x17, .int .i64 x18, .bool x19] 0 h ∧ ck ((⟨b1, 0⟩ : Ptr).add 1) [.sl x14] 0 h ∧ ck (p10.add (n9 * 3)) [.int .u64 x11, .int .i64 x12, .bool x13] 0 h ∧ ck ((⟨b1, 0⟩ : Ptr).add 1) [.sl x8] 0 h ∧ ((al [.int .u64 0, .int .i64 0, .bool false] (fun b27 h => ck (p22.add (n21 * 3)) [.int .u64 x23, .int .i64 x24, .bool x25] 0 h ∧ ck ((⟨b1, 0⟩ : Ptr).add 1) [.sl x20] 0 h ∧ ck (p16.add (n15 * 3)) [.int .u64 x17, .int .i64 x18, .bool x19] 0 h ∧ ck ((⟨b1, 0⟩ : Ptr).add 1) [.sl x14] 0 h ∧ ck (p10.add (n9 * 3)) [.int .u64 x11, .int .i64 x12, .bool x13] 0 h ∧ ck ((⟨b1, 0⟩ : Ptr).add 1) [.sl x8] 0 h ∧ al [.int .u64 0, .int .i64 0, .bool false] (fun b28 h => ck (p22.add (n21 * 3)) [.int .u64 x23, .int .i64 x24, .bool x25] 0 h ∧ ck ((⟨b1, 0⟩ : Ptr).add 1) [.sl x20] 0 h ∧ ck (p16.add (n15 * 3)) [.int .u64 x17, .int .i64 x18, .bool x19] 0 h ∧ ck ((⟨b1, 0⟩ : Ptr).add 1) [.sl x14] 0 h ∧ ck (p10.add (n9 * 3)) [.int .u64 x11, .int .i64 x12, .bool x13] 0 h ∧ ck ((⟨b1, 0⟩ : Ptr).add 1) [.sl x8] 0 h ∧ wrL [.int .u64 x11, .int .i64 x12, .bool x13] (⟨b26, 0⟩ : Ptr) 0 (fun h => ck (p22.add (n21 * 3)) [.int .u64 x23, .int .i64 x24, .bool x25] 0 h ∧ ck ((⟨b1, 0⟩ : Ptr).add 1) [.sl x20] 0 h ∧ ck (p16.add (n15 * 3)) [.int .u64 x17, .int .i64 x18, .bool x19] 0 h ∧ ck ((⟨b1, 0⟩ : Ptr).add 1) [.sl x14] 0 h ∧ wrL [.int .u64 x17, .int .i64 x18, .bool x19] (⟨b27, 0⟩ : Ptr) 0 (fun h => ck (p22.add (n21 * 3)) [.int .u64 x23, .int .i64 x24, .bool x25] 0 h ∧ ck ((⟨b1, 0⟩ : Ptr).add 1) [.sl x20] 0 h ∧ (wrL [.int .u64 x23, .int .i64 x24, .bool x25] (⟨b28, 0⟩ : Ptr) 0 (fun h => zf3.j4 U a1 a2 (⟨b2, 0⟩ : Ptr) (⟨b26, 0⟩ : Ptr) (⟨b27, 0⟩ : Ptr) (⟨b28, 0⟩ : Ptr) Q h) h)) h) h) h) h) ∧ (al [.int .u64 0, .int .i64 0, .bool false] (fun b29 h => ck (p22.add (n21 * 3)) [.int .u64 x23, .int .i64 x24, .bool x25] 0 h ∧ ck ((⟨b1, 0⟩ : Ptr).add 1) [.sl x20] 0 h ∧ ck (p16.add (n15 * 3)) [.int .u64 x17, .int .i64 x18, .bool x19] 0 h ∧ ck ((⟨b1, 0⟩ : Ptr).add 1) [.sl x14] 0 h ∧ ck (p10.add (n9 * 3)) [.int .u64 x11, .int .i64 x12, .bool x13] 0 h ∧ ck ((⟨b1, 0⟩ : Ptr).add 1) [.sl x8] 0 h ∧ al [.int .u64 0, .int .i64 0, .bool false] (fun b30 h => ck (p22.add (n21 * 3)) [.int .u64 x23, .int .i64 x24, .bool x25] 0 h ∧ ck ((⟨b1, 0⟩ : Ptr).add 1) [.sl x20] 0 h ∧ ck (p16.add (n15 * 3)) [.int .u64 x17, .int .i64 x18, .bool x19] 0 h ∧ ck ((⟨b1, 0⟩ : Ptr).add 1) [.sl x14] 0 h ∧ ck (p10.add (n9 * 3)) [.int .u64 x11, .int .i64 x12, .bool x13] 0 h ∧ ck ((⟨b1, 0⟩ : Ptr).add 1) [.sl x8] 0 h ∧ wrL [.int .u64 x11, .int .i64 x12, .bool x13] (⟨b26, 0⟩ : Ptr) 0 (fun h => ck (p22.add (n21 * 3)) [.int .u64 x23, .int .i64 x24, .bool x25] 0 h ∧ ck ((⟨b1, 0⟩ : Ptr).add 1) [.sl x20] 0 h ∧ ck (p16.add (n15 * 3)) [.int .u64 x17, .int .i64 x18, .bool x19] 0 h ∧ ck ((⟨b1, 0⟩ : Ptr).add 1) [.sl x14] 0 h ∧ wrL [.int .u64 x17, .int .i64 x18, .bool x19] (⟨b30, 0⟩ : Ptr) 0 (fun h => ck (p22.add (n21 * 3)) [.int .u64 x23, .int .i64 x24, .bool x25] 0 h ∧ ck ((⟨b1, 0⟩ : Ptr).add 1) [.sl x20] 0 h ∧ (wrL [.int .u64 x23, .int .i64 x24, .bool x25] (⟨b29, 0⟩ : Ptr) 0 (fun h => zf3.j4 U a1 a2 (⟨b2, 0⟩ : Ptr) (⟨b26, 0⟩ : Ptr) (⟨b30, 0⟩ : Ptr) (⟨b29, 0⟩ : Ptr) Q h) h)) h) h) h) h))) h) ∧ ((al [.int .u64 0, .int .i64 0, .bool false] (fun b31 h => ck (p22.add (n21 * 3)) [.int .u64 x23, .int .i64 x24, .bool x25] 0 h ∧ ck ((⟨b1, 0⟩ : Ptr).add 1) [.sl x20] 0 h ∧ ck (p16.add (n15 * 3)) [.int .u64 x17, .int .i64 x18, .bool x19] 0 h ∧ ck ((⟨b1, 0⟩ : Ptr).add 1) [.sl x14] 0 h ∧ ck (p10.add (n9 * 3)) [.int .u64 x11, .int .i64 x12, .bool x13] 0 h ∧ ck ((⟨b1, 0⟩ : Ptr).add 1) [.sl x8] 0 h ∧ ((al [.int .u64 0, .int .i64 0, .bool false] (fun b32 h => ck (p22.add (n21 * 3)) [.int .u64 x23, .int .i64 x24, .bool x25] 0 h ∧ ck ((⟨b1, 0⟩ : Ptr).add 1) [.sl x20] 0 h ∧ ck (p16.add (n15 * 3)) [.int .u64 x17, .int .i64 x18, .bool x19] 0 h ∧ ck ((⟨b1, 0⟩ : Ptr).add 1) [.sl x14] 0 h ∧ ck (p10.add (n9 * 3)) [.int .u64 x11, .int .i64 x12, .bool x13] 0 h ∧ ck ((⟨b1, 0⟩ : Ptr).add 1) [.sl x8] 0 h ∧ al [.int .u64 0, .int .i64 0, .bool false] (fun b33 h => ck (p22.add (n21 * 3)) [.int .u64 x23, .int .i64 x24, .bool x25] 0 h ∧ ck ((⟨b1, 0⟩ : Ptr).add 1) [.sl x20] 0 h ∧ ck (p16.add (n15 * 3)) [.int .u64 x17, .int .i64 x18, .bool x19] 0 h ∧ ck ((⟨b1, 0⟩ : Ptr).add 1) [.sl x14] 0 h ∧ ck (p10.add (n9 * 3)) [.int .u64 x11, .int .i64 x12, .bool x13] 0 h ∧ ck ((⟨b1, 0⟩ : Ptr).add 1) [.sl x8] 0 h ∧ wrL [.int .u64 x11, .int .i64 x12, .bool x13] (⟨b32, 0⟩ : Ptr) 0 (fun h => ck (p22.add (n21 * 3)) [.int .u64 x23, .int .i64 x24, .bool x25] 0 h ∧ ck ((⟨b1, 0⟩ : Ptr).add 1) [.sl x20] 0 h ∧ ck (p16.add (n15 * 3)) [.int .u64 x17, .int .i64 x18, .bool x19] 0 h ∧ ck ((⟨b1, 0⟩ : Ptr).add 1) [.sl x14] 0 h ∧ wrL [.int .u64 x17, .int .i64 x18, .bool x19] (⟨b31, 0⟩ : Ptr) 0 (fun h => ck (p22.add (n21 * 3)) [.int .u64 x23, .int .i64 x24, .bool x25] 0 h ∧ ck ((⟨b1, 0⟩ : Ptr).add 1) [.sl x20] 0 h ∧ (wrL [.int .u64 x23, .int .i64 x24, .bool x25] (⟨b33, 0⟩ : Ptr) 0 (fun h => zf3.j4 U a1 a2 (⟨b2, 0⟩ : Ptr) (⟨b32, 0⟩ : Ptr) (⟨b31, 0⟩ : Ptr) (⟨b33, 0⟩ : Ptr) Q h) h)) h) h) h) h) ∧ (al [.int .u64 0, .int .i64 0, .bool false] (fun b34 h => ck (p22.add (n21 * 3)) [.int .u64 x23, .int .i64 x24, .bool x25] 0 h ∧ ck ((⟨b1, 0⟩ : Ptr).add 1) [.sl x20] 0 h ∧ ck (p16.add (n15 * 3)) [.int .u64 x17, .int .i64 x18, .bool x19] 0 h ∧ ck ((⟨b1, 0⟩ : Ptr).add 1) [.sl x14] 0 h ∧ ck (p10.add (n9 * 3)) [.int .u64 x11, .int .i64 x12, .bool x13] 0 h ∧ ck ((⟨b1, 0⟩ : Ptr).add 1) [.sl x8] 0 h ∧ al [.int .u64 0, .int .i64 0, .bool false] (fun b35 h => ck (p22.add (n21 * 3)) [.int .u64 x23, .int .i64 x24, .bool x25] 0 h ∧ ck ((⟨b1, 0⟩ : Ptr).add 1) [.sl x20] 0 h ∧ ck (p16.add (n15 * 3)) [.int .u64 x17, .int .i64 x18, .bool x19] 0 h ∧ ck ((⟨b1, 0⟩ : Ptr).add 1) [.sl x14] 0 h ∧ ck (p10.add (n9 * 3)) [.int .u64 x11, .int .i64 x12, .bool x13] 0 h ∧ ck ((⟨b1, 0⟩ : Ptr).add 1) [.sl x8] 0 h ∧ wrL [.int .u64 x11, .int .i64 x12, .bool x13] (⟨b35, 0⟩ : Ptr) 0 (fun h => ck (p22.add (n21 * 3)) [.int .u64 x23, .int .i64 x24, .bool x25] 0 h ∧ ck ((⟨b1, 0⟩ : Ptr).add 1) [.sl x20] 0 h ∧ ck (p16.add (n15 * 3)) [.int .u64 x17, .int .i64 x18, .bool x19] 0 h ∧ ck ((⟨b1, 0⟩ : Ptr).add 1) [.sl x14] 0 h ∧ wrL [.int .u64 x17, .int .i64 x18, .bool x19] (⟨b31, 0⟩ : Ptr) 0 (fun h => ck (p22.add (n21 * 3)) [.int .u64 x23, .int .i64 x24, .bool x25] 0 h ∧ ck ((⟨b1, 0⟩ : Ptr).add 1) [.sl x20] 0 h ∧ (wrL [.int .u64 x23, .int .i64 x24, .bool x25] (⟨b34, 0⟩ : Ptr) 0 (fun h => zf3.j4 U a1 a2 (⟨b2, 0⟩ : Ptr) (⟨b35, 0⟩ : Ptr) (⟨b31, 0⟩ : Ptr) (⟨b34, 0⟩ : Ptr) Q h) h)) h) h) h) h))) h) ∧ (al [.int .u64 0, .int .i64 0, .bool false] (fun b36 h => ck (p22.add (n21 * 3)) [.int .u64 x23, .int .i64 x24, .bool x25] 0 h ∧ ck ((⟨b1, 0⟩ : Ptr).add 1) [.sl x20] 0 h ∧ ck (p16.add (n15 * 3)) [.int .u64 x17, .int .i64 x18, .bool x19] 0 h ∧ ck ((⟨b1, 0⟩ : Ptr).add 1) [.sl x14] 0 h ∧ ck (p10.add (n9 * 3)) [.int .u64 x11, .int .i64 x12, .bool x13] 0 h ∧ ck ((⟨b1, 0⟩ : Ptr).add 1) [.sl x8] 0 h ∧ ((al [.int .u64 0, .int .i64 0, .bool false] (fun b37 h => ck (p22.add (n21 * 3)) [.int .u64 x23, .int .i64 x24, .bool x25] 0 h ∧ ck ((⟨b1, 0⟩ : Ptr).add 1) [.sl x20] 0 h ∧ ck (p16.add (n15 * 3)) [.int .u64 x17, .int .i64 x18, .bool x19] 0 h ∧ ck ((⟨b1, 0⟩ : Ptr).add 1) [.sl x14] 0 h ∧ ck (p10.add (n9 * 3)) [.int .u64 x11, .int .i64 x12, .bool x13] 0 h ∧ ck ((⟨b1, 0⟩ : Ptr).add 1) [.sl x8] 0 h ∧ al [.int .u64 0, .int .i64 0, .bool false] (fun b38 h => ck (p22.add (n21 * 3)) [.int .u64 x23, .int .i64 x24, .bool x25] 0 h ∧ ck ((⟨b1, 0⟩ : Ptr).add 1) [.sl x20] 0 h ∧ ck (p16.add (n15 * 3)) [.int .u64 x17, .int .i64 x18, .bool x19] 0 h ∧ ck ((⟨b1, 0⟩ : Ptr).add 1) [.sl x14] 0 h ∧ ck (p10.add (n9 * 3)) [.int .u64 x11, .int .i64 x12, .bool x13] 0 h ∧ ck ((⟨b1, 0⟩ : Ptr).add 1) [.sl x8] 0 h ∧ wrL [.int .u64 x11, .int .i64 x12, .bool x13] (⟨b37, 0⟩ : Ptr) 0 (fun h => ck (p22.add (n21 * 3)) [.int .u64 x23, .int .i64 x24, .bool x25] 0 h ∧ ck ((⟨b1, 0⟩ : Ptr).add 1) [.sl x20] 0 h ∧ ck (p16.add (n15 * 3)) [.int .u64 x17, .int .i64 x18, .bool x19] 0 h ∧ ck ((⟨b1, 0⟩ : Ptr).add 1) [.sl x14] 0 h ∧ wrL [.int .u64 x17, .int .i64 x18, .bool x19] (⟨b38, 0⟩ : Ptr) 0 (fun h => ck (p22.add (n21 * 3)) [.int .u64 x23, .int .i64 x24, .bool x25] 0 h ∧ ck ((⟨b1, 0⟩ : Ptr).add 1) [.sl x20] 0 h ∧ (wrL [.int .u64 x23, .int .i64 x24, .bool x25] (⟨b36, 0⟩ : Ptr) 0 (fun h => zf3.j4 U a1 a2 (⟨b2, 0⟩ : Ptr) (⟨b37, 0⟩ : Ptr) (⟨b38, 0⟩ : Ptr) (⟨b36, 0⟩ : Ptr) Q h) h)) h) h) h) h) ∧ (al [.int .u64 0, .int .i64 0, .bool false] (fun b39 h => ck (p22.add (n21 * 3)) [.int .u64 x23, .int .i64 x24, .bool x25] 0 h ∧ ck ((⟨b1, 0⟩ : Ptr).add 1) [.sl x20] 0 h ∧ ck (p16.add (n15 * 3)) [.int .u64 x17, .int .i64 x18, .bool x19] 0 h ∧ ck ((⟨b1, 0⟩ : Ptr).add 1) [.sl x14] 0 h ∧ ck (p10.add (n9 * 3)) [.int .u64 x11, .int .i64 x12, .bool x13] 0 h ∧ ck ((⟨b1, 0⟩ : Ptr).add 1) [.sl x8] 0 h ∧ al [.int .u64 0, .int .i64 0, .bool false] (fun b40 h => ck (p22.add (n21 * 3)) [.int .u64 x23, .int .i64 x24, .bool x25] 0 h ∧ ck ((⟨b1, 0⟩ : Ptr).add 1) [.sl x20] 0 h ∧ ck (p16.add (n15 * 3)) [.int .u64 x17, .int .i64 x18, .bool x19] 0 h ∧ ck ((⟨b1, 0⟩ : Ptr).add 1) [.sl x14] 0 h ∧ ck (p10.add (n9 * 3)) [.int .u64 x11, .int .i64 x12, .bool x13] 0 h ∧ ck ((⟨b1, 0⟩ : Ptr).add 1) [.sl x8] 0 h ∧ wrL [.int .u64 x11, .int .i64 x12, .bool x13] (⟨b40, 0⟩ : Ptr) 0 (fun h => ck (p22.add (n21 * 3)) [.int .u64 x23, .int .i64 x24, .bool x25] 0 h ∧ ck ((⟨b1, 0⟩ : Ptr).add 1) [.sl x20] 0 h ∧ ck (p16.add (n15 * 3)) [.int .u64 x17, .int .i64 x18, .bool x19] 0 h ∧ ck ((⟨b1, 0⟩ : Ptr).add 1) [.sl x14] 0 h ∧ wrL [.int .u64 x17, .int .i64 x18, .bool x19] (⟨b39, 0⟩ : Ptr) 0 (fun h => ck (p22.add (n21 * 3)) [.int .u64 x23, .int .i64 x24, .bool x25] 0 h ∧ ck ((⟨b1, 0⟩ : Ptr).add 1) [.sl x20] 0 h ∧ (wrL [.int .u64 x23, .int .i64 x24, .bool x25] (⟨b36, 0⟩ : Ptr) 0 (fun h => zf3.j4 U a1 a2 (⟨b2, 0⟩ : Ptr) (⟨b40, 0⟩ : Ptr) (⟨b39, 0⟩ : Ptr) (⟨b36, 0⟩ : Ptr) Q h) h)) h) h) h) h))) h))) h) h) h))) h) h) h) h))) h) h) h) h))) h)) h) h) h

def zf28.j7   (Q : Int → Heap → Prop) (h : Heap) : Prop :=
  Q 15 h

def zf28.j8   (Q : Int → Heap → Prop) (h : Heap) : Prop :=
  Q 0 h

def zf28 (a1 : Option Ptr) (a2 : Int) (a3 : Sl) (Q : Int → Heap → Prop) (h : Heap) : Prop :=
  zf27 a1 a3 (fun r1 h => br (r1 != 0) (Q r1 h) (br (decide (a2 < 0)) (Q 2 h) (der a1 (fun p2 => rdI .i64 (p2.add 0) (fun x3 => br (decide (a2 ≥ x3)) (Q 2 h) (der a1 (fun p4 => rdM (p4.add 2) (fun x5 => mapGet (.int .i64) x5 (.int .i64 a2) (fun o6 => asI .i64 (o6.getD (.int .i64 0)) (fun x7 => br (x7 == 0) (zf28.j7 Q h) (der a1 (fun p8 => rdM (p8.add 3) (fun x9 => ix 0 a3.len (fun n10 => der a3.p (fun p11 => rdI .i64 (p11.add (n10 * 1)) (fun x12 => mapGet (.int .i64) x9 (.int .i64 a2) (fun o13 => asI .i64 (o13.getD (.int .i64 0)) (fun x14 => ck (p11.add (n10 * 1)) [.int .i64 x12] 0 h ∧ (br (x14 != x12) (zf28.j7 Q h) (zf28.j8 Q h)))) h) h))) h)))) h) h))) h)))) h

def zf24.j7   (Q : Int → Heap → Prop) (h : Heap) : Prop :=
  Q 0 h

def zf24 (a1 : Option Ptr) (a2 : Int) (a3 : Int) (Q : Int → Heap → Prop) (h : Heap) : Prop :=
  al [.int .i64 a3] (fun b1 h => zf28 a1 a2 ⟨some ⟨b1, 0⟩, 1, 1⟩ (fun r2 h => br (r2 != 0) (Q r2 h) (der a1 (fun p3 => rdM (p3.add 2) (fun x4 => mapGet (.int .i64) x4 (.int .i64 a2) (fun o5 => asI .i64 (o5.getD (.int .i64 0)) (fun x6 => br (decide (x6 ≥ 65536)) (Q 18 h) (der a1 (fun p7 => rdM (p7.add 2) (fun x8 => mapGet (.int .i64) x8 (.int .i64 a2) (fun o9 => asI .i64 (o9.getD (.int .i64 0)) (fun x10 => mapPut (.int .i64) x8 (.int .i64 a2) (.int .i64 (IntKind.i64.wrap (x10 + 1))) (fun h => zf24.j7 Q h) h)) h) h)))) h) h))) h) h

def zf20 (a1 : Option Ptr) (a2 : Int) (Q : Int → Heap → Prop) (h : Heap) : Prop :=
  zf19 a1 (fun r1 h => br r1 (Q 1 h) (br (decide (a2 < 0)) (Q 12 h) (der a1 (fun p2 => rdI .i64 (p2.add 0) (fun x3 => br (decide (a2 ≥ x3)) (Q 12 h) (Q 0 h)) h)))) h

def zf65.b2 (U : Ifc)  (I2 : Sl → V → Int → Int → Heap → Prop) (a1 : Sl) (a2 : V) (a3 : Int) (a4 : Int) (Q : Int → Heap → Prop) (h : Heap) : Prop :=
  br (decide (a4 < a3)) (ix a4 a1.len (fun n1 => der a1.p (fun p2 => rdI .i64 ((p2.add (n1 * 4)).add 0) (fun x3 => rdB ((p2.add (n1 * 4)).add 1) (fun x4 => rdI .i64 ((p2.add (n1 * 4)).add 2) (fun x5 => rdI .i64 ((p2.add (n1 * 4)).add 3) (fun x6 => U.callV a2 [.agg [.int .i64 x3, .bool x4, .int .i64 x5, .int .i64 x6]] (fun r7 h => asB r7 (fun x8 => br x8 (Q a4 h) (I2 a1 a2 a3 (IntKind.i64.wrap (a4 + 1)) h))) h) h) h) h) h))) (Q (-1) h)

def zf65.j2 (U : Ifc)  (a1 : Sl) (a2 : V) (a3 : Int) (a4 : Int) (Q : Int → Heap → Prop) (h : Heap) : Prop :=
  ∀ I : Sl → V → Int → Int → Heap → Prop, (∀ a1 a2 a3 a4 h, zf65.b2 U  I a1 a2 a3 a4 Q h → I a1 a2 a3 a4 h) → I a1 a2 a3 a4 h

def zf65 (U : Ifc) (a1 : Sl) (a2 : V) (Q : Int → Heap → Prop) (h : Heap) : Prop :=
  zf65.j2 U a1 a2 ((a1.len : Nat) : Int) 0 Q h

def zf62 (U : Ifc) (a1 : Sl) (a2 : V) (Q : Bool → Heap → Prop) (h : Heap) : Prop :=
  zf65 U a1 a2 (fun r1 h => Q (decide (r1 ≥ 0)) h) h

def zf17.j9 (U : Ifc)   (Q : Int → Heap → Prop) (h : Heap) : Prop :=
  Q 0 h

def zf17 (U : Ifc) (a1 : Option Ptr) (a2 : Int) (a3 : Bool) (a4 : Int) (a5 : Int) (Q : Int → Heap → Prop) (h : Heap) : Prop :=
  al [.int .i64 a2, .bool a3, .int .i64 a4, .int .i64 a5] (fun b1 h => rdI .i64 ((⟨b1, 0⟩ : Ptr).add 2) (fun x2 => zf20 a1 x2 (fun r3 h => br (r3 != 0) (Q r3 h) (der a1 (fun p4 => rdSl (p4.add 2) (fun x5 => zf62 U x5 (.fn 3 [.ptr (some (⟨b1, 0⟩ : Ptr))]) (fun r6 h => br r6 (Q 13 h) (der a1 (fun p7 => rdSl (p7.add 2) (fun x8 => br (decide (((x8.len : Nat) : Int) ≥ 8)) (Q 18 h) (der a1 (fun p9 => rdSl (p9.add 2) (fun x10 => rdI .i64 ((⟨b1, 0⟩ : Ptr).add 0) (fun x11 => rdB ((⟨b1, 0⟩ : Ptr).add 1) (fun x12 => rdI .i64 ((⟨b1, 0⟩ : Ptr).add 2) (fun x13 => rdI .i64 ((⟨b1, 0⟩ : Ptr).add 3) (fun x14 => al [.int .i64 x11, .bool x12, .int .i64 x13, .int .i64 x14] (fun b15 h => ck (p9.add 2) [.sl x10] 0 h ∧ (rdN (1 * 4) (⟨b15, 0⟩ : Ptr) (fun cs17 => appS 4 32 [.int .i64 0, .bool false, .int .i64 0, .int .i64 0] x10 cs17 1 (fun s16 h => der a1 (fun p18 => wr (p18.add 2) (.sl s16) (fun h => zf17.j9 U Q h) h)) h) h)) h) h) h) h) h) h))) h))) h) h))) h) h) h

def zf23.j12  (a1 : Option Ptr) (a2 : Int) (Q : Bool → Int → Heap → Prop) (h : Heap) : Prop :=
  der a1 (fun p1 => rdI .i64 (p1.add 38) (fun x2 => der a1 (fun p3 => wr (p3.add 38) (.int .i64 (minI x2 a2)) (fun h => Q true 0 h) h)) h)

def zf23.j7  (a1 : Option Ptr) (a2 : Int) (a3 : Int) (Q : Bool → Int → Heap → Prop) (h : Heap) : Prop :=
  der a1 (fun p1 => rdM (p1.add 2) (fun x2 => mapGet (.int .i64) x2 (.int .i64 a2) (fun o3 => asI .i64 (o3.getD (.int .i64 0)) (fun x4 => br (decide (x4 > 0)) (Q false 0 h) (der a1 (fun p5 => rdM (p5.add 2) (fun x6 => mapDel (.int .i64) x6 (.int .i64 a2) (fun h => der a1 (fun p7 => rdM (p7.add 3) (fun x8 => mapDel (.int .i64) x8 (.int .i64 a2) (fun h => der a1 (fun p9 => ix a3 17 (fun n10 => rdI .i64 ((p9.add 4).add (n10 * 1)) (fun x11 => der a1 (fun p12 => ix a3 17 (fun n13 => wr ((p12.add 4).add (n13 * 1)) (.int .i64 (IntKind.i64.wrap (x11 - 1))) (fun h => zf23.j12 a1 a2 Q h) h))) h))) h) h)) h) h)))) h) h)

def zf23 (a1 : Option Ptr) (a2 : Int) (a3 : Int) (Q : Bool → Int → Heap → Prop) (h : Heap) : Prop :=
  al [.int .i64 a3] (fun b1 h => zf28 a1 a2 ⟨some ⟨b1, 0⟩, 1, 1⟩ (fun r2 h => br (r2 != 0) (Q false r2 h) (der a1 (fun p3 => rdI .i64 (p3.add 1) (fun x4 => br (decide (a2 < x4)) (Q false 21 h) (der a1 (fun p5 => rdM (p5.add 2) (fun x6 => mapGet (.int .i64) x6 (.int .i64 a2) (fun o7 => asI .i64 (o7.getD (.int .i64 0)) (fun x8 => mapPut (.int .i64) x6 (.int .i64 a2) (.int .i64 (IntKind.i64.wrap (x8 - 1))) (fun h => zf23.j7 a1 a2 a3 Q h) h)) h) h))) h))) h) h

def zf5.j5 (U : Ifc)   (Q : Int → Heap → Prop) (h : Heap) : Prop :=
  Q 1 h

def zf5.j7 (U : Ifc)  (a1 : Option Ptr) (Q : Int → Heap → Prop) (h : Heap) : Prop :=
  der a1 (fun p1 => rdI .i64 (p1.add 6) (fun x2 => der a1 (fun p3 => wr (p3.add 6) (.int .i64 (IntKind.i64.wrap (x2 + 1))) (fun h => Q 0 h) h)) h)

def zf5 (U : Ifc) (a1 : Option Ptr) (a2 : Int) (a3 : Sl) (a4 : Int) (a5 : Bool) (a6 : Int) (a7 : Int) (Q : Int → Heap → Prop) (h : Heap) : Prop :=
  al [.int .i64 a2, .sl a3] (fun b1 h => al [.int .i64 a4, .bool a5, .int .i64 a6, .int .i64 a7] (fun b2 h => der a1 (fun p3 => rdP (p3.add 4) (fun x4 => rdI .i64 ((⟨b2, 0⟩ : Ptr).add 3) (fun x5 => der a1 (fun p6 => rdI .i64 (p6.add 5) (fun x7 => zf24 x4 x5 x7 (fun r8 h => br (r8 != 0) (Q 1 h) (der a1 (fun p9 => rdP (p9.add 1) (fun x10 => rdI .i64 ((⟨b2, 0⟩ : Ptr).add 0) (fun x11 => rdB ((⟨b2, 0⟩ : Ptr).add 1) (fun x12 => rdI .i64 ((⟨b2, 0⟩ : Ptr).add 2) (fun x13 => rdI .i64 ((⟨b2, 0⟩ : Ptr).add 3) (fun x14 => zf17 U x10 x11 x12 x13 x14 (fun r15 h => br (r15 != 0) (der a1 (fun p16 => rdP (p16.add 4) (fun x17 => rdI .i64 ((⟨b2, 0⟩ : Ptr).add 3) (fun x18 => der a1 (fun p19 => rdI .i64 (p19.add 5) (fun x20 => zf23 x17 x18 x20 (fun r21 r22 h => zf5.j5 U Q h) h) h)) h) h)) (der a1 (fun p23 => rdM (p23.add 7) (fun x24 => rdI .i64 ((⟨b2, 0⟩ : Ptr).add 0) (fun x25 => rdI .i64 ((⟨b1, 0⟩ : Ptr).add 0) (fun x26 => rdSl ((⟨b1, 0⟩ : Ptr).add 1) (fun x27 => rdI .i64 ((⟨b2, 0⟩ : Ptr).add 3) (fun x28 => rdB ((⟨b2, 0⟩ : Ptr).add 1) (fun x29 => ck ((⟨b2, 0⟩ : Ptr).add 0) [.int .i64 x25] 0 h ∧ ck (p23.add 7) [.map x24] 0 h ∧ (mapPut (.int .i64) x24 (.int .i64 x25) (.agg [.int .i64 x26, .sl x27, .int .i64 x28, .bool (!x29)]) (fun h => zf5.j7 U a1 Q h) h)) h) h) h) h) h) h))) h) h) h) h) h) h))) h) h)) h) h)) h) h

def zf8 (U : Ifc) (a1 : V) (a2 : Int) (a3 : Sl) (a4 : Int) (Q : Int → Heap → Prop) (h : Heap) : Prop :=
  al [.int .i64 a2, .sl a3] (fun b1 h => rdSl ((⟨b1, 0⟩ : Ptr).add 1) (fun x2 => rdSl ((⟨b1, 0⟩ : Ptr).add 1) (fun x3 => ix (IntKind.i64.wrap (((x3.len : Nat) : Int) - 1)) x2.len (fun n4 => der x2.p (fun p5 => rdI .u64 ((p5.add (n4 * 3)).add 0) (fun x6 => rdI .i64 ((p5.add (n4 * 3)).add 1) (fun x7 => rdB ((p5.add (n4 * 3)).add 2) (fun x8 => al [.int .u64 0, .int .i64 0, .bool false] (fun b9 h => wrL [.int .u64 x6, .int .i64 x7, .bool x8] (⟨b9, 0⟩ : Ptr) 0 (fun h => rdB ((⟨b9, 0⟩ : Ptr).add 2) (fun x10 => br x10 (rdI .u64 ((⟨b9, 0⟩ : Ptr).add 0) (fun x11 => al [.int .u8 a4] (fun b12 h => U.inv a1 "Put" [.int .u64 x11, .sl ⟨some ⟨b12, 0⟩, 1, 1⟩] (fun r13 h => asI .i64 r13 (fun x14 => br (x14 == 0) (Q 1 h) (Q 0 h))) h) h) h) (Q 0 h)) h) h) h) h) h) h))) h) h) h

def zf53.j5 (U : Ifc)   (Q : Int → Heap → Prop) (h : Heap) : Prop :=
  Q 2 h

def zf53.j7 (U : Ifc)   (Q : Int → Heap → Prop) (h : Heap) : Prop :=
  Q 21 h

def zf53.b11 (U : Ifc)  (I11 : (Option Ptr) → V → Sl → Int → Int → Heap → Prop) (a1 : Option Ptr) (a2 : V) (a3 : Sl) (a4 : Int) (a5 : Int) (Q : Int → Heap → Prop) (h : Heap) : Prop :=
  br (decide (a5 < a4)) (ix a5 a3.len (fun n1 => der a3.p (fun p2 => rdI .u64 ((p2.add (n1 * 2)).add 0) (fun x3 => rdI .u64 ((p2.add (n1 * 2)).add 1) (fun x4 => al [.int .u64 0, .int .u64 0] (fun b5 h => wrL [.int .u64 x3, .int .u64 x4] (⟨b5, 0⟩ : Ptr) 0 (fun h => rdI .u64 ((⟨b5, 0⟩ : Ptr).add 0) (fun x6 => rdI .u64 ((⟨b5, 0⟩ : Ptr).add 1) (fun x7 => U.inv a2 "Store" [.int .u64 x6, .int .i64 8, .int .u64 x7] (fun r8 h => asI .i64 r8 (fun x9 => br (x9 != 0) (der a1 (fun p10 => wr (p10.add 4) (.bool true) (fun h => Q 22 h) h)) (I11 a1 a2 a3 a4 (IntKind.i64.wrap (a5 + 1)) h))) h) h) h) h) h) h) h))) (der a1 (fun p11 => rdI .u64 (p11.add 3) (fun x12 => der a1 (fun p13 => wr (p13.add 3) (.int .u64 (IntKind.u64.wrap (x12 + 1))) (fun h => Q 0 h) h)) h))

def zf53.j11 (U : Ifc)  (a1 : Option Ptr) (a2 : V) (a3 : Sl) (a4 : Int) (a5 : Int) (Q : Int → Heap → Prop) (h : Heap) : Prop :=
  ∀ I : (Option Ptr) → V → Sl → Int → Int → Heap → Prop, (∀ a1 a2 a3 a4 a5 h, zf53.b11 U  I a1 a2 a3 a4 a5 Q h → I a1 a2 a3 a4 a5 h) → I a1 a2 a3 a4 a5 h

def zf53.j10 (U : Ifc)  (a1 : Option Ptr) (a2 : V) (a3 : Int) (a4 : Int) (a5 : Int) (a6 : Int) (Q : Int → Heap → Prop) (h : Heap) : Prop :=
  der a1 (fun p1 => rdI .u64 (p1.add 3) (fun x2 => al [.int .u64 a6, .int .u64 (IntKind.u64.wrap a3), .int .u64 (IntKind.u64.wrap (a6 + 8)), .int .u64 (IntKind.u64.wrap a4), .int .u64 a5, .int .u64 (IntKind.u64.wrap (x2 + 1))] (fun b3 h => zf53.j11 U a1 a2 ⟨some ⟨b3, 0⟩, 3, 3⟩ ((3 : Nat) : Int) 0 Q h) h) h)

def zf53.j8 (U : Ifc)  (a1 : Option Ptr) (a2 : V) (a3 : Int) (a4 : Int) (Q : Int → Heap → Prop) (h : Heap) : Prop :=
  der a1 (fun p1 => rdI .u64 (p1.add 0) (fun x2 => der a1 (fun p3 => rdI .u64 (p3.add 1) (fun x4 => der a1 (fun p5 => rdI .u64 (p5.add 3) (fun x6 => der a1 (fun p7 => rdI .u64 (p7.add 1) (fun x8 => nz x8 (zf53.j10 U a1 a2 a3 a4 (IntKind.u64.wrap ((IntKind.u64.wrap (x2 + (IntKind.u64.wrap (40 * x4)))) + 8)) (IntKind.u64.wrap ((IntKind.u64.wrap ((IntKind.u64.wrap ((IntKind.u64.wrap (x2 + (IntKind.u64.wrap (40 * x4)))) + 8)) + 8)) + (IntKind.u64.wrap (16 * (x6.tmod x8))))) Q h)) h)) h)) h)) h)

def zf53 (U : Ifc) (a1 : Option Ptr) (a2 : V) (a3 : Int) (a4 : Int) (Q : Int → Heap → Prop) (h : Heap) : Prop :=
  zf55 a1 a2 (fun r1 h => br (r1 != 0) (Q r1 h) (br (decide (a3 < 0)) (zf53.j5 U Q h) (der a1 (fun p2 => rdI .u64 (p2.add 1) (fun x3 => br (decide ((IntKind.u64.wrap a3) ≥ x3)) (zf53.j5 U Q h) (br (decide (a4 < 0)) (zf53.j5 U Q h) (der a1 (fun p4 => rdI .u64 (p4.add 3) (fun x5 => der a1 (fun p6 => rdI .u64 (p6.add 2) (fun x7 => br (x5 == x7) (zf53.j7 U Q h) (zf53.j8 U a1 a2 a3 a4 Q h)) h)) h)))) h)))) h

def zf1.j7 (U : Ifc) (I4 : (Option Ptr) → V → Int → Heap → Prop) (a1 : Int) (a2 : Int) (Q : Int → Int → Heap → Prop) (h : Heap) : Prop :=
  Q a1 a2 h

def zf1.j11 (U : Ifc) (I4 : (Option Ptr) → V → Int → Heap → Prop) (a1 : Option Ptr) (a2 : V) (a3 : Int) (a4 : Ptr) (a5 : Int) (Q : Int → Int → Heap → Prop) (h : Heap) : Prop :=
  br (a5 == 0) (I4 a1 a2 a3 h) (der a1 (fun p1 => rdP (p1.add 0) (fun x2 => rdI .i64 (a4.add 0) (fun x3 => rdI .i64 (a4.add 0) (fun x4 => rdSl (a4.add 1) (fun x5 => zf8 U a2 x4 x5 a5 (fun r6 h => ck (a4.add 0) [.int .i64 x3] 0 h ∧ ck (p1.add 0) [.ptr x2] 0 h ∧ (zf53 U x2 a2 x3 r6 (fun r7 h => br (r7 != 0) (Q a3 r7 h) (I4 a1 a2 (IntKind.i64.wrap (a3 + 1)) h)) h)) h) h) h) h) h))

def zf1.j8 (U : Ifc) (I4 : (Option Ptr) → V → Int → Heap → Prop) (a1 : Option Ptr) (a2 : V) (a3 : Int) (a4 : Ptr) (Q : Int → Int → Heap → Prop) (h : Heap) : Prop :=
  rdI .i64 (a4.add 0) (fun x1 => rdSl (a4.add 1) (fun x2 => zf3 U a1 a2 x1 x2 (fun r3 r4 r5 r6 r7 h => al [.int .i64 0, .bool false, .int .i64 0, .int .i64 0] (fun b8 h => wrL [.int .i64 r3, .bool r4, .int .i64 r5, .int .i64 r6] (⟨b8, 0⟩ : Ptr) 0 (fun h => br (r7 == 0) (rdI .i64 (a4.add 0) (fun x9 => rdSl (a4.add 1) (fun x10 => rdI .i64 ((⟨b8, 0⟩ : Ptr).add 0) (fun x11 => rdB ((⟨b8, 0⟩ : Ptr).add 1) (fun x12 => rdI .i64 ((⟨b8, 0⟩ : Ptr).add 2) (fun x13 => rdI .i64 ((⟨b8, 0⟩ : Ptr).add 3) (fun x14 => zf5 U a1 x9 x10 x11 x12 x13 x14 (fun r15 h => zf1.j11 U I4 a1 a2 a3 a4 r15 Q h) h) h) h) h) h) h) h) (zf1.j11 U I4 a1 a2 a3 a4 r7 Q h)) h) h) h) h) h

def zf1.b4 (U : Ifc)  (I4 : (Option Ptr) → V → Int → Heap → Prop) (a1 : Option Ptr) (a2 : V) (a3 : Int) (Q : Int → Int → Heap → Prop) (h : Heap) : Prop :=
  der a1 (fun p1 => rdM (p1.add 7) (fun x2 => mapLen x2 (fun n3 => br (decide (n3 < 8)) (der a1 (fun p4 => rdP (p4.add 0) (fun x5 => zf52 U x5 a2 (fun r6 r7 r8 r9 h => al [.int .i64 0, .sl ⟨none, 0, 0⟩] (fun b10 h => wrL [.int .i64 r6, .sl r7] (⟨b10, 0⟩ : Ptr) 0 (fun h => br (!r8) (zf1.j7 U I4 a3 r9 Q h) (br (r9 != 0) (zf1.j7 U I4 a3 r9 Q h) (zf1.j8 U I4 a1 a2 a3 (⟨b10, 0⟩ : Ptr) Q h))) h) h) h) h)) (Q a3 0 h)) h) h)

def zf1.j4 (U : Ifc)  (a1 : Option Ptr) (a2 : V) (a3 : Int) (Q : Int → Int → Heap → Prop) (h : Heap) : Prop :=
  ∀ I : (Option Ptr) → V → Int → Heap → Prop, (∀ a1 a2 a3 h, zf1.b4 U  I a1 a2 a3 Q h → I a1 a2 a3 h) → I a1 a2 a3 h

def zf1 (U : Ifc) (a1 : Option Ptr) (a2 : V) (Q : Int → Int → Heap → Prop) (h : Heap) : Prop :=
  zf4 a1 a2 (fun r1 h => br r1 (Q 0 1 h) (zf1.j4 U a1 a2 0 Q h)) h

def zf60 (a1 : Sl) (Q : Sl → Heap → Prop) (h : Heap) : Prop :=
  br a1.p.isNone (Q ⟨none, 0, 0⟩ h) (al [] (fun b1 h => cellsS 4 a1 (fun cs3 => appS 4 32 [.int .i64 0, .bool false, .int .i64 0, .int .i64 0] ⟨some ⟨b1, 0⟩, 0, 0⟩ cs3 a1.len (fun s2 h => Q s2 h) h) h) h)

def zf14 (a1 : Option Ptr) (Q : Sl → Heap → Prop) (h : Heap) : Prop :=
  zf19 a1 (fun r1 h => br r1 (Q ⟨none, 0, 0⟩ h) (der a1 (fun p2 => rdSl (p2.add 2) (fun x3 => zf60 x3 (fun r4 h => Q r4 h) h) h))) h

def zf2 (a1 : Option Ptr) (Q : Int → Heap → Prop) (h : Heap) : Prop :=
  br a1.isNone (Q 0 h) (der a1 (fun p1 => rdM (p1.add 7) (fun x2 => mapLen x2 (fun n3 => Q n3 h) h) h))

def zf32 (a1 : Option Ptr) (Q : Int → Heap → Prop) (h : Heap) : Prop :=
  zf36 a1 (fun r1 h => br r1 (Q 0 h) (der a1 (fun p2 => rdSl (p2.add 0) (fun x3 => nz 256 (Q (IntKind.i64.wrap (((x3.len : Nat) : Int).tdiv 256)) h)) h))) h

def zf63.j6 (U : Ifc) (I5 : Sl → V → Int → Int → Heap → Prop) (a1 : Sl) (a2 : V) (a3 : Int) (a4 : Int) (Q : Sl → Heap → Prop) (h : Heap) : Prop :=
  I5 a1 a2 a3 (IntKind.i64.wrap (a4 + 1)) h

def zf63.b5 (U : Ifc)  (I5 : Sl → V → Int → Int → Heap → Prop) (a1 : Sl) (a2 : V) (a3 : Int) (a4 : Int) (Q : Sl → Heap → Prop) (h : Heap) : Prop :=
  br (decide (a4 < ((a1.len : Nat) : Int))) (ix a4 a1.len (fun n1 => der a1.p (fun p2 => rdI .i64 ((p2.add (n1 * 4)).add 0) (fun x3 => rdB ((p2.add (n1 * 4)).add 1) (fun x4 => rdI .i64 ((p2.add (n1 * 4)).add 2) (fun x5 => rdI .i64 ((p2.add (n1 * 4)).add 3) (fun x6 => al [.int .i64 0, .bool false, .int .i64 0, .int .i64 0] (fun b7 h => wrL [.int .i64 x3, .bool x4, .int .i64 x5, .int .i64 x6] (⟨b7, 0⟩ : Ptr) 0 (fun h => rdI .i64 ((⟨b7, 0⟩ : Ptr).add 0) (fun x8 => rdB ((⟨b7, 0⟩ : Ptr).add 1) (fun x9 => rdI .i64 ((⟨b7, 0⟩ : Ptr).add 2) (fun x10 => rdI .i64 ((⟨b7, 0⟩ : Ptr).add 3) (fun x11 => U.callV a2 [.agg [.int .i64 x8, .bool x9, .int .i64 x10, .int .i64 x11]] (fun r12 h => asB r12 (fun x13 => br (!x13) (rdI .i64 ((⟨b7, 0⟩ : Ptr).add 0) (fun x14 => rdB ((⟨b7, 0⟩ : Ptr).add 1) (fun x15 => rdI .i64 ((⟨b7, 0⟩ : Ptr).add 2) (fun x16 => rdI .i64 ((⟨b7, 0⟩ : Ptr).add 3) (fun x17 => ix a3 a1.len (fun n18 => der a1.p (fun p19 => wrL [.int .i64 x14, .bool x15, .int .i64 x16, .int .i64 x17] (p19.add (n18 * 4)) 0 (fun h => zf63.j6 U I5 a1 a2 (IntKind.i64.wrap (a3 + 1)) a4 Q h) h))) h) h) h) h) (zf63.j6 U I5 a1 a2 a3 a4 Q h))) h) h) h) h) h) h) h) h) h) h) h))) (sb a3 a1.len (fun n20 => clearS [.int .i64 0, .bool false, .int .i64 0, .int .i64 0] ⟨slp a1.p (n20 * 4) n20 a1.cap, a1.len - n20, a1.cap - n20⟩ (fun h => sb a3 a1.cap (fun n21 => Q ⟨slp a1.p (0 * 4) 0 a1.cap, n21 - 0, a1.cap - 0⟩ h)) h))

def zf63.j5 (U : Ifc)  (a1 : Sl) (a2 : V) (a3 : Int) (a4 : Int) (Q : Sl → Heap → Prop) (h : Heap) : Prop :=
  ∀ I : Sl → V → Int → Int → Heap → Prop, (∀ a1 a2 a3 a4 h, zf63.b5 U  I a1 a2 a3 a4 Q h → I a1 a2 a3 a4 h) → I a1 a2 a3 a4 h

def zf63 (U : Ifc) (a1 : Sl) (a2 : V) (Q : Sl → Heap → Prop) (h : Heap) : Prop :=
  zf65 U a1 a2 (fun r1 h => br (r1 == (-1)) (Q a1 h) (zf63.j5 U a1 a2 r1 (IntKind.i64.wrap (r1 + 1)) Q h)) h

def zf9 (a1 : Sl) (Q : Sl → Heap → Prop) (h : Heap) : Prop :=
  br a1.p.isNone (Q ⟨none, 0, 0⟩ h) (al [] (fun b1 h => cellsS 1 a1 (fun cs3 => appS 1 1 [.int .u8 0] ⟨some ⟨b1, 0⟩, 0, 0⟩ cs3 a1.len (fun s2 h => Q s2 h) h) h) h)

def zf31 (a1 : Option Ptr) (a2 : Int) (a3 : Int) (Q : Sl → Int → Heap → Prop) (h : Heap) : Prop :=
  zf38 a1 a2 a3 (fun r1 r2 h => zf9 r1 (fun r3 h => Q r3 r2 h) h) h

def zf64.b2 (U : Ifc)  (I2 : Sl → V → Int → Int → Heap → Prop) (a1 : Sl) (a2 : V) (a3 : Int) (a4 : Int) (Q : Int → Heap → Prop) (h : Heap) : Prop :=
  br (decide (a4 < a3)) (ix a4 a1.len (fun n1 => der a1.p (fun p2 => rdI .u8 (p2.add (n1 * 1)) (fun x3 => U.callV a2 [.int .u8 x3] (fun r4 h => asB r4 (fun x5 => br x5 (Q a4 h) (I2 a1 a2 a3 (IntKind.i64.wrap (a4 + 1)) h))) h) h))) (Q (-1) h)

def zf64.j2 (U : Ifc)  (a1 : Sl) (a2 : V) (a3 : Int) (a4 : Int) (Q : Int → Heap → Prop) (h : Heap) : Prop :=
  ∀ I : Sl → V → Int → Int → Heap → Prop, (∀ a1 a2 a3 a4 h, zf64.b2 U  I a1 a2 a3 a4 Q h → I a1 a2 a3 a4 h) → I a1 a2 a3 a4 h

def zf64 (U : Ifc) (a1 : Sl) (a2 : V) (Q : Int → Heap → Prop) (h : Heap) : Prop :=
  zf64.j2 U a1 a2 ((a1.len : Nat) : Int) 0 Q h

def zf61 (U : Ifc) (a1 : Sl) (a2 : V) (Q : Bool → Heap → Prop) (h : Heap) : Prop :=
  zf64 U a1 a2 (fun r1 h => Q (decide (r1 ≥ 0)) h) h

def zf59 (a1 : Sl) (Q : Sl → Heap → Prop) (h : Heap) : Prop :=
  br a1.p.isNone (Q ⟨none, 0, 0⟩ h) (al [] (fun b1 h => cellsS 1 a1 (fun cs3 => appS 1 1 [.int .u8 0] ⟨some ⟨b1, 0⟩, 0, 0⟩ cs3 a1.len (fun s2 h => Q s2 h) h) h) h)

def zf15 (U : Ifc) (a1 : Option Ptr) (a2 : Int) (a3 : Sl) (Q : Int → Heap → Prop) (h : Heap) : Prop :=
  zf20 a1 a2 (fun r1 h => br (r1 != 0) (Q r1 h) (br (((a3.len : Nat) : Int) != 256) (Q 2 h) (zf61 U a3 (.fn 57 []) (fun r2 h => br (!r2) (der a1 (fun p3 => rdM (p3.add 1) (fun x4 => mapDel (.int .i64) x4 (.int .i64 a2) (fun h => Q 0 h) h) h)) (der a1 (fun p5 => rdM (p5.add 1) (fun x6 => zf59 a3 (fun r7 h => ck (p5.add 1) [.map x6] 0 h ∧ (mapPut (.int .i64) x6 (.int .i64 a2) (.sl r7) (fun h => Q 0 h) h)) h) h))) h))) h

def zf10 (a1 : Option Ptr) (a2 : Int) (Q : Sl → Int → Heap → Prop) (h : Heap) : Prop :=
  zf20 a1 a2 (fun r1 h => br (r1 != 0) (Q ⟨none, 0, 0⟩ r1 h) (mkSl 1 [.int .u8 0] 256 256 (fun s2 h => der a1 (fun p3 => rdM (p3.add 1) (fun x4 => mapGet (.int .i64) x4 (.int .i64 a2) (fun o5 => asSl (o5.getD (.sl ⟨none, 0, 0⟩)) (fun x6 => cellsS 1 x6 (fun cs7 => copyS 1 s2 cs7 x6.len (fun x8 h => Q s2 0 h) h) h)) h) h)) h)) h

def zf12.j2 (U : Ifc)  (a1 : Ptr) (Q : Int → Bool → Int → Int → Int → Heap → Prop) (h : Heap) : Prop :=
  wrL [.int .i64 0, .bool false, .int .i64 0, .int .i64 0] a1 0 (fun h => rdI .i64 (a1.add 0) (fun x1 => rdB (a1.add 1) (fun x2 => rdI .i64 (a1.add 2) (fun x3 => rdI .i64 (a1.add 3) (fun x4 => Q x1 x2 x3 x4 1 h) h) h) h) h) h

def zf12.j4 (U : Ifc)  (a1 : Ptr) (Q : Int → Bool → Int → Int → Int → Heap → Prop) (h : Heap) : Prop :=
  wrL [.int .i64 0, .bool false, .int .i64 0, .int .i64 0] a1 0 (fun h => rdI .i64 (a1.add 0) (fun x1 => rdB (a1.add 1) (fun x2 => rdI .i64 (a1.add 2) (fun x3 => rdI .i64 (a1.add 3) (fun x4 => Q x1 x2 x3 x4 14 h) h) h) h) h) h

def zf12.j8 (U : Ifc)  (a1 : Ptr) (a2 : Ptr) (Q : Int → Bool → Int → Int → Int → Heap → Prop) (h : Heap) : Prop :=
  rdI .i64 (a2.add 0) (fun x1 => rdB (a2.add 1) (fun x2 => rdI .i64 (a2.add 2) (fun x3 => rdI .i64 (a2.add 3) (fun x4 => wrL [.int .i64 x1, .bool x2, .int .i64 x3, .int .i64 x4] a1 0 (fun h => rdI .i64 (a1.add 0) (fun x5 => rdB (a1.add 1) (fun x6 => rdI .i64 (a1.add 2) (fun x7 => rdI .i64 (a1.add 3) (fun x8 => Q x5 x6 x7 x8 12 h) h) h) h) h) h) h) h) h) h

def zf12.j10 (U : Ifc)  (a1 : Option Ptr) (a2 : Option Ptr) (a3 : Ptr) (a4 : Ptr) (a5 : Int) (Q : Int → Bool → Int → Int → Int → Heap → Prop) (h : Heap) : Prop :=
  rdB (a4.add 1) (fun x1 => br x1 (zf31 a2 a5 256 (fun r2 r3 h => rdI .i64 (a4.add 0) (fun x4 => rdB (a4.add 1) (fun x5 => rdI .i64 (a4.add 2) (fun x6 => rdI .i64 (a4.add 3) (fun x7 => rdI .i64 (a4.add 2) (fun x8 => zf15 U a1 x8 r2 (fun r9 h => ck a4 [.int .i64 x4, .bool x5, .int .i64 x6, .int .i64 x7] 0 h ∧ (wrL [.int .i64 x4, .bool x5, .int .i64 x6, .int .i64 x7] a3 0 (fun h => rdI .i64 (a3.add 0) (fun x10 => rdB (a3.add 1) (fun x11 => rdI .i64 (a3.add 2) (fun x12 => rdI .i64 (a3.add 3) (fun x13 => Q x10 x11 x12 x13 r9 h) h) h) h) h) h)) h) h) h) h) h) h) h) (rdI .i64 (a4.add 2) (fun x14 => zf10 a1 x14 (fun r15 r16 h => rdI .i64 (a4.add 0) (fun x17 => rdB (a4.add 1) (fun x18 => rdI .i64 (a4.add 2) (fun x19 => rdI .i64 (a4.add 3) (fun x20 => zf34 a2 a5 r15 (fun r21 h => ck a4 [.int .i64 x17, .bool x18, .int .i64 x19, .int .i64 x20] 0 h ∧ (wrL [.int .i64 x17, .bool x18, .int .i64 x19, .int .i64 x20] a3 0 (fun h => rdI .i64 (a3.add 0) (fun x22 => rdB (a3.add 1) (fun x23 => rdI .i64 (a3.add 2) (fun x24 => rdI .i64 (a3.add 3) (fun x25 => Q x22 x23 x24 x25 r21 h) h) h) h) h) h)) h) h) h) h) h) h) h)) h

def zf12.j6 (U : Ifc)  (a1 : Option Ptr) (a2 : Option Ptr) (a3 : Ptr) (a4 : Ptr) (Q : Int → Bool → Int → Int → Int → Heap → Prop) (h : Heap) : Prop :=
  der a1 (fun p1 => rdSl (p1.add 2) (fun x2 => zf63 U x2 (.fn 56 [.ptr (some a4)]) (fun r3 h => der a1 (fun p4 => wr (p4.add 2) (.sl r3) (fun h => rdI .i64 (a4.add 3) (fun x5 => br (decide (x5 < 0)) (zf12.j8 U a3 a4 Q h) (rdI .i64 (a4.add 3) (fun x6 => zf32 a2 (fun r7 h => ck (a4.add 3) [.int .i64 x6] 0 h ∧ (br (decide (x6 ≥ r7)) (zf12.j8 U a3 a4 Q h) (rdI .i64 (a4.add 3) (fun x8 => zf12.j10 U a1 a2 a3 a4 (IntKind.u64.wrap ((IntKind.u64.wrap x8) * 256)) Q h) h))) h) h)) h) h)) h) h)

def zf12 (U : Ifc) (a1 : Option Ptr) (a2 : Option Ptr) (a3 : Int) (Q : Int → Bool → Int → Int → Int → Heap → Prop) (h : Heap) : Prop :=
  al [.int .i64 0, .bool false, .int .i64 0, .int .i64 0] (fun b1 h => zf19 a1 (fun r2 h => br r2 (zf12.j2 U (⟨b1, 0⟩ : Ptr) Q h) (zf32 a2 (fun r3 h => br (r3 == 0) (zf12.j2 U (⟨b1, 0⟩ : Ptr) Q h) (br (decide (a3 < 0)) (zf12.j4 U (⟨b1, 0⟩ : Ptr) Q h) (der a1 (fun p4 => rdSl (p4.add 2) (fun x5 => br (decide (a3 ≥ ((x5.len : Nat) : Int))) (zf12.j4 U (⟨b1, 0⟩ : Ptr) Q h) (der a1 (fun p6 => rdSl (p6.add 2) (fun x7 => ix a3 x7.len (fun n8 => der x7.p (fun p9 => rdI .i64 ((p9.add (n8 * 4)).add 0) (fun x10 => rdB ((p9.add (n8 * 4)).add 1) (fun x11 => rdI .i64 ((p9.add (n8 * 4)).add 2) (fun x12 => rdI .i64 ((p9.add (n8 * 4)).add 3) (fun x13 => al [.int .i64 0, .bool false, .int .i64 0, .int .i64 0] (fun b14 h => wrL [.int .i64 x10, .bool x11, .int .i64 x12, .int .i64 x13] (⟨b14, 0⟩ : Ptr) 0 (fun h => zf12.j6 U a1 a2 (⟨b1, 0⟩ : Ptr) (⟨b14, 0⟩ : Ptr) Q h) h) h) h) h) h) h))) h))) h)))) h)) h) h

def zf0.j7 (U : Ifc)  (a1 : Option Ptr) (a2 : V) (a3 : Ptr) (Q : Bool → Int → Heap → Prop) (h : Heap) : Prop :=
  der a1 (fun p1 => rdP (p1.add 4) (fun x2 => rdI .i64 (a3.add 2) (fun x3 => der a1 (fun p4 => rdI .i64 (p4.add 5) (fun x5 => zf23 x2 x3 x5 (fun r6 r7 h => rdI .i64 ((a3.add 0).add 0) (fun x8 => rdSl ((a3.add 0).add 1) (fun x9 => zf8 U a2 x8 x9 0 (fun r10 h => rdB (a3.add 3) (fun x11 => br x11 (der a1 (fun p12 => rdP (p12.add 0) (fun x13 => rdI .i64 ((a3.add 0).add 0) (fun x14 => zf53 U x13 a2 x14 (IntKind.i64.wrap (r10 + 256)) (fun r15 h => Q true r15 h) h) h) h)) (der a1 (fun p16 => rdP (p16.add 0) (fun x17 => rdI .i64 ((a3.add 0).add 0) (fun x18 => zf53 U x17 a2 x18 r10 (fun r19 h => Q true r19 h) h) h) h))) h) h) h) h) h) h)) h) h)

def zf0 (U : Ifc) (a1 : Option Ptr) (a2 : V) (a3 : Int) (Q : Bool → Int → Heap → Prop) (h : Heap) : Prop :=
  zf4 a1 a2 (fun r1 h => br r1 (Q false 1 h) (der a1 (fun p2 => rdM (p2.add 7) (fun x3 => mapGet (.int .i64) x3 (.int .i64 a3) (fun o4 => asAggV (o4.getD (.agg [.int .i64 0, .sl ⟨none, 0, 0⟩, .int .i64 0, .bool false])) (fun l5 => asCons l5 (fun v6 l7 => asI .i64 v6 (fun x8 => asCons l7 (fun v9 l10 => asSl v9 (fun x11 => asCons l10 (fun v12 l13 => asI .i64 v12 (fun x14 => asCons l13 (fun v15 l16 => asB v15 (fun x17 => asNil l16 (al [.int .i64 0, .sl ⟨none, 0, 0⟩, .int .i64 0, .bool false] (fun b18 h => wrL [.int .i64 x8, .sl x11, .int .i64 x14, .bool x17] (⟨b18, 0⟩ : Ptr) 0 (fun h => br (!o4.isSome) (Q false 0 h) (der a1 (fun p19 => rdM (p19.add 7) (fun x20 => mapDel (.int .i64) x20 (.int .i64 a3) (fun h => zf0.j7 U a1 a2 (⟨b18, 0⟩ : Ptr) Q h) h) h))) h) h))))))))))) h) h))) h

def zf66.j2 (U : Ifc)   (Q : Int → Bool → Heap → Prop) (h : Heap) : Prop :=
  Q 0 false h

def zf66.b5 (U : Ifc)  (I5 : Int → Int → Sl → Int → Int → Heap → Prop) (a1 : Int) (a2 : Int) (a3 : Sl) (a4 : Int) (a5 : Int) (Q : Int → Bool → Heap → Prop) (h : Heap) : Prop :=
  br (decide (a5 < a4)) (ix a5 a3.len (fun n1 => der a3.p (fun p2 => rdI .u8 (p2.add (n1 * 1)) (fun x3 => nneg (IntKind.i64.wrap (8 * a5)) (I5 a1 (ibits .or .u64 a2 (shlI .u64 (IntKind.u64.wrap x3) (IntKind.i64.wrap (8 * a5)))) a3 a4 (IntKind.i64.wrap (a5 + 1)) h)) h))) (br (a1 == 4) (Q (IntKind.u64.wrap (IntKind.i64.wrap (IntKind.i32.wrap a2))) true h) (Q a2 true h))

def zf66.j5 (U : Ifc)  (a1 : Int) (a2 : Int) (a3 : Sl) (a4 : Int) (a5 : Int) (Q : Int → Bool → Heap → Prop) (h : Heap) : Prop :=
  ∀ I : Int → Int → Sl → Int → Int → Heap → Prop, (∀ a1 a2 a3 a4 a5 h, zf66.b5 U  I a1 a2 a3 a4 a5 Q h → I a1 a2 a3 a4 a5 h) → I a1 a2 a3 a4 a5 h

def zf66 (U : Ifc) (a1 : Sl) (a2 : Int) (a3 : Int) (Q : Int → Bool → Heap → Prop) (h : Heap) : Prop :=
  zf68 U a3 (fun r1 h => br (!r1) (zf66.j2 U Q h) (br (decide (a2 < 0)) (zf66.j2 U Q h) (br (decide (a2 > (IntKind.i64.wrap (((a1.len : Nat) : Int) - a3)))) (zf66.j2 U Q h) (sb (IntKind.i64.wrap (a2 + a3)) a1.cap (fun n2 => sb a2 n2 (fun n3 => zf66.j5 U a3 0 ⟨slp a1.p (n3 * 1) n3 a1.cap, n2 - n3, a1.cap - n3⟩ ((n2 - n3 : Nat) : Int) 0 Q h)))))) h

def zf33 (U : Ifc) (a1 : Option Ptr) (a2 : Int) (a3 : Int) (Q : Int → Int → Heap → Prop) (h : Heap) : Prop :=
  zf37 a1 a2 a3 (fun r1 r2 h => br (r2 != 0) (Q 0 r2 h) (zf66 U r1 0 a3 (fun r3 r4 h => Q r3 0 h) h)) h

def zf44 (U : Ifc) (a1 : Option Ptr) (a2 : Int) (a3 : Int) (Q : Int → Int → Heap → Prop) (h : Heap) : Prop :=
  der a1 (fun p1 => rdI .i64 (p1.add 2) (fun x2 => br (decide (a2 ≥ (IntKind.u64.wrap (IntKind.i64.wrap (256 * x2))))) (Q 0 12 h) (der a1 (fun p3 => rdP (p3.add 0) (fun x4 => der a1 (fun p5 => rdI .i64 (p5.add 1) (fun x6 => zf33 U x4 (IntKind.u64.wrap (a2 + (IntKind.u64.wrap (IntKind.i64.wrap (256 * x6))))) a3 (fun r7 r8 h => Q r7 r8 h) h) h)) h))) h)

def zf47 (U : Ifc) (a1 : Option Ptr) (Q : Int → Int → Heap → Prop) (h : Heap) : Prop :=
  zf44 U a1 328 8 (fun r1 r2 h => nz 8 (zf44 U a1 (IntKind.u64.wrap ((IntKind.u64.wrap (336 + (IntKind.u64.wrap (16 * ((IntKind.u64.wrap (r1 - 1)).tmod 8))))) + 8)) 8 (fun r3 r4 h => Q (IntKind.i64.wrap r1) (IntKind.i64.wrap r3) h) h)) h

def zf42.j2   (Q : Sl → Int → Heap → Prop) (h : Heap) : Prop :=
  Q ⟨none, 0, 0⟩ 12 h

def zf42.j3  (a1 : Option Ptr) (a2 : Int) (a3 : Int) (Q : Sl → Int → Heap → Prop) (h : Heap) : Prop :=
  der a1 (fun p1 => rdP (p1.add 0) (fun x2 => der a1 (fun p3 => rdI .i64 (p3.add 1) (fun x4 => zf31 x2 (IntKind.u64.wrap (a2 + (IntKind.u64.wrap (IntKind.i64.wrap (256 * x4))))) a3 (fun r5 r6 h => Q r5 r6 h) h) h)) h)

def zf42 (a1 : Option Ptr) (a2 : Int) (a3 : Int) (Q : Sl → Int → Heap → Prop) (h : Heap) : Prop :=
  br (decide (a3 < 0)) (zf42.j2 Q h) (der a1 (fun p1 => rdI .i64 (p1.add 2) (fun x2 => br (decide (a2 > (IntKind.u64.wrap (IntKind.i64.wrap (256 * x2))))) (zf42.j2 Q h) (der a1 (fun p3 => rdI .i64 (p3.add 2) (fun x4 => br (decide ((IntKind.u64.wrap a3) > (IntKind.u64.wrap ((IntKind.u64.wrap (IntKind.i64.wrap (256 * x4))) - a2)))) (zf42.j2 Q h) (zf42.j3 a1 a2 a3 Q h)) h))) h))

def zf41.j29 (U : Ifc) (I11 : Sl → (Option Ptr) → Ptr → Ptr → Int → Heap → Prop)  (Q : Bool → Heap → Prop) (h : Heap) : Prop :=
  Q false h

def zf41.j40 (U : Ifc) (I11 : Sl → (Option Ptr) → Ptr → Ptr → Int → Heap → Prop)  (Q : Bool → Heap → Prop) (h : Heap) : Prop :=
  Q false h

def zf41.j12 (U : Ifc) (I11 : Sl → (Option Ptr) → Ptr → Ptr → Int → Heap → Prop) (a1 : Sl) (a2 : Option Ptr) (a3 : Ptr) (a4 : Ptr) (a5 : Int) (Q : Bool → Heap → Prop) (h : Heap) : Prop :=
  I11 a1 a2 a3 a4 (IntKind.i64.wrap (a5 + 1)) h

def zf41.j41 (U : Ifc) (I11 : Sl → (Option Ptr) → Ptr → Ptr → Int → Heap → Prop) (a1 : Sl) (a2 : Option Ptr) (a3 : Ptr) (a4 : Ptr) (a5 : Int) (a6 : Ptr) (a7 : Int) (a8 : Option Ptr) (a9 : Int) (a10 : Int) (a11 : Sl) (Q : Bool → Heap → Prop) (h : Heap) : Prop :=
  rdB (a6.add 3) (fun x1 => br x1 (cellsS 1 a11 (fun cs2 => bytesOf cs2 (fun s3 => ix (IntKind.i64.wrap ((IntKind.i64.wrap (4 * a7)) + a9)) 8 (fun n4 => wr (a3.add (n4 * 1)) (.str s3) (fun h => zf41.j12 U I11 a1 a2 a3 a4 a5 Q h) h))) h) (zf42 a8 (IntKind.u64.wrap (IntKind.i64.wrap (256 * a10))) 256 (fun r5 r6 h => ix (IntKind.i64.wrap ((IntKind.i64.wrap (4 * a7)) + a9)) 8 (fun n7 => rdStr (a3.add (n7 * 1)) (fun x8 => cellsS 1 r5 (fun cs9 => bytesOf cs9 (fun s10 => ck (a3.add (n7 * 1)) [.str x8] 0 h ∧ (br (!(s10 == x8)) (Q false h) (zf41.j12 U I11 a1 a2 a3 a4 a5 Q h)))) h) h)) h)) h

def zf41.j39 (U : Ifc) (I11 : Sl → (Option Ptr) → Ptr → Ptr → Int → Heap → Prop) (a1 : Sl) (a2 : Option Ptr) (a3 : Ptr) (a4 : Ptr) (a5 : Int) (a6 : Ptr) (a7 : Int) (a8 : Option Ptr) (a9 : Int) (a10 : Int) (a11 : Sl) (a12 : Int) (a13 : Int) (a14 : Bool) (a15 : Int) (a16 : Bool) (a17 : Int) (a18 : Int) (a19 : Int) (a20 : Int) (a21 : Int) (Q : Bool → Heap → Prop) (h : Heap) : Prop :=
  br (a12 != 0) (zf41.j40 U I11 Q h) (br a14 (zf41.j40 U I11 Q h) (br (a15 != 0) (zf41.j40 U I11 Q h) (br (!a16) (zf41.j40 U I11 Q h) (br (a17 != 0) (zf41.j40 U I11 Q h) (br (a13 != 1) (zf41.j40 U I11 Q h) (br (a18 != 0) (zf41.j40 U I11 Q h) (ix a7 2 (fun n1 => rdI .i64 (a4.add (n1 * 1)) (fun x2 => br (a19 != x2) (zf41.j40 U I11 Q h) (br (a20 != a21) (zf41.j40 U I11 Q h) (der a2 (fun p3 => ix a7 2 (fun n4 => rdP ((p3.add 7).add (n4 * 1)) (fun x5 => zf2 x5 (fun r6 h => br (r6 != 0) (zf41.j40 U I11 Q h) (zf41.j41 U I11 a1 a2 a3 a4 a5 a6 a7 a8 a9 a10 a11 Q h)) h) h))))) h))))))))

def zf41.j36 (U : Ifc) (I11 : Sl → (Option Ptr) → Ptr → Ptr → Int → Heap → Prop) (a1 : Sl) (a2 : Option Ptr) (a3 : Ptr) (a4 : Ptr) (a5 : Int) (a6 : Ptr) (a7 : Int) (a8 : Option Ptr) (a9 : Int) (a10 : Int) (a11 : Sl) (a12 : Int) (a13 : Int) (a14 : Bool) (a15 : Int) (a16 : Bool) (a17 : Int) (a18 : Int) (a19 : Int) (a20 : Int) (Q : Bool → Heap → Prop) (h : Heap) : Prop :=
  rdB (a6.add 3) (fun x1 => br (!x1) (zf41.j39 U I11 a1 a2 a3 a4 a5 a6 a7 a8 a9 a10 a11 a12 a13 a14 a15 a16 a17 a18 a19 a20 257 Q h) (zf41.j39 U I11 a1 a2 a3 a4 a5 a6 a7 a8 a9 a10 a11 a12 a13 a14 a15 a16 a17 a18 a19 a20 1 Q h)) h

def zf41.j33 (U : Ifc) (I11 : Sl → (Option Ptr) → Ptr → Ptr → Int → Heap → Prop) (a1 : Sl) (a2 : Option Ptr) (a3 : Ptr) (a4 : Ptr) (a5 : Int) (a6 : Ptr) (a7 : Int) (a8 : Option Ptr) (a9 : Int) (a10 : Int) (a11 : Sl) (a12 : Int) (a13 : Bool) (a14 : Int) (a15 : Bool) (a16 : Int) (Q : Bool → Heap → Prop) (h : Heap) : Prop :=
  der a2 (fun p1 => rdP (p1.add 1) (fun x2 => der a8 (fun p3 => rdI .i64 (p3.add 1) (fun x4 => zf25 x2 (IntKind.i64.wrap (x4 + a10)) (fun r5 r6 r7 h => zf44 U a8 1100 1 (fun r8 r9 h => zf47 U a8 (fun r10 r11 h => zf41.j36 U I11 a1 a2 a3 a4 a5 a6 a7 a8 a9 a10 a11 a12 r6 a13 a14 a15 a16 r8 r10 r11 Q h) h) h) h) h)) h)

def zf41.j31 (U : Ifc) (I11 : Sl → (Option Ptr) → Ptr → Ptr → Int → Heap → Prop) (a1 : Sl) (a2 : Option Ptr) (a3 : Ptr) (a4 : Ptr) (a5 : Int) (a6 : Ptr) (a7 : Int) (a8 : Option Ptr) (a9 : Int) (a10 : Int) (a11 : Sl) (a12 : Int) (a13 : Ptr) (Q : Bool → Heap → Prop) (h : Heap) : Prop :=
  der a2 (fun p1 => ix (IntKind.i64.wrap (1 - a7)) 2 (fun n2 => rdP ((p1.add 7).add (n2 * 1)) (fun x3 => der a2 (fun p4 => ix (IntKind.i64.wrap (1 - a7)) 2 (fun n5 => rdP ((p4.add 3).add (n5 * 1)) (fun x6 => rdI .i64 (a13.add 0) (fun x7 => ck (a13.add 0) [.int .i64 x7] 0 h ∧ ck ((p1.add 7).add (n2 * 1)) [.ptr x3] 0 h ∧ zf0 U x3 (.iface 4 (.ptr x6)) x7 (fun r8 r9 h => der a2 (fun p10 => ix a7 2 (fun n11 => rdP ((p10.add 7).add (n11 * 1)) (fun x12 => rdI .i64 (a13.add 0) (fun x13 => ck (a13.add 0) [.int .i64 x13] 0 h ∧ ck ((p10.add 7).add (n11 * 1)) [.ptr x12] 0 h ∧ (zf0 U x12 (.iface 4 (.ptr a8)) x13 (fun r14 r15 h => zf41.j33 U I11 a1 a2 a3 a4 a5 a6 a7 a8 a9 a10 a11 a12 r8 r9 r14 r15 Q h) h)) h) h))) h) h) h))) h))

def zf41.j30 (U : Ifc) (I11 : Sl → (Option Ptr) → Ptr → Ptr → Int → Heap → Prop) (a1 : Sl) (a2 : Option Ptr) (a3 : Ptr) (a4 : Ptr) (a5 : Int) (a6 : Ptr) (a7 : Int) (a8 : Option Ptr) (a9 : Int) (a10 : Int) (a11 : Sl) (Q : Bool → Heap → Prop) (h : Heap) : Prop :=
  der a2 (fun p1 => rdP (p1.add 2) (fun x2 => der a2 (fun p3 => rdP (p3.add 0) (fun x4 => (zf12 U x2 x4 0 (fun r5 r6 r7 r8 r9 h => al [.int .i64 0, .bool false, .int .i64 0, .int .i64 0] (fun b10 h => wrL [.int .i64 r5, .bool r6, .int .i64 r7, .int .i64 r8] (⟨b10, 0⟩ : Ptr) 0 (fun h => zf41.j31 U I11 a1 a2 a3 a4 a5 a6 a7 a8 a9 a10 a11 r9 (⟨b10, 0⟩ : Ptr) Q h) h) h) h) ∧ (al [.int .i64 0, .bool false, .int .i64 0, .int .i64 0] (fun b11 h => ck (p3.add 0) [.ptr x4] 0 h ∧ ck (p1.add 2) [.ptr x2] 0 h ∧ (zf12 U x2 x4 0 (fun r12 r13 r14 r15 r16 h => wrL [.int .i64 r12, .bool r13, .int .i64 r14, .int .i64 r15] (⟨b11, 0⟩ : Ptr) 0 (fun h => zf41.j31 U I11 a1 a2 a3 a4 a5 a6 a7 a8 a9 a10 a11 r16 (⟨b11, 0⟩ : Ptr) Q h) h) h)) h)) h)) h)

def zf41.j26 (U : Ifc) (I11 : Sl → (Option Ptr) → Ptr → Ptr → Int → Heap → Prop) (a1 : Sl) (a2 : Option Ptr) (a3 : Ptr) (a4 : Ptr) (a5 : Int) (a6 : Ptr) (a7 : Int) (a8 : Option Ptr) (a9 : Int) (a10 : Int) (a11 : Sl) (a12 : Int) (a13 : Int) (Q : Bool → Heap → Prop) (h : Heap) : Prop :=
  der a2 (fun p1 => rdP (p1.add 2) (fun x2 => zf14 x2 (fun r3 h => der a2 (fun p4 => rdP (p4.add 1) (fun x5 => der a8 (fun p6 => rdI .i64 (p6.add 1) (fun x7 => zf25 x5 (IntKind.i64.wrap (x7 + a10)) (fun r8 r9 r10 h => br (a12 != 0) (zf41.j29 U I11 Q h) (br (a13 != 0) (zf41.j29 U I11 Q h) (der a2 (fun p11 => ix a7 2 (fun n12 => rdP ((p11.add 7).add (n12 * 1)) (fun x13 => zf2 x13 (fun r14 h => br (r14 != 1) (zf41.j29 U I11 Q h) (br (((r3.len : Nat) : Int) != 1) (zf41.j29 U I11 Q h) (br (r9 != 2) (zf41.j29 U I11 Q h) (ix 0 r3.len (fun n15 => der r3.p (fun p16 => rdI .i64 ((p16.add (n15 * 4)).add 3) (fun x17 => der a8 (fun p18 => rdI .i64 (p18.add 1) (fun x19 => br (x17 != (IntKind.i64.wrap (x19 + a10))) (zf41.j29 U I11 Q h) (ix 0 r3.len (fun n20 => der r3.p (fun p21 => rdI .i64 ((p21.add (n20 * 4)).add 2) (fun x22 => br (x22 != (IntKind.i64.wrap ((IntKind.i64.wrap (4 * a7)) + a9))) (zf41.j29 U I11 Q h) (zf41.j30 U I11 a1 a2 a3 a4 a5 a6 a7 a8 a9 a10 a11 Q h)) h)))) h)) h)))))) h) h))))) h) h)) h)) h) h)

def zf41.j23 (U : Ifc) (I11 : Sl → (Option Ptr) → Ptr → Ptr → Int → Heap → Prop) (a1 : Sl) (a2 : Option Ptr) (a3 : Ptr) (a4 : Ptr) (a5 : Int) (a6 : Ptr) (a7 : Int) (a8 : Option Ptr) (a9 : Int) (a10 : Int) (a11 : Sl) (a12 : Int) (Q : Bool → Heap → Prop) (h : Heap) : Prop :=
  ix a7 2 (fun n1 => rdI .i64 (a4.add (n1 * 1)) (fun x2 => zf50 U a8 a12 (IntKind.u64.wrap a9) a10 (fun r3 h => ck (a4.add (n1 * 1)) [.int .i64 x2] 0 h ∧ (zf49 U a8 x2 r3 (fun h => ix a7 2 (fun n4 => rdI .i64 (a4.add (n4 * 1)) (fun x5 => ix a7 2 (fun n6 => wr (a4.add (n6 * 1)) (.int .i64 (IntKind.i64.wrap (x5 + 1))) (fun h => der a2 (fun p7 => ix a7 2 (fun n8 => rdP ((p7.add 7).add (n8 * 1)) (fun x9 => zf1 U x9 (.iface 4 (.ptr a8)) (fun r10 r11 h => zf41.j26 U I11 a1 a2 a3 a4 a5 a6 a7 a8 a9 a10 a11 r10 r11 Q h) h) h))) h)) h)) h)) h) h)

def zf41.j20 (U : Ifc) (I11 : Sl → (Option Ptr) → Ptr → Ptr → Int → Heap → Prop) (a1 : Sl) (a2 : Option Ptr) (a3 : Ptr) (a4 : Ptr) (a5 : Int) (a6 : Ptr) (a7 : Int) (a8 : Option Ptr) (a9 : Int) (a10 : Int) (a11 : Sl) (Q : Bool → Heap → Prop) (h : Heap) : Prop :=
  rdB (a6.add 3) (fun x1 => br x1 (zf41.j23 U I11 a1 a2 a3 a4 a5 a6 a7 a8 a9 a10 a11 1 Q h) (zf41.j23 U I11 a1 a2 a3 a4 a5 a6 a7 a8 a9 a10 a11 0 Q h)) h

def zf41.j16 (U : Ifc) (I11 : Sl → (Option Ptr) → Ptr → Ptr → Int → Heap → Prop) (a1 : Sl) (a2 : Option Ptr) (a3 : Ptr) (a4 : Ptr) (a5 : Int) (a6 : Ptr) (a7 : Int) (a8 : Option Ptr) (Q : Bool → Heap → Prop) (h : Heap) : Prop :=
  rdI .i64 (a6.add 1) (fun x1 => rdI .i64 (a6.add 2) (fun x2 => al [] (fun b3 h => rdSl (a6.add 4) (fun x4 => cellsS 1 x4 (fun cs6 => appS 1 1 [.int .u8 0] ⟨some ⟨b3, 0⟩, 0, 0⟩ cs6 x4.len (fun s5 h => appZ 1 1 [.int .u8 0] s5 256 (fun s7 h => sb 256 s7.cap (fun n8 => rdB (a6.add 3) (fun x9 => br x9 (zf45 a8 (IntKind.u64.wrap (IntKind.i64.wrap (256 * (IntKind.i64.wrap (6 + (ibits .and .i64 x2 7)))))) ⟨slp s7.p (0 * 1) 0 s7.cap, n8 - 0, s7.cap - 0⟩ (fun r10 h => zf41.j20 U I11 a1 a2 a3 a4 a5 a6 a7 a8 (ibits .and .i64 x1 3) (IntKind.i64.wrap (6 + (ibits .and .i64 x2 7))) ⟨slp s7.p (0 * 1) 0 s7.cap, n8 - 0, s7.cap - 0⟩ Q h) h) (zf41.j20 U I11 a1 a2 a3 a4 a5 a6 a7 a8 (ibits .and .i64 x1 3) (IntKind.i64.wrap (6 + (ibits .and .i64 x2 7))) ⟨slp s7.p (0 * 1) 0 s7.cap, n8 - 0, s7.cap - 0⟩ Q h)) h)) h) h) h) h) h) h) h

def zf41.b11 (U : Ifc)  (I11 : Sl → (Option Ptr) → Ptr → Ptr → Int → Heap → Prop) (a1 : Sl) (a2 : Option Ptr) (a3 : Ptr) (a4 : Ptr) (a5 : Int) (Q : Bool → Heap → Prop) (h : Heap) : Prop :=
  br (decide (a5 < ((a1.len : Nat) : Int))) (br (decide (a5 < 100)) (ix a5 a1.len (fun n1 => der a1.p (fun p2 => rdI .i64 ((p2.add (n1 * 5)).add 0) (fun x3 => rdI .i64 ((p2.add (n1 * 5)).add 1) (fun x4 => rdI .i64 ((p2.add (n1 * 5)).add 2) (fun x5 => rdB ((p2.add (n1 * 5)).add 3) (fun x6 => rdSl ((p2.add (n1 * 5)).add 4) (fun x7 => al [.int .i64 0, .int .i64 0, .int .i64 0, .bool false, .sl ⟨none, 0, 0⟩] (fun b8 h => wrL [.int .i64 x3, .int .i64 x4, .int .i64 x5, .bool x6, .sl x7] (⟨b8, 0⟩ : Ptr) 0 (fun h => rdI .i64 ((⟨b8, 0⟩ : Ptr).add 0) (fun x9 => der a2 (fun p10 => ix (ibits .and .i64 x9 1) 2 (fun n11 => rdP ((p10.add 3).add (n11 * 1)) (fun x12 => zf41.j16 U I11 a1 a2 a3 a4 a5 (⟨b8, 0⟩ : Ptr) (ibits .and .i64 x9 1) x12 Q h) h))) h) h) h) h) h) h) h) h))) (Q true h)) (Q true h)

def zf41.j11 (U : Ifc)  (a1 : Sl) (a2 : Option Ptr) (a3 : Ptr) (a4 : Ptr) (a5 : Int) (Q : Bool → Heap → Prop) (h : Heap) : Prop :=
  ∀ I : Sl → (Option Ptr) → Ptr → Ptr → Int → Heap → Prop, (∀ a1 a2 a3 a4 a5 h, zf41.b11 U  I a1 a2 a3 a4 a5 Q h → I a1 a2 a3 a4 a5 h) → I a1 a2 a3 a4 a5 h

def zf41.b6 (U : Ifc)  (I6 : Sl → (Option Ptr) → Ptr → Int → Heap → Prop) (a1 : Sl) (a2 : Option Ptr) (a3 : Ptr) (a4 : Int) (Q : Bool → Heap → Prop) (h : Heap) : Prop :=
  br (decide (a4 < 8)) (mkSl 1 [.int .u8 0] 256 256 (fun s1 h => cellsS 1 s1 (fun cs2 => bytesOf cs2 (fun s3 => ix a4 8 (fun n4 => wr (a3.add (n4 * 1)) (.str s3) (fun h => I6 a1 a2 a3 (IntKind.i64.wrap (a4 + 1)) h) h))) h) h) (al [.int .i64 0, .int .i64 0] (fun b5 h => zf41.j11 U a1 a2 a3 (⟨b5, 0⟩ : Ptr) 0 Q h) h)

def zf41.j6 (U : Ifc)  (a1 : Sl) (a2 : Option Ptr) (a3 : Ptr) (a4 : Int) (Q : Bool → Heap → Prop) (h : Heap) : Prop :=
  ∀ I : Sl → (Option Ptr) → Ptr → Int → Heap → Prop, (∀ a1 a2 a3 a4 h, zf41.b6 U  I a1 a2 a3 a4 Q h → I a1 a2 a3 a4 h) → I a1 a2 a3 a4 h

def zf41 (U : Ifc) (a1 : Sl) (Q : Bool → Heap → Prop) (h : Heap) : Prop :=
  zf48 (fun r1 h => br r1.isNone (Q false h) (al zf70 (fun b2 h => zf41.j6 U a1 r1 (⟨b2, 0⟩ : Ptr) 0 Q h) h)) h

def zf13 (a1 : Int) (a2 : Bool) (a3 : Int) (a4 : Int) (a5 : Ptr) (Q : Bool → Heap → Prop) (h : Heap) : Prop :=
  al [.int .i64 a1, .bool a2, .int .i64 a3, .int .i64 a4] (fun b1 h => rdI .i64 ((⟨b1, 0⟩ : Ptr).add 0) (fun x2 => rdB ((⟨b1, 0⟩ : Ptr).add 1) (fun x3 => rdI .i64 ((⟨b1, 0⟩ : Ptr).add 2) (fun x4 => rdI .i64 ((⟨b1, 0⟩ : Ptr).add 3) (fun x5 => rdI .i64 (a5.add 0) (fun x6 => rdB (a5.add 1) (fun x7 => rdI .i64 (a5.add 2) (fun x8 => rdI .i64 (a5.add 3) (fun x9 => Q (eqL [x2 == x6, x3 == x7, x4 == x8, x5 == x9]) h) h) h) h) h) h) h) h) h) h

def zf16 (a1 : Int) (Q : Bool → Heap → Prop) (h : Heap) : Prop :=
  Q (a1 != 0) h

def zf18 (a1 : Int) (a2 : Bool) (a3 : Int) (a4 : Int) (a5 : Ptr) (Q : Bool → Heap → Prop) (h : Heap) : Prop :=
  al [.int .i64 a1, .bool a2, .int .i64 a3, .int .i64 a4] (fun b1 h => rdI .i64 ((⟨b1, 0⟩ : Ptr).add 0) (fun x2 => rdI .i64 (a5.add 0) (fun x3 => Q (x2 == x3) h) h) h) h

def zf43 (a1 : Option Ptr) (a2 : Int) (a3 : Bool) (Q : Int → Bool → Heap → Prop) (h : Heap) : Prop :=
  br (decide (a2 < 0)) (Q 0 false h) (der a1 (fun p1 => rdI .i64 (p1.add 2) (fun x2 => br (decide (a2 ≥ x2)) (Q 0 false h) (der a1 (fun p3 => rdI .i64 (p3.add 1) (fun x4 => Q (IntKind.i64.wrap (x4 + a2)) true h) h))) h))

end Go.Fn
