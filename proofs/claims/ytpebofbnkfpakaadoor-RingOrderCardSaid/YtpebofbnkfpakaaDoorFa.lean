/- The shallow functions. PRINTED by lift.py. -/
import Derived.Test.YtpebofbnkfpakaaDoorLiftB
set_option linter.unusedVariables false
set_option maxRecDepth 100000
namespace Go.Fn
open Go.Lift



def mem_New (a1 : Int) (Q : (Option Ptr) → Int → Heap → Prop) (h : Heap) : Prop :=
  br (decide (a1 < 1)) (Q none 2 h) (br (decide (a1 > 65536)) (Q none 2 h) (mkSl 1 [.int .u8 0] (IntKind.i64.wrap (a1 * 256)) (IntKind.i64.wrap (a1 * 256)) (fun s1 h => al [.sl s1] (fun b2 h => Q (some (⟨b2, 0⟩ : Ptr)) 0 h) h) h))

def ring_right (a1 : Int) (Q : Bool → Heap → Prop) (h : Heap) : Prop :=
  br (decide (a1 ≥ 1)) (br (decide (a1 ≤ 64)) (Q ((ibits .and .i64 a1 (IntKind.i64.wrap (a1 - 1))) == 0) h) (Q false h)) (Q false h)

def ring_New (a1 : Int) (a2 : Int) (Q : (Option Ptr) → Int → Heap → Prop) (h : Heap) : Prop :=
  ring_right a2 (fun r1 h => br (!r1) (Q none 2 h) (nz 8 (br ((a1.tmod 8) != 0) (Q none 2 h) (br (decide (a1 > 1099511627776)) (Q none 2 h) (al [.int .u64 a1, .int .u64 (IntKind.u64.wrap a2), .int .u64 0, .int .u64 0, .bool false] (fun b2 h => Q (some (⟨b2, 0⟩ : Ptr)) 0 h) h))))) h

def mem_Memory_none (a1 : Option Ptr) (Q : Bool → Heap → Prop) (h : Heap) : Prop :=
  br a1.isNone (Q true h) (der a1 (fun p1 => rdSl (p1.add 0) (fun x2 => Q x2.p.isNone h) h))

def mem_Memory_part_c1 (a1 : Ptr) (a2 : Ptr) (a3 : Ptr) (Q : Bool → Heap → Prop) (h : Heap) : Prop :=
  rdI .i64 a1 (fun x1 => rdP a2 (fun x2 => der x2 (fun p3 => rdSl (p3.add 0) (fun x4 => br (decide (x1 ≤ ((x4.len : Nat) : Int))) (rdI .u64 a3 (fun x5 => rdP a2 (fun x6 => der x6 (fun p7 => rdSl (p7.add 0) (fun x8 => rdI .i64 a1 (fun x9 => Q (decide (x5 ≤ (IntKind.u64.wrap (IntKind.i64.wrap (((x8.len : Nat) : Int) - x9))))) h) h) h)) h) h) (Q false h)) h)) h) h

def mem_Memory_part (a1 : Option Ptr) (a2 : Int) (a3 : Int) (Q : Sl → Int → Heap → Prop) (h : Heap) : Prop :=
  al [.ptr a1] (fun b1 h => al [.int .u64 a2] (fun b2 h => al [.int .i64 a3] (fun b3 h => rdP (⟨b1, 0⟩ : Ptr) (fun x4 => mem_Memory_none x4 (fun r5 h => br r5 (Q ⟨none, 0, 0⟩ 1 h) (rdI .i64 (⟨b3, 0⟩ : Ptr) (fun x6 => br (decide (x6 < 0)) (Q ⟨none, 0, 0⟩ 2 h) (mem_Memory_part_c1 (⟨b3, 0⟩ : Ptr) (⟨b1, 0⟩ : Ptr) (⟨b2, 0⟩ : Ptr) (fun r7 h => br (!r7) (Q ⟨none, 0, 0⟩ 12 h) (rdI .u64 (⟨b2, 0⟩ : Ptr) (fun x8 => rdI .i64 (⟨b3, 0⟩ : Ptr) (fun x9 => rdP (⟨b1, 0⟩ : Ptr) (fun x10 => der x10 (fun p11 => rdSl (p11.add 0) (fun x12 => rdI .u64 (⟨b2, 0⟩ : Ptr) (fun x13 => sb (IntKind.i64.wrap ((IntKind.i64.wrap x8) + x9)) x12.cap (fun n14 => sb (IntKind.i64.wrap ((IntKind.i64.wrap x8) + x9)) n14 (fun n15 => sb x13 n15 (fun n16 => Q ⟨slp x12.p (n16 * 1) n16 n14, n15 - n16, n14 - n16⟩ 0 h)))) h) h)) h) h) h)) h)) h)) h) h) h) h) h

def mem_Memory_number.j5  (a1 : Option Ptr) (a2 : Int) (a3 : Int) (Q : Sl → Int → Heap → Prop) (h : Heap) : Prop :=
  nz (IntKind.u64.wrap a3) (br ((a2.tmod (IntKind.u64.wrap a3)) != 0) (Q ⟨none, 0, 0⟩ 11 h) (mem_Memory_part a1 a2 a3 (fun r1 r2 h => Q r1 r2 h) h))

def mem_Memory_number (a1 : Option Ptr) (a2 : Int) (a3 : Int) (Q : Sl → Int → Heap → Prop) (h : Heap) : Prop :=
  mem_Memory_none a1 (fun r1 h => br r1 (Q ⟨none, 0, 0⟩ 1 h) (br (a3 != 1) (br (a3 != 4) (br (a3 != 8) (Q ⟨none, 0, 0⟩ 2 h) (mem_Memory_number.j5 a1 a2 a3 Q h)) (mem_Memory_number.j5 a1 a2 a3 Q h)) (mem_Memory_number.j5 a1 a2 a3 Q h))) h

def word_known.j6 (U : Ifc) (I2 : Int → Int → Int → Int → Int → Int → Heap → Prop) (a1 : Int) (a2 : Int) (a3 : Int) (a4 : Int) (a5 : Int) (a6 : Int) (Q : Bool → Heap → Prop) (h : Heap) : Prop :=
  I2 a1 a2 a3 a4 a5 (IntKind.i64.wrap (a6 + 1)) h

def word_known.b2 (U : Ifc)  (I2 : Int → Int → Int → Int → Int → Int → Heap → Prop) (a1 : Int) (a2 : Int) (a3 : Int) (a4 : Int) (a5 : Int) (a6 : Int) (Q : Bool → Heap → Prop) (h : Heap) : Prop :=
  br (decide (a6 < 4)) (ix a6 4 (fun n1 => ∃ x3, ([.int .i64 a2, .int .i64 a3, .int .i64 a4, .int .i64 a5] : List V)[n1 * 1]? = some (.int .i64 x3) ∧ br (x3 == a1) (br (decide (x3 > 0)) (Q true h) (word_known.j6 U I2 a1 a2 a3 a4 a5 a6 Q h)) (word_known.j6 U I2 a1 a2 a3 a4 a5 a6 Q h))) (Q false h)

def word_known.j2 (U : Ifc)  (a1 : Int) (a2 : Int) (a3 : Int) (a4 : Int) (a5 : Int) (a6 : Int) (Q : Bool → Heap → Prop) (h : Heap) : Prop :=
  ∀ I : Int → Int → Int → Int → Int → Int → Heap → Prop, (∀ a1 a2 a3 a4 a5 a6 h, word_known.b2 U  I a1 a2 a3 a4 a5 a6 Q h → I a1 a2 a3 a4 a5 a6 h) → I a1 a2 a3 a4 a5 a6 h

def word_known (U : Ifc) (a1 : Int) (Q : Bool → Heap → Prop) (h : Heap) : Prop :=
  rdI .i64 ((⟨U.glob 1, 0⟩ : Ptr).add 0) (fun x1 => rdI .i64 ((⟨U.glob 1, 0⟩ : Ptr).add 1) (fun x2 => rdI .i64 ((⟨U.glob 1, 0⟩ : Ptr).add 2) (fun x3 => rdI .i64 ((⟨U.glob 1, 0⟩ : Ptr).add 3) (fun x4 => word_known.j2 U a1 x1 x2 x3 x4 0 Q h) h) h) h) h

def word_Store.b5 (U : Ifc)  (I5 : Int → Sl → Int → Int → Heap → Prop) (a1 : Int) (a2 : Sl) (a3 : Int) (a4 : Int) (Q : Sl → Heap → Prop) (h : Heap) : Prop :=
  br (decide (a4 < a3)) (nneg (IntKind.i64.wrap (8 * a4)) (ix a4 a2.len (fun n1 => der a2.p (fun p2 => wr (p2.add (n1 * 1)) (.int .u8 (IntKind.u8.wrap (shrI .u64 a1 (IntKind.i64.wrap (8 * a4))))) (fun h => I5 a1 a2 a3 (IntKind.i64.wrap (a4 + 1)) h) h)))) (Q a2 h)

def word_Store.j5 (U : Ifc)  (a1 : Int) (a2 : Sl) (a3 : Int) (a4 : Int) (Q : Sl → Heap → Prop) (h : Heap) : Prop :=
  ∀ I : Int → Sl → Int → Int → Heap → Prop, (∀ a1 a2 a3 a4 h, word_Store.b5 U  I a1 a2 a3 a4 Q h → I a1 a2 a3 a4 h) → I a1 a2 a3 a4 h

def word_Store (U : Ifc) (a1 : Int) (a2 : Int) (Q : Sl → Heap → Prop) (h : Heap) : Prop :=
  word_known U a2 (fun r1 h => br (!r1) (Q ⟨none, 0, 0⟩ h) (mkSl 1 [.int .u8 0] a2 a2 (fun s2 h => word_Store.j5 U a1 s2 ((s2.len : Nat) : Int) 0 Q h) h)) h

def mem_Memory_Store (U : Ifc) (a1 : Option Ptr) (a2 : Int) (a3 : Int) (a4 : Int) (Q : Int → Heap → Prop) (h : Heap) : Prop :=
  mem_Memory_number a1 a2 a3 (fun r1 r2 h => br (r2 == 0) (word_Store U a4 a3 (fun r3 h => cellsS 1 r3 (fun cs4 => copyS 1 r1 cs4 r3.len (fun x5 h => Q r2 h) h) h) h) (Q r2 h)) h

def palisadelaw23_RingOrder_c1 (U : Ifc) (a1 : Int) (a2 : Int) (a3 : Int) (a4 : Int) (a5 : Int) (a6 : Ptr) (Q : Heap → Prop) (h : Heap) : Prop :=
  rdP a6 (fun x1 => mem_Memory_Store U x1 (IntKind.u64.wrap (8 + (IntKind.u64.wrap (32 * (IntKind.u64.wrap a1))))) 8 a2 (fun r2 h => rdP a6 (fun x3 => mem_Memory_Store U x3 (IntKind.u64.wrap ((IntKind.u64.wrap (8 + (IntKind.u64.wrap (32 * (IntKind.u64.wrap a1))))) + 8)) 8 a3 (fun r4 h => rdP a6 (fun x5 => mem_Memory_Store U x5 (IntKind.u64.wrap ((IntKind.u64.wrap (8 + (IntKind.u64.wrap (32 * (IntKind.u64.wrap a1))))) + 16)) 8 a4 (fun r6 h => rdP a6 (fun x7 => mem_Memory_Store U x7 (IntKind.u64.wrap ((IntKind.u64.wrap (8 + (IntKind.u64.wrap (32 * (IntKind.u64.wrap a1))))) + 24)) 8 a5 (fun r8 h => Q h) h) h) h) h) h) h) h) h

def ring_Ring_usable (a1 : Option Ptr) (a2 : V) (Q : Int → Heap → Prop) (h : Heap) : Prop :=
  br a1.isNone (Q 1 h) (der a1 (fun p1 => rdI .u64 (p1.add 1) (fun x2 => br (x2 == 0) (Q 1 h) (isNil a2 (fun c3 => br c3 (Q 1 h) (der a1 (fun p4 => rdB (p4.add 4) (fun x5 => br x5 (Q 22 h) (Q 0 h)) h))))) h))

def ring_reader_number (U : Ifc) (a1 : Option Ptr) (a2 : Int) (Q : Int → Heap → Prop) (h : Heap) : Prop :=
  der a1 (fun p1 => rdV (p1.add 0) (fun x2 => U.inv x2 "Load" [.int .u64 a2, .int .i64 8] (fun r3 h => asTupV r3 (fun l4 => asCons l4 (fun v5 l6 => asI .u64 v5 (fun x7 => asCons l6 (fun v8 l9 => asI .i64 v8 (fun x10 => asNil l9 (der a1 (fun p11 => rdB (p11.add 1) (fun x12 => br x12 (der a1 (fun p13 => wr (p13.add 1) (.bool true) (fun h => Q x7 h) h)) (der a1 (fun p14 => wr (p14.add 1) (.bool (x10 != 0)) (fun h => Q x7 h) h))) h)))))))) h) h)

def ring_reader_part.j7 (U : Ifc) (I3 : (Option Ptr) → Int → Ptr → Ptr → Int → Heap → Prop) (a1 : Option Ptr) (a2 : Int) (a3 : Ptr) (a4 : Ptr) (a5 : Int) (Q : Int → Int → Bool → Int → Bool → Heap → Prop) (h : Heap) : Prop :=
  I3 a1 a2 a3 a4 (IntKind.i64.wrap (a5 + 1)) h

def ring_reader_part.j9 (U : Ifc)  (a1 : Option Ptr) (a2 : Ptr) (Q : Int → Int → Bool → Int → Bool → Heap → Prop) (h : Heap) : Prop :=
  der a1 (fun p1 => wr (p1.add 1) (.bool true) (fun h => wrL [.int .u64 0, .int .i64 0, .bool false] a2 0 (fun h => rdI .u64 (a2.add 0) (fun x2 => rdI .i64 (a2.add 1) (fun x3 => rdB (a2.add 2) (fun x4 => Q x2 x3 x4 0 false h) h) h) h) h) h)

def ring_reader_part.b3 (U : Ifc)  (I3 : (Option Ptr) → Int → Ptr → Ptr → Int → Heap → Prop) (a1 : Option Ptr) (a2 : Int) (a3 : Ptr) (a4 : Ptr) (a5 : Int) (Q : Int → Int → Bool → Int → Bool → Heap → Prop) (h : Heap) : Prop :=
  br (decide (a5 < 4)) (der a1 (fun p1 => rdB (p1.add 1) (fun x2 => br (!x2) (ring_reader_number U a1 (IntKind.u64.wrap (a2 + (IntKind.u64.wrap (8 * (IntKind.u64.wrap a5))))) (fun r3 h => ix a5 4 (fun n4 => wr (a4.add (n4 * 1)) (.int .u64 r3) (fun h => ring_reader_part.j7 U I3 a1 a2 a3 a4 a5 Q h) h)) h) (ring_reader_part.j7 U I3 a1 a2 a3 a4 a5 Q h)) h)) (ix 1 4 (fun n5 => rdI .u64 (a4.add (n5 * 1)) (fun x6 => br (decide (x6 < 1)) (ring_reader_part.j9 U a1 a3 Q h) (ix 1 4 (fun n7 => rdI .u64 (a4.add (n7 * 1)) (fun x8 => br (decide (x8 > 4096)) (ring_reader_part.j9 U a1 a3 Q h) (ix 2 4 (fun n9 => rdI .u64 (a4.add (n9 * 1)) (fun x10 => br (decide (x10 > 3)) (ring_reader_part.j9 U a1 a3 Q h) (ix 0 4 (fun n11 => rdI .u64 (a4.add (n11 * 1)) (fun x12 => ix 1 4 (fun n13 => rdI .u64 (a4.add (n13 * 1)) (fun x14 => br (decide (x12 > (IntKind.u64.wrap (1099511627776 - x14)))) (ring_reader_part.j9 U a1 a3 Q h) (ix 0 4 (fun n15 => rdI .u64 (a4.add (n15 * 1)) (fun x16 => ix 1 4 (fun n17 => rdI .u64 (a4.add (n17 * 1)) (fun x18 => ix 2 4 (fun n19 => rdI .u64 (a4.add (n19 * 1)) (fun x20 => ix 3 4 (fun n21 => rdI .u64 (a4.add (n21 * 1)) (fun x22 => ix 2 4 (fun n23 => rdI .u64 (a4.add (n23 * 1)) (fun x24 => ck (a4.add (n23 * 1)) [.int .u64 x24] 0 h ∧ ck (a4.add (n21 * 1)) [.int .u64 x22] 0 h ∧ wrL [.int .u64 x16, .int .i64 (IntKind.i64.wrap x18), .bool ((ibits .and .u64 x20 2) != 0)] a3 0 (fun h => ck (a4.add (n23 * 1)) [.int .u64 x24] 0 h ∧ ck (a4.add (n21 * 1)) [.int .u64 x22] 0 h ∧ (rdI .u64 (a3.add 0) (fun x25 => rdI .i64 (a3.add 1) (fun x26 => rdB (a3.add 2) (fun x27 => Q x25 x26 x27 x22 ((ibits .and .u64 x24 1) != 0) h) h) h) h)) h) h)) h)) h)) h)) h))) h)) h))) h))) h))) h))

def ring_reader_part.j3 (U : Ifc)  (a1 : Option Ptr) (a2 : Int) (a3 : Ptr) (a4 : Ptr) (a5 : Int) (Q : Int → Int → Bool → Int → Bool → Heap → Prop) (h : Heap) : Prop :=
  ∀ I : (Option Ptr) → Int → Ptr → Ptr → Int → Heap → Prop, (∀ a1 a2 a3 a4 a5 h, ring_reader_part.b3 U  I a1 a2 a3 a4 a5 Q h → I a1 a2 a3 a4 a5 h) → I a1 a2 a3 a4 a5 h

def ring_reader_part (U : Ifc) (a1 : Option Ptr) (a2 : Int) (Q : Int → Int → Bool → Int → Bool → Heap → Prop) (h : Heap) : Prop :=
  al [.int .u64 0, .int .i64 0, .bool false] (fun b1 h => al [.int .u64 0, .int .u64 0, .int .u64 0, .int .u64 0] (fun b2 h => ring_reader_part.j3 U a1 a2 (⟨b1, 0⟩ : Ptr) (⟨b2, 0⟩ : Ptr) 0 Q h) h) h

def ring_Ring_chain.j9 (U : Ifc) (I3 : (Option Ptr) → (Option Ptr) → Int → Ptr → Bool → Int → Int → Int → Heap → Prop) (a1 : Ptr) (Q : Int → Sl → Bool → Heap → Prop) (h : Heap) : Prop :=
  wrL [.int .i64 0, .sl ⟨none, 0, 0⟩] a1 0 (fun h => rdI .i64 (a1.add 0) (fun x1 => rdSl (a1.add 1) (fun x2 => Q x1 x2 false h) h) h) h

def ring_Ring_chain.j10 (U : Ifc) (I3 : (Option Ptr) → (Option Ptr) → Int → Ptr → Bool → Int → Int → Int → Heap → Prop) (a1 : Option Ptr) (a2 : Option Ptr) (a3 : Int) (a4 : Ptr) (a5 : Ptr) (a6 : Int) (a7 : Bool) (a8 : Int) (a9 : Int) (Q : Int → Sl → Bool → Heap → Prop) (h : Heap) : Prop :=
  rdSl (a4.add 1) (fun x1 => rdI .u64 (a5.add 0) (fun x2 => rdI .i64 (a5.add 1) (fun x3 => rdB (a5.add 2) (fun x4 => al [.int .u64 x2, .int .i64 x3, .bool x4] (fun b5 h => rdN (1 * 3) (⟨b5, 0⟩ : Ptr) (fun cs7 => appS 3 24 [.int .u64 0, .int .i64 0, .bool false] x1 cs7 1 (fun s6 h => wr (a4.add 1) (.sl s6) (fun h => br (!a7) (wr (a4.add 0) (.int .i64 (IntKind.i64.wrap a3)) (fun h => rdI .i64 (a4.add 0) (fun x8 => rdSl (a4.add 1) (fun x9 => wrL [.int .i64 x8, .sl x9] a4 0 (fun h => rdI .i64 (a4.add 0) (fun x10 => rdSl (a4.add 1) (fun x11 => Q x10 x11 (!a7) h) h) h) h) h) h) h) (I3 a1 a2 a3 a4 (!a7) a6 a8 (IntKind.u64.wrap (a9 + 1)) h)) h) h) h) h) h) h) h) h

def ring_Ring_chain.j8 (U : Ifc) (I3 : (Option Ptr) → (Option Ptr) → Int → Ptr → Bool → Int → Int → Int → Heap → Prop) (a1 : Option Ptr) (a2 : Option Ptr) (a3 : Int) (a4 : Ptr) (a5 : Ptr) (a6 : Int) (a7 : Bool) (a8 : Int) (a9 : Int) (a10 : Int) (Q : Int → Sl → Bool → Heap → Prop) (h : Heap) : Prop :=
  der a2 (fun p1 => rdB (p1.add 1) (fun x2 => br x2 (ring_Ring_chain.j9 U I3 a4 Q h) (br (decide (a8 > 0)) (rdSl (a4.add 1) (fun x3 => ix (IntKind.i64.wrap (a8 - 1)) x3.len (fun n4 => der x3.p (fun p5 => rdB ((p5.add (n4 * 3)).add 2) (fun x6 => br x6 (rdB (a5.add 2) (fun x7 => br (!x7) (ring_Ring_chain.j9 U I3 a4 Q h) (ring_Ring_chain.j10 U I3 a1 a2 a3 a4 a5 a6 a7 a9 a10 Q h)) h) (ring_Ring_chain.j10 U I3 a1 a2 a3 a4 a5 a6 a7 a9 a10 Q h)) h))) h) (ring_Ring_chain.j10 U I3 a1 a2 a3 a4 a5 a6 a7 a9 a10 Q h))) h)

def ring_Ring_chain.b3 (U : Ifc)  (I3 : (Option Ptr) → (Option Ptr) → Int → Ptr → Bool → Int → Int → Int → Heap → Prop) (a1 : Option Ptr) (a2 : Option Ptr) (a3 : Int) (a4 : Ptr) (a5 : Bool) (a6 : Int) (a7 : Int) (a8 : Int) (Q : Int → Sl → Bool → Heap → Prop) (h : Heap) : Prop :=
  br (decide (a8 < a7)) (der a1 (fun p1 => rdI .u64 (p1.add 1) (fun x2 => br (decide (a6 ≥ x2)) (wrL [.int .i64 0, .sl ⟨none, 0, 0⟩] a4 0 (fun h => rdI .i64 (a4.add 0) (fun x3 => rdSl (a4.add 1) (fun x4 => Q x3 x4 false h) h) h) h) (der a1 (fun p5 => rdI .u64 (p5.add 0) (fun x6 => ring_reader_part U a2 (IntKind.u64.wrap (x6 + (IntKind.u64.wrap (32 * a6)))) (fun r7 r8 r9 r10 r11 h => al [.int .u64 0, .int .i64 0, .bool false] (fun b12 h => wrL [.int .u64 r7, .int .i64 r8, .bool r9] (⟨b12, 0⟩ : Ptr) 0 (fun h => rdSl (a4.add 1) (fun x13 => ring_Ring_chain.j8 U I3 a1 a2 a3 a4 (⟨b12, 0⟩ : Ptr) r10 r11 ((x13.len : Nat) : Int) a7 a8 Q h) h) h) h) h) h))) h)) (wr (a4.add 0) (.int .i64 (IntKind.i64.wrap a3)) (fun h => rdI .i64 (a4.add 0) (fun x14 => rdSl (a4.add 1) (fun x15 => wrL [.int .i64 x14, .sl x15] a4 0 (fun h => rdI .i64 (a4.add 0) (fun x16 => rdSl (a4.add 1) (fun x17 => Q x16 x17 a5 h) h) h) h) h) h) h)

def ring_Ring_chain.j3 (U : Ifc)  (a1 : Option Ptr) (a2 : Option Ptr) (a3 : Int) (a4 : Ptr) (a5 : Bool) (a6 : Int) (a7 : Int) (a8 : Int) (Q : Int → Sl → Bool → Heap → Prop) (h : Heap) : Prop :=
  ∀ I : (Option Ptr) → (Option Ptr) → Int → Ptr → Bool → Int → Int → Int → Heap → Prop, (∀ a1 a2 a3 a4 a5 a6 a7 a8 h, ring_Ring_chain.b3 U  I a1 a2 a3 a4 a5 a6 a7 a8 Q h → I a1 a2 a3 a4 a5 a6 a7 a8 h) → I a1 a2 a3 a4 a5 a6 a7 a8 h

def ring_Ring_chain (U : Ifc) (a1 : Option Ptr) (a2 : Option Ptr) (a3 : Int) (Q : Int → Sl → Bool → Heap → Prop) (h : Heap) : Prop :=
  al [.int .i64 0, .sl ⟨none, 0, 0⟩] (fun b1 h => der a1 (fun p2 => rdI .u64 (p2.add 1) (fun x3 => ring_Ring_chain.j3 U a1 a2 a3 (⟨b1, 0⟩ : Ptr) false a3 x3 0 Q h) h)) h

def ring_Ring_Next.j11 (U : Ifc)  (a1 : Option Ptr) (a2 : Ptr) (a3 : Ptr) (a4 : Int) (Q : Int → Sl → Bool → Int → Heap → Prop) (h : Heap) : Prop :=
  rdB (a3.add 1) (fun x1 => br (!x1) (ring_Ring_chain U a1 (some a3) a4 (fun r2 r3 r4 h => al [.int .i64 0, .sl ⟨none, 0, 0⟩] (fun b5 h => wrL [.int .i64 r2, .sl r3] (⟨b5, 0⟩ : Ptr) 0 (fun h => br r4 (der a1 (fun p6 => rdI .u64 (p6.add 2) (fun x7 => der a1 (fun p8 => wr (p8.add 2) (.int .u64 (IntKind.u64.wrap (x7 + 1))) (fun h => rdI .i64 ((⟨b5, 0⟩ : Ptr).add 0) (fun x9 => rdSl ((⟨b5, 0⟩ : Ptr).add 1) (fun x10 => wrL [.int .i64 x9, .sl x10] a2 0 (fun h => rdI .i64 (a2.add 0) (fun x11 => rdSl (a2.add 1) (fun x12 => Q x11 x12 true 0 h) h) h) h) h) h) h)) h)) (der a1 (fun p13 => wr (p13.add 4) (.bool true) (fun h => wrL [.int .i64 0, .sl ⟨none, 0, 0⟩] a2 0 (fun h => rdI .i64 (a2.add 0) (fun x14 => rdSl (a2.add 1) (fun x15 => Q x14 x15 false 22 h) h) h) h) h))) h) h) h) (der a1 (fun p16 => wr (p16.add 4) (.bool true) (fun h => wrL [.int .i64 0, .sl ⟨none, 0, 0⟩] a2 0 (fun h => rdI .i64 (a2.add 0) (fun x17 => rdSl (a2.add 1) (fun x18 => Q x17 x18 false 22 h) h) h) h) h))) h

def ring_Ring_Next.j9 (U : Ifc)  (a1 : Option Ptr) (a2 : Ptr) (a3 : Ptr) (a4 : Int) (a5 : Int) (Q : Int → Sl → Bool → Int → Heap → Prop) (h : Heap) : Prop :=
  rdB (a3.add 1) (fun x1 => br (!x1) (der a1 (fun p2 => rdI .u64 (p2.add 2) (fun x3 => der a1 (fun p4 => rdI .u64 (p4.add 1) (fun x5 => br (decide ((IntKind.u64.wrap (a5 - x3)) ≤ x5)) (der a1 (fun p6 => rdI .u64 (p6.add 2) (fun x7 => der a1 (fun p8 => rdI .u64 (p8.add 1) (fun x9 => nz x9 (ring_reader_number U (some a3) (IntKind.u64.wrap (a4 + (IntKind.u64.wrap (8 * (IntKind.u64.wrap (1 + (x7.tmod x9))))))) (fun r10 h => ring_Ring_Next.j11 U a1 a2 a3 r10 Q h) h)) h)) h)) (der a1 (fun p11 => wr (p11.add 4) (.bool true) (fun h => wrL [.int .i64 0, .sl ⟨none, 0, 0⟩] a2 0 (fun h => rdI .i64 (a2.add 0) (fun x12 => rdSl (a2.add 1) (fun x13 => Q x12 x13 false 22 h) h) h) h) h))) h)) h)) (der a1 (fun p14 => wr (p14.add 4) (.bool true) (fun h => wrL [.int .i64 0, .sl ⟨none, 0, 0⟩] a2 0 (fun h => rdI .i64 (a2.add 0) (fun x15 => rdSl (a2.add 1) (fun x16 => Q x15 x16 false 22 h) h) h) h) h))) h

def ring_Ring_Next.j7 (U : Ifc)  (a1 : Option Ptr) (a2 : Ptr) (a3 : Ptr) (a4 : Int) (a5 : Int) (Q : Int → Sl → Bool → Int → Heap → Prop) (h : Heap) : Prop :=
  rdB (a3.add 1) (fun x1 => br (!x1) (der a1 (fun p2 => rdI .u64 (p2.add 2) (fun x3 => br (a5 == x3) (wrL [.int .i64 0, .sl ⟨none, 0, 0⟩] a2 0 (fun h => rdI .i64 (a2.add 0) (fun x4 => rdSl (a2.add 1) (fun x5 => Q x4 x5 false 0 h) h) h) h) (ring_Ring_Next.j9 U a1 a2 a3 a4 a5 Q h)) h)) (ring_Ring_Next.j9 U a1 a2 a3 a4 a5 Q h)) h

def ring_Ring_Next (U : Ifc) (a1 : Option Ptr) (a2 : V) (Q : Int → Sl → Bool → Int → Heap → Prop) (h : Heap) : Prop :=
  al [.int .i64 0, .sl ⟨none, 0, 0⟩] (fun b1 h => ring_Ring_usable a1 a2 (fun r2 h => br (r2 != 0) (wrL [.int .i64 0, .sl ⟨none, 0, 0⟩] (⟨b1, 0⟩ : Ptr) 0 (fun h => rdI .i64 ((⟨b1, 0⟩ : Ptr).add 0) (fun x3 => rdSl ((⟨b1, 0⟩ : Ptr).add 1) (fun x4 => Q x3 x4 false r2 h) h) h) h) (chk (V.one a2) (al [a2, .bool false] (fun b5 h => der a1 (fun p6 => rdI .u64 (p6.add 0) (fun x7 => der a1 (fun p8 => rdI .u64 (p8.add 1) (fun x9 => ring_reader_number U (some (⟨b5, 0⟩ : Ptr)) (IntKind.u64.wrap (x7 + (IntKind.u64.wrap (32 * x9)))) (fun r10 h => ring_Ring_Next.j7 U a1 (⟨b1, 0⟩ : Ptr) (⟨b5, 0⟩ : Ptr) (IntKind.u64.wrap (x7 + (IntKind.u64.wrap (32 * x9)))) r10 Q h) h) h)) h)) h))) h) h

def ring_Ring_Push.j5 (U : Ifc)   (Q : Int → Heap → Prop) (h : Heap) : Prop :=
  Q 2 h

def ring_Ring_Push.j7 (U : Ifc)   (Q : Int → Heap → Prop) (h : Heap) : Prop :=
  Q 21 h

def ring_Ring_Push.b11 (U : Ifc)  (I11 : (Option Ptr) → V → Sl → Int → Int → Heap → Prop) (a1 : Option Ptr) (a2 : V) (a3 : Sl) (a4 : Int) (a5 : Int) (Q : Int → Heap → Prop) (h : Heap) : Prop :=
  br (decide (a5 < a4)) (ix a5 a3.len (fun n1 => der a3.p (fun p2 => rdI .u64 ((p2.add (n1 * 2)).add 0) (fun x3 => rdI .u64 ((p2.add (n1 * 2)).add 1) (fun x4 => al [.int .u64 0, .int .u64 0] (fun b5 h => wrL [.int .u64 x3, .int .u64 x4] (⟨b5, 0⟩ : Ptr) 0 (fun h => rdI .u64 ((⟨b5, 0⟩ : Ptr).add 0) (fun x6 => rdI .u64 ((⟨b5, 0⟩ : Ptr).add 1) (fun x7 => U.inv a2 "Store" [.int .u64 x6, .int .i64 8, .int .u64 x7] (fun r8 h => asI .i64 r8 (fun x9 => br (x9 != 0) (der a1 (fun p10 => wr (p10.add 4) (.bool true) (fun h => Q 22 h) h)) (I11 a1 a2 a3 a4 (IntKind.i64.wrap (a5 + 1)) h))) h) h) h) h) h) h) h))) (der a1 (fun p11 => rdI .u64 (p11.add 3) (fun x12 => der a1 (fun p13 => wr (p13.add 3) (.int .u64 (IntKind.u64.wrap (x12 + 1))) (fun h => Q 0 h) h)) h))

def ring_Ring_Push.j11 (U : Ifc)  (a1 : Option Ptr) (a2 : V) (a3 : Sl) (a4 : Int) (a5 : Int) (Q : Int → Heap → Prop) (h : Heap) : Prop :=
  ∀ I : (Option Ptr) → V → Sl → Int → Int → Heap → Prop, (∀ a1 a2 a3 a4 a5 h, ring_Ring_Push.b11 U  I a1 a2 a3 a4 a5 Q h → I a1 a2 a3 a4 a5 h) → I a1 a2 a3 a4 a5 h

def ring_Ring_Push.j10 (U : Ifc)  (a1 : Option Ptr) (a2 : V) (a3 : Int) (a4 : Int) (a5 : Int) (a6 : Int) (Q : Int → Heap → Prop) (h : Heap) : Prop :=
  der a1 (fun p1 => rdI .u64 (p1.add 3) (fun x2 => al [.int .u64 a6, .int .u64 (IntKind.u64.wrap a3), .int .u64 (IntKind.u64.wrap (a6 + 8)), .int .u64 (IntKind.u64.wrap a4), .int .u64 a5, .int .u64 (IntKind.u64.wrap (x2 + 1))] (fun b3 h => ring_Ring_Push.j11 U a1 a2 ⟨some ⟨b3, 0⟩, 3, 3⟩ ((3 : Nat) : Int) 0 Q h) h) h)

def ring_Ring_Push.j8 (U : Ifc)  (a1 : Option Ptr) (a2 : V) (a3 : Int) (a4 : Int) (Q : Int → Heap → Prop) (h : Heap) : Prop :=
  der a1 (fun p1 => rdI .u64 (p1.add 0) (fun x2 => der a1 (fun p3 => rdI .u64 (p3.add 1) (fun x4 => der a1 (fun p5 => rdI .u64 (p5.add 3) (fun x6 => der a1 (fun p7 => rdI .u64 (p7.add 1) (fun x8 => nz x8 (ring_Ring_Push.j10 U a1 a2 a3 a4 (IntKind.u64.wrap ((IntKind.u64.wrap (x2 + (IntKind.u64.wrap (40 * x4)))) + 8)) (IntKind.u64.wrap ((IntKind.u64.wrap ((IntKind.u64.wrap ((IntKind.u64.wrap (x2 + (IntKind.u64.wrap (40 * x4)))) + 8)) + 8)) + (IntKind.u64.wrap (16 * (x6.tmod x8))))) Q h)) h)) h)) h)) h)

def ring_Ring_Push (U : Ifc) (a1 : Option Ptr) (a2 : V) (a3 : Int) (a4 : Int) (Q : Int → Heap → Prop) (h : Heap) : Prop :=
  ring_Ring_usable a1 a2 (fun r1 h => br (r1 != 0) (Q r1 h) (br (decide (a3 < 0)) (ring_Ring_Push.j5 U Q h) (der a1 (fun p2 => rdI .u64 (p2.add 1) (fun x3 => br (decide ((IntKind.u64.wrap a3) ≥ x3)) (ring_Ring_Push.j5 U Q h) (br (decide (a4 < 0)) (ring_Ring_Push.j5 U Q h) (der a1 (fun p4 => rdI .u64 (p4.add 3) (fun x5 => der a1 (fun p6 => rdI .u64 (p6.add 2) (fun x7 => br (x5 == x7) (ring_Ring_Push.j7 U Q h) (ring_Ring_Push.j8 U a1 a2 a3 a4 Q h)) h)) h)))) h)))) h

def word_Load.j2 (U : Ifc)   (Q : Int → Bool → Heap → Prop) (h : Heap) : Prop :=
  Q 0 false h

def word_Load.b5 (U : Ifc)  (I5 : Int → Int → Sl → Int → Int → Heap → Prop) (a1 : Int) (a2 : Int) (a3 : Sl) (a4 : Int) (a5 : Int) (Q : Int → Bool → Heap → Prop) (h : Heap) : Prop :=
  br (decide (a5 < a4)) (ix a5 a3.len (fun n1 => der a3.p (fun p2 => rdI .u8 (p2.add (n1 * 1)) (fun x3 => nneg (IntKind.i64.wrap (8 * a5)) (I5 a1 (ibits .or .u64 a2 (shlI .u64 (IntKind.u64.wrap x3) (IntKind.i64.wrap (8 * a5)))) a3 a4 (IntKind.i64.wrap (a5 + 1)) h)) h))) (br (a1 == 4) (Q (IntKind.u64.wrap (IntKind.i64.wrap (IntKind.i32.wrap a2))) true h) (Q a2 true h))

def word_Load.j5 (U : Ifc)  (a1 : Int) (a2 : Int) (a3 : Sl) (a4 : Int) (a5 : Int) (Q : Int → Bool → Heap → Prop) (h : Heap) : Prop :=
  ∀ I : Int → Int → Sl → Int → Int → Heap → Prop, (∀ a1 a2 a3 a4 a5 h, word_Load.b5 U  I a1 a2 a3 a4 a5 Q h → I a1 a2 a3 a4 a5 h) → I a1 a2 a3 a4 a5 h

def word_Load (U : Ifc) (a1 : Sl) (a2 : Int) (a3 : Int) (Q : Int → Bool → Heap → Prop) (h : Heap) : Prop :=
  word_known U a3 (fun r1 h => br (!r1) (word_Load.j2 U Q h) (br (decide (a2 < 0)) (word_Load.j2 U Q h) (br (decide (a2 > (IntKind.i64.wrap (((a1.len : Nat) : Int) - a3)))) (word_Load.j2 U Q h) (sb (IntKind.i64.wrap (a2 + a3)) a1.cap (fun n2 => sb a2 n2 (fun n3 => word_Load.j5 U a3 0 ⟨slp a1.p (n3 * 1) n3 a1.cap, n2 - n3, a1.cap - n3⟩ ((n2 - n3 : Nat) : Int) 0 Q h)))))) h

def mem_Memory_Load (U : Ifc) (a1 : Option Ptr) (a2 : Int) (a3 : Int) (Q : Int → Int → Heap → Prop) (h : Heap) : Prop :=
  mem_Memory_number a1 a2 a3 (fun r1 r2 h => br (r2 != 0) (Q 0 r2 h) (word_Load U r1 0 a3 (fun r3 r4 h => Q r3 0 h) h)) h

def palisadelaw23_RingOrder.j5 (U : Ifc)   (Q : Bool → Heap → Prop) (h : Heap) : Prop :=
  Q false h

def palisadelaw23_RingOrder.j26 (U : Ifc) (I9 : Sl → Int → Ptr → (Option Ptr) → Int → Int → Int → Heap → Prop)  (Q : Bool → Heap → Prop) (h : Heap) : Prop :=
  Q false h

def palisadelaw23_RingOrder.j29 (U : Ifc) (I9 : Sl → Int → Ptr → (Option Ptr) → Int → Int → Int → Heap → Prop)  (Q : Bool → Heap → Prop) (h : Heap) : Prop :=
  Q false h

def palisadelaw23_RingOrder.j31 (U : Ifc) (I9 : Sl → Int → Ptr → (Option Ptr) → Int → Int → Int → Heap → Prop)  (Q : Bool → Heap → Prop) (h : Heap) : Prop :=
  Q false h

def palisadelaw23_RingOrder.j36 (U : Ifc) (I9 : Sl → Int → Ptr → (Option Ptr) → Int → Int → Int → Heap → Prop)  (Q : Bool → Heap → Prop) (h : Heap) : Prop :=
  Q false h

def palisadelaw23_RingOrder.j10 (U : Ifc) (I9 : Sl → Int → Ptr → (Option Ptr) → Int → Int → Int → Heap → Prop) (a1 : Sl) (a2 : Int) (a3 : Ptr) (a4 : Option Ptr) (a5 : Int) (a6 : Int) (a7 : Int) (Q : Bool → Heap → Prop) (h : Heap) : Prop :=
  I9 a1 a2 a3 a4 a5 a6 (IntKind.i64.wrap (a7 + 1)) h

def palisadelaw23_RingOrder.j35 (U : Ifc) (I9 : Sl → Int → Ptr → (Option Ptr) → Int → Int → Int → Heap → Prop) (a1 : Sl) (a2 : Int) (a3 : Ptr) (a4 : Option Ptr) (a5 : Int) (a6 : Int) (a7 : Int) (a8 : Int) (a9 : Int) (a10 : Int) (a11 : Int) (a12 : Int) (Q : Bool → Heap → Prop) (h : Heap) : Prop :=
  br (a10 != (IntKind.u64.wrap (IntKind.i64.wrap (a7 + 1)))) (palisadelaw23_RingOrder.j36 U I9 Q h) (br (a11 != (IntKind.u64.wrap a8)) (palisadelaw23_RingOrder.j36 U I9 Q h) (br (a12 != (IntKind.u64.wrap a9)) (palisadelaw23_RingOrder.j36 U I9 Q h) (palisadelaw23_RingOrder.j10 U I9 a1 a2 a3 a4 a5 a6 a7 Q h)))

def palisadelaw23_RingOrder.j32 (U : Ifc) (I9 : Sl → Int → Ptr → (Option Ptr) → Int → Int → Int → Heap → Prop) (a1 : Sl) (a2 : Int) (a3 : Ptr) (a4 : Option Ptr) (a5 : Int) (a6 : Int) (a7 : Int) (a8 : Int) (a9 : Int) (Q : Bool → Heap → Prop) (h : Heap) : Prop :=
  rdP a3 (fun x1 => mem_Memory_Load U x1 a6 8 (fun r2 r3 h => rdP a3 (fun x4 => nz a2 (mem_Memory_Load U x4 (IntKind.u64.wrap ((IntKind.u64.wrap (a6 + 8)) + (IntKind.u64.wrap (16 * (IntKind.u64.wrap (a7.tmod a2)))))) 8 (fun r5 r6 h => rdP a3 (fun x7 => nz a2 (mem_Memory_Load U x7 (IntKind.u64.wrap ((IntKind.u64.wrap (a6 + 16)) + (IntKind.u64.wrap (16 * (IntKind.u64.wrap (a7.tmod a2)))))) 8 (fun r8 r9 h => palisadelaw23_RingOrder.j35 U I9 a1 a2 a3 a4 a5 a6 a7 a8 a9 r2 r5 r8 Q h) h)) h) h)) h) h) h

def palisadelaw23_RingOrder.j27 (U : Ifc) (I9 : Sl → Int → Ptr → (Option Ptr) → Int → Int → Int → Heap → Prop) (a1 : Sl) (a2 : Int) (a3 : Ptr) (a4 : Option Ptr) (a5 : Int) (a6 : Int) (a7 : Int) (a8 : Int) (a9 : Int) (Q : Bool → Heap → Prop) (h : Heap) : Prop :=
  rdP a3 (fun x1 => ring_Ring_Next U a4 (.iface 1 (.ptr x1)) (fun r2 r3 r4 r5 h => al [.int .i64 0, .sl ⟨none, 0, 0⟩] (fun b6 h => wrL [.int .i64 r2, .sl r3] (⟨b6, 0⟩ : Ptr) 0 (fun h => br r4 (palisadelaw23_RingOrder.j29 U I9 Q h) (br (r5 != 0) (palisadelaw23_RingOrder.j29 U I9 Q h) (rdP a3 (fun x7 => ring_Ring_Push U a4 (.iface 1 (.ptr x7)) a8 a9 (fun r8 h => br (r8 != 0) (palisadelaw23_RingOrder.j31 U I9 Q h) (rdP a3 (fun x9 => ring_Ring_Push U a4 (.iface 1 (.ptr x9)) a8 a9 (fun r10 h => br (r10 != 21) (palisadelaw23_RingOrder.j31 U I9 Q h) (palisadelaw23_RingOrder.j32 U I9 a1 a2 a3 a4 a5 a6 a7 a8 a9 Q h)) h) h)) h) h))) h) h) h) h

def palisadelaw23_RingOrder.j25 (U : Ifc) (I9 : Sl → Int → Ptr → (Option Ptr) → Int → Int → Int → Heap → Prop) (a1 : Sl) (a2 : Int) (a3 : Ptr) (a4 : Option Ptr) (a5 : Int) (a6 : Int) (a7 : Int) (a8 : Int) (a9 : Int) (a10 : Bool) (a11 : Ptr) (a12 : Bool) (a13 : Int) (Q : Bool → Heap → Prop) (h : Heap) : Prop :=
  br (!a12) (palisadelaw23_RingOrder.j26 U I9 Q h) (br (a13 != 0) (palisadelaw23_RingOrder.j26 U I9 Q h) (rdI .i64 (a11.add 0) (fun x1 => br (x1 != a8) (palisadelaw23_RingOrder.j26 U I9 Q h) (rdSl (a11.add 1) (fun x2 => br (decide (((x2.len : Nat) : Int) < 1)) (palisadelaw23_RingOrder.j26 U I9 Q h) (rdSl (a11.add 1) (fun x3 => ix 0 x3.len (fun n4 => der x3.p (fun p5 => rdI .u64 ((p5.add (n4 * 3)).add 0) (fun x6 => rdI .i64 ((p5.add (n4 * 3)).add 1) (fun x7 => rdB ((p5.add (n4 * 3)).add 2) (fun x8 => br (!(eqL [x6 == (IntKind.u64.wrap a7), x7 == a9, x8 == false])) (palisadelaw23_RingOrder.j26 U I9 Q h) (rdSl (a11.add 1) (fun x9 => br (!((((x9.len : Nat) : Int) == 2) == a10)) (palisadelaw23_RingOrder.j26 U I9 Q h) (br a10 (rdSl (a11.add 1) (fun x10 => ix 1 x10.len (fun n11 => der x10.p (fun p12 => rdI .u64 ((p12.add (n11 * 3)).add 0) (fun x13 => rdI .i64 ((p12.add (n11 * 3)).add 1) (fun x14 => rdB ((p12.add (n11 * 3)).add 2) (fun x15 => br (!(eqL [x13 == (IntKind.u64.wrap (IntKind.i64.wrap (a7 + 1))), x14 == 7, x15 == true])) (palisadelaw23_RingOrder.j26 U I9 Q h) (palisadelaw23_RingOrder.j27 U I9 a1 a2 a3 a4 a5 a6 a7 a8 a9 Q h)) h) h) h))) h) (palisadelaw23_RingOrder.j27 U I9 a1 a2 a3 a4 a5 a6 a7 a8 a9 Q h))) h)) h) h) h))) h)) h)) h))

def palisadelaw23_RingOrder.j22 (U : Ifc) (I9 : Sl → Int → Ptr → (Option Ptr) → Int → Int → Int → Heap → Prop) (a1 : Sl) (a2 : Int) (a3 : Ptr) (a4 : Option Ptr) (a5 : Int) (a6 : Int) (a7 : Int) (a8 : Int) (a9 : Int) (a10 : Bool) (Q : Bool → Heap → Prop) (h : Heap) : Prop :=
  rdP a3 (fun x1 => nz a2 (mem_Memory_Store U x1 (IntKind.u64.wrap ((IntKind.u64.wrap (a5 + 8)) + (IntKind.u64.wrap (8 * (IntKind.u64.wrap (a7.tmod a2)))))) 8 (IntKind.u64.wrap a8) (fun r2 h => rdP a3 (fun x3 => mem_Memory_Store U x3 a5 8 (IntKind.u64.wrap (IntKind.i64.wrap (a7 + 1))) (fun r4 h => rdP a3 (fun x5 => ring_Ring_Next U a4 (.iface 1 (.ptr x5)) (fun r6 r7 r8 r9 h => al [.int .i64 0, .sl ⟨none, 0, 0⟩] (fun b10 h => wrL [.int .i64 r6, .sl r7] (⟨b10, 0⟩ : Ptr) 0 (fun h => palisadelaw23_RingOrder.j25 U I9 a1 a2 a3 a4 a5 a6 a7 a8 a9 a10 (⟨b10, 0⟩ : Ptr) r8 r9 Q h) h) h) h) h) h) h) h)) h

def palisadelaw23_RingOrder.j17 (U : Ifc) (I9 : Sl → Int → Ptr → (Option Ptr) → Int → Int → Int → Heap → Prop) (a1 : Sl) (a2 : Int) (a3 : Ptr) (a4 : Option Ptr) (a5 : Int) (a6 : Int) (a7 : Int) (a8 : Int) (a9 : Int) (a10 : Bool) (a11 : Int) (Q : Bool → Heap → Prop) (h : Heap) : Prop :=
  nz a2 (palisadelaw23_RingOrder_c1 U a8 (IntKind.u64.wrap a7) (IntKind.u64.wrap a9) a11 (IntKind.u64.wrap ((IntKind.i64.wrap (a8 + 1)).tmod a2)) a3 (fun h => br a10 (palisadelaw23_RingOrder_c1 U ((IntKind.i64.wrap (a8 + 1)).tmod a2) (IntKind.u64.wrap (IntKind.i64.wrap (a7 + 1))) 7 2 0 a3 (fun h => palisadelaw23_RingOrder.j22 U I9 a1 a2 a3 a4 a5 a6 a7 a8 a9 a10 Q h) h) (palisadelaw23_RingOrder.j22 U I9 a1 a2 a3 a4 a5 a6 a7 a8 a9 a10 Q h)) h)

def palisadelaw23_RingOrder.j14 (U : Ifc) (I9 : Sl → Int → Ptr → (Option Ptr) → Int → Int → Int → Heap → Prop) (a1 : Sl) (a2 : Int) (a3 : Ptr) (a4 : Option Ptr) (a5 : Int) (a6 : Int) (a7 : Int) (a8 : Int) (a9 : Int) (a10 : Bool) (Q : Bool → Heap → Prop) (h : Heap) : Prop :=
  br a10 (palisadelaw23_RingOrder.j17 U I9 a1 a2 a3 a4 a5 a6 a7 a8 a9 a10 1 Q h) (palisadelaw23_RingOrder.j17 U I9 a1 a2 a3 a4 a5 a6 a7 a8 a9 a10 0 Q h)

def palisadelaw23_RingOrder.b9 (U : Ifc)  (I9 : Sl → Int → Ptr → (Option Ptr) → Int → Int → Int → Heap → Prop) (a1 : Sl) (a2 : Int) (a3 : Ptr) (a4 : Option Ptr) (a5 : Int) (a6 : Int) (a7 : Int) (Q : Bool → Heap → Prop) (h : Heap) : Prop :=
  br (decide (a7 < ((a1.len : Nat) : Int))) (br (decide (a7 < 200)) (nz a2 (ix a7 a1.len (fun n1 => der a1.p (fun p2 => rdI .i64 (p2.add (n1 * 1)) (fun x3 => br (decide (a2 > 1)) (ix a7 a1.len (fun n4 => der a1.p (fun p5 => rdI .i64 (p5.add (n4 * 1)) (fun x6 => palisadelaw23_RingOrder.j14 U I9 a1 a2 a3 a4 a5 a6 a7 (a7.tmod a2) (IntKind.i64.wrap (1 + (ibits .and .i64 x3 255))) ((ibits .and .i64 x6 256) != 0) Q h) h))) (palisadelaw23_RingOrder.j14 U I9 a1 a2 a3 a4 a5 a6 a7 (a7.tmod a2) (IntKind.i64.wrap (1 + (ibits .and .i64 x3 255))) false Q h)) h)))) (Q true h)) (Q true h)

def palisadelaw23_RingOrder.j9 (U : Ifc)  (a1 : Sl) (a2 : Int) (a3 : Ptr) (a4 : Option Ptr) (a5 : Int) (a6 : Int) (a7 : Int) (Q : Bool → Heap → Prop) (h : Heap) : Prop :=
  ∀ I : Sl → Int → Ptr → (Option Ptr) → Int → Int → Int → Heap → Prop, (∀ a1 a2 a3 a4 a5 a6 a7 h, palisadelaw23_RingOrder.b9 U  I a1 a2 a3 a4 a5 a6 a7 Q h → I a1 a2 a3 a4 a5 a6 a7 h) → I a1 a2 a3 a4 a5 a6 a7 h

def palisadelaw23_RingOrder.j6 (U : Ifc)  (a1 : Sl) (a2 : Int) (a3 : Ptr) (a4 : Option Ptr) (Q : Bool → Heap → Prop) (h : Heap) : Prop :=
  palisadelaw23_RingOrder.j9 U a1 a2 a3 a4 (IntKind.u64.wrap (8 + (IntKind.u64.wrap (32 * (IntKind.u64.wrap a2))))) (IntKind.u64.wrap ((IntKind.u64.wrap ((IntKind.u64.wrap (8 + (IntKind.u64.wrap (32 * (IntKind.u64.wrap a2))))) + 8)) + (IntKind.u64.wrap (8 * (IntKind.u64.wrap a2))))) 0 Q h

def palisadelaw23_RingOrder (U : Ifc) (a1 : Int) (a2 : Sl) (Q : Bool → Heap → Prop) (h : Heap) : Prop :=
  nneg (IntKind.u64.wrap (ibits .and .i64 a1 3)) (mem_New 8 (fun r1 r2 h => al [.ptr none] (fun b3 h => wr (⟨b3, 0⟩ : Ptr) (.ptr r1) (fun h => ring_New 8 (shlI .i64 1 (IntKind.u64.wrap (ibits .and .i64 a1 3))) (fun r4 r5 h => br (r2 != 0) (palisadelaw23_RingOrder.j5 U Q h) (br (r5 != 0) (palisadelaw23_RingOrder.j5 U Q h) (br r4.isNone (palisadelaw23_RingOrder.j5 U Q h) (rdP (⟨b3, 0⟩ : Ptr) (fun x6 => br x6.isNone (palisadelaw23_RingOrder.j5 U Q h) (palisadelaw23_RingOrder.j6 U a2 (shlI .i64 1 (IntKind.u64.wrap (ibits .and .i64 a1 3))) (⟨b3, 0⟩ : Ptr) r4 Q h)) h)))) h) h) h) h)

def ring_Ring_Told (a1 : Option Ptr) (Q : Int → Int → Bool → Heap → Prop) (h : Heap) : Prop :=
  br a1.isNone (Q 0 0 false h) (der a1 (fun p1 => rdI .u64 (p1.add 2) (fun x2 => der a1 (fun p3 => rdI .u64 (p3.add 3) (fun x4 => der a1 (fun p5 => rdB (p5.add 4) (fun x6 => Q x2 x4 x6 h) h)) h)) h))

end Go.Fn
