/- The shallow functions. PRINTED by lift.py. -/
import Derived.Test.YtcaeaolgijjjnaaGreatDoorLa
import Derived.Test.YtcaeaolgijjjnaaGreatDoorLc
set_option linter.unusedSimpArgs false
set_option linter.unusedVariables false

set_option linter.unusedVariables false
set_option maxRecDepth 100000
namespace Go.Fn
open Go.Lift

def zf80 : List V := [.int .i64 0, .str [], .int .i64 0, .bool false, .int .i64 0, .int .i64 0, .int .i64 0, .int .i64 0, .int .i64 0, .str [], .int .u32 0]

def zf65 (a1 : List UInt8) (a2 : Int) (Q : Int → Heap → Prop) (h : Heap) : Prop :=
  indexByteI a1 a2 Q h

def zf72 (a1 : Int) (Q : Bool → Heap → Prop) (h : Heap) : Prop :=
  br (decide (0 ≤ a1)) (br (decide (a1 < 55296)) (Q true h) (br (decide (57343 < a1)) (br (decide (a1 ≤ 1114111)) (Q true h) (Q false h)) (Q false h))) (br (decide (57343 < a1)) (br (decide (a1 ≤ 1114111)) (Q true h) (Q false h)) (Q false h))

def zf66.b38  (I38 : Ptr → Heap → Prop) (a1 : Ptr) (Q : Int → Heap → Prop) (h : Heap) : Prop :=
  a1.o = 0 ∧ nextS a1.b (fun h => Q (-1) h) (fun i1 c2 h => br (c2 == 65533) (Q i1 h) (I38 a1 h)) h

def zf66.j38  (a1 : Ptr) (Q : Int → Heap → Prop) (h : Heap) : Prop :=
  ∀ I : Ptr → Heap → Prop, (∀ a1 h, zf66.b38  I a1 Q h → I a1 h) → I a1 h

def zf66.b12 (I5 : (List UInt8) → (List UInt8) → Int → Int → Heap → Prop) (I12 : (List UInt8) → (List UInt8) → Int → Int → Int → Heap → Prop) (a1 : List UInt8) (a2 : List UInt8) (a3 : Int) (a4 : Int) (a5 : Int) (Q : Int → Heap → Prop) (h : Heap) : Prop :=
  br (decide (a5 < (a2.length : Int))) (ix (IntKind.i64.wrap (a4 - a5)) a1.length (fun n1 => ix (IntKind.i64.wrap (a3 - a5)) a2.length (fun n2 => br (((a1.getD n1 0).toNat : Int) != ((a2.getD n2 0).toNat : Int)) (False) (I12 a1 a2 a3 a4 (IntKind.i64.wrap (a5 + 1)) h)))) (Q (IntKind.i64.wrap (a4 - a3)) h)

def zf66.j12 (I5 : (List UInt8) → (List UInt8) → Int → Int → Heap → Prop) (a1 : List UInt8) (a2 : List UInt8) (a3 : Int) (a4 : Int) (a5 : Int) (Q : Int → Heap → Prop) (h : Heap) : Prop :=
  ∀ I : (List UInt8) → (List UInt8) → Int → Int → Int → Heap → Prop, (∀ a1 a2 a3 a4 a5 h, zf66.b12 I5 I a1 a2 a3 a4 a5 Q h → I a1 a2 a3 a4 a5 h) → I a1 a2 a3 a4 a5 h

def zf66.j11 (I5 : (List UInt8) → (List UInt8) → Int → Int → Heap → Prop) (a1 : List UInt8) (a2 : List UInt8) (a3 : Int) (a4 : Int) (Q : Int → Heap → Prop) (h : Heap) : Prop :=
  zf66.j12 I5 a1 a2 a3 a4 1 Q h

def zf66.b5  (I5 : (List UInt8) → (List UInt8) → Int → Int → Heap → Prop) (a1 : List UInt8) (a2 : List UInt8) (a3 : Int) (a4 : Int) (Q : Int → Heap → Prop) (h : Heap) : Prop :=
  br (decide (a4 < (a1.length : Int))) (ix a4 a1.length (fun n1 => ix a3 a2.length (fun n2 => br (((a1.getD n1 0).toNat : Int) != ((a2.getD n2 0).toNat : Int)) (sb (IntKind.i64.wrap (a4 + 1)) a1.length (fun n3 => ix a3 a2.length (fun n4 => zf65 ((a1.drop n3).take (a1.length - n3)) ((a2.getD n4 0).toNat : Int) (fun r5 h => br (decide (r5 < 0)) (Q (-1) h) (zf66.j11 I5 a1 a2 a3 (IntKind.i64.wrap (a4 + (IntKind.i64.wrap (r5 + 1)))) Q h)) h))) (zf66.j11 I5 a1 a2 a3 a4 Q h)))) (Q (-1) h)

def zf66.j5  (a1 : List UInt8) (a2 : List UInt8) (a3 : Int) (a4 : Int) (Q : Int → Heap → Prop) (h : Heap) : Prop :=
  ∀ I : (List UInt8) → (List UInt8) → Int → Int → Heap → Prop, (∀ a1 a2 a3 a4 h, zf66.b5  I a1 a2 a3 a4 Q h → I a1 a2 a3 a4 h) → I a1 a2 a3 a4 h

def zf66.j1  (a1 : List UInt8) (a2 : Int) (Q : Int → Heap → Prop) (h : Heap) : Prop :=
  zf66.j5 a1 (runeStr a2) (IntKind.i64.wrap (((runeStr a2).length : Int) - 1)) (IntKind.i64.wrap (((runeStr a2).length : Int) - 1)) Q h

def zf66.j36  (a1 : List UInt8) (a2 : Int) (Q : Int → Heap → Prop) (h : Heap) : Prop :=
  br (a2 == 65533) (rangeS a1 (fun b1 h => zf66.j38 (⟨b1, 0⟩ : Ptr) Q h) h) (zf72 a2 (fun r2 h => br (!r2) (Q (-1) h) (zf66.j1 a1 a2 Q h)) h)

def zf66 (a1 : List UInt8) (a2 : Int) (Q : Int → Heap → Prop) (h : Heap) : Prop :=
  br (decide (0 ≤ a2)) (br (decide (a2 < 128)) (zf65 a1 (IntKind.u8.wrap a2) (fun r1 h => Q r1 h) h) (zf66.j36 a1 a2 Q h)) (zf66.j36 a1 a2 Q h)

def zf59 (a1 : List UInt8) (a2 : Int) (Q : Bool → Heap → Prop) (h : Heap) : Prop :=
  zf66 a1 a2 (fun r1 h => Q (decide (r1 ≥ 0)) h) h

def zf10 (a1 : Int) (Q : Bool → Heap → Prop) (h : Heap) : Prop :=
  zf59 ([32, 44, 9, 40, 41] : List UInt8) a1 (fun r1 h => Q r1 h) h

def zf68 (U : Ifc) (a1 : List UInt8) (a2 : List UInt8) (Q : Sl → Heap → Prop) (h : Heap) : Prop :=
  splitI U 5 a1 a2 Q h

def zf60 (U : Ifc) (a1 : List UInt8) (a2 : List UInt8) (Q : (List UInt8) → (List UInt8) → Bool → Heap → Prop) (h : Heap) : Prop :=
  cutI U 5 a1 a2 Q h

def zf63 (a1 : List UInt8) (a2 : V) (Q : Sl → Heap → Prop) (h : Heap) : Prop :=
  fieldsFuncI 357 sepR a1 a2 Q h

def zf24 (a1 : List UInt8) (a2 : List UInt8) (Q : Bool → Heap → Prop) (h : Heap) : Prop :=
  br (decide ((a1.length : Int) ≥ (a2.length : Int))) (sb (IntKind.i64.wrap ((a1.length : Int) - (a2.length : Int))) a1.length (fun n1 => Q (((a1.drop n1).take (a1.length - n1)) == a2) h)) (Q false h)

def zf64 (a1 : List UInt8) (a2 : List UInt8) (Q : Bool → Heap → Prop) (h : Heap) : Prop :=
  zf24 a1 a2 (fun r1 h => Q r1 h) h

def zf26 (a1 : List UInt8) (a2 : List UInt8) (Q : (List UInt8) → Heap → Prop) (h : Heap) : Prop :=
  zf24 a1 a2 (fun r1 h => br r1 (sb (IntKind.i64.wrap ((a1.length : Int) - (a2.length : Int))) a1.length (fun n2 => Q ((a1.drop 0).take (n2 - 0)) h)) (Q a1 h)) h

def zf71 (a1 : List UInt8) (a2 : List UInt8) (Q : (List UInt8) → Heap → Prop) (h : Heap) : Prop :=
  zf26 a1 a2 (fun r1 h => Q r1 h) h

def zf23 (a1 : List UInt8) (a2 : List UInt8) (Q : Bool → Heap → Prop) (h : Heap) : Prop :=
  br (decide ((a1.length : Int) ≥ (a2.length : Int))) (sb (a2.length : Int) a1.length (fun n1 => Q (((a1.drop 0).take (n1 - 0)) == a2) h)) (Q false h)

def zf22 (a1 : List UInt8) (a2 : List UInt8) (Q : (List UInt8) → Bool → Heap → Prop) (h : Heap) : Prop :=
  zf23 a1 a2 (fun r1 h => br (!r1) (Q a1 false h) (sb (a2.length : Int) a1.length (fun n2 => Q ((a1.drop n2).take (a1.length - n2)) true h))) h

def zf61 (a1 : List UInt8) (a2 : List UInt8) (Q : (List UInt8) → Bool → Heap → Prop) (h : Heap) : Prop :=
  zf22 a1 a2 (fun r1 r2 h => Q r1 r2 h) h

def zf25 (a1 : List UInt8) (a2 : List UInt8) (Q : (List UInt8) → Heap → Prop) (h : Heap) : Prop :=
  zf23 a1 a2 (fun r1 h => br r1 (sb (a2.length : Int) a1.length (fun n2 => Q ((a1.drop n2).take (a1.length - n2)) h)) (Q a1 h)) h

def zf70 (a1 : List UInt8) (a2 : List UInt8) (Q : (List UInt8) → Heap → Prop) (h : Heap) : Prop :=
  zf25 a1 a2 (fun r1 h => Q r1 h) h

def zf69 (a1 : List UInt8) (a2 : List UInt8) (Q : (List UInt8) → Heap → Prop) (h : Heap) : Prop :=
  trimI a1 a2 Q h

def zf57 (a1 : List UInt8) (Q : Int → V → Heap → Prop) (h : Heap) : Prop :=
  atoiI a1 Q h

def zf5.j3   (Q : Int → Bool → Heap → Prop) (h : Heap) : Prop :=
  Q 0 false h

def zf5.j4  (a1 : List UInt8) (Q : Int → Bool → Heap → Prop) (h : Heap) : Prop :=
  zf57 a1 (fun r1 r2 h => isNil r2 (fun c3 => Q r1 c3 h)) h

def zf5 (a1 : List UInt8) (Q : Int → Bool → Heap → Prop) (h : Heap) : Prop :=
  zf70 a1 ([45] : List UInt8) (fun r1 h => br (decide ((r1.length : Int) < 1)) (zf5.j3 Q h) (br (decide ((r1.length : Int) > 15)) (zf5.j3 Q h) (zf69 r1 ([48, 49, 50, 51, 52, 53, 54, 55, 56, 57] : List UInt8) (fun r2 h => br (!(r2 == [])) (zf5.j3 Q h) (ix 0 r1.length (fun n3 => br (((r1.getD n3 0).toNat : Int) == 48) (br (!(a1 == ([48] : List UInt8))) (zf5.j3 Q h) (zf5.j4 a1 Q h)) (zf5.j4 a1 Q h)))) h))) h

def zf13 (a1 : List UInt8) (Q : Int → Bool → Heap → Prop) (h : Heap) : Prop :=
  zf61 a1 ([120] : List UInt8) (fun r1 r2 h => zf5 r1 (fun r3 r4 h => br r2 (br r4 (br (decide (r3 ≥ 0)) (Q r3 (decide (r3 ≤ 15)) h) (Q r3 false h)) (Q r3 false h)) (Q r3 false h)) h) h

def zf4 (a1 : List UInt8) (Q : Bool → Heap → Prop) (h : Heap) : Prop :=
  zf13 a1 (fun r1 r2 h => br (!r2) (br (!(a1 == [])) (br (decide ((a1.length : Int) ≤ 30)) (zf69 a1 ([97, 98, 99, 100, 101, 102, 103, 104, 105, 106, 107, 108, 109, 110, 111, 112, 113, 114, 115, 116, 117, 118, 119, 120, 121, 122, 48, 49, 50, 51, 52, 53, 54, 55, 56, 57, 95] : List UInt8) (fun r3 h => br (r3 == []) (ix 0 a1.length (fun n4 => br (decide (((a1.getD n4 0).toNat : Int) < 48)) (Q true h) (ix 0 a1.length (fun n5 => Q (decide (((a1.getD n5 0).toNat : Int) > 57)) h)))) (Q false h)) h) (Q false h)) (Q false h)) (Q false h)) h

def zf62 (U : Ifc) (a1 : List UInt8) (Q : Sl → Heap → Prop) (h : Heap) : Prop :=
  fieldsI (U.glob 4) a1 Q h

def zf7.b3 (U : Ifc)  (I3 : (Option Nat) → Sl → Int → Int → Heap → Prop) (a1 : Option Nat) (a2 : Sl) (a3 : Int) (a4 : Int) (Q : (Option Nat) → Heap → Prop) (h : Heap) : Prop :=
  br (decide (a4 < a3)) (ix a4 a2.len (fun n1 => der a2.p (fun p2 => rdStr (p2.add (n1 * 1)) (fun x3 => mapPut .str a1 (.str x3) (.int .i64 (IntKind.i64.wrap (a4 + 1))) (fun h => I3 a1 a2 a3 (IntKind.i64.wrap (a4 + 1)) h) h) h))) (Q a1 h)

def zf7.j3 (U : Ifc)  (a1 : Option Nat) (a2 : Sl) (a3 : Int) (a4 : Int) (Q : (Option Nat) → Heap → Prop) (h : Heap) : Prop :=
  ∀ I : (Option Nat) → Sl → Int → Int → Heap → Prop, (∀ a1 a2 a3 a4 h, zf7.b3 U  I a1 a2 a3 a4 Q h → I a1 a2 a3 a4 h) → I a1 a2 a3 a4 h

def zf7 (U : Ifc)  (Q : (Option Nat) → Heap → Prop) (h : Heap) : Prop :=
  alM .str (fun b1 h => zf62 U ([97, 100, 100, 32, 115, 117, 98, 32, 97, 110, 100, 32, 111, 114, 32, 120, 111, 114, 32, 115, 108, 108, 32, 115, 114, 108, 32, 115, 114, 97, 32, 115, 108, 116, 32, 115, 108, 116, 117, 32, 109, 117, 108, 32, 100, 105, 118, 117, 32, 114, 101, 109, 117, 32, 97, 100, 100, 105, 32, 97, 110, 100, 105, 32, 111, 114, 105, 32, 120, 111, 114, 105, 32, 115, 108, 108, 105, 32, 115, 114, 108, 105, 32, 115, 114, 97, 105, 32, 115, 108, 116, 105, 32, 108, 117, 105, 32, 108, 100, 32, 108, 119, 32, 108, 98, 32, 115, 100, 32, 115, 119, 32, 115, 98, 32, 98, 101, 113, 32, 98, 110, 101, 32, 98, 108, 116, 32, 98, 103, 101, 32, 98, 108, 116, 117, 32, 98, 103, 101, 117, 32, 106, 97, 108, 32, 106, 97, 108, 114, 32, 108, 114, 32, 115, 99, 32, 97, 109, 111, 97, 100, 100, 32, 97, 109, 111, 115, 119, 112, 32, 102, 101, 110, 99, 101, 32, 101, 99, 97, 108, 108, 32, 115, 114, 101, 116, 32, 119, 102, 105, 32, 115, 102, 101, 110, 99, 101, 32, 99, 115, 114, 114, 119, 32, 99, 115, 114, 114, 115, 32, 99, 115, 114, 114, 99] : List UInt8) (fun r2 h => zf7.j3 U (some b1) r2 ((r2.len : Nat) : Int) 0 Q h) h) h

def zf21.b1  (I1 : (Option Nat) → Int → Sl → Int → Int → Heap → Prop) (a1 : Option Nat) (a2 : Int) (a3 : Sl) (a4 : Int) (a5 : Int) (Q : Heap → Prop) (h : Heap) : Prop :=
  br (decide (a5 < a4)) (ix a5 a3.len (fun n1 => der a3.p (fun p2 => rdI .i64 (p2.add (n1 * 1)) (fun x3 => mapPut (.int .i64) a1 (.int .i64 x3) (.int .i64 a2) (fun h => I1 a1 a2 a3 a4 (IntKind.i64.wrap (a5 + 1)) h) h) h))) (Q h)

def zf21.j1  (a1 : Option Nat) (a2 : Int) (a3 : Sl) (a4 : Int) (a5 : Int) (Q : Heap → Prop) (h : Heap) : Prop :=
  ∀ I : (Option Nat) → Int → Sl → Int → Int → Heap → Prop, (∀ a1 a2 a3 a4 a5 h, zf21.b1  I a1 a2 a3 a4 a5 Q h → I a1 a2 a3 a4 a5 h) → I a1 a2 a3 a4 a5 h

def zf21 (a1 : Option Nat) (a2 : Int) (a3 : Sl) (Q : Heap → Prop) (h : Heap) : Prop :=
  zf21.j1 a1 a2 a3 ((a3.len : Nat) : Int) 0 Q h

def zf20  (Q : (Option Nat) → Heap → Prop) (h : Heap) : Prop :=
  alM (.int .i64) (fun b1 h => mapPut (.int .i64) (some b1) (.int .i64 45) (.int .i64 6) (fun h => al [.int .i64 41, .int .i64 42, .int .i64 43, .int .i64 44] (fun b2 h => zf21 (some b1) 0 ⟨some ⟨b2, 0⟩, 4, 4⟩ (fun h => al [.int .i64 1, .int .i64 2, .int .i64 3, .int .i64 4, .int .i64 5, .int .i64 6, .int .i64 7, .int .i64 8, .int .i64 9, .int .i64 10, .int .i64 11, .int .i64 12, .int .i64 13, .int .i64 37, .int .i64 38, .int .i64 39, .int .i64 40] (fun b3 h => zf21 (some b1) 1 ⟨some ⟨b3, 0⟩, 17, 17⟩ (fun h => al [.int .i64 14, .int .i64 15, .int .i64 16, .int .i64 17, .int .i64 18, .int .i64 19, .int .i64 20, .int .i64 21, .int .i64 23, .int .i64 24, .int .i64 25, .int .i64 36, .int .i64 46, .int .i64 47, .int .i64 48] (fun b4 h => zf21 (some b1) 2 ⟨some ⟨b4, 0⟩, 15, 15⟩ (fun h => al [.int .i64 26, .int .i64 27, .int .i64 28] (fun b5 h => zf21 (some b1) 3 ⟨some ⟨b5, 0⟩, 3, 3⟩ (fun h => al [.int .i64 29, .int .i64 30, .int .i64 31, .int .i64 32, .int .i64 33, .int .i64 34] (fun b6 h => zf21 (some b1) 4 ⟨some ⟨b6, 0⟩, 6, 6⟩ (fun h => al [.int .i64 22, .int .i64 35] (fun b7 h => zf21 (some b1) 5 ⟨some ⟨b7, 0⟩, 2, 2⟩ (fun h => Q (some b1) h) h) h) h) h) h) h) h) h) h) h) h) h) h) h

def zf17 (a1 : Int) (Q : Int → Bool → Heap → Prop) (h : Heap) : Prop :=
  zf20 (fun r1 h => mapGet (.int .i64) r1 (.int .i64 a1) (fun o2 => asI .i64 (o2.getD (.int .i64 0)) (fun x3 => Q x3 o2.isSome h)) h) h

def zf55.b2  (I2 : Sl → Int → Int → Int → Heap → Prop) (a1 : Sl) (a2 : Int) (a3 : Int) (a4 : Int) (Q : Int → Heap → Prop) (h : Heap) : Prop :=
  br (decide (a4 < a3)) (ix a4 a1.len (fun n1 => der a1.p (fun p2 => rdI .i64 (p2.add (n1 * 1)) (fun x3 => br (a2 == x3) (Q a4 h) (I2 a1 a2 a3 (IntKind.i64.wrap (a4 + 1)) h)) h))) (Q (-1) h)

def zf55.j2  (a1 : Sl) (a2 : Int) (a3 : Int) (a4 : Int) (Q : Int → Heap → Prop) (h : Heap) : Prop :=
  ∀ I : Sl → Int → Int → Int → Heap → Prop, (∀ a1 a2 a3 a4 h, zf55.b2  I a1 a2 a3 a4 Q h → I a1 a2 a3 a4 h) → I a1 a2 a3 a4 h

def zf55 (a1 : Sl) (a2 : Int) (Q : Int → Heap → Prop) (h : Heap) : Prop :=
  zf55.j2 a1 a2 ((a1.len : Nat) : Int) 0 Q h

def zf54 (a1 : Sl) (a2 : Int) (Q : Bool → Heap → Prop) (h : Heap) : Prop :=
  zf55 a1 a2 (fun r1 h => Q (decide (r1 ≥ 0)) h) h

def zf8 (a1 : Int) (Q : (List UInt8) → Heap → Prop) (h : Heap) : Prop :=
  zf17 a1 (fun r1 r2 h => br (a1 == 37) (Q ([100, 97] : List UInt8) h) (br (a1 == 35) (Q ([100, 109] : List UInt8) h) (al [.int .i64 23, .int .i64 24, .int .i64 25, .int .i64 36, .int .i64 46, .int .i64 47, .int .i64 48] (fun b3 h => zf54 ⟨some ⟨b3, 0⟩, 7, 7⟩ a1 (fun r4 h => br r4 (Q ([100, 105, 97] : List UInt8) h) (al [.str [], .str ([100, 97, 98] : List UInt8), .str ([100, 97, 105] : List UInt8), .str ([98, 105, 97] : List UInt8), .str ([97, 98, 109] : List UInt8), .str ([100, 105] : List UInt8), .str ([97] : List UInt8)] (fun b5 h => ix r1 7 (fun n6 => rdStr ((⟨b5, 0⟩ : Ptr).add (n6 * 1)) (fun x7 => Q x7 h) h)) h)) h) h))) h

def zf6.j12 (I7 : Sl → Ptr → (List UInt8) → (Option Nat) → Ptr → Heap → Prop) (a1 : Sl) (a2 : Ptr) (a3 : List UInt8) (a4 : Bool) (a5 : Option Nat) (a6 : Ptr) (Q : Int → Int → Int → Int → Int → (List UInt8) → Bool → Heap → Prop) (h : Heap) : Prop :=
  br (!a4) (rdI .i64 (a2.add 0) (fun x1 => rdI .i64 (a2.add 1) (fun x2 => rdI .i64 (a2.add 2) (fun x3 => rdI .i64 (a2.add 3) (fun x4 => rdI .i64 (a2.add 4) (fun x5 => wrL [.int .i64 x1, .int .i64 x2, .int .i64 x3, .int .i64 x4, .int .i64 x5] a2 0 (fun h => rdI .i64 (a2.add 0) (fun x6 => rdI .i64 (a2.add 1) (fun x7 => rdI .i64 (a2.add 2) (fun x8 => rdI .i64 (a2.add 3) (fun x9 => rdI .i64 (a2.add 4) (fun x10 => Q x6 x7 x8 x9 x10 [] false h) h) h) h) h) h) h) h) h) h) h) h) (I7 a1 a2 a3 a5 a6 h)

def zf6.j16 (I7 : Sl → Ptr → (List UInt8) → (Option Nat) → Ptr → Heap → Prop) (a1 : Ptr) (Q : Int → Int → Int → Int → Int → (List UInt8) → Bool → Heap → Prop) (h : Heap) : Prop :=
  rdI .i64 (a1.add 0) (fun x1 => rdI .i64 (a1.add 1) (fun x2 => rdI .i64 (a1.add 2) (fun x3 => rdI .i64 (a1.add 3) (fun x4 => rdI .i64 (a1.add 4) (fun x5 => wrL [.int .i64 x1, .int .i64 x2, .int .i64 x3, .int .i64 x4, .int .i64 x5] a1 0 (fun h => rdI .i64 (a1.add 0) (fun x6 => rdI .i64 (a1.add 1) (fun x7 => rdI .i64 (a1.add 2) (fun x8 => rdI .i64 (a1.add 3) (fun x9 => rdI .i64 (a1.add 4) (fun x10 => Q x6 x7 x8 x9 x10 [] false h) h) h) h) h) h) h) h) h) h) h) h

def zf6.j17 (I7 : Sl → Ptr → (List UInt8) → (Option Nat) → Ptr → Heap → Prop) (a1 : Sl) (a2 : Ptr) (a3 : List UInt8) (a4 : Bool) (a5 : Option Nat) (a6 : Int) (a7 : Ptr) (Q : Int → Int → Int → Int → Int → (List UInt8) → Bool → Heap → Prop) (h : Heap) : Prop :=
  br (!a4) (ix a6 a1.len (fun n1 => der a1.p (fun p2 => rdStr (p2.add (n1 * 1)) (fun x3 => I7 a1 a2 x3 a5 a7 h) h))) (I7 a1 a2 a3 a5 a7 h)

def zf6.j15 (I7 : Sl → Ptr → (List UInt8) → (Option Nat) → Ptr → Heap → Prop) (a1 : Sl) (a2 : Ptr) (a3 : List UInt8) (a4 : Bool) (a5 : Option Nat) (a6 : Int) (a7 : Int) (a8 : Ptr) (Q : Int → Int → Int → Int → Int → (List UInt8) → Bool → Heap → Prop) (h : Heap) : Prop :=
  br (!a4) (br (a7 != 109) (zf6.j16 I7 a2 Q h) (ix a6 a1.len (fun n1 => der a1.p (fun p2 => rdStr (p2.add (n1 * 1)) (fun x3 => zf4 x3 (fun r4 h => br (!r4) (zf6.j16 I7 a2 Q h) (zf6.j17 I7 a1 a2 a3 a4 a5 a6 a8 Q h)) h) h)))) (zf6.j17 I7 a1 a2 a3 a4 a5 a6 a8 Q h)

def zf6.b7  (I7 : Sl → Ptr → (List UInt8) → (Option Nat) → Ptr → Heap → Prop) (a1 : Sl) (a2 : Ptr) (a3 : List UInt8) (a4 : Option Nat) (a5 : Ptr) (Q : Int → Int → Int → Int → Int → (List UInt8) → Bool → Heap → Prop) (h : Heap) : Prop :=
  a5.o = 0 ∧ nextS a5.b (fun h => rdI .i64 (a2.add 0) (fun x3 => rdI .i64 (a2.add 1) (fun x4 => rdI .i64 (a2.add 2) (fun x5 => rdI .i64 (a2.add 3) (fun x6 => rdI .i64 (a2.add 4) (fun x7 => wrL [.int .i64 x3, .int .i64 x4, .int .i64 x5, .int .i64 x6, .int .i64 x7] a2 0 (fun h => rdI .i64 (a2.add 0) (fun x8 => rdI .i64 (a2.add 1) (fun x9 => rdI .i64 (a2.add 2) (fun x10 => rdI .i64 (a2.add 3) (fun x11 => rdI .i64 (a2.add 4) (fun x12 => Q x8 x9 x10 x11 x12 a3 true h) h) h) h) h) h) h) h) h) h) h) h) (fun i1 c2 h => mapGet (.int .i32) a4 (.int .i32 c2) (fun o13 => asP (o13.getD (.ptr none)) (fun x14 => br o13.isSome (ix i1 a1.len (fun n15 => der a1.p (fun p16 => rdStr (p16.add (n15 * 1)) (fun x17 => zf13 x17 (fun r18 r19 h => der x14 (fun p20 => wr p20 (.int .i64 r18) (fun h => zf6.j12 I7 a1 a2 a3 r19 a4 a5 Q h) h)) h) h))) (ix i1 a1.len (fun n21 => der a1.p (fun p22 => rdStr (p22.add (n21 * 1)) (fun x23 => zf5 x23 (fun r24 r25 h => wr (a2.add 4) (.int .i64 r24) (fun h => zf6.j15 I7 a1 a2 a3 r25 a4 i1 c2 a5 Q h) h) h) h))))) h) h

def zf6.j7  (a1 : Sl) (a2 : Ptr) (a3 : List UInt8) (a4 : Option Nat) (a5 : Ptr) (Q : Int → Int → Int → Int → Int → (List UInt8) → Bool → Heap → Prop) (h : Heap) : Prop :=
  ∀ I : Sl → Ptr → (List UInt8) → (Option Nat) → Ptr → Heap → Prop, (∀ a1 a2 a3 a4 a5 h, zf6.b7  I a1 a2 a3 a4 a5 Q h → I a1 a2 a3 a4 a5 h) → I a1 a2 a3 a4 a5 h

def zf6 (a1 : Int) (a2 : Sl) (Q : Int → Int → Int → Int → Int → (List UInt8) → Bool → Heap → Prop) (h : Heap) : Prop :=
  al [.int .i64 0, .int .i64 0, .int .i64 0, .int .i64 0, .int .i64 0] (fun b1 h => wr ((⟨b1, 0⟩ : Ptr).add 0) (.int .i64 a1) (fun h => zf8 a1 (fun r2 h => br (((a2.len : Nat) : Int) != (r2.length : Int)) (rdI .i64 ((⟨b1, 0⟩ : Ptr).add 0) (fun x3 => rdI .i64 ((⟨b1, 0⟩ : Ptr).add 1) (fun x4 => rdI .i64 ((⟨b1, 0⟩ : Ptr).add 2) (fun x5 => rdI .i64 ((⟨b1, 0⟩ : Ptr).add 3) (fun x6 => rdI .i64 ((⟨b1, 0⟩ : Ptr).add 4) (fun x7 => wrL [.int .i64 x3, .int .i64 x4, .int .i64 x5, .int .i64 x6, .int .i64 x7] (⟨b1, 0⟩ : Ptr) 0 (fun h => rdI .i64 ((⟨b1, 0⟩ : Ptr).add 0) (fun x8 => rdI .i64 ((⟨b1, 0⟩ : Ptr).add 1) (fun x9 => rdI .i64 ((⟨b1, 0⟩ : Ptr).add 2) (fun x10 => rdI .i64 ((⟨b1, 0⟩ : Ptr).add 3) (fun x11 => rdI .i64 ((⟨b1, 0⟩ : Ptr).add 4) (fun x12 => Q x8 x9 x10 x11 x12 [] false h) h) h) h) h) h) h) h) h) h) h) h) (alM (.int .i32) (fun b13 h => mapPut (.int .i32) (some b13) (.int .i32 100) (.ptr (some ((⟨b1, 0⟩ : Ptr).add 1))) (fun h => mapPut (.int .i32) (some b13) (.int .i32 97) (.ptr (some ((⟨b1, 0⟩ : Ptr).add 2))) (fun h => mapPut (.int .i32) (some b13) (.int .i32 98) (.ptr (some ((⟨b1, 0⟩ : Ptr).add 3))) (fun h => rangeS r2 (fun b14 h => zf6.j7 a2 (⟨b1, 0⟩ : Ptr) [] (some b13) (⟨b14, 0⟩ : Ptr) Q h) h) h) h) h) h)) h) h) h

def zf12.j17 (U : Ifc)  (a1 : Int) (Q : V → Heap → Prop) (h : Heap) : Prop :=
  Q (.iface 6 (.agg [.int .i64 a1])) h

def zf12.j21 (U : Ifc)  (a1 : Option Ptr) (a2 : Ptr) (Q : V → Heap → Prop) (h : Heap) : Prop :=
  der a1 (fun p1 => rdSl (p1.add 0) (fun x2 => rdI .i64 (a2.add 0) (fun x3 => rdI .i64 (a2.add 1) (fun x4 => rdI .u32 (a2.add 2) (fun x5 => rdP (a2.add 3) (fun x6 => rdStr (a2.add 4) (fun x7 => al [.int .i64 x3, .int .i64 x4, .int .u32 x5, .ptr x6, .str x7] (fun b8 h => ck (p1.add 0) [.sl x2] 0 h ∧ (rdN (1 * 5) (⟨b8, 0⟩ : Ptr) (fun cs10 => appS 5 48 [.int .i64 0, .int .i64 0, .int .u32 0, .ptr none, .str []] x2 cs10 1 (fun s9 h => der a1 (fun p11 => wr (p11.add 0) (.sl s9) (fun h => der a1 (fun p12 => rdI .i64 (p12.add 2) (fun x13 => rdI .i64 (a2.add 1) (fun x14 => der a1 (fun p15 => wr (p15.add 2) (.int .i64 (IntKind.i64.wrap (x13 + x14))) (fun h => Q .nilif h) h)) h) h)) h)) h) h)) h) h) h) h) h) h) h)

def zf12.j16 (U : Ifc)  (a1 : Option Ptr) (a2 : Int) (a3 : Sl) (a4 : Ptr) (a5 : Int) (a6 : Bool) (a7 : Int) (a8 : Int) (Q : V → Heap → Prop) (h : Heap) : Prop :=
  br (!a6) (zf12.j17 U a2 Q h) (br (decide (a5 < a7)) (zf12.j17 U a2 Q h) (br (decide (a5 > a8)) (zf12.j17 U a2 Q h) (ix 0 a3.len (fun n1 => der a3.p (fun p2 => rdStr (p2.add (n1 * 1)) (fun x3 => br (x3 == ([46, 102, 105, 108, 108] : List UInt8)) (wr (a4.add 1) (.int .i64 a5) (fun h => zf12.j21 U a1 a4 Q h) h) (wr (a4.add 2) (.int .u32 (IntKind.u32.wrap a5)) (fun h => zf12.j21 U a1 a4 Q h) h)) h)))))

def zf12.j10 (U : Ifc)  (a1 : Option Ptr) (a2 : Int) (a3 : Sl) (a4 : Ptr) (Q : V → Heap → Prop) (h : Heap) : Prop :=
  br (((a3.len : Nat) : Int) != 2) (Q (.iface 6 (.agg [.int .i64 a2])) h) (ix 1 a3.len (fun n1 => der a3.p (fun p2 => rdStr (p2.add (n1 * 1)) (fun x3 => zf5 x3 (fun r4 r5 h => ix 0 a3.len (fun n6 => der a3.p (fun p7 => rdStr (p7.add (n6 * 1)) (fun x8 => br (x8 == ([46, 102, 105, 108, 108] : List UInt8)) (zf12.j16 U a1 a2 a3 a4 r4 r5 0 4096 Q h) (zf12.j16 U a1 a2 a3 a4 r4 r5 (-2147483648) 4294967295 Q h)) h))) h) h)))

def zf12.j5 (U : Ifc)  (a1 : Int) (Q : V → Heap → Prop) (h : Heap) : Prop :=
  Q (.iface 6 (.agg [.int .i64 a1])) h

def zf12.j3 (U : Ifc)  (a1 : Option Ptr) (a2 : Int) (a3 : Sl) (a4 : Ptr) (a5 : Int) (a6 : Bool) (Q : V → Heap → Prop) (h : Heap) : Prop :=
  sb 1 a3.len (fun n1 => zf6 a5 ⟨slp a3.p (n1 * 1) n1 a3.cap, a3.len - n1, a3.cap - n1⟩ (fun r2 r3 r4 r5 r6 r7 r8 h => al [.int .i64 0, .int .i64 0, .int .i64 0, .int .i64 0, .int .i64 0] (fun b9 h => wrL [.int .i64 r2, .int .i64 r3, .int .i64 r4, .int .i64 r5, .int .i64 r6] (⟨b9, 0⟩ : Ptr) 0 (fun h => br (!a6) (zf12.j5 U a2 Q h) (br (!r8) (zf12.j5 U a2 Q h) (wr (a4.add 3) (.ptr (some (⟨b9, 0⟩ : Ptr))) (fun h => wr (a4.add 4) (.str r7) (fun h => zf12.j21 U a1 a4 Q h) h) h))) h) h) h)

def zf12 (U : Ifc) (a1 : Option Ptr) (a2 : Int) (a3 : Sl) (Q : V → Heap → Prop) (h : Heap) : Prop :=
  al [.int .i64 0, .int .i64 0, .int .u32 0, .ptr none, .str []] (fun b1 h => wrL [.int .i64 a2, .int .i64 1, .int .u32 0, .ptr none, .str []] (⟨b1, 0⟩ : Ptr) 0 (fun h => br (((a3.len : Nat) : Int) == 0) (Q .nilif h) (ix 0 a3.len (fun n2 => der a3.p (fun p3 => rdStr (p3.add (n2 * 1)) (fun x4 => br (x4 == ([46, 119, 111, 114, 100] : List UInt8)) (zf12.j10 U a1 a2 a3 (⟨b1, 0⟩ : Ptr) Q h) (ix 0 a3.len (fun n5 => der a3.p (fun p6 => rdStr (p6.add (n5 * 1)) (fun x7 => br (x7 == ([46, 102, 105, 108, 108] : List UInt8)) (zf12.j10 U a1 a2 a3 (⟨b1, 0⟩ : Ptr) Q h) (ix 0 a3.len (fun n8 => der a3.p (fun p9 => rdStr (p9.add (n8 * 1)) (fun x10 => zf7 U (fun r11 h => ck (p9.add (n8 * 1)) [.str x10] 0 h ∧ (mapGet .str r11 (.str x10) (fun o12 => asI .i64 (o12.getD (.int .i64 0)) (fun x13 => zf12.j3 U a1 a2 a3 (⟨b1, 0⟩ : Ptr) x13 o12.isSome Q h)) h)) h) h)))) h)))) h)))) h) h

def zf9.j12 (U : Ifc) (I4 : Ptr → Sl → Int → Int → Heap → Prop) (a1 : Int) (Q : (Option Ptr) → V → Heap → Prop) (h : Heap) : Prop :=
  Q none (.iface 6 (.agg [.int .i64 a1])) h

def zf9.j15 (U : Ifc) (I4 : Ptr → Sl → Int → Int → Heap → Prop) (a1 : Ptr) (a2 : Int) (a3 : Sl) (a4 : Sl) (a5 : Int) (a6 : Int) (Q : (Option Ptr) → V → Heap → Prop) (h : Heap) : Prop :=
  zf12 U (some a1) a2 a3 (fun r1 h => isNil r1 (fun c2 => br (!c2) (chk (V.nt r1) (Q none r1 h)) (I4 a1 a4 a5 (IntKind.i64.wrap (a6 + 1)) h))) h

def zf9.j14 (U : Ifc) (I4 : Ptr → Sl → Int → Int → Heap → Prop) (a1 : Ptr) (a2 : Int) (a3 : Sl) (a4 : Sl) (a5 : Int) (a6 : Int) (Q : (Option Ptr) → V → Heap → Prop) (h : Heap) : Prop :=
  sb 1 a3.len (fun n1 => zf9.j15 U I4 a1 a2 ⟨slp a3.p (n1 * 1) n1 a3.cap, a3.len - n1, a3.cap - n1⟩ a4 a5 a6 Q h)

def zf9.j9 (U : Ifc) (I4 : Ptr → Sl → Int → Int → Heap → Prop) (a1 : Ptr) (a2 : Int) (a3 : Sl) (a4 : Sl) (a5 : Int) (a6 : Int) (Q : (Option Ptr) → V → Heap → Prop) (h : Heap) : Prop :=
  ix 0 a3.len (fun n1 => der a3.p (fun p2 => rdStr (p2.add (n1 * 1)) (fun x3 => zf71 x3 ([58] : List UInt8) (fun r4 h => rdM (a1.add 1) (fun x5 => mapGet .str x5 (.str r4) (fun o6 => asI .i64 (o6.getD (.int .i64 0)) (fun x7 => br o6.isSome (zf9.j12 U I4 a2 Q h) (zf4 r4 (fun r8 h => br (!r8) (zf9.j12 U I4 a2 Q h) (rdM (a1.add 1) (fun x9 => rdI .i64 (a1.add 2) (fun x10 => mapPut .str x9 (.str r4) (.int .i64 x10) (fun h => zf9.j14 U I4 a1 a2 a3 a4 a5 a6 Q h) h) h) h)) h))) h) h) h) h))

def zf9.b4 (U : Ifc)  (I4 : Ptr → Sl → Int → Int → Heap → Prop) (a1 : Ptr) (a2 : Sl) (a3 : Int) (a4 : Int) (Q : (Option Ptr) → V → Heap → Prop) (h : Heap) : Prop :=
  br (decide (a4 < a3)) (ix a4 a2.len (fun n1 => der a2.p (fun p2 => rdStr (p2.add (n1 * 1)) (fun x3 => zf60 U x3 ([35] : List UInt8) (fun r4 r5 r6 h => zf63 r4 (.fn 357 []) (fun r7 h => br (decide (((r7.len : Nat) : Int) > 0)) (ix 0 r7.len (fun n8 => der r7.p (fun p9 => rdStr (p9.add (n8 * 1)) (fun x10 => zf64 x10 ([58] : List UInt8) (fun r11 h => br r11 (zf9.j9 U I4 a1 a4 r7 a2 a3 a4 Q h) (zf9.j15 U I4 a1 a4 r7 a2 a3 a4 Q h)) h) h))) (zf9.j15 U I4 a1 a4 r7 a2 a3 a4 Q h)) h) h) h))) (rdI .i64 (a1.add 2) (fun x12 => br (decide (x12 > 16384)) (Q none (.iface 5 (.int .i64 3)) h) (Q (some a1) .nilif h)) h)

def zf9.j4 (U : Ifc)  (a1 : Ptr) (a2 : Sl) (a3 : Int) (a4 : Int) (Q : (Option Ptr) → V → Heap → Prop) (h : Heap) : Prop :=
  ∀ I : Ptr → Sl → Int → Int → Heap → Prop, (∀ a1 a2 a3 a4 h, zf9.b4 U  I a1 a2 a3 a4 Q h → I a1 a2 a3 a4 h) → I a1 a2 a3 a4 h

def zf9 (U : Ifc) (a1 : List UInt8) (Q : (Option Ptr) → V → Heap → Prop) (h : Heap) : Prop :=
  alM .str (fun b1 h => al [.sl ⟨none, 0, 0⟩, .map (some b1), .int .i64 0] (fun b2 h => zf68 U a1 ([10] : List UInt8) (fun r3 h => zf9.j4 U (⟨b2, 0⟩ : Ptr) r3 ((r3.len : Nat) : Int) 0 Q h) h) h) h

def zf28.j7  (a1 : Int) (a2 : Int) (a3 : Int) (a4 : Int) (a5 : Int) (a6 : Int) (Q : Int → Int → Heap → Prop) (h : Heap) : Prop :=
  nneg 32 (nneg 32 (Q (IntKind.u64.wrap ((IntKind.u64.wrap ((IntKind.u64.wrap (a4 * a5)) + (shrI .u64 a6 32))) + (shrI .u64 (IntKind.u64.wrap ((ibits .and .u64 a6 4294967295) + (IntKind.u64.wrap (a3 * a5)))) 32))) (IntKind.u64.wrap (a1 * a2)) h))

def zf28 (a1 : Int) (a2 : Int) (Q : Int → Int → Heap → Prop) (h : Heap) : Prop :=
  nneg 32 (nneg 32 (nneg 32 (zf28.j7 a1 a2 (ibits .and .u64 a1 4294967295) (shrI .u64 a1 32) (shrI .u64 a2 32) (IntKind.u64.wrap ((IntKind.u64.wrap ((shrI .u64 a1 32) * (ibits .and .u64 a2 4294967295))) + (shrI .u64 (IntKind.u64.wrap ((ibits .and .u64 a1 4294967295) * (ibits .and .u64 a2 4294967295))) 32))) Q h)))

def zf27 (a1 : Int) (a2 : Int) (Q : Int → Int → Heap → Prop) (h : Heap) : Prop :=
  zf28 a1 a2 (fun r1 r2 h => Q r1 r2 h) h

def zf56.j5  (a1 : Sl) (a2 : Int) (Q : Sl → Heap → Prop) (h : Heap) : Prop :=
  False

def zf56.b8  (I8 : Sl → Int → Heap → Prop) (a1 : Sl) (a2 : Int) (Q : Sl → Heap → Prop) (h : Heap) : Prop :=
  br (decide (a2 < ((a1.len : Nat) : Int))) (sb a2 a1.len (fun n1 => sb a2 a1.cap (fun n2 => cellsS 1 ⟨slp a1.p (0 * 1) 0 a1.cap, n2 - 0, a1.cap - 0⟩ (fun cs3 => copyS 1 ⟨slp a1.p (n1 * 1) n1 a1.cap, a1.len - n1, a1.cap - n1⟩ cs3 (n2 - 0) (fun x4 h => I8 a1 (IntKind.i64.wrap (a2 + x4)) h) h) h))) (Q a1 h)

def zf56.j8  (a1 : Sl) (a2 : Int) (Q : Sl → Heap → Prop) (h : Heap) : Prop :=
  ∀ I : Sl → Int → Heap → Prop, (∀ a1 a2 h, zf56.b8  I a1 a2 Q h → I a1 a2 h) → I a1 a2 h

def zf56 (a1 : Sl) (a2 : Int) (Q : Sl → Heap → Prop) (h : Heap) : Prop :=
  br (decide (a2 < 0)) (False) (zf27 (IntKind.u64.wrap ((a1.len : Nat) : Int)) (IntKind.u64.wrap a2) (fun r1 r2 h => br (decide (r1 > 0)) (zf56.j5 a1 r2 Q h) (br (decide (r2 > 9223372036854775807)) (zf56.j5 a1 r2 Q h) (mkSl 4 [.int .u32 0] (IntKind.i64.wrap r2) (IntKind.i64.wrap r2) (fun s3 h => cellsS 1 a1 (fun cs4 => copyS 1 s3 cs4 a1.len (fun x5 h => zf56.j8 s3 x5 Q h) h) h) h))) h)

def zf79 (a1 : Int) (a2 : Int) (a3 : Int) (Q : Bool → Heap → Prop) (h : Heap) : Prop :=
  br (decide (a1 ≥ a2)) (Q (decide (a1 ≤ a3)) h) (Q false h)

def zf76 (a1 : Int) (a2 : Int) (Q : Int → Heap → Prop) (h : Heap) : Prop :=
  zf79 a2 1 63 (fun r1 h => br (!r1) (Q 0 h) (nneg (IntKind.i64.wrap (64 - a2)) (nneg (IntKind.i64.wrap (64 - a2)) (Q (shrI .i64 (shlI .i64 a1 (IntKind.i64.wrap (64 - a2))) (IntKind.i64.wrap (64 - a2))) h)))) h

def zf74 (a1 : Int) (a2 : Int) (Q : Bool → Heap → Prop) (h : Heap) : Prop :=
  zf79 a2 1 63 (fun r1 h => br r1 (zf76 a1 a2 (fun r2 h => Q (r2 == a1) h) h) (Q false h)) h

def zf19.j5  (a1 : Int) (Q : Bool → Heap → Prop) (h : Heap) : Prop :=
  br (decide (a1 ≥ 0)) (Q (decide (a1 < 64)) h) (Q false h)

def zf19.j9  (a1 : Int) (Q : Bool → Heap → Prop) (h : Heap) : Prop :=
  br (decide (a1 ≥ 0)) (Q (decide (a1 < 4096)) h) (Q false h)

def zf19 (a1 : Int) (a2 : Int) (a3 : Int) (Q : Bool → Heap → Prop) (h : Heap) : Prop :=
  br (a1 == 18) (zf19.j5 a3 Q h) (br (a1 == 19) (zf19.j5 a3 Q h) (br (a1 == 20) (zf19.j5 a3 Q h) (br (a1 == 46) (zf19.j9 a3 Q h) (br (a1 == 47) (zf19.j9 a3 Q h) (br (a1 == 48) (zf19.j9 a3 Q h) (br (a2 == 2) (zf74 a3 14 (fun r1 h => Q r1 h) h) (br (a2 == 3) (zf74 a3 14 (fun r2 h => Q r2 h) h) (br (a2 == 4) (zf74 a3 14 (fun r3 h => Q r3 h) h) (br (a2 == 5) (zf74 a3 18 (fun r4 h => Q r4 h) h) (Q (a3 == 0) h))))))))))

def zf18.j3   (Q : Bool → Heap → Prop) (h : Heap) : Prop :=
  Q false h

def zf18.j8 (I5 : Sl → Int → Int → Heap → Prop)  (Q : Bool → Heap → Prop) (h : Heap) : Prop :=
  Q false h

def zf18.j9 (I5 : Sl → Int → Int → Heap → Prop) (a1 : Sl) (a2 : Int) (a3 : Int) (Q : Bool → Heap → Prop) (h : Heap) : Prop :=
  I5 a1 a2 (IntKind.i64.wrap (a3 + 1)) h

def zf18.b5  (I5 : Sl → Int → Int → Heap → Prop) (a1 : Sl) (a2 : Int) (a3 : Int) (Q : Bool → Heap → Prop) (h : Heap) : Prop :=
  br (decide (a3 < a2)) (ix a3 a1.len (fun n1 => der a1.p (fun p2 => rdI .i64 ((p2.add (n1 * 2)).add 0) (fun x3 => rdB ((p2.add (n1 * 2)).add 1) (fun x4 => al [.int .i64 0, .bool false] (fun b5 h => wrL [.int .i64 x3, .bool x4] (⟨b5, 0⟩ : Ptr) 0 (fun h => rdI .i64 ((⟨b5, 0⟩ : Ptr).add 0) (fun x6 => br (decide (x6 < 0)) (zf18.j8 I5 Q h) (rdI .i64 ((⟨b5, 0⟩ : Ptr).add 0) (fun x7 => br (decide (x7 > 15)) (zf18.j8 I5 Q h) (rdI .i64 ((⟨b5, 0⟩ : Ptr).add 0) (fun x8 => br (decide (x8 > 0)) (rdB ((⟨b5, 0⟩ : Ptr).add 1) (fun x9 => br (!x9) (zf18.j8 I5 Q h) (zf18.j9 I5 a1 a2 a3 Q h)) h) (zf18.j9 I5 a1 a2 a3 Q h)) h)) h)) h) h) h) h) h))) (Q true h)

def zf18.j5  (a1 : Sl) (a2 : Int) (a3 : Int) (Q : Bool → Heap → Prop) (h : Heap) : Prop :=
  ∀ I : Sl → Int → Int → Heap → Prop, (∀ a1 a2 a3 h, zf18.b5  I a1 a2 a3 Q h → I a1 a2 a3 h) → I a1 a2 a3 h

def zf18.j4  (a1 : Ptr) (a2 : Int) (Q : Bool → Heap → Prop) (h : Heap) : Prop :=
  rdI .i64 (a1.add 1) (fun x1 => br (a2 == 1) (rdI .i64 (a1.add 2) (fun x2 => br (a2 != 0) (rdI .i64 (a1.add 3) (fun x3 => br (a2 == 1) (al [.int .i64 x1, .bool true, .int .i64 x2, .bool (a2 != 5), .int .i64 x3, .bool true] (fun b4 h => zf18.j5 ⟨some ⟨b4, 0⟩, 3, 3⟩ ((3 : Nat) : Int) 0 Q h) h) (br (a2 == 3) (al [.int .i64 x1, .bool true, .int .i64 x2, .bool (a2 != 5), .int .i64 x3, .bool true] (fun b5 h => zf18.j5 ⟨some ⟨b5, 0⟩, 3, 3⟩ ((3 : Nat) : Int) 0 Q h) h) (al [.int .i64 x1, .bool true, .int .i64 x2, .bool (a2 != 5), .int .i64 x3, .bool (a2 == 4)] (fun b6 h => zf18.j5 ⟨some ⟨b6, 0⟩, 3, 3⟩ ((3 : Nat) : Int) 0 Q h) h))) h) (rdI .i64 (a1.add 3) (fun x7 => br (a2 == 1) (al [.int .i64 x1, .bool true, .int .i64 x2, .bool false, .int .i64 x7, .bool true] (fun b8 h => zf18.j5 ⟨some ⟨b8, 0⟩, 3, 3⟩ ((3 : Nat) : Int) 0 Q h) h) (br (a2 == 3) (al [.int .i64 x1, .bool true, .int .i64 x2, .bool false, .int .i64 x7, .bool true] (fun b9 h => zf18.j5 ⟨some ⟨b9, 0⟩, 3, 3⟩ ((3 : Nat) : Int) 0 Q h) h) (al [.int .i64 x1, .bool true, .int .i64 x2, .bool false, .int .i64 x7, .bool (a2 == 4)] (fun b10 h => zf18.j5 ⟨some ⟨b10, 0⟩, 3, 3⟩ ((3 : Nat) : Int) 0 Q h) h))) h)) h) (br (a2 == 2) (rdI .i64 (a1.add 2) (fun x11 => br (a2 != 0) (rdI .i64 (a1.add 3) (fun x12 => br (a2 == 1) (al [.int .i64 x1, .bool true, .int .i64 x11, .bool (a2 != 5), .int .i64 x12, .bool true] (fun b13 h => zf18.j5 ⟨some ⟨b13, 0⟩, 3, 3⟩ ((3 : Nat) : Int) 0 Q h) h) (br (a2 == 3) (al [.int .i64 x1, .bool true, .int .i64 x11, .bool (a2 != 5), .int .i64 x12, .bool true] (fun b14 h => zf18.j5 ⟨some ⟨b14, 0⟩, 3, 3⟩ ((3 : Nat) : Int) 0 Q h) h) (al [.int .i64 x1, .bool true, .int .i64 x11, .bool (a2 != 5), .int .i64 x12, .bool (a2 == 4)] (fun b15 h => zf18.j5 ⟨some ⟨b15, 0⟩, 3, 3⟩ ((3 : Nat) : Int) 0 Q h) h))) h) (rdI .i64 (a1.add 3) (fun x16 => br (a2 == 1) (al [.int .i64 x1, .bool true, .int .i64 x11, .bool false, .int .i64 x16, .bool true] (fun b17 h => zf18.j5 ⟨some ⟨b17, 0⟩, 3, 3⟩ ((3 : Nat) : Int) 0 Q h) h) (br (a2 == 3) (al [.int .i64 x1, .bool true, .int .i64 x11, .bool false, .int .i64 x16, .bool true] (fun b18 h => zf18.j5 ⟨some ⟨b18, 0⟩, 3, 3⟩ ((3 : Nat) : Int) 0 Q h) h) (al [.int .i64 x1, .bool true, .int .i64 x11, .bool false, .int .i64 x16, .bool (a2 == 4)] (fun b19 h => zf18.j5 ⟨some ⟨b19, 0⟩, 3, 3⟩ ((3 : Nat) : Int) 0 Q h) h))) h)) h) (rdI .i64 (a1.add 2) (fun x20 => br (a2 != 0) (rdI .i64 (a1.add 3) (fun x21 => br (a2 == 1) (al [.int .i64 x1, .bool (a2 == 5), .int .i64 x20, .bool (a2 != 5), .int .i64 x21, .bool true] (fun b22 h => zf18.j5 ⟨some ⟨b22, 0⟩, 3, 3⟩ ((3 : Nat) : Int) 0 Q h) h) (br (a2 == 3) (al [.int .i64 x1, .bool (a2 == 5), .int .i64 x20, .bool (a2 != 5), .int .i64 x21, .bool true] (fun b23 h => zf18.j5 ⟨some ⟨b23, 0⟩, 3, 3⟩ ((3 : Nat) : Int) 0 Q h) h) (al [.int .i64 x1, .bool (a2 == 5), .int .i64 x20, .bool (a2 != 5), .int .i64 x21, .bool (a2 == 4)] (fun b24 h => zf18.j5 ⟨some ⟨b24, 0⟩, 3, 3⟩ ((3 : Nat) : Int) 0 Q h) h))) h) (rdI .i64 (a1.add 3) (fun x25 => br (a2 == 1) (al [.int .i64 x1, .bool (a2 == 5), .int .i64 x20, .bool false, .int .i64 x25, .bool true] (fun b26 h => zf18.j5 ⟨some ⟨b26, 0⟩, 3, 3⟩ ((3 : Nat) : Int) 0 Q h) h) (br (a2 == 3) (al [.int .i64 x1, .bool (a2 == 5), .int .i64 x20, .bool false, .int .i64 x25, .bool true] (fun b27 h => zf18.j5 ⟨some ⟨b27, 0⟩, 3, 3⟩ ((3 : Nat) : Int) 0 Q h) h) (al [.int .i64 x1, .bool (a2 == 5), .int .i64 x20, .bool false, .int .i64 x25, .bool (a2 == 4)] (fun b28 h => zf18.j5 ⟨some ⟨b28, 0⟩, 3, 3⟩ ((3 : Nat) : Int) 0 Q h) h))) h)) h))) h

def zf18 (a1 : Int) (a2 : Int) (a3 : Int) (a4 : Int) (a5 : Int) (Q : Bool → Heap → Prop) (h : Heap) : Prop :=
  al [.int .i64 a1, .int .i64 a2, .int .i64 a3, .int .i64 a4, .int .i64 a5] (fun b1 h => rdI .i64 ((⟨b1, 0⟩ : Ptr).add 0) (fun x2 => zf17 x2 (fun r3 r4 h => br (!r4) (zf18.j3 Q h) (rdI .i64 ((⟨b1, 0⟩ : Ptr).add 0) (fun x5 => rdI .i64 ((⟨b1, 0⟩ : Ptr).add 4) (fun x6 => zf19 x5 r3 x6 (fun r7 h => br (!r7) (zf18.j3 Q h) (rdI .i64 ((⟨b1, 0⟩ : Ptr).add 0) (fun x8 => br (x8 == 37) (rdI .i64 ((⟨b1, 0⟩ : Ptr).add 3) (fun x9 => br (x9 != 0) (zf18.j3 Q h) (zf18.j4 (⟨b1, 0⟩ : Ptr) r3 Q h)) h) (zf18.j4 (⟨b1, 0⟩ : Ptr) r3 Q h)) h)) h) h) h)) h) h) h

def zf77 (a1 : Int) (a2 : Int) (Q : Bool → Heap → Prop) (h : Heap) : Prop :=
  zf79 a1 0 31 (fun r1 h => br r1 (zf79 a2 1 32 (fun r2 h => br r2 (Q (decide ((IntKind.i64.wrap (a1 + a2)) ≤ 32)) h) (Q false h)) h) (Q false h)) h

def zf78 (a1 : Int) (Q : Int → Heap → Prop) (h : Heap) : Prop :=
  nneg a1 (Q (IntKind.u64.wrap ((shlI .u64 1 a1) - 1)) h)

def zf75 (a1 : Int) (a2 : Int) (a3 : Int) (a4 : Int) (Q : Int → Heap → Prop) (h : Heap) : Prop :=
  zf77 a3 a4 (fun r1 h => br (!r1) (Q a1 h) (zf78 a4 (fun r2 h => nneg a3 (nneg a3 (Q (ibits .or .u32 (ibits .andNot .u32 a1 (IntKind.u32.wrap (shlI .u64 r2 a3))) (ibits .and .u32 (shlI .u32 (IntKind.u32.wrap a2) a3) (IntKind.u32.wrap (shlI .u64 r2 a3)))) h))) h)) h

def zf16.j4  (a1 : Ptr) (a2 : Int) (Q : Int → Int → Heap → Prop) (h : Heap) : Prop :=
  rdI .i64 (a1.add 0) (fun x1 => zf17 x1 (fun r2 r3 h => br (r2 == 5) (rdI .i64 (a1.add 4) (fun x4 => zf75 a2 x4 0 18 (fun r5 h => Q r5 0 h) h) h) (rdI .i64 (a1.add 4) (fun x6 => zf75 a2 x6 0 14 (fun r7 h => Q r7 0 h) h) h)) h) h

def zf16 (a1 : Int) (a2 : Int) (a3 : Int) (a4 : Int) (a5 : Int) (Q : Int → Int → Heap → Prop) (h : Heap) : Prop :=
  al [.int .i64 a1, .int .i64 a2, .int .i64 a3, .int .i64 a4, .int .i64 a5] (fun b1 h => rdI .i64 ((⟨b1, 0⟩ : Ptr).add 0) (fun x2 => rdI .i64 ((⟨b1, 0⟩ : Ptr).add 1) (fun x3 => rdI .i64 ((⟨b1, 0⟩ : Ptr).add 2) (fun x4 => rdI .i64 ((⟨b1, 0⟩ : Ptr).add 3) (fun x5 => rdI .i64 ((⟨b1, 0⟩ : Ptr).add 4) (fun x6 => zf18 x2 x3 x4 x5 x6 (fun r7 h => br (!r7) (Q 0 10 h) (rdI .i64 ((⟨b1, 0⟩ : Ptr).add 0) (fun x8 => nneg 26 (rdI .i64 ((⟨b1, 0⟩ : Ptr).add 1) (fun x9 => nneg 22 (rdI .i64 ((⟨b1, 0⟩ : Ptr).add 2) (fun x10 => nneg 18 (rdI .i64 ((⟨b1, 0⟩ : Ptr).add 3) (fun x11 => nneg 14 (zf16.j4 (⟨b1, 0⟩ : Ptr) (ibits .or .u32 (ibits .or .u32 (ibits .or .u32 (shlI .u32 (IntKind.u32.wrap x8) 26) (shlI .u32 (IntKind.u32.wrap x9) 22)) (shlI .u32 (IntKind.u32.wrap x10) 18)) (shlI .u32 (IntKind.u32.wrap x11) 14)) Q h)) h)) h)) h)) h)) h) h) h) h) h) h) h

def zf11.j16 (I3 : (Option Ptr) → Sl → Sl → Int → Int → Heap → Prop) (a1 : Option Ptr) (a2 : Sl) (a3 : Sl) (a4 : Int) (a5 : Int) (Q : Sl → V → Heap → Prop) (h : Heap) : Prop :=
  I3 a1 a2 a3 a4 (IntKind.i64.wrap (a5 + 1)) h

def zf11.j10 (I3 : (Option Ptr) → Sl → Sl → Int → Int → Heap → Prop) (a1 : Ptr) (Q : Sl → V → Heap → Prop) (h : Heap) : Prop :=
  rdI .i64 (a1.add 0) (fun x1 => Q ⟨none, 0, 0⟩ (.iface 6 (.agg [.int .i64 x1])) h) h

def zf11.j11 (I3 : (Option Ptr) → Sl → Sl → Int → Int → Heap → Prop) (a1 : Option Ptr) (a2 : Sl) (a3 : Ptr) (a4 : Int) (a5 : Sl) (a6 : Int) (a7 : Int) (Q : Sl → V → Heap → Prop) (h : Heap) : Prop :=
  rdP (a3.add 3) (fun x1 => der x1 (fun p2 => wr (p2.add 4) (.int .i64 (IntKind.i64.wrap (a4 - ((a2.len : Nat) : Int)))) (fun h => rdP (a3.add 3) (fun x3 => der x3 (fun p4 => rdI .i64 (p4.add 0) (fun x5 => rdI .i64 (p4.add 1) (fun x6 => rdI .i64 (p4.add 2) (fun x7 => rdI .i64 (p4.add 3) (fun x8 => rdI .i64 (p4.add 4) (fun x9 => zf16 x5 x6 x7 x8 x9 (fun r10 r11 h => br (r11 != 0) (rdI .i64 (a3.add 0) (fun x12 => Q ⟨none, 0, 0⟩ (.iface 6 (.agg [.int .i64 x12])) h) h) (al [.int .u32 r10] (fun b13 h => rdN (1 * 1) (⟨b13, 0⟩ : Ptr) (fun cs15 => appS 1 4 [.int .u32 0] a2 cs15 1 (fun s14 h => zf11.j16 I3 a1 s14 a5 a6 a7 Q h) h) h) h)) h) h) h) h) h) h)) h) h)) h

def zf11.b3  (I3 : (Option Ptr) → Sl → Sl → Int → Int → Heap → Prop) (a1 : Option Ptr) (a2 : Sl) (a3 : Sl) (a4 : Int) (a5 : Int) (Q : Sl → V → Heap → Prop) (h : Heap) : Prop :=
  br (decide (a5 < a4)) (ix a5 a3.len (fun n1 => der a3.p (fun p2 => rdI .i64 ((p2.add (n1 * 5)).add 0) (fun x3 => rdI .i64 ((p2.add (n1 * 5)).add 1) (fun x4 => rdI .u32 ((p2.add (n1 * 5)).add 2) (fun x5 => rdP ((p2.add (n1 * 5)).add 3) (fun x6 => rdStr ((p2.add (n1 * 5)).add 4) (fun x7 => al [.int .i64 0, .int .i64 0, .int .u32 0, .ptr none, .str []] (fun b8 h => wrL [.int .i64 x3, .int .i64 x4, .int .u32 x5, .ptr x6, .str x7] (⟨b8, 0⟩ : Ptr) 0 (fun h => rdP ((⟨b8, 0⟩ : Ptr).add 3) (fun x9 => br x9.isNone (rdI .u32 ((⟨b8, 0⟩ : Ptr).add 2) (fun x10 => al [.int .u32 x10] (fun b11 h => rdI .i64 ((⟨b8, 0⟩ : Ptr).add 1) (fun x12 => zf56 ⟨some ⟨b11, 0⟩, 1, 1⟩ x12 (fun r13 h => cellsS 1 r13 (fun cs15 => appS 1 4 [.int .u32 0] a2 cs15 r13.len (fun s14 h => zf11.j16 I3 a1 s14 a3 a4 a5 Q h) h) h) h) h) h) h) (rdStr ((⟨b8, 0⟩ : Ptr).add 4) (fun x16 => br (!(x16 == [])) (der a1 (fun p17 => rdM (p17.add 1) (fun x18 => rdStr ((⟨b8, 0⟩ : Ptr).add 4) (fun x19 => mapGet .str x18 (.str x19) (fun o20 => asI .i64 (o20.getD (.int .i64 0)) (fun x21 => br (!o20.isSome) (zf11.j10 I3 (⟨b8, 0⟩ : Ptr) Q h) (zf11.j11 I3 a1 a2 (⟨b8, 0⟩ : Ptr) x21 a3 a4 a5 Q h))) h) h) h)) (rdP ((⟨b8, 0⟩ : Ptr).add 3) (fun x22 => der x22 (fun p23 => rdI .i64 (p23.add 0) (fun x24 => rdI .i64 (p23.add 1) (fun x25 => rdI .i64 (p23.add 2) (fun x26 => rdI .i64 (p23.add 3) (fun x27 => rdI .i64 (p23.add 4) (fun x28 => zf16 x24 x25 x26 x27 x28 (fun r29 r30 h => br (r30 != 0) (rdI .i64 ((⟨b8, 0⟩ : Ptr).add 0) (fun x31 => Q ⟨none, 0, 0⟩ (.iface 6 (.agg [.int .i64 x31])) h) h) (al [.int .u32 r29] (fun b32 h => rdN (1 * 1) (⟨b32, 0⟩ : Ptr) (fun cs34 => appS 1 4 [.int .u32 0] a2 cs34 1 (fun s33 h => zf11.j16 I3 a1 s33 a3 a4 a5 Q h) h) h) h)) h) h) h) h) h) h)) h)) h)) h) h) h) h) h) h) h) h))) (Q a2 .nilif h)

def zf11.j3  (a1 : Option Ptr) (a2 : Sl) (a3 : Sl) (a4 : Int) (a5 : Int) (Q : Sl → V → Heap → Prop) (h : Heap) : Prop :=
  ∀ I : (Option Ptr) → Sl → Sl → Int → Int → Heap → Prop, (∀ a1 a2 a3 a4 a5 h, zf11.b3  I a1 a2 a3 a4 a5 Q h → I a1 a2 a3 a4 a5 h) → I a1 a2 a3 a4 a5 h

def zf11 (a1 : Option Ptr) (Q : Sl → V → Heap → Prop) (h : Heap) : Prop :=
  der a1 (fun p1 => rdSl (p1.add 0) (fun x2 => zf11.j3 a1 ⟨none, 0, 0⟩ x2 ((x2.len : Nat) : Int) 0 Q h) h)

def zf3.j2 (U : Ifc)   (Q : (Option Ptr) → Sl → V → Heap → Prop) (h : Heap) : Prop :=
  Q none ⟨none, 0, 0⟩ (.iface 5 (.int .i64 2)) h

def zf3.j9 (U : Ifc)  (a1 : Option Ptr) (a2 : V) (a3 : Sl) (Q : (Option Ptr) → Sl → V → Heap → Prop) (h : Heap) : Prop :=
  chk (V.nt a2) (Q a1 a3 a2 h)

def zf3 (U : Ifc) (a1 : List UInt8) (a2 : Int) (Q : (Option Ptr) → Sl → V → Heap → Prop) (h : Heap) : Prop :=
  nz 4 (br ((a2.tmod 4) != 0) (zf3.j2 U Q h) (br (decide (a2 > 1099511627776)) (zf3.j2 U Q h) (br (decide ((a1.length : Int) > 65536)) (Q none ⟨none, 0, 0⟩ (.iface 5 (.int .i64 3)) h) (zf9 U a1 (fun r1 r2 h => isNil r2 (fun c3 => br (!c3) (chk (V.nt r2) (Q none ⟨none, 0, 0⟩ r2 h)) (zf11 r1 (fun r4 r5 h => zf3.j9 U r1 r5 r4 Q h) h))) h))))

def zf14 (U : Ifc) (a1 : V) (a2 : V) (Q : Bool → Heap → Prop) (h : Heap) : Prop :=
  asErrI U 6 6 5 7 9 10 a1 a2 Q h

def zf0 (U : Ifc) (a1 : List UInt8) (a2 : Int) (Q : Sl → Int → Int → Heap → Prop) (h : Heap) : Prop :=
  al [.int .i64 0] (fun b1 h => zf3 U a1 a2 (fun r2 r3 r4 h => al [.int .i64 0] (fun b5 h => isNil r4 (fun c6 => br c6 (wr (⟨b1, 0⟩ : Ptr) (.int .i64 0) (fun h => rdI .i64 (⟨b1, 0⟩ : Ptr) (fun x7 => Q r3 0 x7 h) h) h) (zf14 U r4 (.iface 7 (.ptr (some (⟨b5, 0⟩ : Ptr)))) (fun r8 h => br r8 (rdI .i64 ((⟨b5, 0⟩ : Ptr).add 0) (fun x9 => wr (⟨b1, 0⟩ : Ptr) (.int .i64 10) (fun h => rdI .i64 (⟨b1, 0⟩ : Ptr) (fun x10 => Q ⟨none, 0, 0⟩ x9 x10 h) h) h) h) (zf14 U r4 (.iface 9 (.ptr (some (⟨b1, 0⟩ : Ptr)))) (fun r11 h => rdI .i64 (⟨b1, 0⟩ : Ptr) (fun x12 => wr (⟨b1, 0⟩ : Ptr) (.int .i64 x12) (fun h => rdI .i64 (⟨b1, 0⟩ : Ptr) (fun x13 => Q ⟨none, 0, 0⟩ 0 x13 h) h) h) h) h)) h))) h) h) h

def zf47.j5 (I4 : (List UInt8) → Sl → (List UInt8) → Int → Heap → Prop) (a1 : List UInt8) (a2 : Sl) (a3 : List UInt8) (a4 : Int) (Q : Sl → Heap → Prop) (h : Heap) : Prop :=
  I4 a1 a2 a3 (IntKind.i64.wrap (a4 + 1)) h

def zf47.j10 (I4 : (List UInt8) → Sl → (List UInt8) → Int → Heap → Prop) (a1 : List UInt8) (a2 : Sl) (a3 : Int) (a4 : Bool) (Q : Sl → Heap → Prop) (h : Heap) : Prop :=
  br a4 (Q a2 h) (zf47.j5 I4 a1 a2 [] a3 Q h)

def zf47.j8 (I4 : (List UInt8) → Sl → (List UInt8) → Int → Heap → Prop) (a1 : List UInt8) (a2 : Sl) (a3 : List UInt8) (a4 : Int) (a5 : Bool) (Q : Sl → Heap → Prop) (h : Heap) : Prop :=
  br (!(a3 == [])) (al [.str a3] (fun b1 h => rdN (1 * 1) (⟨b1, 0⟩ : Ptr) (fun cs3 => appS 1 16 [.str []] a2 cs3 1 (fun s2 h => zf47.j10 I4 a1 s2 a4 a5 Q h) h) h) h) (zf47.j10 I4 a1 a2 a4 a5 Q h)

def zf47.j13 (I4 : (List UInt8) → Sl → (List UInt8) → Int → Heap → Prop) (a1 : List UInt8) (a2 : Sl) (a3 : List UInt8) (a4 : Int) (Q : Sl → Heap → Prop) (h : Heap) : Prop :=
  sb (IntKind.i64.wrap (a4 + 1)) a1.length (fun n1 => sb a4 n1 (fun n2 => catS a3 ((a1.drop n2).take (n1 - n2)) (fun s3 => zf47.j5 I4 a1 a2 s3 a4 Q h)))

def zf47.j7 (I4 : (List UInt8) → Sl → (List UInt8) → Int → Heap → Prop) (a1 : List UInt8) (a2 : Sl) (a3 : List UInt8) (a4 : Int) (a5 : Bool) (Q : Sl → Heap → Prop) (h : Heap) : Prop :=
  br a5 (zf47.j8 I4 a1 a2 a3 a4 a5 Q h) (ix a4 a1.length (fun n1 => br (((a1.getD n1 0).toNat : Int) == 32) (zf47.j8 I4 a1 a2 a3 a4 a5 Q h) (ix a4 a1.length (fun n2 => br (((a1.getD n2 0).toNat : Int) == 44) (zf47.j8 I4 a1 a2 a3 a4 a5 Q h) (ix a4 a1.length (fun n3 => br (((a1.getD n3 0).toNat : Int) == 9) (zf47.j8 I4 a1 a2 a3 a4 a5 Q h) (ix a4 a1.length (fun n4 => br (((a1.getD n4 0).toNat : Int) == 40) (zf47.j8 I4 a1 a2 a3 a4 a5 Q h) (ix a4 a1.length (fun n5 => br (((a1.getD n5 0).toNat : Int) == 41) (zf47.j8 I4 a1 a2 a3 a4 a5 Q h) (zf47.j13 I4 a1 a2 a3 a4 Q h)))))))))))

def zf47.b4  (I4 : (List UInt8) → Sl → (List UInt8) → Int → Heap → Prop) (a1 : List UInt8) (a2 : Sl) (a3 : List UInt8) (a4 : Int) (Q : Sl → Heap → Prop) (h : Heap) : Prop :=
  br (decide (a4 ≤ (a1.length : Int))) (br (a4 == (a1.length : Int)) (zf47.j7 I4 a1 a2 a3 a4 true Q h) (ix a4 a1.length (fun n1 => zf47.j7 I4 a1 a2 a3 a4 (((a1.getD n1 0).toNat : Int) == 35) Q h))) (Q a2 h)

def zf47.j4  (a1 : List UInt8) (a2 : Sl) (a3 : List UInt8) (a4 : Int) (Q : Sl → Heap → Prop) (h : Heap) : Prop :=
  ∀ I : (List UInt8) → Sl → (List UInt8) → Int → Heap → Prop, (∀ a1 a2 a3 a4 h, zf47.b4  I a1 a2 a3 a4 Q h → I a1 a2 a3 a4 h) → I a1 a2 a3 a4 h

def zf47 (a1 : List UInt8) (Q : Sl → Heap → Prop) (h : Heap) : Prop :=
  zf47.j4 a1 ⟨none, 0, 0⟩ [] 0 Q h

def zf41 (U : Ifc) (a1 : Int) (Q : (List UInt8) → Heap → Prop) (h : Heap) : Prop :=
  br (decide (a1 < 0)) (U.callV (.fn 334 []) [.int .i64 (IntKind.i64.wrap (0 - a1))] (fun r1 h => asStr r1 (fun x2 => catS ([45] : List UInt8) x2 (fun s3 => Q s3 h))) h) (br (decide (a1 < 10)) (al [.int .u8 (IntKind.u8.wrap (IntKind.i64.wrap (48 + a1)))] (fun b4 h => cellsS 1 ⟨some ⟨b4, 0⟩, 1, 1⟩ (fun cs5 => bytesOf cs5 (fun s6 => Q s6 h)) h) h) (nz 10 (U.callV (.fn 334 []) [.int .i64 (IntKind.i64.wrap (a1.tdiv 10))] (fun r7 h => asStr r7 (fun x8 => nz 10 (U.callV (.fn 334 []) [.int .i64 (a1.tmod 10)] (fun r9 h => asStr r9 (fun x10 => catS x8 x10 (fun s11 => Q s11 h))) h))) h)))

def zf46.b2 (U : Ifc)  (I2 : (List UInt8) → Int → Heap → Prop) (a1 : List UInt8) (a2 : Int) (Q : Int → Heap → Prop) (h : Heap) : Prop :=
  br (decide (a2 < 16)) (zf41 U a2 (fun r1 h => catS ([120] : List UInt8) r1 (fun s2 => br (a1 == s2) (Q a2 h) (I2 a1 (IntKind.i64.wrap (a2 + 1)) h))) h) (Q (-1) h)

def zf46.j2 (U : Ifc)  (a1 : List UInt8) (a2 : Int) (Q : Int → Heap → Prop) (h : Heap) : Prop :=
  ∀ I : (List UInt8) → Int → Heap → Prop, (∀ a1 a2 h, zf46.b2 U  I a1 a2 Q h → I a1 a2 h) → I a1 a2 h

def zf46 (U : Ifc) (a1 : List UInt8) (Q : Int → Heap → Prop) (h : Heap) : Prop :=
  zf46.j2 U a1 0 Q h

def zf50.j6 (U : Ifc) (I2 : (List UInt8) → Int → Heap → Prop)  (Q : Bool → Heap → Prop) (h : Heap) : Prop :=
  Q false h

def zf50.j3 (U : Ifc) (I2 : (List UInt8) → Int → Heap → Prop) (a1 : List UInt8) (a2 : Int) (Q : Bool → Heap → Prop) (h : Heap) : Prop :=
  I2 a1 (IntKind.i64.wrap (a2 + 1)) h

def zf50.b2 (U : Ifc)  (I2 : (List UInt8) → Int → Heap → Prop) (a1 : List UInt8) (a2 : Int) (Q : Bool → Heap → Prop) (h : Heap) : Prop :=
  br (decide (a2 < (a1.length : Int))) (ix a2 a1.length (fun n1 => br (decide (((a1.getD n1 0).toNat : Int) < 97)) (br (decide (((a1.getD n1 0).toNat : Int) < 48)) (br (((a1.getD n1 0).toNat : Int) != 95) (zf50.j6 U I2 Q h) (zf50.j3 U I2 a1 a2 Q h)) (br (decide (((a1.getD n1 0).toNat : Int) > 57)) (br (((a1.getD n1 0).toNat : Int) != 95) (zf50.j6 U I2 Q h) (zf50.j3 U I2 a1 a2 Q h)) (zf50.j3 U I2 a1 a2 Q h))) (br (decide (((a1.getD n1 0).toNat : Int) > 122)) (br (decide (((a1.getD n1 0).toNat : Int) < 48)) (br (((a1.getD n1 0).toNat : Int) != 95) (zf50.j6 U I2 Q h) (zf50.j3 U I2 a1 a2 Q h)) (br (decide (((a1.getD n1 0).toNat : Int) > 57)) (br (((a1.getD n1 0).toNat : Int) != 95) (zf50.j6 U I2 Q h) (zf50.j3 U I2 a1 a2 Q h)) (zf50.j3 U I2 a1 a2 Q h))) (zf50.j3 U I2 a1 a2 Q h)))) (br (decide ((a1.length : Int) ≥ 1)) (br (decide ((a1.length : Int) ≤ 30)) (ix 0 a1.length (fun n2 => br (decide (((a1.getD n2 0).toNat : Int) < 48)) (zf46 U a1 (fun r3 h => Q (decide (r3 < 0)) h) h) (ix 0 a1.length (fun n4 => br (decide (((a1.getD n4 0).toNat : Int) > 57)) (zf46 U a1 (fun r5 h => Q (decide (r5 < 0)) h) h) (Q false h))))) (Q false h)) (Q false h))

def zf50.j2 (U : Ifc)  (a1 : List UInt8) (a2 : Int) (Q : Bool → Heap → Prop) (h : Heap) : Prop :=
  ∀ I : (List UInt8) → Int → Heap → Prop, (∀ a1 a2 h, zf50.b2 U  I a1 a2 Q h → I a1 a2 h) → I a1 a2 h

def zf50 (U : Ifc) (a1 : List UInt8) (Q : Bool → Heap → Prop) (h : Heap) : Prop :=
  zf50.j2 U a1 0 Q h

def zf44.j5   (Q : Int → Bool → Heap → Prop) (h : Heap) : Prop :=
  Q 0 false h

def zf44.j11 (I8 : (List UInt8) → (List UInt8) → Int → Int → Heap → Prop)  (Q : Int → Bool → Heap → Prop) (h : Heap) : Prop :=
  Q 0 false h

def zf44.b8  (I8 : (List UInt8) → (List UInt8) → Int → Int → Heap → Prop) (a1 : List UInt8) (a2 : List UInt8) (a3 : Int) (a4 : Int) (Q : Int → Bool → Heap → Prop) (h : Heap) : Prop :=
  br (decide (a4 < (a2.length : Int))) (ix a4 a2.length (fun n1 => br (decide (((a2.getD n1 0).toNat : Int) < 48)) (zf44.j11 I8 Q h) (ix a4 a2.length (fun n2 => br (decide (((a2.getD n2 0).toNat : Int) > 57)) (zf44.j11 I8 Q h) (ix a4 a2.length (fun n3 => I8 a1 a2 (IntKind.i64.wrap ((IntKind.i64.wrap (a3 * 10)) + (IntKind.i64.wrap (IntKind.u8.wrap (((a2.getD n3 0).toNat : Int) - 48))))) (IntKind.i64.wrap (a4 + 1)) h)))))) (br (!(a2 == a1)) (Q (IntKind.i64.wrap (0 - a3)) true h) (Q a3 true h))

def zf44.j8  (a1 : List UInt8) (a2 : List UInt8) (a3 : Int) (a4 : Int) (Q : Int → Bool → Heap → Prop) (h : Heap) : Prop :=
  ∀ I : (List UInt8) → (List UInt8) → Int → Int → Heap → Prop, (∀ a1 a2 a3 a4 h, zf44.b8  I a1 a2 a3 a4 Q h → I a1 a2 a3 a4 h) → I a1 a2 a3 a4 h

def zf44.j6  (a1 : List UInt8) (a2 : List UInt8) (Q : Int → Bool → Heap → Prop) (h : Heap) : Prop :=
  zf44.j8 a1 a2 0 0 Q h

def zf44.j4  (a1 : List UInt8) (a2 : List UInt8) (Q : Int → Bool → Heap → Prop) (h : Heap) : Prop :=
  br (decide ((a2.length : Int) < 1)) (zf44.j5 Q h) (br (decide ((a2.length : Int) > 15)) (zf44.j5 Q h) (ix 0 a2.length (fun n1 => br (((a2.getD n1 0).toNat : Int) == 48) (br (decide ((a2.length : Int) > 1)) (zf44.j5 Q h) (br (!(a2 == a1)) (zf44.j5 Q h) (zf44.j6 a1 a2 Q h))) (zf44.j6 a1 a2 Q h))))

def zf44 (a1 : List UInt8) (Q : Int → Bool → Heap → Prop) (h : Heap) : Prop :=
  br (decide ((a1.length : Int) > 0)) (ix 0 a1.length (fun n1 => br (((a1.getD n1 0).toNat : Int) == 45) (sb 1 a1.length (fun n2 => zf44.j4 a1 ((a1.drop n2).take (a1.length - n2)) Q h)) (zf44.j4 a1 a1 Q h))) (zf44.j4 a1 a1 Q h)

def zf43  (Q : Sl → Heap → Prop) (h : Heap) : Prop :=
  al [.str ([97, 100, 100] : List UInt8), .str ([115, 117, 98] : List UInt8), .str ([97, 110, 100] : List UInt8), .str ([111, 114] : List UInt8), .str ([120, 111, 114] : List UInt8), .str ([115, 108, 108] : List UInt8), .str ([115, 114, 108] : List UInt8), .str ([115, 114, 97] : List UInt8), .str ([115, 108, 116] : List UInt8), .str ([115, 108, 116, 117] : List UInt8), .str ([109, 117, 108] : List UInt8), .str ([100, 105, 118, 117] : List UInt8), .str ([114, 101, 109, 117] : List UInt8), .str ([97, 100, 100, 105] : List UInt8), .str ([97, 110, 100, 105] : List UInt8), .str ([111, 114, 105] : List UInt8), .str ([120, 111, 114, 105] : List UInt8), .str ([115, 108, 108, 105] : List UInt8), .str ([115, 114, 108, 105] : List UInt8), .str ([115, 114, 97, 105] : List UInt8), .str ([115, 108, 116, 105] : List UInt8), .str ([108, 117, 105] : List UInt8), .str ([108, 100] : List UInt8), .str ([108, 119] : List UInt8), .str ([108, 98] : List UInt8), .str ([115, 100] : List UInt8), .str ([115, 119] : List UInt8), .str ([115, 98] : List UInt8), .str ([98, 101, 113] : List UInt8), .str ([98, 110, 101] : List UInt8), .str ([98, 108, 116] : List UInt8), .str ([98, 103, 101] : List UInt8), .str ([98, 108, 116, 117] : List UInt8), .str ([98, 103, 101, 117] : List UInt8), .str ([106, 97, 108] : List UInt8), .str ([106, 97, 108, 114] : List UInt8), .str ([108, 114] : List UInt8), .str ([115, 99] : List UInt8), .str ([97, 109, 111, 97, 100, 100] : List UInt8), .str ([97, 109, 111, 115, 119, 112] : List UInt8), .str ([102, 101, 110, 99, 101] : List UInt8), .str ([101, 99, 97, 108, 108] : List UInt8), .str ([115, 114, 101, 116] : List UInt8), .str ([119, 102, 105] : List UInt8), .str ([115, 102, 101, 110, 99, 101] : List UInt8), .str ([99, 115, 114, 114, 119] : List UInt8), .str ([99, 115, 114, 114, 115] : List UInt8), .str ([99, 115, 114, 114, 99] : List UInt8)] (fun b1 h => Q ⟨some ⟨b1, 0⟩, 48, 48⟩ h) h

def zf51.b3  (I3 : (List UInt8) → Sl → Int → Heap → Prop) (a1 : List UInt8) (a2 : Sl) (a3 : Int) (Q : Int → Heap → Prop) (h : Heap) : Prop :=
  br (decide (a3 < ((a2.len : Nat) : Int))) (ix a3 a2.len (fun n1 => der a2.p (fun p2 => rdStr (p2.add (n1 * 1)) (fun x3 => br (x3 == a1) (Q (IntKind.i64.wrap (a3 + 1)) h) (I3 a1 a2 (IntKind.i64.wrap (a3 + 1)) h)) h))) (Q 0 h)

def zf51.j3  (a1 : List UInt8) (a2 : Sl) (a3 : Int) (Q : Int → Heap → Prop) (h : Heap) : Prop :=
  ∀ I : (List UInt8) → Sl → Int → Heap → Prop, (∀ a1 a2 a3 h, zf51.b3  I a1 a2 a3 Q h → I a1 a2 a3 h) → I a1 a2 a3 h

def zf51 (a1 : List UInt8) (Q : Int → Heap → Prop) (h : Heap) : Prop :=
  zf43 (fun r1 h => zf51.j3 a1 r1 0 Q h) h

def zf36.j4   (Q : Int → Heap → Prop) (h : Heap) : Prop :=
  Q 2 h

def zf36.j9  (a1 : Int) (Q : Int → Heap → Prop) (h : Heap) : Prop :=
  br (a1 == 22) (Q 5 h) (br (a1 == 35) (Q 5 h) (br (a1 == 45) (Q 6 h) (br (decide (a1 ≥ 41)) (br (decide (a1 ≤ 44)) (Q 0 h) (Q (-1) h)) (Q (-1) h))))

def zf36.j7  (a1 : Int) (Q : Int → Heap → Prop) (h : Heap) : Prop :=
  br (decide (a1 ≥ 29)) (br (decide (a1 ≤ 34)) (Q 4 h) (zf36.j9 a1 Q h)) (zf36.j9 a1 Q h)

def zf36.j5  (a1 : Int) (Q : Int → Heap → Prop) (h : Heap) : Prop :=
  br (decide (a1 ≥ 26)) (br (decide (a1 ≤ 28)) (Q 3 h) (zf36.j7 a1 Q h)) (zf36.j7 a1 Q h)

def zf36.j3  (a1 : Int) (Q : Int → Heap → Prop) (h : Heap) : Prop :=
  br (decide (a1 ≥ 14)) (br (decide (a1 ≤ 21)) (zf36.j4 Q h) (br (decide (a1 ≥ 23)) (br (decide (a1 ≤ 25)) (zf36.j4 Q h) (br (a1 == 36) (zf36.j4 Q h) (br (decide (a1 ≥ 46)) (br (decide (a1 ≤ 48)) (zf36.j4 Q h) (zf36.j5 a1 Q h)) (zf36.j5 a1 Q h)))) (br (a1 == 36) (zf36.j4 Q h) (br (decide (a1 ≥ 46)) (br (decide (a1 ≤ 48)) (zf36.j4 Q h) (zf36.j5 a1 Q h)) (zf36.j5 a1 Q h))))) (br (decide (a1 ≥ 23)) (br (decide (a1 ≤ 25)) (zf36.j4 Q h) (br (a1 == 36) (zf36.j4 Q h) (br (decide (a1 ≥ 46)) (br (decide (a1 ≤ 48)) (zf36.j4 Q h) (zf36.j5 a1 Q h)) (zf36.j5 a1 Q h)))) (br (a1 == 36) (zf36.j4 Q h) (br (decide (a1 ≥ 46)) (br (decide (a1 ≤ 48)) (zf36.j4 Q h) (zf36.j5 a1 Q h)) (zf36.j5 a1 Q h))))

def zf36 (a1 : Int) (Q : Int → Heap → Prop) (h : Heap) : Prop :=
  br (decide (a1 ≥ 1)) (br (decide (a1 ≤ 13)) (Q 1 h) (br (decide (a1 ≥ 37)) (br (decide (a1 ≤ 40)) (Q 1 h) (zf36.j3 a1 Q h)) (zf36.j3 a1 Q h))) (br (decide (a1 ≥ 37)) (br (decide (a1 ≤ 40)) (Q 1 h) (zf36.j3 a1 Q h)) (zf36.j3 a1 Q h))

def zf45 (a1 : Int) (Q : (List UInt8) → Heap → Prop) (h : Heap) : Prop :=
  zf36 a1 (fun r1 h => br (r1 == 1) (br (a1 == 37) (Q ([100, 97] : List UInt8) h) (Q ([100, 97, 98] : List UInt8) h)) (br (r1 == 2) (br (decide (a1 ≥ 23)) (br (decide (a1 ≤ 25)) (Q ([100, 105, 97] : List UInt8) h) (br (a1 == 36) (Q ([100, 105, 97] : List UInt8) h) (br (decide (a1 ≥ 46)) (Q ([100, 105, 97] : List UInt8) h) (Q ([100, 97, 105] : List UInt8) h)))) (br (a1 == 36) (Q ([100, 105, 97] : List UInt8) h) (br (decide (a1 ≥ 46)) (Q ([100, 105, 97] : List UInt8) h) (Q ([100, 97, 105] : List UInt8) h)))) (br (r1 == 3) (Q ([98, 105, 97] : List UInt8) h) (br (r1 == 4) (Q ([97, 98, 109] : List UInt8) h) (br (r1 == 5) (br (a1 == 35) (Q ([100, 109] : List UInt8) h) (Q ([100, 105] : List UInt8) h)) (br (r1 == 6) (Q ([97] : List UInt8) h) (Q [] h))))))) h

def zf52.j7 (U : Ifc) (I6 : Sl → Ptr → Ptr → (List UInt8) → Int → Heap → Prop) (a1 : Sl) (a2 : Ptr) (a3 : Ptr) (a4 : List UInt8) (a5 : Int) (Q : Int → (List UInt8) → Int → Bool → Int → Int → Int → Int → Int → (List UInt8) → Int → Bool → Heap → Prop) (h : Heap) : Prop :=
  I6 a1 a2 a3 a4 (IntKind.i64.wrap (a5 + 1)) h

def zf52.j27 (U : Ifc) (I6 : Sl → Ptr → Ptr → (List UInt8) → Int → Heap → Prop) (a1 : Sl) (a2 : Ptr) (a3 : Ptr) (a4 : List UInt8) (a5 : Int) (a6 : Bool) (Q : Int → (List UInt8) → Int → Bool → Int → Int → Int → Int → Int → (List UInt8) → Int → Bool → Heap → Prop) (h : Heap) : Prop :=
  br (!a6) (rdI .i64 (a3.add 0) (fun x1 => rdStr (a3.add 1) (fun x2 => rdI .i64 (a3.add 2) (fun x3 => rdB (a3.add 3) (fun x4 => rdI .i64 (a3.add 4) (fun x5 => rdI .i64 (a3.add 5) (fun x6 => rdI .i64 (a3.add 6) (fun x7 => rdI .i64 (a3.add 7) (fun x8 => rdI .i64 (a3.add 8) (fun x9 => rdStr (a3.add 9) (fun x10 => rdI .u32 (a3.add 10) (fun x11 => wrL [.int .i64 x1, .str x2, .int .i64 x3, .bool x4, .int .i64 x5, .int .i64 x6, .int .i64 x7, .int .i64 x8, .int .i64 x9, .str x10, .int .u32 x11] a2 0 (fun h => rdI .i64 (a2.add 0) (fun x12 => rdStr (a2.add 1) (fun x13 => rdI .i64 (a2.add 2) (fun x14 => rdB (a2.add 3) (fun x15 => rdI .i64 (a2.add 4) (fun x16 => rdI .i64 (a2.add 5) (fun x17 => rdI .i64 (a2.add 6) (fun x18 => rdI .i64 (a2.add 7) (fun x19 => rdI .i64 (a2.add 8) (fun x20 => rdStr (a2.add 9) (fun x21 => rdI .u32 (a2.add 10) (fun x22 => Q x12 x13 x14 x15 x16 x17 x18 x19 x20 x21 x22 false h) h) h) h) h) h) h) h) h) h) h) h) h) h) h) h) h) h) h) h) h) h) h) h) (zf52.j7 U I6 a1 a2 a3 a4 a5 Q h)

def zf52.j12 (U : Ifc) (I6 : Sl → Ptr → Ptr → (List UInt8) → Int → Heap → Prop) (a1 : Sl) (a2 : Ptr) (a3 : Ptr) (a4 : List UInt8) (a5 : Int) (a6 : Int) (Q : Int → (List UInt8) → Int → Bool → Int → Int → Int → Int → Int → (List UInt8) → Int → Bool → Heap → Prop) (h : Heap) : Prop :=
  wr ((a3.add 4).add 1) (.int .i64 a6) (fun h => zf52.j27 U I6 a1 a2 a3 a4 a5 (decide (a6 ≥ 0)) Q h) h

def zf52.j14 (U : Ifc) (I6 : Sl → Ptr → Ptr → (List UInt8) → Int → Heap → Prop) (a1 : Sl) (a2 : Ptr) (a3 : Ptr) (a4 : List UInt8) (a5 : Int) (a6 : Int) (a7 : Bool) (a8 : Int) (a9 : Int) (Q : Int → (List UInt8) → Int → Bool → Int → Int → Int → Int → Int → (List UInt8) → Int → Bool → Heap → Prop) (h : Heap) : Prop :=
  br (a9 == 97) (wr ((a3.add 4).add 2) (.int .i64 a8) (fun h => zf52.j27 U I6 a1 a2 a3 a4 a5 (decide (a8 ≥ 0)) Q h) h) (br (a9 == 98) (wr ((a3.add 4).add 3) (.int .i64 a8) (fun h => zf52.j27 U I6 a1 a2 a3 a4 a5 (decide (a8 ≥ 0)) Q h) h) (br (a9 == 105) (wr ((a3.add 4).add 4) (.int .i64 a6) (fun h => zf52.j27 U I6 a1 a2 a3 a4 a5 a7 Q h) h) (br (a9 == 109) (wr ((a3.add 4).add 4) (.int .i64 a6) (fun h => br (!a7) (ix a5 a1.len (fun n1 => der a1.p (fun p2 => rdStr (p2.add (n1 * 1)) (fun x3 => wr (a3.add 9) (.str x3) (fun h => ix a5 a1.len (fun n4 => der a1.p (fun p5 => rdStr (p5.add (n4 * 1)) (fun x6 => zf50 U x6 (fun r7 h => zf52.j27 U I6 a1 a2 a3 a4 a5 r7 Q h) h) h))) h) h))) (zf52.j27 U I6 a1 a2 a3 a4 a5 a7 Q h)) h) (zf52.j27 U I6 a1 a2 a3 a4 a5 a7 Q h))))

def zf52.b6 (U : Ifc)  (I6 : Sl → Ptr → Ptr → (List UInt8) → Int → Heap → Prop) (a1 : Sl) (a2 : Ptr) (a3 : Ptr) (a4 : List UInt8) (a5 : Int) (Q : Int → (List UInt8) → Int → Bool → Int → Int → Int → Int → Int → (List UInt8) → Int → Bool → Heap → Prop) (h : Heap) : Prop :=
  br (decide (a5 < ((a1.len : Nat) : Int))) (ix a5 a1.len (fun n1 => der a1.p (fun p2 => rdStr (p2.add (n1 * 1)) (fun x3 => zf44 x3 (fun r4 r5 h => ix a5 a1.len (fun n6 => der a1.p (fun p7 => rdStr (p7.add (n6 * 1)) (fun x8 => zf46 U x8 (fun r9 h => ix a5 a4.length (fun n10 => br (((a4.getD n10 0).toNat : Int) == 100) (zf52.j12 U I6 a1 a2 a3 a4 a5 r9 Q h) (zf52.j14 U I6 a1 a2 a3 a4 a5 r4 r5 r9 ((a4.getD n10 0).toNat : Int) Q h))) h) h))) h) h))) (rdI .i64 (a3.add 0) (fun x11 => rdStr (a3.add 1) (fun x12 => rdI .i64 (a3.add 2) (fun x13 => rdB (a3.add 3) (fun x14 => rdI .i64 (a3.add 4) (fun x15 => rdI .i64 (a3.add 5) (fun x16 => rdI .i64 (a3.add 6) (fun x17 => rdI .i64 (a3.add 7) (fun x18 => rdI .i64 (a3.add 8) (fun x19 => rdStr (a3.add 9) (fun x20 => rdI .u32 (a3.add 10) (fun x21 => wrL [.int .i64 x11, .str x12, .int .i64 x13, .bool x14, .int .i64 x15, .int .i64 x16, .int .i64 x17, .int .i64 x18, .int .i64 x19, .str x20, .int .u32 x21] a2 0 (fun h => rdI .i64 (a2.add 0) (fun x22 => rdStr (a2.add 1) (fun x23 => rdI .i64 (a2.add 2) (fun x24 => rdB (a2.add 3) (fun x25 => rdI .i64 (a2.add 4) (fun x26 => rdI .i64 (a2.add 5) (fun x27 => rdI .i64 (a2.add 6) (fun x28 => rdI .i64 (a2.add 7) (fun x29 => rdI .i64 (a2.add 8) (fun x30 => rdStr (a2.add 9) (fun x31 => rdI .u32 (a2.add 10) (fun x32 => Q x22 x23 x24 x25 x26 x27 x28 x29 x30 x31 x32 true h) h) h) h) h) h) h) h) h) h) h) h) h) h) h) h) h) h) h) h) h) h) h) h)

def zf52.j6 (U : Ifc)  (a1 : Sl) (a2 : Ptr) (a3 : Ptr) (a4 : List UInt8) (a5 : Int) (Q : Int → (List UInt8) → Int → Bool → Int → Int → Int → Int → Int → (List UInt8) → Int → Bool → Heap → Prop) (h : Heap) : Prop :=
  ∀ I : Sl → Ptr → Ptr → (List UInt8) → Int → Heap → Prop, (∀ a1 a2 a3 a4 a5 h, zf52.b6 U  I a1 a2 a3 a4 a5 Q h → I a1 a2 a3 a4 a5 h) → I a1 a2 a3 a4 a5 h

def zf52 (U : Ifc) (a1 : Int) (a2 : Sl) (Q : Int → (List UInt8) → Int → Bool → Int → Int → Int → Int → Int → (List UInt8) → Int → Bool → Heap → Prop) (h : Heap) : Prop :=
  al zf80 (fun b1 h => al zf80 (fun b2 h => wrL [.int .i64 0, .str [], .int .i64 1, .bool true, .int .i64 a1, .int .i64 0, .int .i64 0, .int .i64 0, .int .i64 0, .str [], .int .u32 0] (⟨b2, 0⟩ : Ptr) 0 (fun h => zf45 a1 (fun r3 h => br (((a2.len : Nat) : Int) != (r3.length : Int)) (rdI .i64 ((⟨b2, 0⟩ : Ptr).add 0) (fun x4 => rdStr ((⟨b2, 0⟩ : Ptr).add 1) (fun x5 => rdI .i64 ((⟨b2, 0⟩ : Ptr).add 2) (fun x6 => rdB ((⟨b2, 0⟩ : Ptr).add 3) (fun x7 => rdI .i64 ((⟨b2, 0⟩ : Ptr).add 4) (fun x8 => rdI .i64 ((⟨b2, 0⟩ : Ptr).add 5) (fun x9 => rdI .i64 ((⟨b2, 0⟩ : Ptr).add 6) (fun x10 => rdI .i64 ((⟨b2, 0⟩ : Ptr).add 7) (fun x11 => rdI .i64 ((⟨b2, 0⟩ : Ptr).add 8) (fun x12 => rdStr ((⟨b2, 0⟩ : Ptr).add 9) (fun x13 => rdI .u32 ((⟨b2, 0⟩ : Ptr).add 10) (fun x14 => wrL [.int .i64 x4, .str x5, .int .i64 x6, .bool x7, .int .i64 x8, .int .i64 x9, .int .i64 x10, .int .i64 x11, .int .i64 x12, .str x13, .int .u32 x14] (⟨b1, 0⟩ : Ptr) 0 (fun h => rdI .i64 ((⟨b1, 0⟩ : Ptr).add 0) (fun x15 => rdStr ((⟨b1, 0⟩ : Ptr).add 1) (fun x16 => rdI .i64 ((⟨b1, 0⟩ : Ptr).add 2) (fun x17 => rdB ((⟨b1, 0⟩ : Ptr).add 3) (fun x18 => rdI .i64 ((⟨b1, 0⟩ : Ptr).add 4) (fun x19 => rdI .i64 ((⟨b1, 0⟩ : Ptr).add 5) (fun x20 => rdI .i64 ((⟨b1, 0⟩ : Ptr).add 6) (fun x21 => rdI .i64 ((⟨b1, 0⟩ : Ptr).add 7) (fun x22 => rdI .i64 ((⟨b1, 0⟩ : Ptr).add 8) (fun x23 => rdStr ((⟨b1, 0⟩ : Ptr).add 9) (fun x24 => rdI .u32 ((⟨b1, 0⟩ : Ptr).add 10) (fun x25 => Q x15 x16 x17 x18 x19 x20 x21 x22 x23 x24 x25 false h) h) h) h) h) h) h) h) h) h) h) h) h) h) h) h) h) h) h) h) h) h) h) h) (zf52.j6 U a2 (⟨b1, 0⟩ : Ptr) (⟨b2, 0⟩ : Ptr) r3 0 Q h)) h) h) h) h

def zf53.j11 (U : Ifc)  (a1 : Ptr) (a2 : Sl) (a3 : List UInt8) (Q : Int → (List UInt8) → Int → Bool → Int → Int → Int → Int → Int → (List UInt8) → Int → Bool → Heap → Prop) (h : Heap) : Prop :=
  br (((a2.len : Nat) : Int) != 2) (wrL [.int .i64 0, .str [], .int .i64 0, .bool false, .int .i64 0, .int .i64 0, .int .i64 0, .int .i64 0, .int .i64 0, .str [], .int .u32 0] a1 0 (fun h => rdI .i64 (a1.add 0) (fun x1 => rdStr (a1.add 1) (fun x2 => rdI .i64 (a1.add 2) (fun x3 => rdB (a1.add 3) (fun x4 => rdI .i64 (a1.add 4) (fun x5 => rdI .i64 (a1.add 5) (fun x6 => rdI .i64 (a1.add 6) (fun x7 => rdI .i64 (a1.add 7) (fun x8 => rdI .i64 (a1.add 8) (fun x9 => rdStr (a1.add 9) (fun x10 => rdI .u32 (a1.add 10) (fun x11 => Q x1 x2 x3 x4 x5 x6 x7 x8 x9 x10 x11 false h) h) h) h) h) h) h) h) h) h) h) h) h) (ix 1 a2.len (fun n12 => der a2.p (fun p13 => rdStr (p13.add (n12 * 1)) (fun x14 => zf44 x14 (fun r15 r16 h => ix 0 a2.len (fun n17 => der a2.p (fun p18 => rdStr (p18.add (n17 * 1)) (fun x19 => br (x19 == ([46, 102, 105, 108, 108] : List UInt8)) (br r16 (br (decide (r15 ≥ 0)) (wrL [.int .i64 0, .str a3, .int .i64 r15, .bool false, .int .i64 0, .int .i64 0, .int .i64 0, .int .i64 0, .int .i64 0, .str [], .int .u32 0] a1 0 (fun h => rdI .i64 (a1.add 0) (fun x20 => rdStr (a1.add 1) (fun x21 => rdI .i64 (a1.add 2) (fun x22 => rdB (a1.add 3) (fun x23 => rdI .i64 (a1.add 4) (fun x24 => rdI .i64 (a1.add 5) (fun x25 => rdI .i64 (a1.add 6) (fun x26 => rdI .i64 (a1.add 7) (fun x27 => rdI .i64 (a1.add 8) (fun x28 => rdStr (a1.add 9) (fun x29 => rdI .u32 (a1.add 10) (fun x30 => Q x20 x21 x22 x23 x24 x25 x26 x27 x28 x29 x30 (decide (r15 ≤ 4096)) h) h) h) h) h) h) h) h) h) h) h) h) h) (wrL [.int .i64 0, .str a3, .int .i64 r15, .bool false, .int .i64 0, .int .i64 0, .int .i64 0, .int .i64 0, .int .i64 0, .str [], .int .u32 0] a1 0 (fun h => rdI .i64 (a1.add 0) (fun x31 => rdStr (a1.add 1) (fun x32 => rdI .i64 (a1.add 2) (fun x33 => rdB (a1.add 3) (fun x34 => rdI .i64 (a1.add 4) (fun x35 => rdI .i64 (a1.add 5) (fun x36 => rdI .i64 (a1.add 6) (fun x37 => rdI .i64 (a1.add 7) (fun x38 => rdI .i64 (a1.add 8) (fun x39 => rdStr (a1.add 9) (fun x40 => rdI .u32 (a1.add 10) (fun x41 => Q x31 x32 x33 x34 x35 x36 x37 x38 x39 x40 x41 false h) h) h) h) h) h) h) h) h) h) h) h) h)) (wrL [.int .i64 0, .str a3, .int .i64 r15, .bool false, .int .i64 0, .int .i64 0, .int .i64 0, .int .i64 0, .int .i64 0, .str [], .int .u32 0] a1 0 (fun h => rdI .i64 (a1.add 0) (fun x42 => rdStr (a1.add 1) (fun x43 => rdI .i64 (a1.add 2) (fun x44 => rdB (a1.add 3) (fun x45 => rdI .i64 (a1.add 4) (fun x46 => rdI .i64 (a1.add 5) (fun x47 => rdI .i64 (a1.add 6) (fun x48 => rdI .i64 (a1.add 7) (fun x49 => rdI .i64 (a1.add 8) (fun x50 => rdStr (a1.add 9) (fun x51 => rdI .u32 (a1.add 10) (fun x52 => Q x42 x43 x44 x45 x46 x47 x48 x49 x50 x51 x52 false h) h) h) h) h) h) h) h) h) h) h) h) h)) (br r16 (br (decide (r15 ≥ (-2147483648))) (wrL [.int .i64 0, .str a3, .int .i64 1, .bool false, .int .i64 0, .int .i64 0, .int .i64 0, .int .i64 0, .int .i64 0, .str [], .int .u32 (IntKind.u32.wrap r15)] a1 0 (fun h => rdI .i64 (a1.add 0) (fun x53 => rdStr (a1.add 1) (fun x54 => rdI .i64 (a1.add 2) (fun x55 => rdB (a1.add 3) (fun x56 => rdI .i64 (a1.add 4) (fun x57 => rdI .i64 (a1.add 5) (fun x58 => rdI .i64 (a1.add 6) (fun x59 => rdI .i64 (a1.add 7) (fun x60 => rdI .i64 (a1.add 8) (fun x61 => rdStr (a1.add 9) (fun x62 => rdI .u32 (a1.add 10) (fun x63 => Q x53 x54 x55 x56 x57 x58 x59 x60 x61 x62 x63 (decide (r15 < 4294967296)) h) h) h) h) h) h) h) h) h) h) h) h) h) (wrL [.int .i64 0, .str a3, .int .i64 1, .bool false, .int .i64 0, .int .i64 0, .int .i64 0, .int .i64 0, .int .i64 0, .str [], .int .u32 (IntKind.u32.wrap r15)] a1 0 (fun h => rdI .i64 (a1.add 0) (fun x64 => rdStr (a1.add 1) (fun x65 => rdI .i64 (a1.add 2) (fun x66 => rdB (a1.add 3) (fun x67 => rdI .i64 (a1.add 4) (fun x68 => rdI .i64 (a1.add 5) (fun x69 => rdI .i64 (a1.add 6) (fun x70 => rdI .i64 (a1.add 7) (fun x71 => rdI .i64 (a1.add 8) (fun x72 => rdStr (a1.add 9) (fun x73 => rdI .u32 (a1.add 10) (fun x74 => Q x64 x65 x66 x67 x68 x69 x70 x71 x72 x73 x74 false h) h) h) h) h) h) h) h) h) h) h) h) h)) (wrL [.int .i64 0, .str a3, .int .i64 1, .bool false, .int .i64 0, .int .i64 0, .int .i64 0, .int .i64 0, .int .i64 0, .str [], .int .u32 (IntKind.u32.wrap r15)] a1 0 (fun h => rdI .i64 (a1.add 0) (fun x75 => rdStr (a1.add 1) (fun x76 => rdI .i64 (a1.add 2) (fun x77 => rdB (a1.add 3) (fun x78 => rdI .i64 (a1.add 4) (fun x79 => rdI .i64 (a1.add 5) (fun x80 => rdI .i64 (a1.add 6) (fun x81 => rdI .i64 (a1.add 7) (fun x82 => rdI .i64 (a1.add 8) (fun x83 => rdStr (a1.add 9) (fun x84 => rdI .u32 (a1.add 10) (fun x85 => Q x75 x76 x77 x78 x79 x80 x81 x82 x83 x84 x85 false h) h) h) h) h) h) h) h) h) h) h) h) h))) h))) h) h)))

def zf53.j21 (U : Ifc)  (a1 : Ptr) (a2 : List UInt8) (a3 : Ptr) (a4 : Bool) (Q : Int → (List UInt8) → Int → Bool → Int → Int → Int → Int → Int → (List UInt8) → Int → Bool → Heap → Prop) (h : Heap) : Prop :=
  wr (a3.add 1) (.str a2) (fun h => rdI .i64 (a3.add 0) (fun x1 => rdStr (a3.add 1) (fun x2 => rdI .i64 (a3.add 2) (fun x3 => rdB (a3.add 3) (fun x4 => rdI .i64 (a3.add 4) (fun x5 => rdI .i64 (a3.add 5) (fun x6 => rdI .i64 (a3.add 6) (fun x7 => rdI .i64 (a3.add 7) (fun x8 => rdI .i64 (a3.add 8) (fun x9 => rdStr (a3.add 9) (fun x10 => rdI .u32 (a3.add 10) (fun x11 => wrL [.int .i64 x1, .str x2, .int .i64 x3, .bool x4, .int .i64 x5, .int .i64 x6, .int .i64 x7, .int .i64 x8, .int .i64 x9, .str x10, .int .u32 x11] a1 0 (fun h => rdI .i64 (a1.add 0) (fun x12 => rdStr (a1.add 1) (fun x13 => rdI .i64 (a1.add 2) (fun x14 => rdB (a1.add 3) (fun x15 => rdI .i64 (a1.add 4) (fun x16 => rdI .i64 (a1.add 5) (fun x17 => rdI .i64 (a1.add 6) (fun x18 => rdI .i64 (a1.add 7) (fun x19 => rdI .i64 (a1.add 8) (fun x20 => rdStr (a1.add 9) (fun x21 => rdI .u32 (a1.add 10) (fun x22 => Q x12 x13 x14 x15 x16 x17 x18 x19 x20 x21 x22 a4 h) h) h) h) h) h) h) h) h) h) h) h) h) h) h) h) h) h) h) h) h) h) h) h) h

def zf53.j8 (U : Ifc)  (a1 : Ptr) (a2 : Sl) (a3 : List UInt8) (Q : Int → (List UInt8) → Int → Bool → Int → Int → Int → Int → Int → (List UInt8) → Int → Bool → Heap → Prop) (h : Heap) : Prop :=
  br (((a2.len : Nat) : Int) == 0) (wrL [.int .i64 0, .str a3, .int .i64 0, .bool false, .int .i64 0, .int .i64 0, .int .i64 0, .int .i64 0, .int .i64 0, .str [], .int .u32 0] a1 0 (fun h => rdI .i64 (a1.add 0) (fun x1 => rdStr (a1.add 1) (fun x2 => rdI .i64 (a1.add 2) (fun x3 => rdB (a1.add 3) (fun x4 => rdI .i64 (a1.add 4) (fun x5 => rdI .i64 (a1.add 5) (fun x6 => rdI .i64 (a1.add 6) (fun x7 => rdI .i64 (a1.add 7) (fun x8 => rdI .i64 (a1.add 8) (fun x9 => rdStr (a1.add 9) (fun x10 => rdI .u32 (a1.add 10) (fun x11 => Q x1 x2 x3 x4 x5 x6 x7 x8 x9 x10 x11 true h) h) h) h) h) h) h) h) h) h) h) h) h) (ix 0 a2.len (fun n12 => der a2.p (fun p13 => rdStr (p13.add (n12 * 1)) (fun x14 => br (x14 == ([46, 119, 111, 114, 100] : List UInt8)) (zf53.j11 U a1 a2 a3 Q h) (ix 0 a2.len (fun n15 => der a2.p (fun p16 => rdStr (p16.add (n15 * 1)) (fun x17 => br (x17 == ([46, 102, 105, 108, 108] : List UInt8)) (zf53.j11 U a1 a2 a3 Q h) (ix 0 a2.len (fun n18 => der a2.p (fun p19 => rdStr (p19.add (n18 * 1)) (fun x20 => zf51 x20 (fun r21 h => br (r21 == 0) (wrL [.int .i64 0, .str [], .int .i64 0, .bool false, .int .i64 0, .int .i64 0, .int .i64 0, .int .i64 0, .int .i64 0, .str [], .int .u32 0] a1 0 (fun h => rdI .i64 (a1.add 0) (fun x22 => rdStr (a1.add 1) (fun x23 => rdI .i64 (a1.add 2) (fun x24 => rdB (a1.add 3) (fun x25 => rdI .i64 (a1.add 4) (fun x26 => rdI .i64 (a1.add 5) (fun x27 => rdI .i64 (a1.add 6) (fun x28 => rdI .i64 (a1.add 7) (fun x29 => rdI .i64 (a1.add 8) (fun x30 => rdStr (a1.add 9) (fun x31 => rdI .u32 (a1.add 10) (fun x32 => Q x22 x23 x24 x25 x26 x27 x28 x29 x30 x31 x32 false h) h) h) h) h) h) h) h) h) h) h) h) h) (sb 1 a2.len (fun n33 => zf52 U r21 ⟨slp a2.p (n33 * 1) n33 a2.cap, a2.len - n33, a2.cap - n33⟩ (fun r34 r35 r36 r37 r38 r39 r40 r41 r42 r43 r44 r45 h => al zf80 (fun b46 h => wrL [.int .i64 r34, .str r35, .int .i64 r36, .bool r37, .int .i64 r38, .int .i64 r39, .int .i64 r40, .int .i64 r41, .int .i64 r42, .str r43, .int .u32 r44] (⟨b46, 0⟩ : Ptr) 0 (fun h => zf53.j21 U a1 a3 (⟨b46, 0⟩ : Ptr) r45 Q h) h) h) h))) h) h)))) h)))) h)))

def zf53.j5 (U : Ifc)  (a1 : Ptr) (a2 : Sl) (a3 : List UInt8) (Q : Int → (List UInt8) → Int → Bool → Int → Int → Int → Int → Int → (List UInt8) → Int → Bool → Heap → Prop) (h : Heap) : Prop :=
  zf50 U a3 (fun r1 h => br (!r1) (wrL [.int .i64 0, .str [], .int .i64 0, .bool false, .int .i64 0, .int .i64 0, .int .i64 0, .int .i64 0, .int .i64 0, .str [], .int .u32 0] a1 0 (fun h => rdI .i64 (a1.add 0) (fun x2 => rdStr (a1.add 1) (fun x3 => rdI .i64 (a1.add 2) (fun x4 => rdB (a1.add 3) (fun x5 => rdI .i64 (a1.add 4) (fun x6 => rdI .i64 (a1.add 5) (fun x7 => rdI .i64 (a1.add 6) (fun x8 => rdI .i64 (a1.add 7) (fun x9 => rdI .i64 (a1.add 8) (fun x10 => rdStr (a1.add 9) (fun x11 => rdI .u32 (a1.add 10) (fun x12 => Q x2 x3 x4 x5 x6 x7 x8 x9 x10 x11 x12 false h) h) h) h) h) h) h) h) h) h) h) h) h) (sb 1 a2.len (fun n13 => zf53.j8 U a1 ⟨slp a2.p (n13 * 1) n13 a2.cap, a2.len - n13, a2.cap - n13⟩ a3 Q h))) h

def zf53 (U : Ifc) (a1 : List UInt8) (Q : Int → (List UInt8) → Int → Bool → Int → Int → Int → Int → Int → (List UInt8) → Int → Bool → Heap → Prop) (h : Heap) : Prop :=
  al zf80 (fun b1 h => zf47 a1 (fun r2 h => br (decide (((r2.len : Nat) : Int) > 0)) (ix 0 r2.len (fun n3 => der r2.p (fun p4 => rdStr (p4.add (n3 * 1)) (fun x5 => ix 0 r2.len (fun n6 => der r2.p (fun p7 => rdStr (p7.add (n6 * 1)) (fun x8 => ix (IntKind.i64.wrap ((x8.length : Int) - 1)) x5.length (fun n9 => br (((x5.getD n9 0).toNat : Int) == 58) (ix 0 r2.len (fun n10 => der r2.p (fun p11 => rdStr (p11.add (n10 * 1)) (fun x12 => ix 0 r2.len (fun n13 => der r2.p (fun p14 => rdStr (p14.add (n13 * 1)) (fun x15 => sb (IntKind.i64.wrap ((x15.length : Int) - 1)) x12.length (fun n16 => zf53.j5 U (⟨b1, 0⟩ : Ptr) r2 ((x12.drop 0).take (n16 - 0)) Q h)) h))) h))) (zf53.j8 U (⟨b1, 0⟩ : Ptr) r2 [] Q h))) h))) h))) (zf53.j8 U (⟨b1, 0⟩ : Ptr) r2 [] Q h)) h) h

def zf49.j6 (U : Ifc) (I5 : (List UInt8) → Sl → Int → Int → Int → Heap → Prop) (a1 : List UInt8) (a2 : Sl) (a3 : Int) (a4 : Int) (a5 : Int) (Q : Sl → Int → Int → Heap → Prop) (h : Heap) : Prop :=
  I5 a1 a2 a3 a4 (IntKind.i64.wrap (a5 + 1)) h

def zf49.j12 (U : Ifc) (I5 : (List UInt8) → Sl → Int → Int → Int → Heap → Prop) (I11 : (List UInt8) → Sl → Int → Int → Ptr → Bool → Int → Heap → Prop) (a1 : List UInt8) (a2 : Sl) (a3 : Int) (a4 : Int) (a5 : Ptr) (a6 : Bool) (a7 : Int) (Q : Sl → Int → Int → Heap → Prop) (h : Heap) : Prop :=
  I11 a1 a2 a3 a4 a5 a6 (IntKind.i64.wrap (a7 + 1)) h

def zf49.j14 (U : Ifc) (I5 : (List UInt8) → Sl → Int → Int → Int → Heap → Prop) (a1 : List UInt8) (a2 : Sl) (a3 : Int) (a4 : Int) (a5 : Ptr) (a6 : Bool) (Q : Sl → Int → Int → Heap → Prop) (h : Heap) : Prop :=
  br (!a6) (Q ⟨none, 0, 0⟩ a3 10 h) (rdI .i64 (a5.add 0) (fun x1 => rdStr (a5.add 1) (fun x2 => rdI .i64 (a5.add 2) (fun x3 => rdB (a5.add 3) (fun x4 => rdI .i64 (a5.add 4) (fun x5 => rdI .i64 (a5.add 5) (fun x6 => rdI .i64 (a5.add 6) (fun x7 => rdI .i64 (a5.add 7) (fun x8 => rdI .i64 (a5.add 8) (fun x9 => rdStr (a5.add 9) (fun x10 => rdI .u32 (a5.add 10) (fun x11 => al [.int .i64 x1, .str x2, .int .i64 x3, .bool x4, .int .i64 x5, .int .i64 x6, .int .i64 x7, .int .i64 x8, .int .i64 x9, .str x10, .int .u32 x11] (fun b12 h => rdN (1 * 11) (⟨b12, 0⟩ : Ptr) (fun cs14 => appS 11 104 zf80 a2 cs14 1 (fun s13 h => zf49.j6 U I5 a1 s13 (IntKind.i64.wrap (a4 + 1)) (IntKind.i64.wrap (a3 + 1)) a4 Q h) h) h) h) h) h) h) h) h) h) h) h) h) h) h)

def zf49.b11 (U : Ifc) (I5 : (List UInt8) → Sl → Int → Int → Int → Heap → Prop) (I11 : (List UInt8) → Sl → Int → Int → Ptr → Bool → Int → Heap → Prop) (a1 : List UInt8) (a2 : Sl) (a3 : Int) (a4 : Int) (a5 : Ptr) (a6 : Bool) (a7 : Int) (Q : Sl → Int → Int → Heap → Prop) (h : Heap) : Prop :=
  br a6 (br (decide (a7 < ((a2.len : Nat) : Int))) (rdStr (a5.add 1) (fun x1 => br (x1 == []) (zf49.j12 U I5 I11 a1 a2 a3 a4 a5 true a7 Q h) (ix a7 a2.len (fun n2 => der a2.p (fun p3 => rdStr ((p3.add (n2 * 11)).add 1) (fun x4 => rdStr (a5.add 1) (fun x5 => zf49.j12 U I5 I11 a1 a2 a3 a4 a5 (!(x4 == x5)) a7 Q h) h) h)))) h) (zf49.j14 U I5 a1 a2 a3 a4 a5 a6 Q h)) (zf49.j14 U I5 a1 a2 a3 a4 a5 a6 Q h)

def zf49.j11 (U : Ifc) (I5 : (List UInt8) → Sl → Int → Int → Int → Heap → Prop) (a1 : List UInt8) (a2 : Sl) (a3 : Int) (a4 : Int) (a5 : Ptr) (a6 : Bool) (a7 : Int) (Q : Sl → Int → Int → Heap → Prop) (h : Heap) : Prop :=
  ∀ I : (List UInt8) → Sl → Int → Int → Ptr → Bool → Int → Heap → Prop, (∀ a1 a2 a3 a4 a5 a6 a7 h, zf49.b11 U I5 I a1 a2 a3 a4 a5 a6 a7 Q h → I a1 a2 a3 a4 a5 a6 a7 h) → I a1 a2 a3 a4 a5 a6 a7 h

def zf49.j8 (U : Ifc) (I5 : (List UInt8) → Sl → Int → Int → Int → Heap → Prop) (a1 : List UInt8) (a2 : Sl) (a3 : Int) (a4 : Int) (a5 : Int) (Q : Sl → Int → Int → Heap → Prop) (h : Heap) : Prop :=
  sb a5 a1.length (fun n1 => sb a3 n1 (fun n2 => zf53 U ((a1.drop n2).take (n1 - n2)) (fun r3 r4 r5 r6 r7 r8 r9 r10 r11 r12 r13 r14 h => al zf80 (fun b15 h => wrL [.int .i64 r3, .str r4, .int .i64 r5, .bool r6, .int .i64 r7, .int .i64 r8, .int .i64 r9, .int .i64 r10, .int .i64 r11, .str r12, .int .u32 r13] (⟨b15, 0⟩ : Ptr) 0 (fun h => wr ((⟨b15, 0⟩ : Ptr).add 0) (.int .i64 a4) (fun h => zf49.j11 U I5 a1 a2 a4 a5 (⟨b15, 0⟩ : Ptr) r14 0 Q h) h) h) h) h))

def zf49.b5 (U : Ifc)  (I5 : (List UInt8) → Sl → Int → Int → Int → Heap → Prop) (a1 : List UInt8) (a2 : Sl) (a3 : Int) (a4 : Int) (a5 : Int) (Q : Sl → Int → Int → Heap → Prop) (h : Heap) : Prop :=
  br (decide (a5 ≤ (a1.length : Int))) (br (decide (a5 < (a1.length : Int))) (ix a5 a1.length (fun n1 => br (((a1.getD n1 0).toNat : Int) != 10) (zf49.j6 U I5 a1 a2 a3 a4 a5 Q h) (zf49.j8 U I5 a1 a2 a3 a4 a5 Q h))) (zf49.j8 U I5 a1 a2 a3 a4 a5 Q h)) (Q a2 0 0 h)

def zf49.j5 (U : Ifc)  (a1 : List UInt8) (a2 : Sl) (a3 : Int) (a4 : Int) (a5 : Int) (Q : Sl → Int → Int → Heap → Prop) (h : Heap) : Prop :=
  ∀ I : (List UInt8) → Sl → Int → Int → Int → Heap → Prop, (∀ a1 a2 a3 a4 a5 h, zf49.b5 U  I a1 a2 a3 a4 a5 Q h → I a1 a2 a3 a4 a5 h) → I a1 a2 a3 a4 a5 h

def zf49 (U : Ifc) (a1 : List UInt8) (Q : Sl → Int → Int → Heap → Prop) (h : Heap) : Prop :=
  zf49.j5 U a1 ⟨none, 0, 0⟩ 0 0 0 Q h

def zf48.j4 (I3 : Sl → (List UInt8) → Int → Int → Heap → Prop) (a1 : Sl) (a2 : List UInt8) (a3 : Int) (a4 : Int) (Q : Int → Heap → Prop) (h : Heap) : Prop :=
  I3 a1 a2 a3 (IntKind.i64.wrap (a4 + 1)) h

def zf48.j7 (I3 : Sl → (List UInt8) → Int → Int → Heap → Prop) (a1 : Sl) (a2 : List UInt8) (a3 : Int) (a4 : Int) (Q : Int → Heap → Prop) (h : Heap) : Prop :=
  ix a4 a1.len (fun n1 => der a1.p (fun p2 => rdI .i64 ((p2.add (n1 * 11)).add 2) (fun x3 => zf48.j4 I3 a1 a2 (IntKind.i64.wrap (a3 + x3)) a4 Q h) h))

def zf48.b3  (I3 : Sl → (List UInt8) → Int → Int → Heap → Prop) (a1 : Sl) (a2 : List UInt8) (a3 : Int) (a4 : Int) (Q : Int → Heap → Prop) (h : Heap) : Prop :=
  br (decide (a4 < ((a1.len : Nat) : Int))) (ix a4 a1.len (fun n1 => der a1.p (fun p2 => rdStr ((p2.add (n1 * 11)).add 1) (fun x3 => br (x3 == a2) (br (!(a2 == [])) (Q a3 h) (zf48.j7 I3 a1 a2 a3 a4 Q h)) (zf48.j7 I3 a1 a2 a3 a4 Q h)) h))) (Q (-1) h)

def zf48.j3  (a1 : Sl) (a2 : List UInt8) (a3 : Int) (a4 : Int) (Q : Int → Heap → Prop) (h : Heap) : Prop :=
  ∀ I : Sl → (List UInt8) → Int → Int → Heap → Prop, (∀ a1 a2 a3 a4 h, zf48.b3  I a1 a2 a3 a4 Q h → I a1 a2 a3 a4 h) → I a1 a2 a3 a4 h

def zf48 (a1 : Sl) (a2 : List UInt8) (Q : Int → Heap → Prop) (h : Heap) : Prop :=
  zf48.j3 a1 a2 0 0 Q h

def zf39 (a1 : Int) (Q : Bool → Heap → Prop) (h : Heap) : Prop :=
  br (decide (a1 ≥ 0)) (Q (decide (a1 ≤ 15)) h) (Q false h)

def zf33 (a1 : Int) (a2 : Int) (Q : Bool → Heap → Prop) (h : Heap) : Prop :=
  br (decide (a2 ≥ 1)) (br (decide (a2 ≤ 63)) (nneg (IntKind.u64.wrap (IntKind.i64.wrap (a2 - 1))) (br (decide (a1 ≥ (IntKind.i64.wrap (0 - (shlI .i64 1 (IntKind.u64.wrap (IntKind.i64.wrap (a2 - 1)))))))) (nneg (IntKind.u64.wrap (IntKind.i64.wrap (a2 - 1))) (Q (decide (a1 ≤ (IntKind.i64.wrap ((shlI .i64 1 (IntKind.u64.wrap (IntKind.i64.wrap (a2 - 1)))) - 1)))) h)) (Q false h))) (Q false h)) (Q false h)

def zf38.j5  (a1 : Int) (a2 : Int) (Q : Bool → Heap → Prop) (h : Heap) : Prop :=
  zf36 a1 (fun r1 h => br (r1 == 2) (zf33 a2 14 (fun r2 h => Q r2 h) h) (br (r1 == 3) (zf33 a2 14 (fun r3 h => Q r3 h) h) (br (r1 == 4) (zf33 a2 14 (fun r4 h => Q r4 h) h) (br (r1 == 5) (zf33 a2 18 (fun r5 h => Q r5 h) h) (Q (a2 == 0) h))))) h

def zf38.j3  (a1 : Int) (a2 : Int) (Q : Bool → Heap → Prop) (h : Heap) : Prop :=
  br (decide (a1 ≥ 46)) (br (decide (a1 ≤ 48)) (br (decide (a2 ≥ 0)) (Q (decide (a2 ≤ 4095)) h) (Q false h)) (zf38.j5 a1 a2 Q h)) (zf38.j5 a1 a2 Q h)

def zf38 (a1 : Int) (a2 : Int) (Q : Bool → Heap → Prop) (h : Heap) : Prop :=
  br (decide (a1 ≥ 18)) (br (decide (a1 ≤ 20)) (br (decide (a2 ≥ 0)) (Q (decide (a2 ≤ 63)) h) (Q false h)) (zf38.j3 a1 a2 Q h)) (zf38.j3 a1 a2 Q h)

def zf37.j3   (Q : Bool → Heap → Prop) (h : Heap) : Prop :=
  Q false h

def zf37.j7  (a1 : Ptr) (a2 : Bool) (a3 : Bool) (a4 : Bool) (Q : Bool → Heap → Prop) (h : Heap) : Prop :=
  br a2 (br a3 (br a4 (Q true h) (rdI .i64 (a1.add 3) (fun x1 => Q (x1 == 0) h) h)) (rdI .i64 (a1.add 2) (fun x2 => br (x2 == 0) (br a4 (Q true h) (rdI .i64 (a1.add 3) (fun x3 => Q (x3 == 0) h) h)) (Q false h)) h)) (rdI .i64 (a1.add 1) (fun x4 => br (x4 == 0) (br a3 (br a4 (Q true h) (rdI .i64 (a1.add 3) (fun x5 => Q (x5 == 0) h) h)) (rdI .i64 (a1.add 2) (fun x6 => br (x6 == 0) (br a4 (Q true h) (rdI .i64 (a1.add 3) (fun x7 => Q (x7 == 0) h) h)) (Q false h)) h)) (Q false h)) h)

def zf37.j6  (a1 : Ptr) (a2 : Int) (a3 : Bool) (a4 : Bool) (Q : Bool → Heap → Prop) (h : Heap) : Prop :=
  br (a2 == 1) (rdI .i64 (a1.add 0) (fun x1 => br (x1 != 37) (zf37.j7 a1 a3 a4 true Q h) (br (a2 == 3) (zf37.j7 a1 a3 a4 true Q h) (zf37.j7 a1 a3 a4 (a2 == 4) Q h))) h) (br (a2 == 3) (zf37.j7 a1 a3 a4 true Q h) (zf37.j7 a1 a3 a4 (a2 == 4) Q h))

def zf37.j5  (a1 : Ptr) (a2 : Int) (a3 : Bool) (Q : Bool → Heap → Prop) (h : Heap) : Prop :=
  br (a2 != 0) (zf37.j6 a1 a2 a3 (a2 != 5) Q h) (zf37.j6 a1 a2 a3 false Q h)

def zf37.j4  (a1 : Ptr) (a2 : Int) (Q : Bool → Heap → Prop) (h : Heap) : Prop :=
  br (a2 == 1) (zf37.j5 a1 a2 true Q h) (br (a2 == 2) (zf37.j5 a1 a2 true Q h) (zf37.j5 a1 a2 (a2 == 5) Q h))

def zf37 (a1 : Int) (a2 : Int) (a3 : Int) (a4 : Int) (a5 : Int) (Q : Bool → Heap → Prop) (h : Heap) : Prop :=
  al [.int .i64 a1, .int .i64 a2, .int .i64 a3, .int .i64 a4, .int .i64 a5] (fun b1 h => rdI .i64 ((⟨b1, 0⟩ : Ptr).add 0) (fun x2 => zf36 x2 (fun r3 h => br (decide (r3 < 0)) (zf37.j3 Q h) (rdI .i64 ((⟨b1, 0⟩ : Ptr).add 1) (fun x4 => zf39 x4 (fun r5 h => br (!r5) (zf37.j3 Q h) (rdI .i64 ((⟨b1, 0⟩ : Ptr).add 2) (fun x6 => zf39 x6 (fun r7 h => br (!r7) (zf37.j3 Q h) (rdI .i64 ((⟨b1, 0⟩ : Ptr).add 3) (fun x8 => zf39 x8 (fun r9 h => br (!r9) (zf37.j3 Q h) (rdI .i64 ((⟨b1, 0⟩ : Ptr).add 0) (fun x10 => rdI .i64 ((⟨b1, 0⟩ : Ptr).add 4) (fun x11 => zf38 x10 x11 (fun r12 h => br (!r12) (zf37.j3 Q h) (zf37.j4 (⟨b1, 0⟩ : Ptr) r3 Q h)) h) h) h)) h) h)) h) h)) h) h)) h) h) h

def zf34.j2  (a1 : Int) (Q : Int → Heap → Prop) (h : Heap) : Prop :=
  Q a1 h

def zf34.j5 (I4 : Int → Int → Int → Int → Int → Heap → Prop) (a1 : Int) (a2 : Int) (a3 : Int) (a4 : Int) (a5 : Int) (Q : Int → Heap → Prop) (h : Heap) : Prop :=
  I4 a1 a2 a3 a4 (IntKind.i64.wrap (a5 + 1)) h

def zf34.b4  (I4 : Int → Int → Int → Int → Int → Heap → Prop) (a1 : Int) (a2 : Int) (a3 : Int) (a4 : Int) (a5 : Int) (Q : Int → Heap → Prop) (h : Heap) : Prop :=
  br (decide (a5 < a4)) (nneg (IntKind.u64.wrap (IntKind.i64.wrap (a3 + a5))) (nneg (IntKind.u64.wrap a5) (br ((ibits .and .i64 (shrI .i64 a2 (IntKind.u64.wrap a5)) 1) == 1) (zf34.j5 I4 (ibits .or .u32 (ibits .andNot .u32 a1 (shlI .u32 1 (IntKind.u64.wrap (IntKind.i64.wrap (a3 + a5))))) (shlI .u32 1 (IntKind.u64.wrap (IntKind.i64.wrap (a3 + a5))))) a2 a3 a4 a5 Q h) (zf34.j5 I4 (ibits .andNot .u32 a1 (shlI .u32 1 (IntKind.u64.wrap (IntKind.i64.wrap (a3 + a5))))) a2 a3 a4 a5 Q h)))) (Q a1 h)

def zf34.j4  (a1 : Int) (a2 : Int) (a3 : Int) (a4 : Int) (a5 : Int) (Q : Int → Heap → Prop) (h : Heap) : Prop :=
  ∀ I : Int → Int → Int → Int → Int → Heap → Prop, (∀ a1 a2 a3 a4 a5 h, zf34.b4  I a1 a2 a3 a4 a5 Q h → I a1 a2 a3 a4 a5 h) → I a1 a2 a3 a4 a5 h

def zf34 (a1 : Int) (a2 : Int) (a3 : Int) (a4 : Int) (Q : Int → Heap → Prop) (h : Heap) : Prop :=
  br (decide (a3 < 0)) (zf34.j2 a1 Q h) (br (decide (a3 > 31)) (zf34.j2 a1 Q h) (br (decide (a4 < 1)) (zf34.j2 a1 Q h) (br (decide (a4 > 32)) (zf34.j2 a1 Q h) (br (decide ((IntKind.i64.wrap (a3 + a4)) > 32)) (zf34.j2 a1 Q h) (zf34.j4 a1 a2 a3 a4 0 Q h)))))

def zf35.j9  (a1 : Ptr) (a2 : Int) (Q : Int → Int → Heap → Prop) (h : Heap) : Prop :=
  rdI .i64 (a1.add 4) (fun x1 => zf34 a2 x1 0 14 (fun r2 h => Q r2 0 h) h) h

def zf35 (a1 : Int) (a2 : Int) (a3 : Int) (a4 : Int) (a5 : Int) (Q : Int → Int → Heap → Prop) (h : Heap) : Prop :=
  al [.int .i64 a1, .int .i64 a2, .int .i64 a3, .int .i64 a4, .int .i64 a5] (fun b1 h => rdI .i64 ((⟨b1, 0⟩ : Ptr).add 0) (fun x2 => rdI .i64 ((⟨b1, 0⟩ : Ptr).add 1) (fun x3 => rdI .i64 ((⟨b1, 0⟩ : Ptr).add 2) (fun x4 => rdI .i64 ((⟨b1, 0⟩ : Ptr).add 3) (fun x5 => rdI .i64 ((⟨b1, 0⟩ : Ptr).add 4) (fun x6 => zf37 x2 x3 x4 x5 x6 (fun r7 h => br (!r7) (Q 0 10 h) (rdI .i64 ((⟨b1, 0⟩ : Ptr).add 0) (fun x8 => zf34 0 x8 26 6 (fun r9 h => rdI .i64 ((⟨b1, 0⟩ : Ptr).add 1) (fun x10 => zf34 r9 x10 22 4 (fun r11 h => rdI .i64 ((⟨b1, 0⟩ : Ptr).add 0) (fun x12 => zf36 x12 (fun r13 h => br (r13 == 5) (rdI .i64 ((⟨b1, 0⟩ : Ptr).add 4) (fun x14 => zf34 r11 x14 0 18 (fun r15 h => Q r15 0 h) h) h) (rdI .i64 ((⟨b1, 0⟩ : Ptr).add 2) (fun x16 => zf34 r11 x16 18 4 (fun r17 h => rdI .i64 ((⟨b1, 0⟩ : Ptr).add 3) (fun x18 => zf34 r17 x18 14 4 (fun r19 h => zf35.j9 (⟨b1, 0⟩ : Ptr) r19 Q h) h) h) h) h)) h) h) h) h) h) h)) h) h) h) h) h) h) h

def zf40.j2 (U : Ifc)   (Q : Sl → Int → Int → Heap → Prop) (h : Heap) : Prop :=
  Q ⟨none, 0, 0⟩ 0 2 h

def zf40.j18 (U : Ifc) (I17 : Sl → Sl → Int → Heap → Prop) (a1 : Sl) (a2 : Sl) (a3 : Int) (Q : Sl → Int → Int → Heap → Prop) (h : Heap) : Prop :=
  I17 a1 a2 (IntKind.i64.wrap (a3 + 1)) h

def zf40.b22 (U : Ifc) (I17 : Sl → Sl → Int → Heap → Prop) (I22 : Sl → Sl → Int → Ptr → Int → Heap → Prop) (a1 : Sl) (a2 : Sl) (a3 : Int) (a4 : Ptr) (a5 : Int) (Q : Sl → Int → Int → Heap → Prop) (h : Heap) : Prop :=
  rdI .i64 (a4.add 2) (fun x1 => br (decide (a5 < x1)) (rdI .u32 (a4.add 10) (fun x2 => al [.int .u32 x2] (fun b3 h => rdN (1 * 1) (⟨b3, 0⟩ : Ptr) (fun cs5 => appS 1 4 [.int .u32 0] a2 cs5 1 (fun s4 h => I22 a1 s4 a3 a4 (IntKind.i64.wrap (a5 + 1)) h) h) h) h) h) (zf40.j18 U I17 a1 a2 a3 Q h)) h

def zf40.j22 (U : Ifc) (I17 : Sl → Sl → Int → Heap → Prop) (a1 : Sl) (a2 : Sl) (a3 : Int) (a4 : Ptr) (a5 : Int) (Q : Sl → Int → Int → Heap → Prop) (h : Heap) : Prop :=
  ∀ I : Sl → Sl → Int → Ptr → Int → Heap → Prop, (∀ a1 a2 a3 a4 a5 h, zf40.b22 U I17 I a1 a2 a3 a4 a5 Q h → I a1 a2 a3 a4 a5 h) → I a1 a2 a3 a4 a5 h

def zf40.j30 (U : Ifc) (I17 : Sl → Sl → Int → Heap → Prop) (a1 : Sl) (a2 : Sl) (a3 : Int) (a4 : Ptr) (Q : Sl → Int → Int → Heap → Prop) (h : Heap) : Prop :=
  rdI .i64 ((a4.add 4).add 0) (fun x1 => rdI .i64 ((a4.add 4).add 1) (fun x2 => rdI .i64 ((a4.add 4).add 2) (fun x3 => rdI .i64 ((a4.add 4).add 3) (fun x4 => rdI .i64 ((a4.add 4).add 4) (fun x5 => zf35 x1 x2 x3 x4 x5 (fun r6 r7 h => br (r7 != 0) (rdI .i64 (a4.add 0) (fun x8 => Q ⟨none, 0, 0⟩ x8 10 h) h) (al [.int .u32 r6] (fun b9 h => rdN (1 * 1) (⟨b9, 0⟩ : Ptr) (fun cs11 => appS 1 4 [.int .u32 0] a2 cs11 1 (fun s10 h => zf40.j18 U I17 a1 s10 a3 Q h) h) h) h)) h) h) h) h) h) h

def zf40.b17 (U : Ifc)  (I17 : Sl → Sl → Int → Heap → Prop) (a1 : Sl) (a2 : Sl) (a3 : Int) (Q : Sl → Int → Int → Heap → Prop) (h : Heap) : Prop :=
  br (decide (a3 < ((a1.len : Nat) : Int))) (ix a3 a1.len (fun n1 => der a1.p (fun p2 => rdI .i64 ((p2.add (n1 * 11)).add 0) (fun x3 => rdStr ((p2.add (n1 * 11)).add 1) (fun x4 => rdI .i64 ((p2.add (n1 * 11)).add 2) (fun x5 => rdB ((p2.add (n1 * 11)).add 3) (fun x6 => rdI .i64 ((p2.add (n1 * 11)).add 4) (fun x7 => rdI .i64 ((p2.add (n1 * 11)).add 5) (fun x8 => rdI .i64 ((p2.add (n1 * 11)).add 6) (fun x9 => rdI .i64 ((p2.add (n1 * 11)).add 7) (fun x10 => rdI .i64 ((p2.add (n1 * 11)).add 8) (fun x11 => rdStr ((p2.add (n1 * 11)).add 9) (fun x12 => rdI .u32 ((p2.add (n1 * 11)).add 10) (fun x13 => al zf80 (fun b14 h => wrL [.int .i64 x3, .str x4, .int .i64 x5, .bool x6, .int .i64 x7, .int .i64 x8, .int .i64 x9, .int .i64 x10, .int .i64 x11, .str x12, .int .u32 x13] (⟨b14, 0⟩ : Ptr) 0 (fun h => rdB ((⟨b14, 0⟩ : Ptr).add 3) (fun x15 => br (!x15) (zf40.j22 U I17 a1 a2 a3 (⟨b14, 0⟩ : Ptr) 0 Q h) (rdStr ((⟨b14, 0⟩ : Ptr).add 9) (fun x16 => br (!(x16 == [])) (rdStr ((⟨b14, 0⟩ : Ptr).add 9) (fun x17 => zf48 a1 x17 (fun r18 h => br (decide (r18 < 0)) (rdI .i64 ((⟨b14, 0⟩ : Ptr).add 0) (fun x19 => Q ⟨none, 0, 0⟩ x19 10 h) h) (wr (((⟨b14, 0⟩ : Ptr).add 4).add 4) (.int .i64 (IntKind.i64.wrap (r18 - ((a2.len : Nat) : Int)))) (fun h => zf40.j30 U I17 a1 a2 a3 (⟨b14, 0⟩ : Ptr) Q h) h)) h) h) (zf40.j30 U I17 a1 a2 a3 (⟨b14, 0⟩ : Ptr) Q h)) h)) h) h) h) h) h) h) h) h) h) h) h) h) h) h))) (Q a2 0 0 h)

def zf40.j17 (U : Ifc)  (a1 : Sl) (a2 : Sl) (a3 : Int) (Q : Sl → Int → Int → Heap → Prop) (h : Heap) : Prop :=
  ∀ I : Sl → Sl → Int → Heap → Prop, (∀ a1 a2 a3 h, zf40.b17 U  I a1 a2 a3 Q h → I a1 a2 a3 h) → I a1 a2 a3 h

def zf40.b10 (U : Ifc)  (I10 : Sl → Int → Int → Heap → Prop) (a1 : Sl) (a2 : Int) (a3 : Int) (Q : Sl → Int → Int → Heap → Prop) (h : Heap) : Prop :=
  br (decide (a3 < ((a1.len : Nat) : Int))) (ix a3 a1.len (fun n1 => der a1.p (fun p2 => rdI .i64 ((p2.add (n1 * 11)).add 2) (fun x3 => I10 a1 (IntKind.i64.wrap (a2 + x3)) (IntKind.i64.wrap (a3 + 1)) h) h))) (br (decide (a2 > 16384)) (Q ⟨none, 0, 0⟩ 0 3 h) (zf40.j17 U a1 ⟨none, 0, 0⟩ 0 Q h))

def zf40.j10 (U : Ifc)  (a1 : Sl) (a2 : Int) (a3 : Int) (Q : Sl → Int → Int → Heap → Prop) (h : Heap) : Prop :=
  ∀ I : Sl → Int → Int → Heap → Prop, (∀ a1 a2 a3 h, zf40.b10 U  I a1 a2 a3 Q h → I a1 a2 a3 h) → I a1 a2 a3 h

def zf40.j9 (U : Ifc)  (a1 : Sl) (a2 : Int) (Q : Sl → Int → Int → Heap → Prop) (h : Heap) : Prop :=
  zf40.j10 U a1 a2 0 Q h

def zf40 (U : Ifc) (a1 : List UInt8) (a2 : Int) (Q : Sl → Int → Int → Heap → Prop) (h : Heap) : Prop :=
  nz 4 (br ((a2.tmod 4) != 0) (zf40.j2 U Q h) (br (decide (a2 > 1099511627776)) (zf40.j2 U Q h) (br (decide ((a1.length : Int) > 65536)) (Q ⟨none, 0, 0⟩ 0 3 h) (zf49 U a1 (fun r1 r2 r3 h => br (r3 != 0) (Q ⟨none, 0, 0⟩ r2 r3 h) (zf40.j9 U r1 0 Q h)) h))))

def zf1.j5 (U : Ifc)  (a1 : Int) (a2 : Int) (a3 : Bool) (Q : Int → Bool → Heap → Prop) (h : Heap) : Prop :=
  br (!a3) (Q 0 false h) (Q (IntKind.u64.wrap (a1 + (IntKind.u64.wrap (4 * (IntKind.u64.wrap a2))))) true h)

def zf1 (U : Ifc) (a1 : List UInt8) (a2 : Int) (a3 : List UInt8) (Q : Int → Bool → Heap → Prop) (h : Heap) : Prop :=
  zf3 U a1 a2 (fun r1 r2 r3 h => isNil r3 (fun c4 => br (!c4) (Q 0 false h) (der r1 (fun p5 => rdM (p5.add 1) (fun x6 => mapGet .str x6 (.str a3) (fun o7 => asI .i64 (o7.getD (.int .i64 0)) (fun x8 => zf1.j5 U a2 x8 o7.isSome Q h)) h) h)))) h

def zf42.j6 (U : Ifc)  (a1 : Int) (a2 : Int) (Q : Int → Bool → Heap → Prop) (h : Heap) : Prop :=
  br (decide (a2 < 0)) (Q 0 false h) (Q (IntKind.u64.wrap (a1 + (IntKind.u64.wrap (4 * (IntKind.u64.wrap a2))))) true h)

def zf42 (U : Ifc) (a1 : List UInt8) (a2 : Int) (a3 : List UInt8) (Q : Int → Bool → Heap → Prop) (h : Heap) : Prop :=
  zf40 U a1 a2 (fun r1 r2 r3 h => br (r3 != 0) (Q 0 false h) (zf49 U a1 (fun r4 r5 r6 h => zf48 r4 a3 (fun r7 h => zf42.j6 U a2 r7 Q h) h) h)) h

def zf32  (Q : Bool → Heap → Prop) (h : Heap) : Prop :=
  Q true h

def zf29.j6 (U : Ifc)   (Q : Bool → Heap → Prop) (h : Heap) : Prop :=
  Q false h

def zf29.b8 (U : Ifc)  (I8 : Sl → Sl → Int → Heap → Prop) (a1 : Sl) (a2 : Sl) (a3 : Int) (Q : Bool → Heap → Prop) (h : Heap) : Prop :=
  br (decide (a3 < ((a1.len : Nat) : Int))) (ix a3 a1.len (fun n1 => der a1.p (fun p2 => rdI .u32 (p2.add (n1 * 1)) (fun x3 => ix a3 a2.len (fun n4 => der a2.p (fun p5 => rdI .u32 (p5.add (n4 * 1)) (fun x6 => br (x3 != x6) (Q false h) (I8 a1 a2 (IntKind.i64.wrap (a3 + 1)) h)) h))) h))) (zf32 (fun r7 h => Q r7 h) h)

def zf29.j8 (U : Ifc)  (a1 : Sl) (a2 : Sl) (a3 : Int) (Q : Bool → Heap → Prop) (h : Heap) : Prop :=
  ∀ I : Sl → Sl → Int → Heap → Prop, (∀ a1 a2 a3 h, zf29.b8 U  I a1 a2 a3 Q h → I a1 a2 a3 h) → I a1 a2 a3 h

def zf29.j7 (U : Ifc)  (a1 : Sl) (a2 : Sl) (Q : Bool → Heap → Prop) (h : Heap) : Prop :=
  zf29.j8 U a1 a2 0 Q h

def zf29.j4 (U : Ifc)  (a1 : List UInt8) (a2 : Int) (a3 : List UInt8) (a4 : Sl) (a5 : Int) (a6 : Int) (a7 : Sl) (a8 : Int) (a9 : Int) (a10 : Int) (a11 : Bool) (Q : Bool → Heap → Prop) (h : Heap) : Prop :=
  zf42 U a1 a2 a3 (fun r1 r2 h => br (a5 != a8) (zf29.j6 U Q h) (br (a6 != a9) (zf29.j6 U Q h) (br (((a4.len : Nat) : Int) != ((a7.len : Nat) : Int)) (zf29.j6 U Q h) (br (a10 != r1) (zf29.j6 U Q h) (br (!(a11 == r2)) (zf29.j6 U Q h) (zf29.j7 U a4 a7 Q h)))))) h

def zf29 (U : Ifc) (a1 : List UInt8) (a2 : Int) (a3 : List UInt8) (Q : Bool → Heap → Prop) (h : Heap) : Prop :=
  zf0 U a1 a2 (fun r1 r2 r3 h => zf40 U a1 a2 (fun r4 r5 r6 h => zf1 U a1 a2 a3 (fun r7 r8 h => zf29.j4 U a1 a2 a3 r1 r2 r3 r4 r5 r6 r7 r8 Q h) h) h) h

def zf31.j18 (U : Ifc)  (a1 : Int) (a2 : Int) (a3 : Sl) (a4 : Int) (a5 : Int) (a6 : Int) (a7 : Bool) (a8 : Bool) (Q : Bool → Heap → Prop) (h : Heap) : Prop :=
  br (a5 == 0) (br (a4 == 0) (br (((a3.len : Nat) : Int) == (IntKind.i64.wrap (a1 + 1))) (ix a1 a3.len (fun n1 => der a3.p (fun p2 => rdI .u32 (p2.add (n1 * 1)) (fun x3 => br (x3 == 2348810240) (br a7 (br (a6 == (IntKind.u64.wrap (a2 + (IntKind.u64.wrap (4 * (IntKind.u64.wrap a1)))))) (Q (!a8) h) (Q false h)) (Q false h)) (Q false h)) h))) (Q false h)) (Q false h)) (Q false h)

def zf31.j14 (U : Ifc)  (a1 : Int) (a2 : Int) (a3 : List UInt8) (a4 : List UInt8) (Q : Bool → Heap → Prop) (h : Heap) : Prop :=
  catS a4 ([104, 101, 114, 101, 58, 32, 106, 97, 108, 32, 120, 48, 44, 32, 104, 101, 114, 101, 32, 35] : List UInt8) (fun s1 => catS s1 a3 (fun s2 => catS s2 ([10] : List UInt8) (fun s3 => zf0 U s3 a2 (fun r4 r5 r6 h => zf1 U s3 a2 ([104, 101, 114, 101] : List UInt8) (fun r7 r8 h => zf1 U s3 a2 ([116, 104, 101, 114, 101] : List UInt8) (fun r9 r10 h => zf31.j18 U a1 a2 r4 r5 r6 r7 r8 r10 Q h) h) h) h)))

def zf31.b12 (U : Ifc)  (I12 : Int → Int → (List UInt8) → (List UInt8) → Heap → Prop) (a1 : Int) (a2 : Int) (a3 : List UInt8) (a4 : List UInt8) (Q : Bool → Heap → Prop) (h : Heap) : Prop :=
  br (decide ((a4.length : Int) > 8)) (ix 6 a4.length (fun n1 => br (((a4.getD n1 0).toNat : Int) == 48) (sb 6 a4.length (fun n2 => sb 7 a4.length (fun n3 => catS ((a4.drop 0).take (n2 - 0)) ((a4.drop n3).take (a4.length - n3)) (fun s4 => I12 a1 a2 a3 s4 h)))) (zf31.j14 U a1 a2 a3 a4 Q h))) (zf31.j14 U a1 a2 a3 a4 Q h)

def zf31.j12 (U : Ifc)  (a1 : Int) (a2 : Int) (a3 : List UInt8) (a4 : List UInt8) (Q : Bool → Heap → Prop) (h : Heap) : Prop :=
  ∀ I : Int → Int → (List UInt8) → (List UInt8) → Heap → Prop, (∀ a1 a2 a3 a4 h, zf31.b12 U  I a1 a2 a3 a4 Q h → I a1 a2 a3 a4 h) → I a1 a2 a3 a4 h

def zf31.b4 (U : Ifc)  (I4 : Int → Int → (List UInt8) → Int → Heap → Prop) (a1 : Int) (a2 : Int) (a3 : List UInt8) (a4 : Int) (Q : Bool → Heap → Prop) (h : Heap) : Prop :=
  br (decide (a4 < (a3.length : Int))) (ix a4 a3.length (fun n1 => br (((a3.getD n1 0).toNat : Int) == 10) (Q true h) (I4 a1 a2 a3 (IntKind.i64.wrap (a4 + 1)) h))) (br (decide ((a3.length : Int) > 1000)) (Q true h) (nz 1000 (ix (IntKind.i64.wrap (a1.tdiv 1000)) (([48, 49, 50, 51, 52, 53, 54, 55, 56, 57] : List UInt8).length) (fun n2 => nz 100 (nz 10 (ix ((IntKind.i64.wrap (a1.tdiv 100)).tmod 10) (([48, 49, 50, 51, 52, 53, 54, 55, 56, 57] : List UInt8).length) (fun n3 => nz 10 (nz 10 (ix ((IntKind.i64.wrap (a1.tdiv 10)).tmod 10) (([48, 49, 50, 51, 52, 53, 54, 55, 56, 57] : List UInt8).length) (fun n4 => nz 10 (ix (a1.tmod 10) (([48, 49, 50, 51, 52, 53, 54, 55, 56, 57] : List UInt8).length) (fun n5 => al [.int .u8 ((([48, 49, 50, 51, 52, 53, 54, 55, 56, 57] : List UInt8).getD n2 0).toNat : Int), .int .u8 ((([48, 49, 50, 51, 52, 53, 54, 55, 56, 57] : List UInt8).getD n3 0).toNat : Int), .int .u8 ((([48, 49, 50, 51, 52, 53, 54, 55, 56, 57] : List UInt8).getD n4 0).toNat : Int), .int .u8 ((([48, 49, 50, 51, 52, 53, 54, 55, 56, 57] : List UInt8).getD n5 0).toNat : Int)] (fun b6 h => cellsS 1 ⟨some ⟨b6, 0⟩, 4, 4⟩ (fun cs7 => bytesOf cs7 (fun s8 => catS ([46, 102, 105, 108, 108, 32] : List UInt8) s8 (fun s9 => catS s9 ([10] : List UInt8) (fun s10 => zf31.j12 U a1 a2 a3 s10 Q h)))) h) h))))))))))))

def zf31.j4 (U : Ifc)  (a1 : Int) (a2 : Int) (a3 : List UInt8) (a4 : Int) (Q : Bool → Heap → Prop) (h : Heap) : Prop :=
  ∀ I : Int → Int → (List UInt8) → Int → Heap → Prop, (∀ a1 a2 a3 a4 h, zf31.b4 U  I a1 a2 a3 a4 Q h → I a1 a2 a3 a4 h) → I a1 a2 a3 a4 h

def zf31 (U : Ifc) (a1 : Int) (a2 : Int) (a3 : List UInt8) (Q : Bool → Heap → Prop) (h : Heap) : Prop :=
  zf31.j4 U (ibits .and .i64 a1 1023) (ibits .andNot .u64 (ibits .and .u64 a2 65535) 3) a3 0 Q h

def zf73 (a1 : Int) (a2 : Int) (a3 : Int) (Q : Int → Heap → Prop) (h : Heap) : Prop :=
  zf77 a2 a3 (fun r1 h => br (!r1) (Q 0 h) (nneg a2 (zf78 a3 (fun r2 h => Q (IntKind.i64.wrap (ibits .and .u64 (shrI .u64 (IntKind.u64.wrap a1) a2) r2)) h) h))) h

def zf15.j8  (a1 : Int) (a2 : Ptr) (a3 : Ptr) (Q : Int → Int → Int → Int → Int → Int → Heap → Prop) (h : Heap) : Prop :=
  rdI .i64 (a3.add 0) (fun x1 => rdI .i64 (a3.add 1) (fun x2 => rdI .i64 (a3.add 2) (fun x3 => rdI .i64 (a3.add 3) (fun x4 => rdI .i64 (a3.add 4) (fun x5 => zf16 x1 x2 x3 x4 x5 (fun r6 r7 h => br (r7 != 0) (wrL [.int .i64 0, .int .i64 0, .int .i64 0, .int .i64 0, .int .i64 0] a2 0 (fun h => rdI .i64 (a2.add 0) (fun x8 => rdI .i64 (a2.add 1) (fun x9 => rdI .i64 (a2.add 2) (fun x10 => rdI .i64 (a2.add 3) (fun x11 => rdI .i64 (a2.add 4) (fun x12 => Q x8 x9 x10 x11 x12 10 h) h) h) h) h) h) h) (br (r6 != a1) (wrL [.int .i64 0, .int .i64 0, .int .i64 0, .int .i64 0, .int .i64 0] a2 0 (fun h => rdI .i64 (a2.add 0) (fun x13 => rdI .i64 (a2.add 1) (fun x14 => rdI .i64 (a2.add 2) (fun x15 => rdI .i64 (a2.add 3) (fun x16 => rdI .i64 (a2.add 4) (fun x17 => Q x13 x14 x15 x16 x17 10 h) h) h) h) h) h) h) (rdI .i64 (a3.add 0) (fun x18 => rdI .i64 (a3.add 1) (fun x19 => rdI .i64 (a3.add 2) (fun x20 => rdI .i64 (a3.add 3) (fun x21 => rdI .i64 (a3.add 4) (fun x22 => wrL [.int .i64 x18, .int .i64 x19, .int .i64 x20, .int .i64 x21, .int .i64 x22] a2 0 (fun h => rdI .i64 (a2.add 0) (fun x23 => rdI .i64 (a2.add 1) (fun x24 => rdI .i64 (a2.add 2) (fun x25 => rdI .i64 (a2.add 3) (fun x26 => rdI .i64 (a2.add 4) (fun x27 => Q x23 x24 x25 x26 x27 0 h) h) h) h) h) h) h) h) h) h) h) h))) h) h) h) h) h) h

def zf15 (a1 : Int) (Q : Int → Int → Int → Int → Int → Int → Heap → Prop) (h : Heap) : Prop :=
  al [.int .i64 0, .int .i64 0, .int .i64 0, .int .i64 0, .int .i64 0] (fun b1 h => zf73 a1 26 6 (fun r2 h => zf73 a1 22 4 (fun r3 h => al [.int .i64 0, .int .i64 0, .int .i64 0, .int .i64 0, .int .i64 0] (fun b4 h => wrL [.int .i64 r2, .int .i64 r3, .int .i64 0, .int .i64 0, .int .i64 0] (⟨b4, 0⟩ : Ptr) 0 (fun h => rdI .i64 ((⟨b4, 0⟩ : Ptr).add 0) (fun x5 => zf17 x5 (fun r6 r7 h => br (!r7) (wrL [.int .i64 0, .int .i64 0, .int .i64 0, .int .i64 0, .int .i64 0] (⟨b1, 0⟩ : Ptr) 0 (fun h => rdI .i64 ((⟨b1, 0⟩ : Ptr).add 0) (fun x8 => rdI .i64 ((⟨b1, 0⟩ : Ptr).add 1) (fun x9 => rdI .i64 ((⟨b1, 0⟩ : Ptr).add 2) (fun x10 => rdI .i64 ((⟨b1, 0⟩ : Ptr).add 3) (fun x11 => rdI .i64 ((⟨b1, 0⟩ : Ptr).add 4) (fun x12 => Q x8 x9 x10 x11 x12 10 h) h) h) h) h) h) h) (br (r6 == 5) (zf73 a1 0 18 (fun r13 h => zf76 r13 18 (fun r14 h => wr ((⟨b4, 0⟩ : Ptr).add 4) (.int .i64 r14) (fun h => zf15.j8 a1 (⟨b1, 0⟩ : Ptr) (⟨b4, 0⟩ : Ptr) Q h) h) h) h) (zf73 a1 18 4 (fun r15 h => zf73 a1 14 4 (fun r16 h => zf73 a1 0 14 (fun r17 h => zf76 r17 14 (fun r18 h => wr ((⟨b4, 0⟩ : Ptr).add 2) (.int .i64 r15) (fun h => wr ((⟨b4, 0⟩ : Ptr).add 3) (.int .i64 r16) (fun h => wr ((⟨b4, 0⟩ : Ptr).add 4) (.int .i64 r18) (fun h => zf15.j8 a1 (⟨b1, 0⟩ : Ptr) (⟨b4, 0⟩ : Ptr) Q h) h) h) h) h) h) h) h))) h) h) h) h) h) h) h

def zf58 (U : Ifc) (a1 : Int) (Q : (List UInt8) → Heap → Prop) (h : Heap) : Prop :=
  itoaI U 3 a1 Q h

def zf67 (a1 : Sl) (a2 : List UInt8) (Q : (List UInt8) → Heap → Prop) (h : Heap) : Prop :=
  joinI a1 a2 Q h

def zf2.j11 (U : Ifc) (I6 : Ptr → Sl → Ptr → Heap → Prop) (a1 : Ptr) (a2 : Sl) (a3 : Int) (a4 : Ptr) (Q : (List UInt8) → Heap → Prop) (h : Heap) : Prop :=
  zf58 U a3 (fun r1 h => catS ([120] : List UInt8) r1 (fun s2 => al [.str s2] (fun b3 h => rdN (1 * 1) (⟨b3, 0⟩ : Ptr) (fun cs5 => appS 1 16 [.str []] a2 cs5 1 (fun s4 h => I6 a1 s4 a4 h) h) h) h)) h

def zf2.j12 (U : Ifc) (I6 : Ptr → Sl → Ptr → Heap → Prop) (a1 : Ptr) (a2 : Sl) (a3 : Ptr) (Q : (List UInt8) → Heap → Prop) (h : Heap) : Prop :=
  rdI .i64 (a1.add 4) (fun x1 => zf58 U x1 (fun r2 h => al [.str r2] (fun b3 h => rdN (1 * 1) (⟨b3, 0⟩ : Ptr) (fun cs5 => appS 1 16 [.str []] a2 cs5 1 (fun s4 h => I6 a1 s4 a3 h) h) h) h) h) h

def zf2.b6 (U : Ifc)  (I6 : Ptr → Sl → Ptr → Heap → Prop) (a1 : Ptr) (a2 : Sl) (a3 : Ptr) (Q : (List UInt8) → Heap → Prop) (h : Heap) : Prop :=
  a3.o = 0 ∧ nextS a3.b (fun h => zf67 a2 ([32] : List UInt8) (fun r3 h => Q r3 h) h) (fun i1 c2 h => alM (.int .i32) (fun b4 h => rdI .i64 (a1.add 1) (fun x5 => mapPut (.int .i32) (some b4) (.int .i32 100) (.int .i64 x5) (fun h => rdI .i64 (a1.add 2) (fun x6 => mapPut (.int .i32) (some b4) (.int .i32 97) (.int .i64 x6) (fun h => rdI .i64 (a1.add 3) (fun x7 => mapPut (.int .i32) (some b4) (.int .i32 98) (.int .i64 x7) (fun h => mapGet (.int .i32) (some b4) (.int .i32 c2) (fun o8 => asI .i64 (o8.getD (.int .i64 0)) (fun x9 => br o8.isSome (zf2.j11 U I6 a1 a2 x9 a3 Q h) (zf2.j12 U I6 a1 a2 a3 Q h))) h) h) h) h) h) h) h) h) h

def zf2.j6 (U : Ifc)  (a1 : Ptr) (a2 : Sl) (a3 : Ptr) (Q : (List UInt8) → Heap → Prop) (h : Heap) : Prop :=
  ∀ I : Ptr → Sl → Ptr → Heap → Prop, (∀ a1 a2 a3 h, zf2.b6 U  I a1 a2 a3 Q h → I a1 a2 a3 h) → I a1 a2 a3 h

def zf2 (U : Ifc) (a1 : Int) (Q : (List UInt8) → Heap → Prop) (h : Heap) : Prop :=
  zf15 a1 (fun r1 r2 r3 r4 r5 r6 h => al [.int .i64 0, .int .i64 0, .int .i64 0, .int .i64 0, .int .i64 0] (fun b7 h => wrL [.int .i64 r1, .int .i64 r2, .int .i64 r3, .int .i64 r4, .int .i64 r5] (⟨b7, 0⟩ : Ptr) 0 (fun h => br (r6 != 0) (zf58 U (IntKind.i64.wrap a1) (fun r8 h => catS ([46, 119, 111, 114, 100, 32] : List UInt8) r8 (fun s9 => Q s9 h)) h) (rdI .i64 ((⟨b7, 0⟩ : Ptr).add 0) (fun x10 => zf62 U ([97, 100, 100, 32, 115, 117, 98, 32, 97, 110, 100, 32, 111, 114, 32, 120, 111, 114, 32, 115, 108, 108, 32, 115, 114, 108, 32, 115, 114, 97, 32, 115, 108, 116, 32, 115, 108, 116, 117, 32, 109, 117, 108, 32, 100, 105, 118, 117, 32, 114, 101, 109, 117, 32, 97, 100, 100, 105, 32, 97, 110, 100, 105, 32, 111, 114, 105, 32, 120, 111, 114, 105, 32, 115, 108, 108, 105, 32, 115, 114, 108, 105, 32, 115, 114, 97, 105, 32, 115, 108, 116, 105, 32, 108, 117, 105, 32, 108, 100, 32, 108, 119, 32, 108, 98, 32, 115, 100, 32, 115, 119, 32, 115, 98, 32, 98, 101, 113, 32, 98, 110, 101, 32, 98, 108, 116, 32, 98, 103, 101, 32, 98, 108, 116, 117, 32, 98, 103, 101, 117, 32, 106, 97, 108, 32, 106, 97, 108, 114, 32, 108, 114, 32, 115, 99, 32, 97, 109, 111, 97, 100, 100, 32, 97, 109, 111, 115, 119, 112, 32, 102, 101, 110, 99, 101, 32, 101, 99, 97, 108, 108, 32, 115, 114, 101, 116, 32, 119, 102, 105, 32, 115, 102, 101, 110, 99, 101, 32, 99, 115, 114, 114, 119, 32, 99, 115, 114, 114, 115, 32, 99, 115, 114, 114, 99] : List UInt8) (fun r11 h => ck ((⟨b7, 0⟩ : Ptr).add 0) [.int .i64 x10] 0 h ∧ (ix (IntKind.i64.wrap (x10 - 1)) r11.len (fun n12 => der r11.p (fun p13 => rdStr (p13.add (n12 * 1)) (fun x14 => al [.str x14] (fun b15 h => rdI .i64 ((⟨b7, 0⟩ : Ptr).add 0) (fun x16 => zf8 x16 (fun r17 h => rangeS r17 (fun b18 h => zf2.j6 U (⟨b7, 0⟩ : Ptr) ⟨some ⟨b15, 0⟩, 1, 1⟩ (⟨b18, 0⟩ : Ptr) Q h) h) h) h) h) h)))) h) h)) h) h) h

def zf30.j10 (U : Ifc)   (Q : Bool → Heap → Prop) (h : Heap) : Prop :=
  Q false h

def zf30.b12 (U : Ifc)  (I12 : Sl → Sl → Int → Heap → Prop) (a1 : Sl) (a2 : Sl) (a3 : Int) (Q : Bool → Heap → Prop) (h : Heap) : Prop :=
  br (decide (a3 < ((a1.len : Nat) : Int))) (ix a3 a2.len (fun n1 => der a2.p (fun p2 => rdI .u32 (p2.add (n1 * 1)) (fun x3 => ix a3 a1.len (fun n4 => der a1.p (fun p5 => rdI .u32 (p5.add (n4 * 1)) (fun x6 => br (x3 != x6) (Q false h) (I12 a1 a2 (IntKind.i64.wrap (a3 + 1)) h)) h))) h))) (zf0 U ([101, 99, 97, 108, 108] : List UInt8) 0 (fun r7 r8 r9 h => br (((r7.len : Nat) : Int) == 1) (Q (r9 == 0) h) (Q false h)) h)

def zf30.j12 (U : Ifc)  (a1 : Sl) (a2 : Sl) (a3 : Int) (Q : Bool → Heap → Prop) (h : Heap) : Prop :=
  ∀ I : Sl → Sl → Int → Heap → Prop, (∀ a1 a2 a3 h, zf30.b12 U  I a1 a2 a3 Q h → I a1 a2 a3 h) → I a1 a2 a3 h

def zf30.j11 (U : Ifc)  (a1 : Sl) (a2 : Sl) (Q : Bool → Heap → Prop) (h : Heap) : Prop :=
  zf30.j12 U a1 a2 0 Q h

def zf30.b5 (U : Ifc)  (I5 : Sl → (List UInt8) → Int → Heap → Prop) (a1 : Sl) (a2 : List UInt8) (a3 : Int) (Q : Bool → Heap → Prop) (h : Heap) : Prop :=
  br (decide (a3 < ((a1.len : Nat) : Int))) (ix a3 a1.len (fun n1 => der a1.p (fun p2 => rdI .u32 (p2.add (n1 * 1)) (fun x3 => zf2 U x3 (fun r4 h => catS a2 r4 (fun s5 => catS s5 ([10] : List UInt8) (fun s6 => I5 a1 s6 (IntKind.i64.wrap (a3 + 1)) h))) h) h))) (zf0 U a2 0 (fun r7 r8 r9 h => br (r9 != 0) (zf30.j10 U Q h) (br (r8 != 0) (zf30.j10 U Q h) (br (((r7.len : Nat) : Int) != ((a1.len : Nat) : Int)) (zf30.j10 U Q h) (zf30.j11 U a1 r7 Q h)))) h)

def zf30.j5 (U : Ifc)  (a1 : Sl) (a2 : List UInt8) (a3 : Int) (Q : Bool → Heap → Prop) (h : Heap) : Prop :=
  ∀ I : Sl → (List UInt8) → Int → Heap → Prop, (∀ a1 a2 a3 h, zf30.b5 U  I a1 a2 a3 Q h → I a1 a2 a3 h) → I a1 a2 a3 h

def zf30.j3 (U : Ifc)  (a1 : Sl) (Q : Bool → Heap → Prop) (h : Heap) : Prop :=
  zf30.j5 U a1 ([35, 32, 98, 101, 103, 105, 110, 115, 10] : List UInt8) 0 Q h

def zf30 (U : Ifc) (a1 : Sl) (Q : Bool → Heap → Prop) (h : Heap) : Prop :=
  br (decide (((a1.len : Nat) : Int) > 1000)) (sb 1000 a1.cap (fun n1 => zf30.j3 U ⟨slp a1.p (0 * 1) 0 a1.cap, n1 - 0, a1.cap - 0⟩ Q h)) (zf30.j3 U a1 Q h)

end Go.Fn
