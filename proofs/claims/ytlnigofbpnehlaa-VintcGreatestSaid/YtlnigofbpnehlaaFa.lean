/- The shallow functions. PRINTED by lift.py. -/
import Derived.Test.YtlnigofbpnehlaaLiftB
set_option linter.unusedVariables false
set_option maxRecDepth 100000
namespace Go.Fn
open Go.Lift

def z_palisade_vintc_Intc : List V := [.int .i64 0, .bool false, .int .i64 0, .int .i64 0, .bool false, .bool false, .bool false, .bool false, .bool false, .int .i64 0, .int .i64 0, .bool false, .bool false, .bool false, .bool false, .bool false, .int .i64 0, .int .i64 0, .bool false, .bool false, .bool false, .bool false, .bool false, .int .i64 0, .int .i64 0, .bool false, .bool false, .bool false, .bool false, .bool false, .int .i64 0, .int .i64 0, .bool false, .bool false, .bool false, .bool false, .bool false, .int .i64 0, .int .i64 0, .bool false, .bool false, .bool false, .bool false, .bool false, .int .i64 0, .int .i64 0, .bool false, .bool false, .bool false, .bool false, .bool false, .int .i64 0, .int .i64 0, .bool false, .bool false, .bool false, .bool false, .bool false, .int .i64 0, .int .i64 0, .bool false, .bool false, .bool false, .bool false, .bool false, .int .i64 0, .int .i64 0, .bool false, .bool false, .bool false, .bool false, .bool false, .int .i64 0, .int .i64 0, .bool false, .bool false, .bool false, .bool false, .bool false, .int .i64 0, .int .i64 0, .bool false, .bool false, .bool false, .bool false, .bool false, .int .i64 0, .int .i64 0, .bool false, .bool false, .bool false, .bool false, .bool false, .int .i64 0, .int .i64 0, .bool false, .bool false, .bool false, .bool false, .bool false, .int .i64 0, .int .i64 0, .bool false, .bool false, .bool false, .bool false, .bool false, .int .i64 0, .int .i64 0, .bool false, .bool false, .bool false, .bool false, .bool false, .int .i64 0, .int .i64 0, .bool false, .bool false, .bool false, .bool false, .int .i64 0, .int .i64 0, .int .i64 0, .int .i64 0, .bool false, .bool false, .bool false, .bool false]
def z_17_int : List V := [.int .i64 0, .int .i64 0, .int .i64 0, .int .i64 0, .int .i64 0, .int .i64 0, .int .i64 0, .int .i64 0, .int .i64 0, .int .i64 0, .int .i64 0, .int .i64 0, .int .i64 0, .int .i64 0, .int .i64 0, .int .i64 0, .int .i64 0]
def z_palisade_vintc_source : List V := [.bool false, .int .i64 0, .int .i64 0, .bool false, .bool false, .bool false, .bool false]
def z_16_int : List V := [.int .i64 0, .int .i64 0, .int .i64 0, .int .i64 0, .int .i64 0, .int .i64 0, .int .i64 0, .int .i64 0, .int .i64 0, .int .i64 0, .int .i64 0, .int .i64 0, .int .i64 0, .int .i64 0, .int .i64 0, .int .i64 0]
def z_17_palisade_vintc_source : List V := [.bool false, .int .i64 0, .int .i64 0, .bool false, .bool false, .bool false, .bool false, .bool false, .int .i64 0, .int .i64 0, .bool false, .bool false, .bool false, .bool false, .bool false, .int .i64 0, .int .i64 0, .bool false, .bool false, .bool false, .bool false, .bool false, .int .i64 0, .int .i64 0, .bool false, .bool false, .bool false, .bool false, .bool false, .int .i64 0, .int .i64 0, .bool false, .bool false, .bool false, .bool false, .bool false, .int .i64 0, .int .i64 0, .bool false, .bool false, .bool false, .bool false, .bool false, .int .i64 0, .int .i64 0, .bool false, .bool false, .bool false, .bool false, .bool false, .int .i64 0, .int .i64 0, .bool false, .bool false, .bool false, .bool false, .bool false, .int .i64 0, .int .i64 0, .bool false, .bool false, .bool false, .bool false, .bool false, .int .i64 0, .int .i64 0, .bool false, .bool false, .bool false, .bool false, .bool false, .int .i64 0, .int .i64 0, .bool false, .bool false, .bool false, .bool false, .bool false, .int .i64 0, .int .i64 0, .bool false, .bool false, .bool false, .bool false, .bool false, .int .i64 0, .int .i64 0, .bool false, .bool false, .bool false, .bool false, .bool false, .int .i64 0, .int .i64 0, .bool false, .bool false, .bool false, .bool false, .bool false, .int .i64 0, .int .i64 0, .bool false, .bool false, .bool false, .bool false, .bool false, .int .i64 0, .int .i64 0, .bool false, .bool false, .bool false, .bool false, .bool false, .int .i64 0, .int .i64 0, .bool false, .bool false, .bool false, .bool false]

def vintc_New.j2   (Q : (Option Ptr) → Int → Heap → Prop) (h : Heap) : Prop :=
  Q none 2 h

def vintc_New.b5  (I5 : Ptr → Int → Heap → Prop) (a1 : Ptr) (a2 : Int) (Q : (Option Ptr) → Int → Heap → Prop) (h : Heap) : Prop :=
  br (decide (a2 < 17)) (ix a2 17 (fun n1 => wr (((a1.add 1).add (n1 * 7)).add 2) (.int .i64 1) (fun h => I5 a1 (IntKind.i64.wrap (a2 + 1)) h) h)) (Q (some a1) 0 h)

def vintc_New.j5  (a1 : Ptr) (a2 : Int) (Q : (Option Ptr) → Int → Heap → Prop) (h : Heap) : Prop :=
  ∀ I : Ptr → Int → Heap → Prop, (∀ a1 a2 h, vintc_New.b5  I a1 a2 Q h → I a1 a2 h) → I a1 a2 h

def vintc_New (a1 : Int) (Q : (Option Ptr) → Int → Heap → Prop) (h : Heap) : Prop :=
  br (decide (a1 < 1)) (vintc_New.j2 Q h) (br (decide (a1 > 4)) (vintc_New.j2 Q h) ((putCells z_palisade_vintc_Intc 0 [.int .i64 a1]).length = 128 ∧ al (putCells z_palisade_vintc_Intc 0 [.int .i64 a1]) (fun b1 h => vintc_New.j5 (⟨b1, 0⟩ : Ptr) 0 Q h) h))

def vintc_isSource (a1 : Int) (Q : Bool → Heap → Prop) (h : Heap) : Prop :=
  br (decide (a1 ≥ 1)) (Q (decide (a1 ≤ 16)) h) (Q false h)

def vintc_Intc_none (a1 : Option Ptr) (Q : Bool → Heap → Prop) (h : Heap) : Prop :=
  br a1.isNone (Q true h) (der a1 (fun p1 => rdI .i64 (p1.add 0) (fun x2 => Q (x2 == 0) h) h))

def vintc_Intc_wrong (a1 : Option Ptr) (a2 : Bool) (Q : Int → Heap → Prop) (h : Heap) : Prop :=
  vintc_Intc_none a1 (fun r1 h => br r1 (Q 1 h) (br (!a2) (Q 2 h) (Q 0 h))) h

def vintc_Intc_Raise (a1 : Option Ptr) (a2 : Int) (Q : Int → Heap → Prop) (h : Heap) : Prop :=
  vintc_isSource a2 (fun r1 h => vintc_Intc_wrong a1 r1 (fun r2 h => br (r2 == 0) (der a1 (fun p3 => ix a2 17 (fun n4 => wr (((p3.add 1).add (n4 * 7)).add 0) (.bool true) (fun h => Q r2 h) h))) (Q r2 h)) h) h

def vintc_Intc_has (a1 : Option Ptr) (a2 : Int) (Q : Bool → Heap → Prop) (h : Heap) : Prop :=
  vintc_Intc_none a1 (fun r1 h => br (!r1) (br (decide (a2 ≥ 0)) (der a1 (fun p2 => rdI .i64 (p2.add 0) (fun x3 => Q (decide (a2 < x3)) h) h)) (Q false h)) (Q false h)) h

def vintc_Intc_Enable.j2  (a1 : Option Ptr) (a2 : Int) (a3 : Int) (a4 : Bool) (a5 : Int) (Q : Int → Heap → Prop) (h : Heap) : Prop :=
  br (a5 == 0) (der a1 (fun p1 => ix a3 17 (fun n2 => ix a2 4 (fun n3 => wr ((((p1.add 1).add (n2 * 7)).add 3).add (n3 * 1)) (.bool a4) (fun h => Q a5 h) h)))) (Q a5 h)

def vintc_Intc_Enable (a1 : Option Ptr) (a2 : Int) (a3 : Int) (a4 : Bool) (Q : Int → Heap → Prop) (h : Heap) : Prop :=
  vintc_Intc_has a1 a2 (fun r1 h => br r1 (vintc_isSource a3 (fun r2 h => vintc_Intc_wrong a1 r2 (fun r3 h => vintc_Intc_Enable.j2 a1 a2 a3 a4 r3 Q h) h) h) (vintc_Intc_wrong a1 false (fun r4 h => vintc_Intc_Enable.j2 a1 a2 a3 a4 r4 Q h) h)) h

def vintc_isLevel (a1 : Int) (Q : Bool → Heap → Prop) (h : Heap) : Prop :=
  br (decide (a1 ≥ 0)) (Q (decide (a1 ≤ 7)) h) (Q false h)

def vintc_Intc_Weigh (a1 : Option Ptr) (a2 : Int) (a3 : Int) (Q : Int → Heap → Prop) (h : Heap) : Prop :=
  vintc_isSource a2 (fun r1 h => br r1 (vintc_isLevel a3 (fun r2 h => vintc_Intc_wrong a1 r2 (fun r3 h => br (r3 == 0) (der a1 (fun p4 => ix a2 17 (fun n5 => wr (((p4.add 1).add (n5 * 7)).add 2) (.int .i64 a3) (fun h => Q r3 h) h))) (Q r3 h)) h) h) (vintc_Intc_wrong a1 false (fun r6 h => br (r6 == 0) (der a1 (fun p7 => ix a2 17 (fun n8 => wr (((p7.add 1).add (n8 * 7)).add 2) (.int .i64 a3) (fun h => Q r6 h) h))) (Q r6 h)) h)) h

def vintc_Intc_Bar (a1 : Option Ptr) (a2 : Int) (a3 : Int) (Q : Int → Heap → Prop) (h : Heap) : Prop :=
  vintc_Intc_has a1 a2 (fun r1 h => br r1 (vintc_isLevel a3 (fun r2 h => vintc_Intc_wrong a1 r2 (fun r3 h => br (r3 == 0) (der a1 (fun p4 => ix a2 4 (fun n5 => wr ((p4.add 120).add (n5 * 1)) (.int .i64 a3) (fun h => Q r3 h) h))) (Q r3 h)) h) h) (vintc_Intc_wrong a1 false (fun r6 h => br (r6 == 0) (der a1 (fun p7 => ix a2 4 (fun n8 => wr ((p7.add 120).add (n8 * 1)) (.int .i64 a3) (fun h => Q r6 h) h))) (Q r6 h)) h)) h

def vintc_Intc_first_c1 (a1 : Bool) (a2 : Int) (a3 : Int) (a4 : Bool) (a5 : Bool) (a6 : Bool) (a7 : Bool) (a8 : Ptr) (Q : Bool → Heap → Prop) (h : Heap) : Prop :=
  al [.bool a1, .int .i64 a2, .int .i64 a3, .bool a4, .bool a5, .bool a6, .bool a7] (fun b1 h => rdB ((⟨b1, 0⟩ : Ptr).add 0) (fun x2 => br x2 (rdI .i64 ((⟨b1, 0⟩ : Ptr).add 1) (fun x3 => br (x3 == 0) (rdI .i64 a8 (fun x4 => ix x4 4 (fun n5 => rdB (((⟨b1, 0⟩ : Ptr).add 3).add (n5 * 1)) (fun x6 => Q x6 h) h)) h) (Q false h)) h) (Q false h)) h) h

def vintc_Intc_first.j8 (I4 : Int → Int → Ptr → (List V) → Int → Heap → Prop) (a1 : Int) (a2 : Int) (a3 : Ptr) (a4 : List V) (a5 : Int) (Q : Int → Heap → Prop) (h : Heap) : Prop :=
  I4 a1 a2 a3 a4 (IntKind.i64.wrap (a5 + 1)) h

def vintc_Intc_first.b4  (I4 : Int → Int → Ptr → (List V) → Int → Heap → Prop) (a1 : Int) (a2 : Int) (a3 : Ptr) (a4 : List V) (a5 : Int) (Q : Int → Heap → Prop) (h : Heap) : Prop :=
  br (decide (a5 < 17)) (ix a5 17 (fun n1 => ∃ x2, ((a4.drop (n1 * 7)).take 7)[0]? = some (.bool x2) ∧ ∃ x3, ((a4.drop (n1 * 7)).take 7)[1]? = some (.int .i64 x3) ∧ ∃ x4, ((a4.drop (n1 * 7)).take 7)[2]? = some (.int .i64 x4) ∧ ∃ x5, ((a4.drop (n1 * 7)).take 7)[3]? = some (.bool x5) ∧ ∃ x6, ((a4.drop (n1 * 7)).take 7)[4]? = some (.bool x6) ∧ ∃ x7, ((a4.drop (n1 * 7)).take 7)[5]? = some (.bool x7) ∧ ∃ x8, ((a4.drop (n1 * 7)).take 7)[6]? = some (.bool x8) ∧ al z_palisade_vintc_source (fun b9 h => wrL [.bool x2, .int .i64 x3, .int .i64 x4, .bool x5, .bool x6, .bool x7, .bool x8] (⟨b9, 0⟩ : Ptr) 0 (fun h => br (a5 == 0) (vintc_Intc_first.j8 I4 a1 a2 a3 a4 a5 Q h) (rdB ((⟨b9, 0⟩ : Ptr).add 0) (fun x10 => rdI .i64 ((⟨b9, 0⟩ : Ptr).add 1) (fun x11 => rdI .i64 ((⟨b9, 0⟩ : Ptr).add 2) (fun x12 => rdB ((⟨b9, 0⟩ : Ptr).add 3) (fun x13 => rdB ((⟨b9, 0⟩ : Ptr).add 4) (fun x14 => rdB ((⟨b9, 0⟩ : Ptr).add 5) (fun x15 => rdB ((⟨b9, 0⟩ : Ptr).add 6) (fun x16 => vintc_Intc_first_c1 x10 x11 x12 x13 x14 x15 x16 a3 (fun r17 h => br (!r17) (vintc_Intc_first.j8 I4 a1 a2 a3 a4 a5 Q h) (rdI .i64 ((⟨b9, 0⟩ : Ptr).add 2) (fun x18 => br (decide (x18 ≤ a2)) (vintc_Intc_first.j8 I4 a1 a2 a3 a4 a5 Q h) (rdI .i64 ((⟨b9, 0⟩ : Ptr).add 2) (fun x19 => vintc_Intc_first.j8 I4 a5 x19 a3 a4 a5 Q h) h)) h)) h) h) h) h) h) h) h) h)) h) h)) (Q a1 h)

def vintc_Intc_first.j4  (a1 : Int) (a2 : Int) (a3 : Ptr) (a4 : List V) (a5 : Int) (Q : Int → Heap → Prop) (h : Heap) : Prop :=
  ∀ I : Int → Int → Ptr → (List V) → Int → Heap → Prop, (∀ a1 a2 a3 a4 a5 h, vintc_Intc_first.b4  I a1 a2 a3 a4 a5 Q h → I a1 a2 a3 a4 a5 h) → I a1 a2 a3 a4 a5 h

def vintc_Intc_first (a1 : Option Ptr) (a2 : Int) (Q : Int → Heap → Prop) (h : Heap) : Prop :=
  al [.int .i64 a2] (fun b1 h => rdI .i64 (⟨b1, 0⟩ : Ptr) (fun x2 => der a1 (fun p3 => ix x2 4 (fun n4 => rdI .i64 ((p3.add 120).add (n4 * 1)) (fun x5 => der a1 (fun p6 => rdN 119 (p6.add 1) (fun cs7 => vintc_Intc_first.j4 0 x5 (⟨b1, 0⟩ : Ptr) cs7 0 Q h) h)) h))) h) h

def vintc_Intc_Line (a1 : Option Ptr) (a2 : Int) (Q : Bool → Heap → Prop) (h : Heap) : Prop :=
  vintc_Intc_has a1 a2 (fun r1 h => br r1 (vintc_Intc_first a1 a2 (fun r2 h => Q (decide (r2 > 0)) h) h) (Q false h)) h

def vintc_Intc_Claim (a1 : Option Ptr) (a2 : Int) (Q : Int → Int → Heap → Prop) (h : Heap) : Prop :=
  vintc_Intc_has a1 a2 (fun r1 h => vintc_Intc_wrong a1 r1 (fun r2 h => br (r2 != 0) (Q 0 r2 h) (vintc_Intc_first a1 a2 (fun r3 h => br (decide (r3 > 0)) (der a1 (fun p4 => ix r3 17 (fun n5 => der a1 (fun p6 => wr (((p4.add 1).add (n5 * 7)).add 0) (.bool false) (fun h => ix r3 17 (fun n7 => wr (((p6.add 1).add (n7 * 7)).add 1) (.int .i64 (IntKind.i64.wrap (a2 + 1))) (fun h => Q r3 0 h) h)) h)))) (Q r3 0 h)) h)) h) h

def vintc_Intc_Complete.j2  (a1 : Option Ptr) (a2 : Int) (a3 : Int) (a4 : Int) (Q : Int → Heap → Prop) (h : Heap) : Prop :=
  br (a4 != 0) (Q a4 h) (der a1 (fun p1 => ix a3 17 (fun n2 => rdI .i64 (((p1.add 1).add (n2 * 7)).add 1) (fun x3 => br (x3 != (IntKind.i64.wrap (a2 + 1))) (Q 21 h) (der a1 (fun p4 => ix a3 17 (fun n5 => wr (((p4.add 1).add (n5 * 7)).add 1) (.int .i64 0) (fun h => Q 0 h) h)))) h)))

def vintc_Intc_Complete (a1 : Option Ptr) (a2 : Int) (a3 : Int) (Q : Int → Heap → Prop) (h : Heap) : Prop :=
  vintc_Intc_has a1 a2 (fun r1 h => br r1 (vintc_isSource a3 (fun r2 h => vintc_Intc_wrong a1 r2 (fun r3 h => vintc_Intc_Complete.j2 a1 a2 a3 r3 Q h) h) h) (vintc_Intc_wrong a1 false (fun r4 h => vintc_Intc_Complete.j2 a1 a2 a3 r4 Q h) h)) h

def palisadelaw20_VintcOnce.j4   (Q : Bool → Heap → Prop) (h : Heap) : Prop :=
  Q false h

def palisadelaw20_VintcOnce.j8 (I7 : Int → Sl → (Option Ptr) → Ptr → Ptr → Ptr → Int → Heap → Prop) (a1 : Int) (a2 : Sl) (a3 : Option Ptr) (a4 : Ptr) (a5 : Ptr) (a6 : Ptr) (a7 : Int) (Q : Bool → Heap → Prop) (h : Heap) : Prop :=
  I7 a1 a2 a3 a4 a5 a6 (IntKind.i64.wrap (a7 + 1)) h

def palisadelaw20_VintcOnce.j27 (I7 : Int → Sl → (Option Ptr) → Ptr → Ptr → Ptr → Int → Heap → Prop)  (Q : Bool → Heap → Prop) (h : Heap) : Prop :=
  Q false h

def palisadelaw20_VintcOnce.j31 (I7 : Int → Sl → (Option Ptr) → Ptr → Ptr → Ptr → Int → Heap → Prop)  (Q : Bool → Heap → Prop) (h : Heap) : Prop :=
  Q false h

def palisadelaw20_VintcOnce.b7  (I7 : Int → Sl → (Option Ptr) → Ptr → Ptr → Ptr → Int → Heap → Prop) (a1 : Int) (a2 : Sl) (a3 : Option Ptr) (a4 : Ptr) (a5 : Ptr) (a6 : Ptr) (a7 : Int) (Q : Bool → Heap → Prop) (h : Heap) : Prop :=
  br (decide (a7 < (a2.len : Int))) (ix a7 a2.len (fun n1 => der a2.p (fun p2 => rdI .i64 ((p2.add (n1 * 5)).add 0) (fun x3 => rdI .i64 ((p2.add (n1 * 5)).add 1) (fun x4 => rdI .i64 ((p2.add (n1 * 5)).add 2) (fun x5 => rdI .i64 ((p2.add (n1 * 5)).add 3) (fun x6 => rdB ((p2.add (n1 * 5)).add 4) (fun x7 => al [.int .i64 0, .int .i64 0, .int .i64 0, .int .i64 0, .bool false] (fun b8 h => wrL [.int .i64 x3, .int .i64 x4, .int .i64 x5, .int .i64 x6, .bool x7] (⟨b8, 0⟩ : Ptr) 0 (fun h => rdI .i64 ((⟨b8, 0⟩ : Ptr).add 2) (fun x9 => rdI .i64 ((⟨b8, 0⟩ : Ptr).add 1) (fun x10 => nz a1 (rdI .i64 ((⟨b8, 0⟩ : Ptr).add 0) (fun x11 => br (x11 == 0) (vintc_Intc_Raise a3 (IntKind.i64.wrap (1 + (ibits .and .i64 x9 15))) (fun r12 h => br (r12 != 0) (Q false h) (ix (IntKind.i64.wrap (1 + (ibits .and .i64 x9 15))) 17 (fun n13 => rdI .i64 (a4.add (n13 * 1)) (fun x14 => ix (IntKind.i64.wrap (1 + (ibits .and .i64 x9 15))) 17 (fun n15 => wr (a4.add (n15 * 1)) (.int .i64 (IntKind.i64.wrap (x14 + 1))) (fun h => palisadelaw20_VintcOnce.j8 I7 a1 a2 a3 a4 a5 a6 a7 Q h) h)) h))) h) (br (x11 == 1) (rdB ((⟨b8, 0⟩ : Ptr).add 4) (fun x16 => vintc_Intc_Enable a3 ((ibits .and .i64 x10 3).tmod a1) (IntKind.i64.wrap (1 + (ibits .and .i64 x9 15))) x16 (fun r17 h => br (r17 != 0) (Q false h) (palisadelaw20_VintcOnce.j8 I7 a1 a2 a3 a4 a5 a6 a7 Q h)) h) h) (br (x11 == 2) (rdI .i64 ((⟨b8, 0⟩ : Ptr).add 3) (fun x18 => vintc_Intc_Weigh a3 (IntKind.i64.wrap (1 + (ibits .and .i64 x9 15))) (ibits .and .i64 x18 7) (fun r19 h => palisadelaw20_VintcOnce.j8 I7 a1 a2 a3 a4 a5 a6 a7 Q h) h) h) (br (x11 == 3) (rdI .i64 ((⟨b8, 0⟩ : Ptr).add 3) (fun x20 => vintc_Intc_Bar a3 ((ibits .and .i64 x10 3).tmod a1) (ibits .and .i64 x20 7) (fun r21 h => palisadelaw20_VintcOnce.j8 I7 a1 a2 a3 a4 a5 a6 a7 Q h) h) h) (br (x11 == 4) (vintc_Intc_Line a3 ((ibits .and .i64 x10 3).tmod a1) (fun r22 h => vintc_Intc_Claim a3 ((ibits .and .i64 x10 3).tmod a1) (fun r23 r24 h => br (r24 != 0) (palisadelaw20_VintcOnce.j27 I7 Q h) (br (!((decide (r23 > 0)) == r22)) (palisadelaw20_VintcOnce.j27 I7 Q h) (br (decide (r23 < 0)) (palisadelaw20_VintcOnce.j27 I7 Q h) (br (decide (r23 > 16)) (palisadelaw20_VintcOnce.j27 I7 Q h) (br (decide (r23 > 0)) (ix r23 17 (fun n25 => rdI .i64 (a5.add (n25 * 1)) (fun x26 => ix r23 17 (fun n27 => wr (a5.add (n27 * 1)) (.int .i64 (IntKind.i64.wrap (x26 + 1))) (fun h => ix r23 17 (fun n28 => rdI .i64 (a6.add (n28 * 1)) (fun x29 => br (x29 != 0) (palisadelaw20_VintcOnce.j31 I7 Q h) (ix r23 17 (fun n30 => rdI .i64 (a5.add (n30 * 1)) (fun x31 => ix r23 17 (fun n32 => rdI .i64 (a4.add (n32 * 1)) (fun x33 => br (decide (x31 > x33)) (palisadelaw20_VintcOnce.j31 I7 Q h) (ix r23 17 (fun n34 => wr (a6.add (n34 * 1)) (.int .i64 (IntKind.i64.wrap (1 + ((ibits .and .i64 x10 3).tmod a1)))) (fun h => palisadelaw20_VintcOnce.j8 I7 a1 a2 a3 a4 a5 a6 a7 Q h) h))) h)) h))) h)) h)) h)) (palisadelaw20_VintcOnce.j8 I7 a1 a2 a3 a4 a5 a6 a7 Q h)))))) h) h) (br (x11 == 5) (vintc_Intc_Complete a3 ((ibits .and .i64 x10 3).tmod a1) (IntKind.i64.wrap (1 + (ibits .and .i64 x9 15))) (fun r35 h => ix (IntKind.i64.wrap (1 + (ibits .and .i64 x9 15))) 17 (fun n36 => rdI .i64 (a6.add (n36 * 1)) (fun x37 => br (!((r35 == 0) == (x37 == (IntKind.i64.wrap (1 + ((ibits .and .i64 x10 3).tmod a1)))))) (Q false h) (br (r35 == 0) (ix (IntKind.i64.wrap (1 + (ibits .and .i64 x9 15))) 17 (fun n38 => wr (a6.add (n38 * 1)) (.int .i64 0) (fun h => palisadelaw20_VintcOnce.j8 I7 a1 a2 a3 a4 a5 a6 a7 Q h) h)) (palisadelaw20_VintcOnce.j8 I7 a1 a2 a3 a4 a5 a6 a7 Q h))) h)) h) (palisadelaw20_VintcOnce.j8 I7 a1 a2 a3 a4 a5 a6 a7 Q h))))))) h)) h) h) h) h) h) h) h) h) h))) (Q true h)

def palisadelaw20_VintcOnce.j7  (a1 : Int) (a2 : Sl) (a3 : Option Ptr) (a4 : Ptr) (a5 : Ptr) (a6 : Ptr) (a7 : Int) (Q : Bool → Heap → Prop) (h : Heap) : Prop :=
  ∀ I : Int → Sl → (Option Ptr) → Ptr → Ptr → Ptr → Int → Heap → Prop, (∀ a1 a2 a3 a4 a5 a6 a7 h, palisadelaw20_VintcOnce.b7  I a1 a2 a3 a4 a5 a6 a7 Q h → I a1 a2 a3 a4 a5 a6 a7 h) → I a1 a2 a3 a4 a5 a6 a7 h

def palisadelaw20_VintcOnce (a1 : Int) (a2 : Sl) (Q : Bool → Heap → Prop) (h : Heap) : Prop :=
  vintc_New (IntKind.i64.wrap (1 + (ibits .and .i64 a1 3))) (fun r1 r2 h => br (r2 != 0) (palisadelaw20_VintcOnce.j4 Q h) (br r1.isNone (palisadelaw20_VintcOnce.j4 Q h) (al z_17_int (fun b3 h => al z_17_int (fun b4 h => al z_17_int (fun b5 h => palisadelaw20_VintcOnce.j7 (IntKind.i64.wrap (1 + (ibits .and .i64 a1 3))) a2 r1 (⟨b3, 0⟩ : Ptr) (⟨b4, 0⟩ : Ptr) (⟨b5, 0⟩ : Ptr) 0 Q h) h) h) h))) h

def vintc_Intc_Told.j2   (Q : Bool → Int → Heap → Prop) (h : Heap) : Prop :=
  Q false (-1) h

def vintc_Intc_Told (a1 : Option Ptr) (a2 : Int) (Q : Bool → Int → Heap → Prop) (h : Heap) : Prop :=
  vintc_Intc_none a1 (fun r1 h => br r1 (vintc_Intc_Told.j2 Q h) (vintc_isSource a2 (fun r2 h => br (!r2) (vintc_Intc_Told.j2 Q h) (der a1 (fun p3 => ix a2 17 (fun n4 => rdB (((p3.add 1).add (n4 * 7)).add 0) (fun x5 => rdI .i64 (((p3.add 1).add (n4 * 7)).add 1) (fun x6 => rdI .i64 (((p3.add 1).add (n4 * 7)).add 2) (fun x7 => rdB (((p3.add 1).add (n4 * 7)).add 3) (fun x8 => rdB (((p3.add 1).add (n4 * 7)).add 4) (fun x9 => rdB (((p3.add 1).add (n4 * 7)).add 5) (fun x10 => rdB (((p3.add 1).add (n4 * 7)).add 6) (fun x11 => al z_palisade_vintc_source (fun b12 h => wrL [.bool x5, .int .i64 x6, .int .i64 x7, .bool x8, .bool x9, .bool x10, .bool x11] (⟨b12, 0⟩ : Ptr) 0 (fun h => rdB ((⟨b12, 0⟩ : Ptr).add 0) (fun x13 => rdI .i64 ((⟨b12, 0⟩ : Ptr).add 1) (fun x14 => Q x13 (IntKind.i64.wrap (x14 - 1)) h) h) h) h) h) h) h) h) h) h) h) h)))) h)) h

def palisadelaw20_VintcGreatest.j3   (Q : Bool → Heap → Prop) (h : Heap) : Prop :=
  Q false h

def palisadelaw20_VintcGreatest.j11 (I7 : Int → Int → Ptr → (Option Ptr) → Int → Int → Heap → Prop)  (Q : Bool → Heap → Prop) (h : Heap) : Prop :=
  Q false h

def palisadelaw20_VintcGreatest.j8 (I7 : Int → Int → Ptr → (Option Ptr) → Int → Int → Heap → Prop) (a1 : Int) (a2 : Int) (a3 : Ptr) (a4 : Option Ptr) (a5 : Int) (a6 : Int) (Q : Bool → Heap → Prop) (h : Heap) : Prop :=
  I7 a1 a2 a3 a4 a5 (IntKind.i64.wrap (a6 + 1)) h

def palisadelaw20_VintcGreatest.j15 (I7 : Int → Int → Ptr → (Option Ptr) → Int → Int → Heap → Prop) (a1 : Int) (a2 : Int) (a3 : Ptr) (a4 : Option Ptr) (a5 : Int) (Q : Bool → Heap → Prop) (h : Heap) : Prop :=
  palisadelaw20_VintcGreatest.j8 I7 a1 a2 a3 a4 a5 a5 Q h

def palisadelaw20_VintcGreatest.b7  (I7 : Int → Int → Ptr → (Option Ptr) → Int → Int → Heap → Prop) (a1 : Int) (a2 : Int) (a3 : Ptr) (a4 : Option Ptr) (a5 : Int) (a6 : Int) (Q : Bool → Heap → Prop) (h : Heap) : Prop :=
  br (decide (a6 ≤ 16)) (ix (IntKind.i64.wrap (a6 - 1)) 16 (fun n1 => rdI .i64 (a3.add (n1 * 1)) (fun x2 => vintc_Intc_Weigh a4 a6 (ibits .and .i64 x2 7) (fun r3 h => br (r3 != 0) (palisadelaw20_VintcGreatest.j11 I7 Q h) (vintc_Intc_Enable a4 0 a6 true (fun r4 h => br (r4 != 0) (palisadelaw20_VintcGreatest.j11 I7 Q h) (nneg (IntKind.u64.wrap a6) (br ((ibits .and .i64 (shrI .i64 a1 (IntKind.u64.wrap a6)) 1) == 1) (vintc_Intc_Raise a4 a6 (fun r5 h => br (decide ((ibits .and .i64 x2 7) > a2)) (br (a5 == 0) (palisadelaw20_VintcGreatest.j15 I7 a1 a2 a3 a4 a6 Q h) (ix (IntKind.i64.wrap (a5 - 1)) 16 (fun n6 => rdI .i64 (a3.add (n6 * 1)) (fun x7 => br (decide ((ibits .and .i64 x2 7) > (ibits .and .i64 x7 7))) (palisadelaw20_VintcGreatest.j15 I7 a1 a2 a3 a4 a6 Q h) (palisadelaw20_VintcGreatest.j8 I7 a1 a2 a3 a4 a5 a6 Q h)) h))) (palisadelaw20_VintcGreatest.j8 I7 a1 a2 a3 a4 a5 a6 Q h)) h) (palisadelaw20_VintcGreatest.j8 I7 a1 a2 a3 a4 a5 a6 Q h)))) h)) h) h)) (vintc_Intc_Bar a4 0 a2 (fun r8 h => vintc_Intc_Claim a4 0 (fun r9 r10 h => vintc_Intc_Told a4 a5 (fun r11 r12 h => br (r10 == 0) (br (r9 == a5) (br (a5 == 0) (Q true h) (br (!r11) (br (r12 == 0) (vintc_Intc_Complete a4 0 a5 (fun r13 h => Q (r13 == 0) h) h) (Q false h)) (Q false h))) (Q false h)) (Q false h)) h) h) h)

def palisadelaw20_VintcGreatest.j7  (a1 : Int) (a2 : Int) (a3 : Ptr) (a4 : Option Ptr) (a5 : Int) (a6 : Int) (Q : Bool → Heap → Prop) (h : Heap) : Prop :=
  ∀ I : Int → Int → Ptr → (Option Ptr) → Int → Int → Heap → Prop, (∀ a1 a2 a3 a4 a5 a6 h, palisadelaw20_VintcGreatest.b7  I a1 a2 a3 a4 a5 a6 Q h → I a1 a2 a3 a4 a5 a6 h) → I a1 a2 a3 a4 a5 a6 h

def palisadelaw20_VintcGreatest (a1 : Int) (a2 : Int) (a3 : Int) (a4 : Int) (a5 : Int) (a6 : Int) (a7 : Int) (a8 : Int) (a9 : Int) (a10 : Int) (a11 : Int) (a12 : Int) (a13 : Int) (a14 : Int) (a15 : Int) (a16 : Int) (a17 : Int) (a18 : Int) (Q : Bool → Heap → Prop) (h : Heap) : Prop :=
  al [.int .i64 a1, .int .i64 a2, .int .i64 a3, .int .i64 a4, .int .i64 a5, .int .i64 a6, .int .i64 a7, .int .i64 a8, .int .i64 a9, .int .i64 a10, .int .i64 a11, .int .i64 a12, .int .i64 a13, .int .i64 a14, .int .i64 a15, .int .i64 a16] (fun b1 h => vintc_New 1 (fun r2 r3 h => br (r3 != 0) (palisadelaw20_VintcGreatest.j3 Q h) (br r2.isNone (palisadelaw20_VintcGreatest.j3 Q h) (palisadelaw20_VintcGreatest.j7 a17 (ibits .and .i64 a18 7) (⟨b1, 0⟩ : Ptr) r2 0 1 Q h))) h) h

def vintc_Intc_Poke (a1 : Option Ptr) (a2 : Int) (Q : Int → Heap → Prop) (h : Heap) : Prop :=
  vintc_Intc_has a1 a2 (fun r1 h => vintc_Intc_wrong a1 r1 (fun r2 h => br (r2 == 0) (der a1 (fun p3 => ix a2 4 (fun n4 => wr ((p3.add 124).add (n4 * 1)) (.bool true) (fun h => Q r2 h) h))) (Q r2 h)) h) h

def vintc_Intc_Soft (a1 : Option Ptr) (a2 : Int) (Q : Bool → Heap → Prop) (h : Heap) : Prop :=
  vintc_Intc_has a1 a2 (fun r1 h => br (!r1) (Q false h) (der a1 (fun p2 => ix a2 4 (fun n3 => rdB ((p2.add 124).add (n3 * 1)) (fun x4 => der a1 (fun p5 => ix a2 4 (fun n6 => wr ((p5.add 124).add (n6 * 1)) (.bool false) (fun h => Q x4 h) h))) h)))) h

def palisadelaw20_VintcNobody.j7 (I2 : Ptr → Sl → Int → Int → Heap → Prop)  (Q : Bool → Heap → Prop) (h : Heap) : Prop :=
  Q false h

def palisadelaw20_VintcNobody.b2  (I2 : Ptr → Sl → Int → Int → Heap → Prop) (a1 : Ptr) (a2 : Sl) (a3 : Int) (a4 : Int) (Q : Bool → Heap → Prop) (h : Heap) : Prop :=
  br (decide (a4 < a3)) (ix a4 a2.len (fun n1 => der a2.p (fun p2 => rdP (p2.add (n1 * 1)) (fun x3 => rdI .i64 (a1.add 1) (fun x4 => vintc_Intc_Claim x3 x4 (fun r5 r6 h => rdI .i64 (a1.add 2) (fun x7 => vintc_Intc_Told x3 x7 (fun r8 r9 h => rdI .i64 (a1.add 2) (fun x10 => vintc_Intc_Raise x3 x10 (fun r11 h => br (r11 != 1) (palisadelaw20_VintcNobody.j7 I2 Q h) (rdI .i64 (a1.add 1) (fun x12 => rdI .i64 (a1.add 2) (fun x13 => rdB (a1.add 4) (fun x14 => vintc_Intc_Enable x3 x12 x13 x14 (fun r15 h => br (r15 != 1) (palisadelaw20_VintcNobody.j7 I2 Q h) (rdI .i64 (a1.add 2) (fun x16 => rdI .i64 (a1.add 3) (fun x17 => vintc_Intc_Weigh x3 x16 x17 (fun r18 h => br (r18 != 1) (palisadelaw20_VintcNobody.j7 I2 Q h) (rdI .i64 (a1.add 1) (fun x19 => rdI .i64 (a1.add 3) (fun x20 => vintc_Intc_Bar x3 x19 x20 (fun r21 h => br (r21 != 1) (palisadelaw20_VintcNobody.j7 I2 Q h) (rdI .i64 (a1.add 1) (fun x22 => vintc_Intc_Line x3 x22 (fun r23 h => br r23 (palisadelaw20_VintcNobody.j7 I2 Q h) (br (r5 != 0) (palisadelaw20_VintcNobody.j7 I2 Q h) (br (r6 != 1) (palisadelaw20_VintcNobody.j7 I2 Q h) (rdI .i64 (a1.add 1) (fun x24 => rdI .i64 (a1.add 2) (fun x25 => vintc_Intc_Complete x3 x24 x25 (fun r26 h => br (r26 != 1) (palisadelaw20_VintcNobody.j7 I2 Q h) (rdI .i64 (a1.add 1) (fun x27 => vintc_Intc_Poke x3 x27 (fun r28 h => br (r28 != 1) (palisadelaw20_VintcNobody.j7 I2 Q h) (rdI .i64 (a1.add 1) (fun x29 => vintc_Intc_Soft x3 x29 (fun r30 h => br r30 (palisadelaw20_VintcNobody.j7 I2 Q h) (br r8 (palisadelaw20_VintcNobody.j7 I2 Q h) (br (r9 != (-1)) (palisadelaw20_VintcNobody.j7 I2 Q h) (I2 a1 a2 a3 (IntKind.i64.wrap (a4 + 1)) h)))) h) h)) h) h)) h) h) h)))) h) h)) h) h) h)) h) h) h)) h) h) h) h)) h) h) h) h) h) h) h))) (Q true h)

def palisadelaw20_VintcNobody.j2  (a1 : Ptr) (a2 : Sl) (a3 : Int) (a4 : Int) (Q : Bool → Heap → Prop) (h : Heap) : Prop :=
  ∀ I : Ptr → Sl → Int → Int → Heap → Prop, (∀ a1 a2 a3 a4 h, palisadelaw20_VintcNobody.b2  I a1 a2 a3 a4 Q h → I a1 a2 a3 a4 h) → I a1 a2 a3 a4 h

def palisadelaw20_VintcNobody (a1 : Int) (a2 : Int) (a3 : Int) (a4 : Int) (a5 : Bool) (Q : Bool → Heap → Prop) (h : Heap) : Prop :=
  al [.int .i64 a1, .int .i64 a2, .int .i64 a3, .int .i64 a4, .bool a5] (fun b1 h => z_palisade_vintc_Intc.length = 128 ∧ al z_palisade_vintc_Intc (fun b2 h => al [.ptr none, .ptr (some (⟨b2, 0⟩ : Ptr))] (fun b3 h => palisadelaw20_VintcNobody.j2 (⟨b1, 0⟩ : Ptr) ⟨some ⟨b3, 0⟩, 2, 2⟩ (2 : Int) 0 Q h) h) h) h

def palisaderef20_New.j2   (Q : (Option Ptr) → Int → Heap → Prop) (h : Heap) : Prop :=
  Q none 2 h

def palisaderef20_New.b5  (I5 : Ptr → Int → Heap → Prop) (a1 : Ptr) (a2 : Int) (Q : (Option Ptr) → Int → Heap → Prop) (h : Heap) : Prop :=
  br (decide (a2 ≤ 16)) (ix a2 17 (fun n1 => wr (((a1.add 1).add (n1 * 7)).add 1) (.int .i64 (-1)) (fun h => ix a2 17 (fun n2 => wr (((a1.add 1).add (n2 * 7)).add 2) (.int .i64 1) (fun h => I5 a1 (IntKind.i64.wrap (a2 + 1)) h) h)) h)) (Q (some a1) 0 h)

def palisaderef20_New.j5  (a1 : Ptr) (a2 : Int) (Q : (Option Ptr) → Int → Heap → Prop) (h : Heap) : Prop :=
  ∀ I : Ptr → Int → Heap → Prop, (∀ a1 a2 h, palisaderef20_New.b5  I a1 a2 Q h → I a1 a2 h) → I a1 a2 h

def palisaderef20_New (a1 : Int) (Q : (Option Ptr) → Int → Heap → Prop) (h : Heap) : Prop :=
  br (decide (a1 < 1)) (palisaderef20_New.j2 Q h) (br (decide (a1 > 4)) (palisaderef20_New.j2 Q h) ((putCells z_palisade_vintc_Intc 0 [.int .i64 a1]).length = 128 ∧ al (putCells z_palisade_vintc_Intc 0 [.int .i64 a1]) (fun b1 h => palisaderef20_New.j5 (⟨b1, 0⟩ : Ptr) 0 Q h) h))

def palisadelaw20_names  (Q : Bool → Heap → Prop) (h : Heap) : Prop :=
  Q true h

def palisaderef20_Is (a1 : Int) (Q : Bool → Heap → Prop) (h : Heap) : Prop :=
  br (decide (a1 ≥ 1)) (Q (decide (a1 ≤ 16)) h) (Q false h)

def palisaderef20_Intc_Has (a1 : Option Ptr) (a2 : Int) (Q : Bool → Heap → Prop) (h : Heap) : Prop :=
  br (decide (a2 ≥ 0)) (der a1 (fun p1 => rdI .i64 (p1.add 0) (fun x2 => Q (decide (a2 < x2)) h) h)) (Q false h)

def palisaderef20_Intc_Enable (a1 : Option Ptr) (a2 : Int) (a3 : Int) (a4 : Bool) (Q : Int → Heap → Prop) (h : Heap) : Prop :=
  palisaderef20_Intc_Has a1 a2 (fun r1 h => br (!r1) (Q 2 h) (palisaderef20_Is a3 (fun r2 h => br (!r2) (Q 2 h) (der a1 (fun p3 => ix a3 17 (fun n4 => ix a2 4 (fun n5 => wr ((((p3.add 1).add (n4 * 7)).add 3).add (n5 * 1)) (.bool a4) (fun h => Q 0 h) h))))) h)) h

def palisaderef20_Intc_First.j4 (I3 : (Option Ptr) → Int → Int → Int → Heap → Prop) (a1 : Option Ptr) (a2 : Int) (a3 : Int) (a4 : Int) (Q : Int → Heap → Prop) (h : Heap) : Prop :=
  I3 a1 a2 a3 (IntKind.i64.wrap (a4 + 1)) h

def palisaderef20_Intc_First.j7 (I3 : (Option Ptr) → Int → Int → Int → Heap → Prop) (a1 : Option Ptr) (a2 : Int) (a3 : Int) (Q : Int → Heap → Prop) (h : Heap) : Prop :=
  palisaderef20_Intc_First.j4 I3 a1 a2 a3 a3 Q h

def palisaderef20_Intc_First.b3  (I3 : (Option Ptr) → Int → Int → Int → Heap → Prop) (a1 : Option Ptr) (a2 : Int) (a3 : Int) (a4 : Int) (Q : Int → Heap → Prop) (h : Heap) : Prop :=
  br (decide (a4 ≤ 16)) (der a1 (fun p1 => ix a4 17 (fun n2 => rdB (((p1.add 1).add (n2 * 7)).add 0) (fun x3 => rdI .i64 (((p1.add 1).add (n2 * 7)).add 1) (fun x4 => rdI .i64 (((p1.add 1).add (n2 * 7)).add 2) (fun x5 => rdB (((p1.add 1).add (n2 * 7)).add 3) (fun x6 => rdB (((p1.add 1).add (n2 * 7)).add 4) (fun x7 => rdB (((p1.add 1).add (n2 * 7)).add 5) (fun x8 => rdB (((p1.add 1).add (n2 * 7)).add 6) (fun x9 => al z_palisade_vintc_source (fun b10 h => wrL [.bool x3, .int .i64 x4, .int .i64 x5, .bool x6, .bool x7, .bool x8, .bool x9] (⟨b10, 0⟩ : Ptr) 0 (fun h => rdB ((⟨b10, 0⟩ : Ptr).add 0) (fun x11 => br x11 (rdI .i64 ((⟨b10, 0⟩ : Ptr).add 1) (fun x12 => br (decide (x12 < 0)) (ix a2 4 (fun n13 => rdB (((⟨b10, 0⟩ : Ptr).add 3).add (n13 * 1)) (fun x14 => br x14 (rdI .i64 ((⟨b10, 0⟩ : Ptr).add 2) (fun x15 => der a1 (fun p16 => ix a2 4 (fun n17 => rdI .i64 ((p16.add 120).add (n17 * 1)) (fun x18 => br (decide (x15 > x18)) (br (a3 == 0) (palisaderef20_Intc_First.j7 I3 a1 a2 a4 Q h) (rdI .i64 ((⟨b10, 0⟩ : Ptr).add 2) (fun x19 => der a1 (fun p20 => ix a3 17 (fun n21 => rdI .i64 (((p20.add 1).add (n21 * 7)).add 2) (fun x22 => br (decide (x19 > x22)) (palisaderef20_Intc_First.j7 I3 a1 a2 a4 Q h) (palisaderef20_Intc_First.j4 I3 a1 a2 a3 a4 Q h)) h))) h)) (palisaderef20_Intc_First.j4 I3 a1 a2 a3 a4 Q h)) h))) h) (palisaderef20_Intc_First.j4 I3 a1 a2 a3 a4 Q h)) h)) (palisaderef20_Intc_First.j4 I3 a1 a2 a3 a4 Q h)) h) (palisaderef20_Intc_First.j4 I3 a1 a2 a3 a4 Q h)) h) h) h) h) h) h) h) h) h) h))) (Q a3 h)

def palisaderef20_Intc_First.j3  (a1 : Option Ptr) (a2 : Int) (a3 : Int) (a4 : Int) (Q : Int → Heap → Prop) (h : Heap) : Prop :=
  ∀ I : (Option Ptr) → Int → Int → Int → Heap → Prop, (∀ a1 a2 a3 a4 h, palisaderef20_Intc_First.b3  I a1 a2 a3 a4 Q h → I a1 a2 a3 a4 h) → I a1 a2 a3 a4 h

def palisaderef20_Intc_First (a1 : Option Ptr) (a2 : Int) (Q : Int → Heap → Prop) (h : Heap) : Prop :=
  palisaderef20_Intc_First.j3 a1 a2 0 1 Q h

def palisaderef20_Intc_Claim (a1 : Option Ptr) (a2 : Int) (Q : Int → Int → Heap → Prop) (h : Heap) : Prop :=
  palisaderef20_Intc_Has a1 a2 (fun r1 h => br (!r1) (Q 0 2 h) (palisaderef20_Intc_First a1 a2 (fun r2 h => br (decide (r2 > 0)) (der a1 (fun p3 => ix r2 17 (fun n4 => wr (((p3.add 1).add (n4 * 7)).add 0) (.bool false) (fun h => der a1 (fun p5 => ix r2 17 (fun n6 => wr (((p5.add 1).add (n6 * 7)).add 1) (.int .i64 a2) (fun h => Q r2 0 h) h))) h))) (Q r2 0 h)) h)) h

def palisaderef20_Intc_Complete.j2   (Q : Int → Heap → Prop) (h : Heap) : Prop :=
  Q 2 h

def palisaderef20_Intc_Complete (a1 : Option Ptr) (a2 : Int) (a3 : Int) (Q : Int → Heap → Prop) (h : Heap) : Prop :=
  palisaderef20_Intc_Has a1 a2 (fun r1 h => br (!r1) (palisaderef20_Intc_Complete.j2 Q h) (palisaderef20_Is a3 (fun r2 h => br (!r2) (palisaderef20_Intc_Complete.j2 Q h) (der a1 (fun p3 => ix a3 17 (fun n4 => rdI .i64 (((p3.add 1).add (n4 * 7)).add 1) (fun x5 => br (x5 != a2) (Q 21 h) (der a1 (fun p6 => ix a3 17 (fun n7 => wr (((p6.add 1).add (n7 * 7)).add 1) (.int .i64 (-1)) (fun h => Q 0 h) h)))) h)))) h)) h

def palisadelaw20_does (a1 : Option Ptr) (a2 : Option Ptr) (a3 : Int) (a4 : Int) (a5 : Int) (a6 : Int) (a7 : Bool) (Q : Bool → Heap → Prop) (h : Heap) : Prop :=
  al [.int .i64 a3, .int .i64 a4, .int .i64 a5, .int .i64 a6, .bool a7] (fun b1 h => rdI .i64 ((⟨b1, 0⟩ : Ptr).add 0) (fun x2 => br (x2 == 0) (rdI .i64 ((⟨b1, 0⟩ : Ptr).add 2) (fun x3 => palisaderef20_Is x3 (fun r4 h => br (!r4) (rdI .i64 ((⟨b1, 0⟩ : Ptr).add 2) (fun x5 => vintc_Intc_Raise a1 x5 (fun r6 h => Q (r6 == 2) h) h) h) (rdI .i64 ((⟨b1, 0⟩ : Ptr).add 2) (fun x7 => der a2 (fun p8 => ix x7 17 (fun n9 => wr (((p8.add 1).add (n9 * 7)).add 0) (.bool true) (fun h => rdI .i64 ((⟨b1, 0⟩ : Ptr).add 2) (fun x10 => vintc_Intc_Raise a1 x10 (fun r11 h => Q (r11 == 0) h) h) h) h))) h)) h) h) (br (x2 == 1) (rdI .i64 ((⟨b1, 0⟩ : Ptr).add 1) (fun x12 => rdI .i64 ((⟨b1, 0⟩ : Ptr).add 2) (fun x13 => rdB ((⟨b1, 0⟩ : Ptr).add 4) (fun x14 => rdI .i64 ((⟨b1, 0⟩ : Ptr).add 1) (fun x15 => rdI .i64 ((⟨b1, 0⟩ : Ptr).add 2) (fun x16 => rdB ((⟨b1, 0⟩ : Ptr).add 4) (fun x17 => vintc_Intc_Enable a1 x12 x13 x14 (fun r18 h => ck ((⟨b1, 0⟩ : Ptr).add 4) [.bool x17] 0 h ∧ ck ((⟨b1, 0⟩ : Ptr).add 2) [.int .i64 x16] 0 h ∧ ck ((⟨b1, 0⟩ : Ptr).add 1) [.int .i64 x15] 0 h ∧ (palisaderef20_Intc_Enable a2 x15 x16 x17 (fun r19 h => Q (r18 == r19) h) h)) h) h) h) h) h) h) h) (br (x2 == 2) (rdI .i64 ((⟨b1, 0⟩ : Ptr).add 2) (fun x20 => palisaderef20_Is x20 (fun r21 h => br (!r21) (rdI .i64 ((⟨b1, 0⟩ : Ptr).add 2) (fun x22 => rdI .i64 ((⟨b1, 0⟩ : Ptr).add 3) (fun x23 => vintc_Intc_Weigh a1 x22 x23 (fun r24 h => Q (r24 == 2) h) h) h) h) (rdI .i64 ((⟨b1, 0⟩ : Ptr).add 3) (fun x25 => br (decide (x25 < 0)) (rdI .i64 ((⟨b1, 0⟩ : Ptr).add 2) (fun x26 => rdI .i64 ((⟨b1, 0⟩ : Ptr).add 3) (fun x27 => vintc_Intc_Weigh a1 x26 x27 (fun r28 h => Q (r28 == 2) h) h) h) h) (rdI .i64 ((⟨b1, 0⟩ : Ptr).add 3) (fun x29 => br (decide (x29 > 7)) (rdI .i64 ((⟨b1, 0⟩ : Ptr).add 2) (fun x30 => rdI .i64 ((⟨b1, 0⟩ : Ptr).add 3) (fun x31 => vintc_Intc_Weigh a1 x30 x31 (fun r32 h => Q (r32 == 2) h) h) h) h) (rdI .i64 ((⟨b1, 0⟩ : Ptr).add 2) (fun x33 => rdI .i64 ((⟨b1, 0⟩ : Ptr).add 3) (fun x34 => der a2 (fun p35 => ix x33 17 (fun n36 => wr (((p35.add 1).add (n36 * 7)).add 2) (.int .i64 x34) (fun h => rdI .i64 ((⟨b1, 0⟩ : Ptr).add 2) (fun x37 => rdI .i64 ((⟨b1, 0⟩ : Ptr).add 3) (fun x38 => vintc_Intc_Weigh a1 x37 x38 (fun r39 h => Q (r39 == 0) h) h) h) h) h))) h) h)) h)) h)) h) h) (br (x2 == 3) (rdI .i64 ((⟨b1, 0⟩ : Ptr).add 1) (fun x40 => palisaderef20_Intc_Has a2 x40 (fun r41 h => br (!r41) (rdI .i64 ((⟨b1, 0⟩ : Ptr).add 1) (fun x42 => rdI .i64 ((⟨b1, 0⟩ : Ptr).add 3) (fun x43 => vintc_Intc_Bar a1 x42 x43 (fun r44 h => Q (r44 == 2) h) h) h) h) (rdI .i64 ((⟨b1, 0⟩ : Ptr).add 3) (fun x45 => br (decide (x45 < 0)) (rdI .i64 ((⟨b1, 0⟩ : Ptr).add 1) (fun x46 => rdI .i64 ((⟨b1, 0⟩ : Ptr).add 3) (fun x47 => vintc_Intc_Bar a1 x46 x47 (fun r48 h => Q (r48 == 2) h) h) h) h) (rdI .i64 ((⟨b1, 0⟩ : Ptr).add 3) (fun x49 => br (decide (x49 > 7)) (rdI .i64 ((⟨b1, 0⟩ : Ptr).add 1) (fun x50 => rdI .i64 ((⟨b1, 0⟩ : Ptr).add 3) (fun x51 => vintc_Intc_Bar a1 x50 x51 (fun r52 h => Q (r52 == 2) h) h) h) h) (rdI .i64 ((⟨b1, 0⟩ : Ptr).add 1) (fun x53 => rdI .i64 ((⟨b1, 0⟩ : Ptr).add 3) (fun x54 => der a2 (fun p55 => ix x53 4 (fun n56 => wr ((p55.add 120).add (n56 * 1)) (.int .i64 x54) (fun h => rdI .i64 ((⟨b1, 0⟩ : Ptr).add 1) (fun x57 => rdI .i64 ((⟨b1, 0⟩ : Ptr).add 3) (fun x58 => vintc_Intc_Bar a1 x57 x58 (fun r59 h => Q (r59 == 0) h) h) h) h) h))) h) h)) h)) h)) h) h) (br (x2 == 4) (rdI .i64 ((⟨b1, 0⟩ : Ptr).add 1) (fun x60 => vintc_Intc_Claim a1 x60 (fun r61 r62 h => rdI .i64 ((⟨b1, 0⟩ : Ptr).add 1) (fun x63 => palisaderef20_Intc_Claim a2 x63 (fun r64 r65 h => br (r61 == r64) (Q (r62 == r65) h) (Q false h)) h) h) h) h) (br (x2 == 5) (rdI .i64 ((⟨b1, 0⟩ : Ptr).add 1) (fun x66 => rdI .i64 ((⟨b1, 0⟩ : Ptr).add 2) (fun x67 => rdI .i64 ((⟨b1, 0⟩ : Ptr).add 1) (fun x68 => rdI .i64 ((⟨b1, 0⟩ : Ptr).add 2) (fun x69 => vintc_Intc_Complete a1 x66 x67 (fun r70 h => ck ((⟨b1, 0⟩ : Ptr).add 2) [.int .i64 x69] 0 h ∧ ck ((⟨b1, 0⟩ : Ptr).add 1) [.int .i64 x68] 0 h ∧ (palisaderef20_Intc_Complete a2 x68 x69 (fun r71 h => Q (r70 == r71) h) h)) h) h) h) h) h) (br (x2 == 6) (rdI .i64 ((⟨b1, 0⟩ : Ptr).add 1) (fun x72 => palisaderef20_Intc_Has a2 x72 (fun r73 h => br (!r73) (rdI .i64 ((⟨b1, 0⟩ : Ptr).add 1) (fun x74 => vintc_Intc_Poke a1 x74 (fun r75 h => Q (r75 == 2) h) h) h) (rdI .i64 ((⟨b1, 0⟩ : Ptr).add 1) (fun x76 => der a2 (fun p77 => ix x76 4 (fun n78 => wr ((p77.add 124).add (n78 * 1)) (.bool true) (fun h => rdI .i64 ((⟨b1, 0⟩ : Ptr).add 1) (fun x79 => vintc_Intc_Poke a1 x79 (fun r80 h => Q (r80 == 0) h) h) h) h))) h)) h) h) (br (x2 == 7) (rdI .i64 ((⟨b1, 0⟩ : Ptr).add 1) (fun x81 => palisaderef20_Intc_Has a2 x81 (fun r82 h => br r82 (rdI .i64 ((⟨b1, 0⟩ : Ptr).add 1) (fun x83 => der a2 (fun p84 => ix x83 4 (fun n85 => rdB ((p84.add 124).add (n85 * 1)) (fun x86 => rdI .i64 ((⟨b1, 0⟩ : Ptr).add 1) (fun x87 => der a2 (fun p88 => ix x87 4 (fun n89 => wr ((p88.add 124).add (n89 * 1)) (.bool false) (fun h => rdI .i64 ((⟨b1, 0⟩ : Ptr).add 1) (fun x90 => vintc_Intc_Soft a1 x90 (fun r91 h => Q (r91 == x86) h) h) h) h))) h) h))) h) (rdI .i64 ((⟨b1, 0⟩ : Ptr).add 1) (fun x92 => vintc_Intc_Soft a1 x92 (fun r93 h => Q (r93 == false) h) h) h)) h) h) (Q true h))))))))) h) h

def palisadelaw20_VintcPlays.j4   (Q : Bool → Heap → Prop) (h : Heap) : Prop :=
  Q false h

def palisadelaw20_VintcPlays.j14 (I6 : Sl → (Option Ptr) → (Option Ptr) → Int → Heap → Prop) (I11 : Sl → (Option Ptr) → (Option Ptr) → Int → Int → Heap → Prop)  (Q : Bool → Heap → Prop) (h : Heap) : Prop :=
  Q false h

def palisadelaw20_VintcPlays.j12 (I6 : Sl → (Option Ptr) → (Option Ptr) → Int → Heap → Prop) (I11 : Sl → (Option Ptr) → (Option Ptr) → Int → Int → Heap → Prop) (a1 : Sl) (a2 : Option Ptr) (a3 : Option Ptr) (a4 : Int) (a5 : Int) (Q : Bool → Heap → Prop) (h : Heap) : Prop :=
  I11 a1 a2 a3 a4 (IntKind.i64.wrap (a5 + 1)) h

def palisadelaw20_VintcPlays.j20 (I6 : Sl → (Option Ptr) → (Option Ptr) → Int → Heap → Prop) (I16 : Sl → (Option Ptr) → (Option Ptr) → Int → Int → Heap → Prop)  (Q : Bool → Heap → Prop) (h : Heap) : Prop :=
  Q false h

def palisadelaw20_VintcPlays.j17 (I6 : Sl → (Option Ptr) → (Option Ptr) → Int → Heap → Prop) (I16 : Sl → (Option Ptr) → (Option Ptr) → Int → Int → Heap → Prop) (a1 : Sl) (a2 : Option Ptr) (a3 : Option Ptr) (a4 : Int) (a5 : Int) (Q : Bool → Heap → Prop) (h : Heap) : Prop :=
  I16 a1 a2 a3 a4 (IntKind.i64.wrap (a5 + 1)) h

def palisadelaw20_VintcPlays.b16 (I6 : Sl → (Option Ptr) → (Option Ptr) → Int → Heap → Prop) (I16 : Sl → (Option Ptr) → (Option Ptr) → Int → Int → Heap → Prop) (a1 : Sl) (a2 : Option Ptr) (a3 : Option Ptr) (a4 : Int) (a5 : Int) (Q : Bool → Heap → Prop) (h : Heap) : Prop :=
  br (decide (a5 ≤ 17)) (vintc_Intc_Told a2 a5 (fun r1 r2 h => palisaderef20_Is a5 (fun r3 h => br r3 (der a3 (fun p4 => ix a5 17 (fun n5 => rdB (((p4.add 1).add (n5 * 7)).add 0) (fun x6 => br (!(r1 == x6)) (palisadelaw20_VintcPlays.j20 I6 I16 Q h) (der a3 (fun p7 => ix a5 17 (fun n8 => rdI .i64 (((p7.add 1).add (n8 * 7)).add 1) (fun x9 => br (r2 != x9) (palisadelaw20_VintcPlays.j20 I6 I16 Q h) (palisaderef20_Is a5 (fun r10 h => br (!r10) (br r1 (palisadelaw20_VintcPlays.j20 I6 I16 Q h) (br (r2 != (-1)) (palisadelaw20_VintcPlays.j20 I6 I16 Q h) (palisadelaw20_VintcPlays.j17 I6 I16 a1 a2 a3 a4 a5 Q h))) (palisadelaw20_VintcPlays.j17 I6 I16 a1 a2 a3 a4 a5 Q h)) h)) h)))) h))) (palisaderef20_Is a5 (fun r11 h => br (!r11) (br r1 (palisadelaw20_VintcPlays.j20 I6 I16 Q h) (br (r2 != (-1)) (palisadelaw20_VintcPlays.j20 I6 I16 Q h) (palisadelaw20_VintcPlays.j17 I6 I16 a1 a2 a3 a4 a5 Q h))) (palisadelaw20_VintcPlays.j17 I6 I16 a1 a2 a3 a4 a5 Q h)) h)) h) h) (I6 a1 a2 a3 (IntKind.i64.wrap (a4 + 1)) h)

def palisadelaw20_VintcPlays.j16 (I6 : Sl → (Option Ptr) → (Option Ptr) → Int → Heap → Prop) (a1 : Sl) (a2 : Option Ptr) (a3 : Option Ptr) (a4 : Int) (a5 : Int) (Q : Bool → Heap → Prop) (h : Heap) : Prop :=
  ∀ I : Sl → (Option Ptr) → (Option Ptr) → Int → Int → Heap → Prop, (∀ a1 a2 a3 a4 a5 h, palisadelaw20_VintcPlays.b16 I6 I a1 a2 a3 a4 a5 Q h → I a1 a2 a3 a4 a5 h) → I a1 a2 a3 a4 a5 h

def palisadelaw20_VintcPlays.b11 (I6 : Sl → (Option Ptr) → (Option Ptr) → Int → Heap → Prop) (I11 : Sl → (Option Ptr) → (Option Ptr) → Int → Int → Heap → Prop) (a1 : Sl) (a2 : Option Ptr) (a3 : Option Ptr) (a4 : Int) (a5 : Int) (Q : Bool → Heap → Prop) (h : Heap) : Prop :=
  br (decide (a5 ≤ 4)) (vintc_Intc_Line a2 a5 (fun r1 h => palisaderef20_Intc_Has a3 a5 (fun r2 h => br r2 (palisaderef20_Intc_First a3 a5 (fun r3 h => br (!(r1 == (decide (r3 > 0)))) (palisadelaw20_VintcPlays.j14 I6 I11 Q h) (palisadelaw20_VintcPlays.j12 I6 I11 a1 a2 a3 a4 a5 Q h)) h) (br (!(r1 == false)) (palisadelaw20_VintcPlays.j14 I6 I11 Q h) (palisadelaw20_VintcPlays.j12 I6 I11 a1 a2 a3 a4 a5 Q h))) h) h) (palisadelaw20_VintcPlays.j16 I6 a1 a2 a3 a4 0 Q h)

def palisadelaw20_VintcPlays.j11 (I6 : Sl → (Option Ptr) → (Option Ptr) → Int → Heap → Prop) (a1 : Sl) (a2 : Option Ptr) (a3 : Option Ptr) (a4 : Int) (a5 : Int) (Q : Bool → Heap → Prop) (h : Heap) : Prop :=
  ∀ I : Sl → (Option Ptr) → (Option Ptr) → Int → Int → Heap → Prop, (∀ a1 a2 a3 a4 a5 h, palisadelaw20_VintcPlays.b11 I6 I a1 a2 a3 a4 a5 Q h → I a1 a2 a3 a4 a5 h) → I a1 a2 a3 a4 a5 h

def palisadelaw20_VintcPlays.b6  (I6 : Sl → (Option Ptr) → (Option Ptr) → Int → Heap → Prop) (a1 : Sl) (a2 : Option Ptr) (a3 : Option Ptr) (a4 : Int) (Q : Bool → Heap → Prop) (h : Heap) : Prop :=
  br (decide (a4 < (a1.len : Int))) (br (!a3.isNone) (ix a4 a1.len (fun n1 => der a1.p (fun p2 => rdI .i64 ((p2.add (n1 * 5)).add 0) (fun x3 => rdI .i64 ((p2.add (n1 * 5)).add 1) (fun x4 => rdI .i64 ((p2.add (n1 * 5)).add 2) (fun x5 => rdI .i64 ((p2.add (n1 * 5)).add 3) (fun x6 => rdB ((p2.add (n1 * 5)).add 4) (fun x7 => palisadelaw20_does a2 a3 x3 x4 x5 x6 x7 (fun r8 h => br (!r8) (Q false h) (palisadelaw20_VintcPlays.j11 I6 a1 a2 a3 a4 (-1) Q h)) h) h) h) h) h) h))) (Q true h)) (Q true h)

def palisadelaw20_VintcPlays.j6  (a1 : Sl) (a2 : Option Ptr) (a3 : Option Ptr) (a4 : Int) (Q : Bool → Heap → Prop) (h : Heap) : Prop :=
  ∀ I : Sl → (Option Ptr) → (Option Ptr) → Int → Heap → Prop, (∀ a1 a2 a3 a4 h, palisadelaw20_VintcPlays.b6  I a1 a2 a3 a4 Q h → I a1 a2 a3 a4 h) → I a1 a2 a3 a4 h

def palisadelaw20_VintcPlays (a1 : Int) (a2 : Sl) (Q : Bool → Heap → Prop) (h : Heap) : Prop :=
  vintc_New a1 (fun r1 r2 h => palisaderef20_New a1 (fun r3 r4 h => br (r2 != r4) (palisadelaw20_VintcPlays.j4 Q h) (br (!(r1.isNone == r3.isNone)) (palisadelaw20_VintcPlays.j4 Q h) (palisadelaw20_names (fun r5 h => br (!r5) (palisadelaw20_VintcPlays.j4 Q h) (palisadelaw20_VintcPlays.j6 a2 r1 r3 0 Q h)) h))) h) h

end Go.Fn
