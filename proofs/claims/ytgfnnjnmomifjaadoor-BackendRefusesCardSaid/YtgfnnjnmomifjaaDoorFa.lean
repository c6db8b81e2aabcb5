/- The shallow functions. PRINTED by lift.py. -/
import Derived.Test.YtgfnnjnmomifjaaDoorLiftB
set_option linter.unusedVariables false
set_option maxRecDepth 100000
namespace Go.Fn
open Go.Lift

def z_palisade_frames_Frames : List V := [.int .i64 0, .int .i64 0, .map none, .map none, .int .i64 0, .int .i64 0, .int .i64 0, .int .i64 0, .int .i64 0, .int .i64 0, .int .i64 0, .int .i64 0, .int .i64 0, .int .i64 0, .int .i64 0, .int .i64 0, .int .i64 0, .int .i64 0, .int .i64 0, .int .i64 0, .int .i64 0, .int .i64 0, .int .i64 0, .int .i64 0, .int .i64 0, .int .i64 0, .int .i64 0, .int .i64 0, .int .i64 0, .int .i64 0, .int .i64 0, .int .i64 0, .int .i64 0, .int .i64 0, .int .i64 0, .int .i64 0, .int .i64 0, .int .i64 0, .int .i64 0]
def z_palisade_palisadelaw24_World : List V := [.ptr none, .ptr none, .ptr none, .ptr none, .ptr none, .ptr none, .ptr none, .ptr none, .ptr none]
def z_palisade_backend_Block : List V := [.ptr none, .ptr none, .int .i64 0, .int .i64 0, .ptr none, .int .i64 0, .int .i64 0, .map none]
def z_17_int : List V := [.int .i64 0, .int .i64 0, .int .i64 0, .int .i64 0, .int .i64 0, .int .i64 0, .int .i64 0, .int .i64 0, .int .i64 0, .int .i64 0, .int .i64 0, .int .i64 0, .int .i64 0, .int .i64 0, .int .i64 0, .int .i64 0, .int .i64 0]

def mem_New (a1 : Int) (Q : (Option Ptr) → Int → Heap → Prop) (h : Heap) : Prop :=
  br (decide (a1 < 1)) (Q none 2 h) (br (decide (a1 > 65536)) (Q none 2 h) (mkSl 1 [.int .u8 0] (IntKind.i64.wrap (a1 * 256)) (IntKind.i64.wrap (a1 * 256)) (fun s1 h => al [.sl s1] (fun b2 h => Q (some (⟨b2, 0⟩ : Ptr)) 0 h) h) h))

def frames_New.j2   (Q : (Option Ptr) → Int → Heap → Prop) (h : Heap) : Prop :=
  Q none 2 h

def frames_New.b11  (I11 : Int → Ptr → Int → Heap → Prop) (a1 : Int) (a2 : Ptr) (a3 : Int) (Q : (Option Ptr) → Int → Heap → Prop) (h : Heap) : Prop :=
  br (decide (a3 < 17)) (ix a3 17 (fun n1 => wr ((a2.add 21).add (n1 * 1)) (.int .i64 a1) (fun h => I11 a1 a2 (IntKind.i64.wrap (a3 + 1)) h) h)) (Q (some a2) 0 h)

def frames_New.j11  (a1 : Int) (a2 : Ptr) (a3 : Int) (Q : (Option Ptr) → Int → Heap → Prop) (h : Heap) : Prop :=
  ∀ I : Int → Ptr → Int → Heap → Prop, (∀ a1 a2 a3 h, frames_New.b11  I a1 a2 a3 Q h → I a1 a2 a3 h) → I a1 a2 a3 h

def frames_New.b5  (I5 : Int → Int → Ptr → Int → Int → Heap → Prop) (a1 : Int) (a2 : Int) (a3 : Ptr) (a4 : Int) (a5 : Int) (Q : (Option Ptr) → Int → Heap → Prop) (h : Heap) : Prop :=
  br (decide (a5 < a4)) (rdM (a3.add 2) (fun x1 => mapPut (.int .i64) x1 (.int .i64 a5) (.int .i64 1) (fun h => I5 a1 a2 a3 a4 (IntKind.i64.wrap (a5 + 1)) h) h) h) (ix 0 17 (fun n2 => wr ((a3.add 4).add (n2 * 1)) (.int .i64 a2) (fun h => frames_New.j11 a1 a3 0 Q h) h))

def frames_New.j5  (a1 : Int) (a2 : Int) (a3 : Ptr) (a4 : Int) (a5 : Int) (Q : (Option Ptr) → Int → Heap → Prop) (h : Heap) : Prop :=
  ∀ I : Int → Int → Ptr → Int → Int → Heap → Prop, (∀ a1 a2 a3 a4 a5 h, frames_New.b5  I a1 a2 a3 a4 a5 Q h → I a1 a2 a3 a4 a5 h) → I a1 a2 a3 a4 a5 h

def frames_New.j4  (a1 : Int) (a2 : Int) (a3 : Ptr) (Q : (Option Ptr) → Int → Heap → Prop) (h : Heap) : Prop :=
  frames_New.j5 a1 a2 a3 a2 0 Q h

def frames_New (a1 : Int) (a2 : Int) (Q : (Option Ptr) → Int → Heap → Prop) (h : Heap) : Prop :=
  br (decide (a1 < 1)) (frames_New.j2 Q h) (br (decide (a1 > 65536)) (frames_New.j2 Q h) (br (decide (a2 < 0)) (frames_New.j2 Q h) (br (decide (a2 > a1)) (frames_New.j2 Q h) (alM (.int .i64) (fun b1 h => alM (.int .i64) (fun b2 h => (putCells (putCells (putCells (putCells (putCells z_palisade_frames_Frames 0 [.int .i64 a1]) 1 [.int .i64 a2]) 2 [.map (some b1)]) 3 [.map (some b2)]) 38 [.int .i64 a2]).length = 39 ∧ al (putCells (putCells (putCells (putCells (putCells z_palisade_frames_Frames 0 [.int .i64 a1]) 1 [.int .i64 a2]) 2 [.map (some b1)]) 3 [.map (some b2)]) 38 [.int .i64 a2]) (fun b3 h => frames_New.j4 a1 a2 (⟨b3, 0⟩ : Ptr) Q h) h) h) h))))

def disk_New (a1 : Int) (Q : (Option Ptr) → Int → Heap → Prop) (h : Heap) : Prop :=
  br (decide (a1 < 1)) (Q none 2 h) (br (decide (a1 > 65536)) (Q none 2 h) (alM (.int .i64) (fun b1 h => al [.int .i64 a1, .map (some b1), .sl ⟨none, 0, 0⟩] (fun b2 h => Q (some (⟨b2, 0⟩ : Ptr)) 0 h) h) h))

def frames_Frames_none (a1 : Option Ptr) (Q : Bool → Heap → Prop) (h : Heap) : Prop :=
  br a1.isNone (Q true h) (der a1 (fun p1 => rdM (p1.add 2) (fun x2 => Q x2.isNone h) h))

def frames_isOwner (a1 : Int) (Q : Bool → Heap → Prop) (h : Heap) : Prop :=
  br (decide (a1 ≥ 0)) (Q (decide (a1 < 17)) h) (Q false h)

def frames_Frames_owned.b4  (I4 : Sl → Int → Int → Heap → Prop) (a1 : Sl) (a2 : Int) (a3 : Int) (Q : Int → Heap → Prop) (h : Heap) : Prop :=
  br (decide (a3 < a2)) (ix a3 a1.len (fun n1 => der a1.p (fun p2 => rdI .i64 (p2.add (n1 * 1)) (fun x3 => frames_isOwner x3 (fun r4 h => br (!r4) (Q 2 h) (I4 a1 a2 (IntKind.i64.wrap (a3 + 1)) h)) h) h))) (Q 0 h)

def frames_Frames_owned.j4  (a1 : Sl) (a2 : Int) (a3 : Int) (Q : Int → Heap → Prop) (h : Heap) : Prop :=
  ∀ I : Sl → Int → Int → Heap → Prop, (∀ a1 a2 a3 h, frames_Frames_owned.b4  I a1 a2 a3 Q h → I a1 a2 a3 h) → I a1 a2 a3 h

def frames_Frames_owned (a1 : Option Ptr) (a2 : Sl) (Q : Int → Heap → Prop) (h : Heap) : Prop :=
  frames_Frames_none a1 (fun r1 h => br r1 (Q 1 h) (frames_Frames_owned.j4 a2 ((a2.len : Nat) : Int) 0 Q h)) h

def frames_Frames_Alloc.j11  (a1 : Option Ptr) (a2 : Int) (Q : Int → Int → Heap → Prop) (h : Heap) : Prop :=
  der a1 (fun p1 => ix a2 17 (fun n2 => rdI .i64 ((p1.add 4).add (n2 * 1)) (fun x3 => der a1 (fun p4 => ix a2 17 (fun n5 => wr ((p4.add 4).add (n5 * 1)) (.int .i64 (IntKind.i64.wrap (x3 + 1))) (fun h => der a1 (fun p6 => rdI .i64 (p6.add 38) (fun x7 => Q x7 0 h) h)) h))) h))

def frames_Frames_Alloc.j8  (a1 : Option Ptr) (a2 : Int) (Q : Int → Int → Heap → Prop) (h : Heap) : Prop :=
  der a1 (fun p1 => rdI .i64 (p1.add 38) (fun x2 => der a1 (fun p3 => rdI .i64 (p3.add 0) (fun x4 => br (x2 == x4) (Q 0 20 h) (der a1 (fun p5 => rdM (p5.add 2) (fun x6 => der a1 (fun p7 => rdI .i64 (p7.add 38) (fun x8 => der a1 (fun p9 => rdM (p9.add 3) (fun x10 => der a1 (fun p11 => rdI .i64 (p11.add 38) (fun x12 => mapEnt (.int .i64) x6 (.int .i64 x8) (.int .i64 0) (fun r13 b14 h => asI .i64 r13 (fun x15 => entPut x6 b14 (.int .i64 1) (fun h => mapEnt (.int .i64) x10 (.int .i64 x12) (.int .i64 0) (fun r16 b17 h => asI .i64 r16 (fun x18 => entPut x10 b17 (.int .i64 a2) (fun h => frames_Frames_Alloc.j11 a1 a2 Q h) h)) h) h)) h) h)) h)) h)) h))) h)) h)

def frames_Frames_Alloc.b6  (I6 : (Option Ptr) → Int → Heap → Prop) (a1 : Option Ptr) (a2 : Int) (Q : Int → Int → Heap → Prop) (h : Heap) : Prop :=
  der a1 (fun p1 => rdI .i64 (p1.add 38) (fun x2 => der a1 (fun p3 => rdI .i64 (p3.add 0) (fun x4 => br (decide (x2 < x4)) (der a1 (fun p5 => rdM (p5.add 2) (fun x6 => der a1 (fun p7 => rdI .i64 (p7.add 38) (fun x8 => mapGet (.int .i64) x6 (.int .i64 x8) (fun o9 => asI .i64 (o9.getD (.int .i64 0)) (fun x10 => br (decide (x10 > 0)) (der a1 (fun p11 => rdI .i64 (p11.add 38) (fun x12 => der a1 (fun p13 => wr (p13.add 38) (.int .i64 (IntKind.i64.wrap (x12 + 1))) (fun h => I6 a1 a2 h) h)) h)) (frames_Frames_Alloc.j8 a1 a2 Q h))) h) h)) h)) (frames_Frames_Alloc.j8 a1 a2 Q h)) h)) h)

def frames_Frames_Alloc.j6  (a1 : Option Ptr) (a2 : Int) (Q : Int → Int → Heap → Prop) (h : Heap) : Prop :=
  ∀ I : (Option Ptr) → Int → Heap → Prop, (∀ a1 a2 h, frames_Frames_Alloc.b6  I a1 a2 Q h → I a1 a2 h) → I a1 a2 h

def frames_Frames_Alloc (a1 : Option Ptr) (a2 : Int) (Q : Int → Int → Heap → Prop) (h : Heap) : Prop :=
  al [.int .i64 a2] (fun b1 h => frames_Frames_owned a1 ⟨some ⟨b1, 0⟩, 1, 1⟩ (fun r2 h => br (r2 != 0) (Q 0 r2 h) (der a1 (fun p3 => ix a2 17 (fun n4 => rdI .i64 ((p3.add 4).add (n4 * 1)) (fun x5 => der a1 (fun p6 => ix a2 17 (fun n7 => rdI .i64 ((p6.add 21).add (n7 * 1)) (fun x8 => br (decide (x5 ≥ x8)) (Q 0 19 h) (frames_Frames_Alloc.j6 a1 a2 Q h)) h))) h)))) h) h

def ring_right (a1 : Int) (Q : Bool → Heap → Prop) (h : Heap) : Prop :=
  br (decide (a1 ≥ 1)) (br (decide (a1 ≤ 64)) (Q ((ibits .and .i64 a1 (IntKind.i64.wrap (a1 - 1))) == 0) h) (Q false h)) (Q false h)

def ring_New (a1 : Int) (a2 : Int) (Q : (Option Ptr) → Int → Heap → Prop) (h : Heap) : Prop :=
  ring_right a2 (fun r1 h => br (!r1) (Q none 2 h) (nz 8 (br ((a1.tmod 8) != 0) (Q none 2 h) (br (decide (a1 > 1099511627776)) (Q none 2 h) (al [.int .u64 a1, .int .u64 (IntKind.u64.wrap a2), .int .u64 0, .int .u64 0, .bool false] (fun b2 h => Q (some (⟨b2, 0⟩ : Ptr)) 0 h) h))))) h

def disk_Disk_none (a1 : Option Ptr) (Q : Bool → Heap → Prop) (h : Heap) : Prop :=
  br a1.isNone (Q true h) (der a1 (fun p1 => rdM (p1.add 1) (fun x2 => Q x2.isNone h) h))

def disk_Disk_Blocks (a1 : Option Ptr) (Q : Int → Heap → Prop) (h : Heap) : Prop :=
  disk_Disk_none a1 (fun r1 h => br r1 (Q 0 h) (der a1 (fun p2 => rdI .i64 (p2.add 0) (fun x3 => Q x3 h) h))) h

def backend_NewBlock.j4   (Q : (Option Ptr) → Int → Heap → Prop) (h : Heap) : Prop :=
  Q none 2 h

def backend_NewBlock.j5  (a1 : Option Ptr) (a2 : Option Ptr) (a3 : Int) (a4 : Int) (a5 : Option Ptr) (a6 : Int) (Q : (Option Ptr) → Int → Heap → Prop) (h : Heap) : Prop :=
  alM (.int .i64) (fun b1 h => al [.ptr a1, .ptr a2, .int .i64 a3, .int .i64 a4, .ptr a5, .int .i64 a6, .int .i64 0, .map (some b1)] (fun b2 h => Q (some (⟨b2, 0⟩ : Ptr)) 0 h) h) h

def backend_NewBlock (a1 : Option Ptr) (a2 : Option Ptr) (a3 : Int) (a4 : Int) (a5 : Option Ptr) (a6 : Int) (Q : (Option Ptr) → Int → Heap → Prop) (h : Heap) : Prop :=
  br a1.isNone (Q none 1 h) (br a2.isNone (Q none 1 h) (br a5.isNone (Q none 1 h) (br (decide (a6 < 1)) (backend_NewBlock.j4 Q h) (br (decide (a6 > 16)) (backend_NewBlock.j4 Q h) (br (decide (a3 < 0)) (backend_NewBlock.j4 Q h) (br (decide (a4 < 0)) (backend_NewBlock.j4 Q h) (disk_Disk_Blocks a2 (fun r1 h => br (decide (a3 > r1)) (backend_NewBlock.j4 Q h) (disk_Disk_Blocks a2 (fun r2 h => br (decide (a4 > (IntKind.i64.wrap (r2 - a3)))) (backend_NewBlock.j4 Q h) (backend_NewBlock.j5 a1 a2 a3 a4 a5 a6 Q h)) h)) h)))))))

def palisadelaw24_begin.j5   (Q : (Option Ptr) → Heap → Prop) (h : Heap) : Prop :=
  Q none h

def palisadelaw24_begin.j16 (I8 : (Option Ptr) → (Option Ptr) → (Option Ptr) → Ptr → Int → Heap → Prop) (I12 : (Option Ptr) → (Option Ptr) → (Option Ptr) → Ptr → Int → Int → Heap → Prop)  (Q : (Option Ptr) → Heap → Prop) (h : Heap) : Prop :=
  Q none h

def palisadelaw24_begin.j20 (I8 : (Option Ptr) → (Option Ptr) → (Option Ptr) → Ptr → Int → Heap → Prop)  (Q : (Option Ptr) → Heap → Prop) (h : Heap) : Prop :=
  Q none h

def palisadelaw24_begin.j9 (I8 : (Option Ptr) → (Option Ptr) → (Option Ptr) → Ptr → Int → Heap → Prop) (a1 : Option Ptr) (a2 : Option Ptr) (a3 : Option Ptr) (a4 : Ptr) (a5 : Int) (Q : (Option Ptr) → Heap → Prop) (h : Heap) : Prop :=
  I8 a1 a2 a3 a4 (IntKind.i64.wrap (a5 + 1)) h

def palisadelaw24_begin.j21 (I8 : (Option Ptr) → (Option Ptr) → (Option Ptr) → Ptr → Int → Heap → Prop) (a1 : Option Ptr) (a2 : Option Ptr) (a3 : Option Ptr) (a4 : Ptr) (a5 : Int) (a6 : Option Ptr) (a7 : Option Ptr) (Q : (Option Ptr) → Heap → Prop) (h : Heap) : Prop :=
  ix a5 2 (fun n1 => wr ((a4.add 5).add (n1 * 1)) (.ptr a6) (fun h => ix a5 2 (fun n2 => wr ((a4.add 7).add (n2 * 1)) (.ptr a7) (fun h => palisadelaw24_begin.j9 I8 a1 a2 a3 a4 a5 Q h) h)) h)

def palisadelaw24_begin.b12 (I8 : (Option Ptr) → (Option Ptr) → (Option Ptr) → Ptr → Int → Heap → Prop) (I12 : (Option Ptr) → (Option Ptr) → (Option Ptr) → Ptr → Int → Int → Heap → Prop) (a1 : Option Ptr) (a2 : Option Ptr) (a3 : Option Ptr) (a4 : Ptr) (a5 : Int) (a6 : Int) (Q : (Option Ptr) → Heap → Prop) (h : Heap) : Prop :=
  br (decide (a6 < 16)) (frames_Frames_Alloc a2 (IntKind.i64.wrap (1 + a5)) (fun r1 r2 h => br (r1 != (IntKind.i64.wrap ((IntKind.i64.wrap (4 + (IntKind.i64.wrap (16 * a5)))) + a6))) (palisadelaw24_begin.j16 I8 I12 Q h) (br (r2 != 0) (palisadelaw24_begin.j16 I8 I12 Q h) (I12 a1 a2 a3 a4 a5 (IntKind.i64.wrap (a6 + 1)) h))) h) (ring_New 0 8 (fun r3 r4 h => backend_NewBlock r3 a3 (IntKind.i64.wrap (4 * a5)) 4 a2 (IntKind.i64.wrap (1 + a5)) (fun r5 r6 h => br (r4 != 0) (palisadelaw24_begin.j20 I8 Q h) (br (r6 != 0) (palisadelaw24_begin.j20 I8 Q h) (br r5.isNone (palisadelaw24_begin.j20 I8 Q h) (palisadelaw24_begin.j21 I8 a1 a2 a3 a4 a5 r3 r5 Q h)))) h) h)

def palisadelaw24_begin.j12 (I8 : (Option Ptr) → (Option Ptr) → (Option Ptr) → Ptr → Int → Heap → Prop) (a1 : Option Ptr) (a2 : Option Ptr) (a3 : Option Ptr) (a4 : Ptr) (a5 : Int) (a6 : Int) (Q : (Option Ptr) → Heap → Prop) (h : Heap) : Prop :=
  ∀ I : (Option Ptr) → (Option Ptr) → (Option Ptr) → Ptr → Int → Int → Heap → Prop, (∀ a1 a2 a3 a4 a5 a6 h, palisadelaw24_begin.b12 I8 I a1 a2 a3 a4 a5 a6 Q h → I a1 a2 a3 a4 a5 a6 h) → I a1 a2 a3 a4 a5 a6 h

def palisadelaw24_begin.b8  (I8 : (Option Ptr) → (Option Ptr) → (Option Ptr) → Ptr → Int → Heap → Prop) (a1 : Option Ptr) (a2 : Option Ptr) (a3 : Option Ptr) (a4 : Ptr) (a5 : Int) (Q : (Option Ptr) → Heap → Prop) (h : Heap) : Prop :=
  br (decide (a5 < 2)) (al [.ptr a1, .int .i64 (IntKind.i64.wrap (4 + (IntKind.i64.wrap (16 * a5)))), .int .i64 16] (fun b1 h => ix a5 2 (fun n2 => wr ((a4.add 3).add (n2 * 1)) (.ptr (some (⟨b1, 0⟩ : Ptr))) (fun h => palisadelaw24_begin.j12 I8 a1 a2 a3 a4 a5 0 Q h) h)) h) (Q (some a4) h)

def palisadelaw24_begin.j8  (a1 : Option Ptr) (a2 : Option Ptr) (a3 : Option Ptr) (a4 : Ptr) (a5 : Int) (Q : (Option Ptr) → Heap → Prop) (h : Heap) : Prop :=
  ∀ I : (Option Ptr) → (Option Ptr) → (Option Ptr) → Ptr → Int → Heap → Prop, (∀ a1 a2 a3 a4 a5 h, palisadelaw24_begin.b8  I a1 a2 a3 a4 a5 Q h → I a1 a2 a3 a4 a5 h) → I a1 a2 a3 a4 a5 h

def palisadelaw24_begin.j6  (a1 : Option Ptr) (a2 : Option Ptr) (a3 : Option Ptr) (Q : (Option Ptr) → Heap → Prop) (h : Heap) : Prop :=
  al [.ptr a1, .ptr a2, .ptr a3, .ptr none, .ptr none, .ptr none, .ptr none, .ptr none, .ptr none] (fun b1 h => palisadelaw24_begin.j8 a1 a2 a3 (⟨b1, 0⟩ : Ptr) 0 Q h) h

def palisadelaw24_begin  (Q : (Option Ptr) → Heap → Prop) (h : Heap) : Prop :=
  mem_New 40 (fun r1 r2 h => frames_New 40 4 (fun r3 r4 h => disk_New 12 (fun r5 r6 h => br (r2 != 0) (palisadelaw24_begin.j5 Q h) (br (r4 != 0) (palisadelaw24_begin.j5 Q h) (br (r6 != 0) (palisadelaw24_begin.j5 Q h) (br r1.isNone (palisadelaw24_begin.j5 Q h) (br r3.isNone (palisadelaw24_begin.j5 Q h) (br r5.isNone (palisadelaw24_begin.j5 Q h) (palisadelaw24_begin.j6 r1 r3 r5 Q h))))))) h) h) h

def mem_Memory_none (a1 : Option Ptr) (Q : Bool → Heap → Prop) (h : Heap) : Prop :=
  br a1.isNone (Q true h) (der a1 (fun p1 => rdSl (p1.add 0) (fun x2 => Q x2.p.isNone h) h))

def mem_Memory_part_c1 (a1 : Ptr) (a2 : Ptr) (a3 : Ptr) (Q : Bool → Heap → Prop) (h : Heap) : Prop :=
  rdI .i64 a1 (fun x1 => rdP a2 (fun x2 => der x2 (fun p3 => rdSl (p3.add 0) (fun x4 => br (decide (x1 ≤ ((x4.len : Nat) : Int))) (rdI .u64 a3 (fun x5 => rdP a2 (fun x6 => der x6 (fun p7 => rdSl (p7.add 0) (fun x8 => rdI .i64 a1 (fun x9 => Q (decide (x5 ≤ (IntKind.u64.wrap (IntKind.i64.wrap (((x8.len : Nat) : Int) - x9))))) h) h) h)) h) h) (Q false h)) h)) h) h

def mem_Memory_part (a1 : Option Ptr) (a2 : Int) (a3 : Int) (Q : Sl → Int → Heap → Prop) (h : Heap) : Prop :=
  al [.ptr a1] (fun b1 h => al [.int .u64 a2] (fun b2 h => al [.int .i64 a3] (fun b3 h => rdP (⟨b1, 0⟩ : Ptr) (fun x4 => mem_Memory_none x4 (fun r5 h => br r5 (Q ⟨none, 0, 0⟩ 1 h) (rdI .i64 (⟨b3, 0⟩ : Ptr) (fun x6 => br (decide (x6 < 0)) (Q ⟨none, 0, 0⟩ 2 h) (mem_Memory_part_c1 (⟨b3, 0⟩ : Ptr) (⟨b1, 0⟩ : Ptr) (⟨b2, 0⟩ : Ptr) (fun r7 h => br (!r7) (Q ⟨none, 0, 0⟩ 12 h) (rdI .u64 (⟨b2, 0⟩ : Ptr) (fun x8 => rdI .i64 (⟨b3, 0⟩ : Ptr) (fun x9 => rdP (⟨b1, 0⟩ : Ptr) (fun x10 => der x10 (fun p11 => rdSl (p11.add 0) (fun x12 => rdI .u64 (⟨b2, 0⟩ : Ptr) (fun x13 => sb (IntKind.i64.wrap ((IntKind.i64.wrap x8) + x9)) x12.cap (fun n14 => sb (IntKind.i64.wrap ((IntKind.i64.wrap x8) + x9)) n14 (fun n15 => sb x13 n15 (fun n16 => Q ⟨slp x12.p (n16 * 1) n16 n14, n15 - n16, n14 - n16⟩ 0 h)))) h) h)) h) h) h)) h)) h)) h) h) h) h) h

def mem_Memory_number.j5  (a1 : Option Ptr) (a2 : Int) (a3 : Int) (Q : Sl → Int → Heap → Prop) (h : Heap) : Prop :=
  nz (IntKind.u64.wrap a3) (br ((a2.tmod (IntKind.u64.wrap a3)) != 0) (Q ⟨none, 0, 0⟩ 11 h) (mem_Memory_part a1 a2 a3 (fun r1 r2 h => Q r1 r2 h) h))

def mem_Memory_number (a1 : Option Ptr) (a2 : Int) (a3 : Int) (Q : Sl → Int → Heap → Prop) (h : Heap) : Prop :=
  mem_Memory_none a1 (fun r1 h => br r1 (Q ⟨none, 0, 0⟩ 1 h) (br (a3 != 1) (br (a3 != 4) (br (a3 != 8) (Q ⟨none, 0, 0⟩ 2 h) (mem_Memory_number.j5 a1 a2 a3 Q h)) (mem_Memory_number.j5 a1 a2 a3 Q h)) (mem_Memory_number.j5 a1 a2 a3 Q h))) h

def word_known.j6 (U : Ifc) (I2 : Int → Int → Int → Int → Int → Int → Heap → Prop) (a1 : Int) (a2 : Int) (a3 : Int) (a4 : Int) (a5 : Int) (a6 : Int) (Q : Bool → Heap → Prop) (h : Heap) : Prop :=
  I2 a1 a2 a3 a4 a5 (IntKind.i64.wrap (a6 + 1)) h

def word_known.b2 (U : Ifc)  (I2 : Int → Int → Int → Int → Int → Int → Heap → Prop) (a1 : Int) (a2 : Int) (a3 : Int) (a4 : Int) (a5 : Int) (a6 : Int) (Q : Bool → Heap → Prop) (h : Heap) : Prop :=
  br (decide (a6 < 4)) (ix a6 4 (fun n1 => ∃ x3, ([.int .i64 a2, .int .i64 a3, .int .i64 a4, .int .i64 a5] : List V)[n1 * 1]? = some (.int .i64 x3) ∧ br (x3 == a1) (br (decide (x3 > 0)) (Q true h) (word_known.j6 U I2 a1 a2 a3 a4 a5 a6 Q h)) (word_known.j6 U I2 a1 a2 a3 a4 a5 a6 Q h))) (Q false h)

def word_known.j2 (U : Ifc)  (a1 : Int) (a2 : Int) (a3 : Int) (a4 : Int) (a5 : Int) (a6 : Int) (Q : Bool → Heap → Prop) (h : Heap) : Prop :=
  ∀ I : Int → Int → Int → Int → Int → Int → Heap → Prop, (∀ a1 a2 a3 a4 a5 a6 h, word_known.b2 U  I a1 a2 a3 a4 a5 a6 Q h → I a1 a2 a3 a4 a5 a6 h) → I a1 a2 a3 a4 a5 a6 h

def word_known (U : Ifc) (a1 : Int) (Q : Bool → Heap → Prop) (h : Heap) : Prop :=
  rdI .i64 ((⟨U.glob 1, 0⟩ : Ptr).add 0) (fun x1 => rdI .i64 ((⟨U.glob 1, 0⟩ : Ptr).add 1) (fun x2 => rdI .i64 ((⟨U.glob 1, 0⟩ : Ptr).add 2) (fun x3 => rdI .i64 ((⟨U.glob 1, 0⟩ : Ptr).add 3) (fun x4 => word_known.j2 U a1 x1 x2 x3 x4 0 Q h) h) h) h) h

def word_Store.b5 (U : Ifc)  (I5 : Int → Sl → Int → Int → Heap → Prop) (a1 : Int) (a2 : Sl) (a3 : Int) (a4 : Int) (Q : Sl → Heap → Prop) (h : Heap) : Prop :=
  br (decide (a4 < a3)) (nneg (IntKind.i64.wrap (8 * a4)) (ix a4 a2.len (fun n1 => der a2.p (fun p2 => wr (p2.add (n1 * 1)) (.int .u8 (IntKind.u8.wrap (shrI .u64 a1 (IntKind.i64.wrap (8 * a4))))) (fun h => I5 a1 a2 a3 (IntKind.i64.wrap (a4 + 1)) h) h)))) (Q a2 h)

def word_Store.j5 (U : Ifc)  (a1 : Int) (a2 : Sl) (a3 : Int) (a4 : Int) (Q : Sl → Heap → Prop) (h : Heap) : Prop :=
  ∀ I : Int → Sl → Int → Int → Heap → Prop, (∀ a1 a2 a3 a4 h, word_Store.b5 U  I a1 a2 a3 a4 Q h → I a1 a2 a3 a4 h) → I a1 a2 a3 a4 h

def word_Store (U : Ifc) (a1 : Int) (a2 : Int) (Q : Sl → Heap → Prop) (h : Heap) : Prop :=
  word_known U a2 (fun r1 h => br (!r1) (Q ⟨none, 0, 0⟩ h) (mkSl 1 [.int .u8 0] a2 a2 (fun s2 h => word_Store.j5 U a1 s2 ((s2.len : Nat) : Int) 0 Q h) h)) h

def mem_Memory_Store (U : Ifc) (a1 : Option Ptr) (a2 : Int) (a3 : Int) (a4 : Int) (Q : Int → Heap → Prop) (h : Heap) : Prop :=
  mem_Memory_number a1 a2 a3 (fun r1 r2 h => br (r2 == 0) (word_Store U a4 a3 (fun r3 h => cellsS 1 r3 (fun cs4 => copyS 1 r1 cs4 r3.len (fun x5 h => Q r2 h) h) h) h) (Q r2 h)) h

def palisadelaw24_Flat_Store (U : Ifc) (a1 : Option Ptr) (a2 : Int) (a3 : Int) (a4 : Int) (Q : Int → Heap → Prop) (h : Heap) : Prop :=
  der a1 (fun p1 => rdI .i64 (p1.add 2) (fun x2 => br (decide (a2 ≥ (IntKind.u64.wrap (IntKind.i64.wrap (256 * x2))))) (Q 12 h) (der a1 (fun p3 => rdP (p3.add 0) (fun x4 => der a1 (fun p5 => rdI .i64 (p5.add 1) (fun x6 => mem_Memory_Store U x4 (IntKind.u64.wrap (a2 + (IntKind.u64.wrap (IntKind.i64.wrap (256 * x6))))) a3 a4 (fun r7 h => Q r7 h) h) h)) h))) h)

def palisadelaw24_request (U : Ifc) (a1 : Option Ptr) (a2 : Int) (a3 : Int) (a4 : Int) (Q : Sl → Heap → Prop) (h : Heap) : Prop :=
  palisadelaw24_Flat_Store U a1 1024 8 a2 (fun r1 h => palisadelaw24_Flat_Store U a1 1032 8 a3 (fun r2 h => palisadelaw24_Flat_Store U a1 1096 8 8608480567731124087 (fun r3 h => al [.int .u64 1024, .int .i64 16, .bool false, .int .u64 (IntKind.u64.wrap (IntKind.i64.wrap (256 * a4))), .int .i64 256, .bool (a2 == 0), .int .u64 1100, .int .i64 1, .bool true] (fun b4 h => Q ⟨some ⟨b4, 0⟩, 3, 3⟩ h) h) h) h) h

def palisadelaw24_offer.j2 (U : Ifc) (I1 : (Option Ptr) → Int → Sl → Int → Heap → Prop) (a1 : Option Ptr) (a2 : Int) (a3 : Sl) (a4 : Int) (Q : Heap → Prop) (h : Heap) : Prop :=
  I1 a1 a2 a3 (IntKind.i64.wrap (a4 + 1)) h

def palisadelaw24_offer.j12 (U : Ifc) (I1 : (Option Ptr) → Int → Sl → Int → Heap → Prop) (a1 : Option Ptr) (a2 : Int) (a3 : Sl) (a4 : Int) (a5 : Int) (Q : Heap → Prop) (h : Heap) : Prop :=
  palisadelaw24_Flat_Store U a1 (IntKind.u64.wrap (a5 + 24)) 8 (IntKind.u64.wrap (IntKind.i64.wrap (a4 + 1))) (fun r1 h => palisadelaw24_offer.j2 U I1 a1 a2 a3 a4 Q h) h

def palisadelaw24_offer.j8 (U : Ifc) (I1 : (Option Ptr) → Int → Sl → Int → Heap → Prop) (a1 : Option Ptr) (a2 : Int) (a3 : Sl) (a4 : Int) (a5 : Int) (Q : Heap → Prop) (h : Heap) : Prop :=
  ix a4 a3.len (fun n1 => der a3.p (fun p2 => rdI .u64 ((p2.add (n1 * 3)).add 0) (fun x3 => palisadelaw24_Flat_Store U a1 (IntKind.u64.wrap (32 * (IntKind.u64.wrap a4))) 8 x3 (fun r4 h => ix a4 a3.len (fun n5 => der a3.p (fun p6 => rdI .i64 ((p6.add (n5 * 3)).add 1) (fun x7 => palisadelaw24_Flat_Store U a1 (IntKind.u64.wrap ((IntKind.u64.wrap (32 * (IntKind.u64.wrap a4))) + 8)) 8 (IntKind.u64.wrap x7) (fun r8 h => palisadelaw24_Flat_Store U a1 (IntKind.u64.wrap ((IntKind.u64.wrap (32 * (IntKind.u64.wrap a4))) + 16)) 8 a5 (fun r9 h => palisadelaw24_offer.j12 U I1 a1 a2 a3 a4 (IntKind.u64.wrap (32 * (IntKind.u64.wrap a4))) Q h) h) h) h))) h) h))

def palisadelaw24_offer.j6 (U : Ifc) (I1 : (Option Ptr) → Int → Sl → Int → Heap → Prop) (a1 : Option Ptr) (a2 : Int) (a3 : Sl) (a4 : Int) (a5 : Int) (Q : Heap → Prop) (h : Heap) : Prop :=
  br (decide ((IntKind.i64.wrap (a4 + 1)) < ((a3.len : Nat) : Int))) (br (decide (a4 < 7)) (palisadelaw24_offer.j8 U I1 a1 a2 a3 a4 (IntKind.u64.wrap (a5 + 1)) Q h) (palisadelaw24_offer.j8 U I1 a1 a2 a3 a4 a5 Q h)) (palisadelaw24_offer.j8 U I1 a1 a2 a3 a4 a5 Q h)

def palisadelaw24_offer.b1 (U : Ifc)  (I1 : (Option Ptr) → Int → Sl → Int → Heap → Prop) (a1 : Option Ptr) (a2 : Int) (a3 : Sl) (a4 : Int) (Q : Heap → Prop) (h : Heap) : Prop :=
  br (decide (a4 < ((a3.len : Nat) : Int))) (br (decide (a4 < 8)) (ix a4 a3.len (fun n1 => der a3.p (fun p2 => rdB ((p2.add (n1 * 3)).add 2) (fun x3 => br x3 (palisadelaw24_offer.j6 U I1 a1 a2 a3 a4 2 Q h) (palisadelaw24_offer.j6 U I1 a1 a2 a3 a4 0 Q h)) h))) (nz 8 (palisadelaw24_Flat_Store U a1 (IntKind.u64.wrap (264 + (IntKind.u64.wrap (8 * (IntKind.u64.wrap (a2.tmod 8)))))) 8 0 (fun r4 h => palisadelaw24_Flat_Store U a1 256 8 (IntKind.u64.wrap (IntKind.i64.wrap (a2 + 1))) (fun r5 h => Q h) h) h))) (nz 8 (palisadelaw24_Flat_Store U a1 (IntKind.u64.wrap (264 + (IntKind.u64.wrap (8 * (IntKind.u64.wrap (a2.tmod 8)))))) 8 0 (fun r6 h => palisadelaw24_Flat_Store U a1 256 8 (IntKind.u64.wrap (IntKind.i64.wrap (a2 + 1))) (fun r7 h => Q h) h) h))

def palisadelaw24_offer.j1 (U : Ifc)  (a1 : Option Ptr) (a2 : Int) (a3 : Sl) (a4 : Int) (Q : Heap → Prop) (h : Heap) : Prop :=
  ∀ I : (Option Ptr) → Int → Sl → Int → Heap → Prop, (∀ a1 a2 a3 a4 h, palisadelaw24_offer.b1 U  I a1 a2 a3 a4 Q h → I a1 a2 a3 a4 h) → I a1 a2 a3 a4 h

def palisadelaw24_offer (U : Ifc) (a1 : Option Ptr) (a2 : Int) (a3 : Sl) (Q : Heap → Prop) (h : Heap) : Prop :=
  palisadelaw24_offer.j1 U a1 a2 a3 0 Q h

def backend_Block_none (a1 : Option Ptr) (a2 : V) (Q : Bool → Heap → Prop) (h : Heap) : Prop :=
  br a1.isNone (Q true h) (der a1 (fun p1 => rdM (p1.add 7) (fun x2 => br x2.isNone (Q true h) (isNil a2 (fun c3 => Q c3 h))) h))

def ring_Ring_usable (a1 : Option Ptr) (a2 : V) (Q : Int → Heap → Prop) (h : Heap) : Prop :=
  br a1.isNone (Q 1 h) (der a1 (fun p1 => rdI .u64 (p1.add 1) (fun x2 => br (x2 == 0) (Q 1 h) (isNil a2 (fun c3 => br c3 (Q 1 h) (der a1 (fun p4 => rdB (p4.add 4) (fun x5 => br x5 (Q 22 h) (Q 0 h)) h))))) h))

def ring_reader_number (U : Ifc) (a1 : Option Ptr) (a2 : Int) (Q : Int → Heap → Prop) (h : Heap) : Prop :=
  der a1 (fun p1 => rdV (p1.add 0) (fun x2 => U.inv x2 "Load" [.int .u64 a2, .int .i64 8] (fun r3 h => asTupV r3 (fun l4 => asCons l4 (fun v5 l6 => asI .u64 v5 (fun x7 => asCons l6 (fun v8 l9 => asI .i64 v8 (fun x10 => asNil l9 (der a1 (fun p11 => rdB (p11.add 1) (fun x12 => br x12 (der a1 (fun p13 => wr (p13.add 1) (.bool true) (fun h => Q x7 h) h)) (der a1 (fun p14 => wr (p14.add 1) (.bool (x10 != 0)) (fun h => Q x7 h) h))) h)))))))) h) h)

def ring_reader_part.j7 (U : Ifc) (I3 : (Option Ptr) → Int → Ptr → Ptr → Int → Heap → Prop) (a1 : Option Ptr) (a2 : Int) (a3 : Ptr) (a4 : Ptr) (a5 : Int) (Q : Int → Int → Bool → Int → Bool → Heap → Prop) (h : Heap) : Prop :=
  I3 a1 a2 a3 a4 (IntKind.i64.wrap (a5 + 1)) h

def ring_reader_part.j9 (U : Ifc)  (a1 : Option Ptr) (a2 : Ptr) (Q : Int → Int → Bool → Int → Bool → Heap → Prop) (h : Heap) : Prop :=
  der a1 (fun p1 => wr (p1.add 1) (.bool true) (fun h => wrL [.int .u64 0, .int .i64 0, .bool false] a2 0 (fun h => rdI .u64 (a2.add 0) (fun x2 => rdI .i64 (a2.add 1) (fun x3 => rdB (a2.add 2) (fun x4 => Q x2 x3 x4 0 false h) h) h) h) h) h)

def ring_reader_part.b3 (U : Ifc)  (I3 : (Option Ptr) → Int → Ptr → Ptr → Int → Heap → Prop) (a1 : Option Ptr) (a2 : Int) (a3 : Ptr) (a4 : Ptr) (a5 : Int) (Q : Int → Int → Bool → Int → Bool → Heap → Prop) (h : Heap) : Prop :=
  br (decide (a5 < 4)) (der a1 (fun p1 => rdB (p1.add 1) (fun x2 => br (!x2) (ring_reader_number U a1 (IntKind.u64.wrap (a2 + (IntKind.u64.wrap (8 * (IntKind.u64.wrap a5))))) (fun r3 h => ix a5 4 (fun n4 => wr (a4.add (n4 * 1)) (.int .u64 r3) (fun h => ring_reader_part.j7 U I3 a1 a2 a3 a4 a5 Q h) h)) h) (ring_reader_part.j7 U I3 a1 a2 a3 a4 a5 Q h)) h)) (ix 1 4 (fun n5 => rdI .u64 (a4.add (n5 * 1)) (fun x6 => br (decide (x6 < 1)) (ring_reader_part.j9 U a1 a3 Q h) (ix 1 4 (fun n7 => rdI .u64 (a4.add (n7 * 1)) (fun x8 => br (decide (x8 > 4096)) (ring_reader_part.j9 U a1 a3 Q h) (ix 2 4 (fun n9 => rdI .u64 (a4.add (n9 * 1)) (fun x10 => br (decide (x10 > 3)) (ring_reader_part.j9 U a1 a3 Q h) (ix 0 4 (fun n11 => rdI .u64 (a4.add (n11 * 1)) (fun x12 => ix 1 4 (fun n13 => rdI .u64 (a4.add (n13 * 1)) (fun x14 => br (decide (x12 > (IntKind.u64.wrap (1099511627776 - x14)))) (ring_reader_part.j9 U a1 a3 Q h) (ix 0 4 (fun n15 => rdI .u64 (a4.add (n15 * 1)) (fun x16 => ix 1 4 (fun n17 => rdI .u64 (a4.add (n17 * 1)) (fun x18 => ix 2 4 (fun n19 => rdI .u64 (a4.add (n19 * 1)) (fun x20 => ix 3 4 (fun n21 => rdI .u64 (a4.add (n21 * 1)) (fun x22 => ix 2 4 (fun n23 => rdI .u64 (a4.add (n23 * 1)) (fun x24 => ck (a4.add (n23 * 1)) [.int .u64 x24] 0 h ∧ ck (a4.add (n21 * 1)) [.int .u64 x22] 0 h ∧ wrL [.int .u64 x16, .int .i64 (IntKind.i64.wrap x18), .bool ((ibits .and .u64 x20 2) != 0)] a3 0 (fun h => ck (a4.add (n23 * 1)) [.int .u64 x24] 0 h ∧ ck (a4.add (n21 * 1)) [.int .u64 x22] 0 h ∧ (rdI .u64 (a3.add 0) (fun x25 => rdI .i64 (a3.add 1) (fun x26 => rdB (a3.add 2) (fun x27 => Q x25 x26 x27 x22 ((ibits .and .u64 x24 1) != 0) h) h) h) h)) h) h)) h)) h)) h)) h))) h)) h))) h))) h))) h))

def ring_reader_part.j3 (U : Ifc)  (a1 : Option Ptr) (a2 : Int) (a3 : Ptr) (a4 : Ptr) (a5 : Int) (Q : Int → Int → Bool → Int → Bool → Heap → Prop) (h : Heap) : Prop :=
  ∀ I : (Option Ptr) → Int → Ptr → Ptr → Int → Heap → Prop, (∀ a1 a2 a3 a4 a5 h, ring_reader_part.b3 U  I a1 a2 a3 a4 a5 Q h → I a1 a2 a3 a4 a5 h) → I a1 a2 a3 a4 a5 h

def ring_reader_part (U : Ifc) (a1 : Option Ptr) (a2 : Int) (Q : Int → Int → Bool → Int → Bool → Heap → Prop) (h : Heap) : Prop :=
  al [.int .u64 0, .int .i64 0, .bool false] (fun b1 h => al [.int .u64 0, .int .u64 0, .int .u64 0, .int .u64 0] (fun b2 h => ring_reader_part.j3 U a1 a2 (⟨b1, 0⟩ : Ptr) (⟨b2, 0⟩ : Ptr) 0 Q h) h) h

def ring_Ring_chain.j9 (U : Ifc) (I3 : (Option Ptr) → (Option Ptr) → Int → Ptr → Bool → Int → Int → Int → Heap → Prop) (a1 : Ptr) (Q : Int → Sl → Bool → Heap → Prop) (h : Heap) : Prop :=
  wrL [.int .i64 0, .sl ⟨none, 0, 0⟩] a1 0 (fun h => rdI .i64 (a1.add 0) (fun x1 => rdSl (a1.add 1) (fun x2 => Q x1 x2 false h) h) h) h

def ring_Ring_chain.j10 (U : Ifc) (I3 : (Option Ptr) → (Option Ptr) → Int → Ptr → Bool → Int → Int → Int → Heap → Prop) (a1 : Option Ptr) (a2 : Option Ptr) (a3 : Int) (a4 : Ptr) (a5 : Ptr) (a6 : Int) (a7 : Bool) (a8 : Int) (a9 : Int) (Q : Int → Sl → Bool → Heap → Prop) (h : Heap) : Prop :=
  rdSl (a4.add 1) (fun x1 => rdI .u64 (a5.add 0) (fun x2 => rdI .i64 (a5.add 1) (fun x3 => rdB (a5.add 2) (fun x4 => al [.int .u64 x2, .int .i64 x3, .bool x4] (fun b5 h => rdN (1 * 3) (⟨b5, 0⟩ : Ptr) (fun cs7 => appS 3 24 [.int .u64 0, .int .i64 0, .bool false] x1 cs7 1 (fun s6 h => wr (a4.add 1) (.sl s6) (fun h => br (!a7) (wr (a4.add 0) (.int .i64 (IntKind.i64.wrap a3)) (fun h => rdI .i64 (a4.add 0) (fun x8 => rdSl (a4.add 1) (fun x9 => wrL [.int .i64 x8, .sl x9] a4 0 (fun h => rdI .i64 (a4.add 0) (fun x10 => rdSl (a4.add 1) (fun x11 => Q x10 x11 (!a7) h) h) h) h) h) h) h) (I3 a1 a2 a3 a4 (!a7) a6 a8 (IntKind.u64.wrap (a9 + 1)) h)) h) h) h) h) h) h) h) h

def ring_Ring_chain.j8 (U : Ifc) (I3 : (Option Ptr) → (Option Ptr) → Int → Ptr → Bool → Int → Int → Int → Heap → Prop) (a1 : Option Ptr) (a2 : Option Ptr) (a3 : Int) (a4 : Ptr) (a5 : Ptr) (a6 : Int) (a7 : Bool) (a8 : Int) (a9 : Int) (a10 : Int) (Q : Int → Sl → Bool → Heap → Prop) (h : Heap) : Prop :=
  der a2 (fun p1 => rdB (p1.add 1) (fun x2 => br x2 (ring_Ring_chain.j9 U I3 a4 Q h) (br (decide (a8 > 0)) (rdSl (a4.add 1) (fun x3 => ix (IntKind.i64.wrap (a8 - 1)) x3.len (fun n4 => der x3.p (fun p5 => rdB ((p5.add (n4 * 3)).add 2) (fun x6 => br x6 (rdB (a5.add 2) (fun x7 => br (!x7) (ring_Ring_chain.j9 U I3 a4 Q h) (ring_Ring_chain.j10 U I3 a1 a2 a3 a4 a5 a6 a7 a9 a10 Q h)) h) (ring_Ring_chain.j10 U I3 a1 a2 a3 a4 a5 a6 a7 a9 a10 Q h)) h))) h) (ring_Ring_chain.j10 U I3 a1 a2 a3 a4 a5 a6 a7 a9 a10 Q h))) h)

def ring_Ring_chain.b3 (U : Ifc)  (I3 : (Option Ptr) → (Option Ptr) → Int → Ptr → Bool → Int → Int → Int → Heap → Prop) (a1 : Option Ptr) (a2 : Option Ptr) (a3 : Int) (a4 : Ptr) (a5 : Bool) (a6 : Int) (a7 : Int) (a8 : Int) (Q : Int → Sl → Bool → Heap → Prop) (h : Heap) : Prop :=
  br (decide (a8 < a7)) (der a1 (fun p1 => rdI .u64 (p1.add 1) (fun x2 => br (decide (a6 ≥ x2)) (wrL [.int .i64 0, .sl ⟨none, 0, 0⟩] a4 0 (fun h => rdI .i64 (a4.add 0) (fun x3 => rdSl (a4.add 1) (fun x4 => Q x3 x4 false h) h) h) h) (der a1 (fun p5 => rdI .u64 (p5.add 0) (fun x6 => ring_reader_part U a2 (IntKind.u64.wrap (x6 + (IntKind.u64.wrap (32 * a6)))) (fun r7 r8 r9 r10 r11 h => al [.int .u64 0, .int .i64 0, .bool false] (fun b12 h => wrL [.int .u64 r7, .int .i64 r8, .bool r9] (⟨b12, 0⟩ : Ptr) 0 (fun h => rdSl (a4.add 1) (fun x13 => ring_Ring_chain.j8 U I3 a1 a2 a3 a4 (⟨b12, 0⟩ : Ptr) r10 r11 ((x13.len : Nat) : Int) a7 a8 Q h) h) h) h) h) h))) h)) (wr (a4.add 0) (.int .i64 (IntKind.i64.wrap a3)) (fun h => rdI .i64 (a4.add 0) (fun x14 => rdSl (a4.add 1) (fun x15 => wrL [.int .i64 x14, .sl x15] a4 0 (fun h => rdI .i64 (a4.add 0) (fun x16 => rdSl (a4.add 1) (fun x17 => Q x16 x17 a5 h) h) h) h) h) h) h)

def ring_Ring_chain.j3 (U : Ifc)  (a1 : Option Ptr) (a2 : Option Ptr) (a3 : Int) (a4 : Ptr) (a5 : Bool) (a6 : Int) (a7 : Int) (a8 : Int) (Q : Int → Sl → Bool → Heap → Prop) (h : Heap) : Prop :=
  ∀ I : (Option Ptr) → (Option Ptr) → Int → Ptr → Bool → Int → Int → Int → Heap → Prop, (∀ a1 a2 a3 a4 a5 a6 a7 a8 h, ring_Ring_chain.b3 U  I a1 a2 a3 a4 a5 a6 a7 a8 Q h → I a1 a2 a3 a4 a5 a6 a7 a8 h) → I a1 a2 a3 a4 a5 a6 a7 a8 h

def ring_Ring_chain (U : Ifc) (a1 : Option Ptr) (a2 : Option Ptr) (a3 : Int) (Q : Int → Sl → Bool → Heap → Prop) (h : Heap) : Prop :=
  al [.int .i64 0, .sl ⟨none, 0, 0⟩] (fun b1 h => der a1 (fun p2 => rdI .u64 (p2.add 1) (fun x3 => ring_Ring_chain.j3 U a1 a2 a3 (⟨b1, 0⟩ : Ptr) false a3 x3 0 Q h) h)) h

def ring_Ring_Next.j11 (U : Ifc)  (a1 : Option Ptr) (a2 : Ptr) (a3 : Ptr) (a4 : Int) (Q : Int → Sl → Bool → Int → Heap → Prop) (h : Heap) : Prop :=
  rdB (a3.add 1) (fun x1 => br (!x1) (ring_Ring_chain U a1 (some a3) a4 (fun r2 r3 r4 h => al [.int .i64 0, .sl ⟨none, 0, 0⟩] (fun b5 h => wrL [.int .i64 r2, .sl r3] (⟨b5, 0⟩ : Ptr) 0 (fun h => br r4 (der a1 (fun p6 => rdI .u64 (p6.add 2) (fun x7 => der a1 (fun p8 => wr (p8.add 2) (.int .u64 (IntKind.u64.wrap (x7 + 1))) (fun h => rdI .i64 ((⟨b5, 0⟩ : Ptr).add 0) (fun x9 => rdSl ((⟨b5, 0⟩ : Ptr).add 1) (fun x10 => wrL [.int .i64 x9, .sl x10] a2 0 (fun h => rdI .i64 (a2.add 0) (fun x11 => rdSl (a2.add 1) (fun x12 => Q x11 x12 true 0 h) h) h) h) h) h) h)) h)) (der a1 (fun p13 => wr (p13.add 4) (.bool true) (fun h => wrL [.int .i64 0, .sl ⟨none, 0, 0⟩] a2 0 (fun h => rdI .i64 (a2.add 0) (fun x14 => rdSl (a2.add 1) (fun x15 => Q x14 x15 false 22 h) h) h) h) h))) h) h) h) (der a1 (fun p16 => wr (p16.add 4) (.bool true) (fun h => wrL [.int .i64 0, .sl ⟨none, 0, 0⟩] a2 0 (fun h => rdI .i64 (a2.add 0) (fun x17 => rdSl (a2.add 1) (fun x18 => Q x17 x18 false 22 h) h) h) h) h))) h

def ring_Ring_Next.j9 (U : Ifc)  (a1 : Option Ptr) (a2 : Ptr) (a3 : Ptr) (a4 : Int) (a5 : Int) (Q : Int → Sl → Bool → Int → Heap → Prop) (h : Heap) : Prop :=
  rdB (a3.add 1) (fun x1 => br (!x1) (der a1 (fun p2 => rdI .u64 (p2.add 2) (fun x3 => der a1 (fun p4 => rdI .u64 (p4.add 1) (fun x5 => br (decide ((IntKind.u64.wrap (a5 - x3)) ≤ x5)) (der a1 (fun p6 => rdI .u64 (p6.add 2) (fun x7 => der a1 (fun p8 => rdI .u64 (p8.add 1) (fun x9 => nz x9 (ring_reader_number U (some a3) (IntKind.u64.wrap (a4 + (IntKind.u64.wrap (8 * (IntKind.u64.wrap (1 + (x7.tmod x9))))))) (fun r10 h => ring_Ring_Next.j11 U a1 a2 a3 r10 Q h) h)) h)) h)) (der a1 (fun p11 => wr (p11.add 4) (.bool true) (fun h => wrL [.int .i64 0, .sl ⟨none, 0, 0⟩] a2 0 (fun h => rdI .i64 (a2.add 0) (fun x12 => rdSl (a2.add 1) (fun x13 => Q x12 x13 false 22 h) h) h) h) h))) h)) h)) (der a1 (fun p14 => wr (p14.add 4) (.bool true) (fun h => wrL [.int .i64 0, .sl ⟨none, 0, 0⟩] a2 0 (fun h => rdI .i64 (a2.add 0) (fun x15 => rdSl (a2.add 1) (fun x16 => Q x15 x16 false 22 h) h) h) h) h))) h

def ring_Ring_Next.j7 (U : Ifc)  (a1 : Option Ptr) (a2 : Ptr) (a3 : Ptr) (a4 : Int) (a5 : Int) (Q : Int → Sl → Bool → Int → Heap → Prop) (h : Heap) : Prop :=
  rdB (a3.add 1) (fun x1 => br (!x1) (der a1 (fun p2 => rdI .u64 (p2.add 2) (fun x3 => br (a5 == x3) (wrL [.int .i64 0, .sl ⟨none, 0, 0⟩] a2 0 (fun h => rdI .i64 (a2.add 0) (fun x4 => rdSl (a2.add 1) (fun x5 => Q x4 x5 false 0 h) h) h) h) (ring_Ring_Next.j9 U a1 a2 a3 a4 a5 Q h)) h)) (ring_Ring_Next.j9 U a1 a2 a3 a4 a5 Q h)) h

def ring_Ring_Next (U : Ifc) (a1 : Option Ptr) (a2 : V) (Q : Int → Sl → Bool → Int → Heap → Prop) (h : Heap) : Prop :=
  al [.int .i64 0, .sl ⟨none, 0, 0⟩] (fun b1 h => ring_Ring_usable a1 a2 (fun r2 h => br (r2 != 0) (wrL [.int .i64 0, .sl ⟨none, 0, 0⟩] (⟨b1, 0⟩ : Ptr) 0 (fun h => rdI .i64 ((⟨b1, 0⟩ : Ptr).add 0) (fun x3 => rdSl ((⟨b1, 0⟩ : Ptr).add 1) (fun x4 => Q x3 x4 false r2 h) h) h) h) (chk (V.one a2) (al [a2, .bool false] (fun b5 h => der a1 (fun p6 => rdI .u64 (p6.add 0) (fun x7 => der a1 (fun p8 => rdI .u64 (p8.add 1) (fun x9 => ring_reader_number U (some (⟨b5, 0⟩ : Ptr)) (IntKind.u64.wrap (x7 + (IntKind.u64.wrap (32 * x9)))) (fun r10 h => ring_Ring_Next.j7 U a1 (⟨b1, 0⟩ : Ptr) (⟨b5, 0⟩ : Ptr) (IntKind.u64.wrap (x7 + (IntKind.u64.wrap (32 * x9)))) r10 Q h) h) h)) h)) h))) h) h

def backend_number.b2  (I2 : Sl → Int → Int → Heap → Prop) (a1 : Sl) (a2 : Int) (a3 : Int) (Q : Int → Heap → Prop) (h : Heap) : Prop :=
  br (decide (a3 ≥ 0)) (nneg 8 (ix a3 a1.len (fun n1 => der a1.p (fun p2 => rdI .u8 (p2.add (n1 * 1)) (fun x3 => I2 a1 (ibits .or .u64 (shlI .u64 a2 8) (IntKind.u64.wrap x3)) (IntKind.i64.wrap (a3 - 1)) h) h)))) (Q a2 h)

def backend_number.j2  (a1 : Sl) (a2 : Int) (a3 : Int) (Q : Int → Heap → Prop) (h : Heap) : Prop :=
  ∀ I : Sl → Int → Int → Heap → Prop, (∀ a1 a2 a3 h, backend_number.b2  I a1 a2 a3 Q h → I a1 a2 a3 h) → I a1 a2 a3 h

def backend_number (a1 : Sl) (Q : Int → Heap → Prop) (h : Heap) : Prop :=
  backend_number.j2 a1 0 7 Q h

def frames_Frames_Owner.j2   (Q : Int → Int → Bool → Heap → Prop) (h : Heap) : Prop :=
  Q 0 0 false h

def frames_Frames_Owner (a1 : Option Ptr) (a2 : Int) (Q : Int → Int → Bool → Heap → Prop) (h : Heap) : Prop :=
  frames_Frames_none a1 (fun r1 h => br r1 (frames_Frames_Owner.j2 Q h) (der a1 (fun p2 => rdM (p2.add 2) (fun x3 => mapGet (.int .i64) x3 (.int .i64 a2) (fun o4 => asI .i64 (o4.getD (.int .i64 0)) (fun x5 => br (x5 == 0) (frames_Frames_Owner.j2 Q h) (der a1 (fun p6 => rdM (p6.add 3) (fun x7 => der a1 (fun p8 => rdM (p8.add 2) (fun x9 => (mapGet (.int .i64) x7 (.int .i64 a2) (fun o10 => asI .i64 (o10.getD (.int .i64 0)) (fun x11 => ck (p8.add 2) [.map x9] 0 h ∧ (mapGet (.int .i64) x9 (.int .i64 a2) (fun o12 => asI .i64 (o12.getD (.int .i64 0)) (fun x13 => Q x11 x13 true h)) h))) h) ∧ (mapGet (.int .i64) x9 (.int .i64 a2) (fun o14 => asI .i64 (o14.getD (.int .i64 0)) (fun x15 => ck (p6.add 3) [.map x7] 0 h ∧ (mapGet (.int .i64) x7 (.int .i64 a2) (fun o16 => asI .i64 (o16.getD (.int .i64 0)) (fun x17 => Q x17 x15 true h)) h))) h)) h)) h)))) h) h))) h

def backend_Block_ask.j5 (U : Ifc)  (a1 : Ptr) (Q : Int → Bool → Int → Int → Int → Heap → Prop) (h : Heap) : Prop :=
  wrL [.int .i64 0, .bool false, .int .i64 0, .int .i64 0] a1 0 (fun h => rdI .i64 (a1.add 0) (fun x1 => rdB (a1.add 1) (fun x2 => rdI .i64 (a1.add 2) (fun x3 => rdI .i64 (a1.add 3) (fun x4 => Q x1 x2 x3 x4 2 h) h) h) h) h) h

def backend_Block_ask.j11 (U : Ifc)  (a1 : Ptr) (Q : Int → Bool → Int → Int → Int → Heap → Prop) (h : Heap) : Prop :=
  wrL [.int .i64 0, .bool false, .int .i64 0, .int .i64 0] a1 0 (fun h => rdI .i64 (a1.add 0) (fun x1 => rdB (a1.add 1) (fun x2 => rdI .i64 (a1.add 2) (fun x3 => rdI .i64 (a1.add 3) (fun x4 => Q x1 x2 x3 x4 2 h) h) h) h) h) h

def backend_Block_ask.j15 (U : Ifc)  (a1 : Ptr) (Q : Int → Bool → Int → Int → Int → Heap → Prop) (h : Heap) : Prop :=
  wrL [.int .i64 0, .bool false, .int .i64 0, .int .i64 0] a1 0 (fun h => rdI .i64 (a1.add 0) (fun x1 => rdB (a1.add 1) (fun x2 => rdI .i64 (a1.add 2) (fun x3 => rdI .i64 (a1.add 3) (fun x4 => Q x1 x2 x3 x4 2 h) h) h) h) h) h

def backend_Block_ask.j14 (U : Ifc)  (a1 : Option Ptr) (a2 : Ptr) (a3 : Int) (a4 : Int) (a5 : Int) (a6 : Bool) (a7 : Int) (a8 : Bool) (Q : Int → Bool → Int → Int → Int → Heap → Prop) (h : Heap) : Prop :=
  br (!a6) (backend_Block_ask.j15 U a2 Q h) (br (!a8) (backend_Block_ask.j15 U a2 Q h) (der a1 (fun p1 => rdI .i64 (p1.add 5) (fun x2 => br (a7 != x2) (backend_Block_ask.j15 U a2 Q h) (der a1 (fun p3 => rdI .i64 (p3.add 3) (fun x4 => br (decide (a4 ≥ (IntKind.u64.wrap x4))) (wrL [.int .i64 0, .bool false, .int .i64 0, .int .i64 0] a2 0 (fun h => rdI .i64 (a2.add 0) (fun x5 => rdB (a2.add 1) (fun x6 => rdI .i64 (a2.add 2) (fun x7 => rdI .i64 (a2.add 3) (fun x8 => Q x5 x6 x7 x8 1 h) h) h) h) h) h) (der a1 (fun p9 => rdI .i64 (p9.add 5) (fun x10 => nneg 32 (der a1 (fun p11 => rdI .i64 (p11.add 6) (fun x12 => der a1 (fun p13 => rdI .i64 (p13.add 2) (fun x14 => wrL [.int .i64 (IntKind.i64.wrap ((shlI .i64 x10 32) + x12)), .bool (a3 == 1), .int .i64 (IntKind.i64.wrap (x14 + (IntKind.i64.wrap a4))), .int .i64 a5] a2 0 (fun h => rdI .i64 (a2.add 0) (fun x15 => rdB (a2.add 1) (fun x16 => rdI .i64 (a2.add 2) (fun x17 => rdI .i64 (a2.add 3) (fun x18 => Q x15 x16 x17 x18 0 h) h) h) h) h) h) h)) h))) h))) h))) h)))

def backend_Block_ask.j12 (U : Ifc)  (a1 : Option Ptr) (a2 : V) (a3 : Ptr) (a4 : Ptr) (a5 : Int) (a6 : Int) (Q : Int → Bool → Int → Int → Int → Heap → Prop) (h : Heap) : Prop :=
  rdI .u64 (a4.add 0) (fun x1 => nz 256 (rdB (a4.add 2) (fun x2 => U.inv a2 "Frame" [.int .i64 (IntKind.i64.wrap (IntKind.u64.wrap (x1.tdiv 256))), .bool x2] (fun r3 h => asTupV r3 (fun l4 => asCons l4 (fun v5 l6 => asI .i64 v5 (fun x7 => asCons l6 (fun v8 l9 => asB v8 (fun x10 => asNil l9 (der a1 (fun p11 => rdP (p11.add 4) (fun x12 => frames_Frames_Owner x12 x7 (fun r13 r14 r15 h => backend_Block_ask.j14 U a1 a3 a5 a6 x7 x10 r13 r15 Q h) h) h)))))))) h) h)) h

def backend_Block_ask.j6 (U : Ifc)  (a1 : Option Ptr) (a2 : V) (a3 : Ptr) (a4 : Ptr) (a5 : Ptr) (Q : Int → Bool → Int → Int → Int → Heap → Prop) (h : Heap) : Prop :=
  rdI .u64 (a4.add 0) (fun x1 => U.inv a2 "Bytes" [.int .u64 x1, .int .i64 16] (fun r2 h => asTupV r2 (fun l3 => asCons l3 (fun v4 l5 => asSl v4 (fun x6 => asCons l5 (fun v7 l8 => asI .i64 v7 (fun x9 => asNil l8 (br (x9 != 0) (wrL [.int .i64 0, .bool false, .int .i64 0, .int .i64 0] a3 0 (fun h => rdI .i64 (a3.add 0) (fun x10 => rdB (a3.add 1) (fun x11 => rdI .i64 (a3.add 2) (fun x12 => rdI .i64 (a3.add 3) (fun x13 => Q x10 x11 x12 x13 2 h) h) h) h) h) h) (sb 8 x6.len (fun n14 => backend_number x6 (fun r15 h => backend_number ⟨slp x6.p (n14 * 1) n14 x6.cap, x6.len - n14, x6.cap - n14⟩ (fun r16 h => br (decide (r15 > 1)) (backend_Block_ask.j11 U a3 Q h) (rdB (a5.add 2) (fun x17 => br (!(x17 == (r15 == 0))) (backend_Block_ask.j11 U a3 Q h) (backend_Block_ask.j12 U a1 a2 a3 a5 r15 r16 Q h)) h)) h) h))))))))) h) h

def backend_Block_ask.j4 (U : Ifc)  (a1 : Option Ptr) (a2 : V) (a3 : Ptr) (a4 : Ptr) (a5 : Ptr) (a6 : Ptr) (Q : Int → Bool → Int → Int → Int → Heap → Prop) (h : Heap) : Prop :=
  rdB (a4.add 2) (fun x1 => br x1 (backend_Block_ask.j5 U a3 Q h) (rdI .i64 (a4.add 1) (fun x2 => br (x2 != 16) (backend_Block_ask.j5 U a3 Q h) (rdI .i64 (a5.add 1) (fun x3 => br (x3 != 256) (backend_Block_ask.j5 U a3 Q h) (rdI .u64 (a5.add 0) (fun x4 => nz 256 (br ((x4.tmod 256) != 0) (backend_Block_ask.j5 U a3 Q h) (rdB (a6.add 2) (fun x5 => br (!x5) (backend_Block_ask.j5 U a3 Q h) (rdI .i64 (a6.add 1) (fun x6 => br (x6 != 1) (backend_Block_ask.j5 U a3 Q h) (backend_Block_ask.j6 U a1 a2 a3 a4 a5 Q h)) h)) h))) h)) h)) h)) h

def backend_Block_ask (U : Ifc) (a1 : Option Ptr) (a2 : V) (a3 : Int) (a4 : Sl) (Q : Int → Bool → Int → Int → Int → Heap → Prop) (h : Heap) : Prop :=
  al [.int .i64 a3, .sl a4] (fun b1 h => al [.int .i64 0, .bool false, .int .i64 0, .int .i64 0] (fun b2 h => rdSl ((⟨b1, 0⟩ : Ptr).add 1) (fun x3 => br (((x3.len : Nat) : Int) != 3) (wrL [.int .i64 0, .bool false, .int .i64 0, .int .i64 0] (⟨b2, 0⟩ : Ptr) 0 (fun h => rdI .i64 ((⟨b2, 0⟩ : Ptr).add 0) (fun x4 => rdB ((⟨b2, 0⟩ : Ptr).add 1) (fun x5 => rdI .i64 ((⟨b2, 0⟩ : Ptr).add 2) (fun x6 => rdI .i64 ((⟨b2, 0⟩ : Ptr).add 3) (fun x7 => Q x4 x5 x6 x7 2 h) h) h) h) h) h) (rdSl ((⟨b1, 0⟩ : Ptr).add 1) (fun x8 => ix 0 x8.len (fun n9 => der x8.p (fun p10 => rdI .u64 ((p10.add (n9 * 3)).add 0) (fun x11 => rdI .i64 ((p10.add (n9 * 3)).add 1) (fun x12 => rdB ((p10.add (n9 * 3)).add 2) (fun x13 => rdSl ((⟨b1, 0⟩ : Ptr).add 1) (fun x14 => ix 1 x14.len (fun n15 => der x14.p (fun p16 => rdI .u64 ((p16.add (n15 * 3)).add 0) (fun x17 => rdI .i64 ((p16.add (n15 * 3)).add 1) (fun x18 => rdB ((p16.add (n15 * 3)).add 2) (fun x19 => rdSl ((⟨b1, 0⟩ : Ptr).add 1) (fun x20 => ix 2 x20.len (fun n21 => der x20.p (fun p22 => rdI .u64 ((p22.add (n21 * 3)).add 0) (fun x23 => rdI .i64 ((p22.add (n21 * 3)).add 1) (fun x24 => rdB ((p22.add (n21 * 3)).add 2) (fun x25 => (al [.int .u64 0, .int .i64 0, .bool false] (fun b26 h => ck (p22.add (n21 * 3)) [.int .u64 x23, .int .i64 x24, .bool x25] 0 h ∧ ck ((⟨b1, 0⟩ : Ptr).add 1) [.sl x20] 0 h ∧ ck (p16.add (n15 * 3)) [.int .u64 x17, .int .i64 x18, .bool x19] 0 h ∧ ck ((⟨b1, 0⟩ : Ptr).add 1) [.sl x14] 0 h ∧ ck (p10.add (n9 * 3)) [.int .u64 x11, .int .i64 x12, .bool x13] 0 h ∧ ck ((⟨b1, 0⟩ : Ptr).add 1) [.sl x8] 0 h ∧ ((al [.int .u64 0, .int .i64 0, .bool false] (fun b27 h => ck (p22.add (n21 * 3)) [.int .u64 x23, .int .i64 x24, .bool x25] 0 h ∧ ck ((⟨b1, 0⟩ : Ptr).add 1) [.sl x20] 0 h ∧ ck (p16.add (n15 * 3)) [.int .u64 x17, .int .i64 x18, .bool x19] 0 h ∧ ck ((⟨b1, 0⟩ : Ptr).add 1) [.sl x14] 0 h ∧ ck (p10.add (n9 * 3)) [.int .u64 x11, .int .i64 x12, .bool x13] 0 h ∧ ck ((⟨b1, 0⟩ : Ptr).add 1) [.sl x8] 0 h ∧ al [.int .u64 0, .int .i64 0, .bool false] (fun b28 h => ck (p22.add (n21 * 3)) [.int .u64 x23, .int .i64 x24, .bool x25] 0 h ∧ ck ((⟨b1, 0⟩ : Ptr).add 1) [.sl x20] 0 h ∧ ck (p16.add (n15 * 3)) [.int .u64 x17, .int .i64 x18, .bool x19] 0 h ∧ ck ((⟨b1, 0⟩ : Ptr).add 1) [.sl x14] 0 h ∧ ck (p10.add (n9 * 3)) [.int .u64 x11, .int .i64 x12, .bool x13] 0 h ∧ ck ((⟨b1, 0⟩ : Ptr).add 1) [.sl x8] 0 h ∧ wrL [.int .u64 x11, .int .i64 x12, .bool x13] (⟨b26, 0⟩ : Ptr) 0 (fun h => ck (p22.add (n21 * 3)) [.int .u64 x23, .int .i64 x24, .bool x25] 0 h ∧ ck ((⟨b1, 0⟩ : Ptr).add 1) [.sl x20] 0 h ∧ ck (p16.add (n15 * 3)) [.int .u64 x17, .int .i64 x18, .bool x19] 0 h ∧ ck ((⟨b1, 0⟩ : Ptr).add 1) [.sl x14] 0 h ∧ wrL [.int .u64 x17, .int .i64 x18, .bool x19] (⟨b27, 0⟩ : Ptr) 0 (fun h => ck (p22.add (n21 * 3)) [.int .u64 x23, .int .i64 x24, .bool x25] 0 h ∧ ck ((⟨b1, 0⟩ : Ptr).add 1) [.sl x20] 0 h ∧ (wrL [.int .u64 x23, .int .i64 x24, .bool x25] (⟨b28, 0⟩ : Ptr) 0 (fun h => backend_Block_ask.j4 U a1 a2 (⟨b2, 0⟩ : Ptr) (⟨b26, 0⟩ : Ptr) (⟨b27, 0⟩ : Ptr) (⟨b28, 0⟩ : Ptr) Q h) h)) h) h) h) h) ∧ (al [.int .u64 0, .int .i64 0, .bool false] (fun b29 h => ck (p22.add (n21 * 3)) [.int .u64 x23, .int .i64 x24, .bool x25] 0 h ∧ ck ((⟨b1, 0⟩ : Ptr).add 1) [.sl x20] 0 h ∧ ck (p16.add (n15 * 3)) [.int .u64 x17, .int .i64 x18, .bool x19] 0 h ∧ ck ((⟨b1, 0⟩ : Ptr).add 1) [.sl x14] 0 h ∧ ck (p10.add (n9 * 3)) [.int .u64 x11, .int .i64 x12, .bool x13] 0 h ∧ ck ((⟨b1, 0⟩ : Ptr).add 1) [.sl x8] 0 h ∧ al [.int .u64 0, .int .i64 0, .bool false] (fun b30 h => ck (p22.add (n21 * 3)) [.int .u64 x23, .int .i64 x24, .bool x25] 0 h ∧ ck ((⟨b1, 0⟩ : Ptr).add 1) [.sl x20] 0 h ∧ ck (p16.add (n15 * 3)) [.int .u64 x17, .int .i64 x18, .bool x19] 0 h ∧ ck ((⟨b1, 0⟩ : Ptr).add 1) [.sl x14] 0 h ∧ ck (p10.add (n9 * 3)) [.int .u64 x11, .int .i64 x12, .bool x13] 0 h ∧ ck ((⟨b1, 0⟩ : Ptr).add 1) [.sl x8] 0 h ∧ wrL [.int .u64 x11, .int .i64 x12, .bool x13] (⟨b26, 0⟩ : Ptr) 0 (fun h => ck (p22.add (n21 * 3)) [.int .u64 x23, .int .i64 x24, .bool x25] 0 h ∧ ck ((⟨b1, 0⟩ : Ptr).add 1) [.sl x20] 0 h ∧ ck (p16.add (n15 * 3)) [.int .u64 x17, .int .i64 x18, .bool x19] 0 h ∧ ck ((⟨b1, 0⟩ : Ptr).add 1) [.sl x14] 0 h ∧ wrL [.int .u64 x17, .int .i64 x18, .bool x19] (⟨b30, 0⟩ : Ptr) 0 (fun h => ck (p22.add (n21 * 3)) [.int .u64 x23, .int .i64 x24, .bool x25] 0 h ∧ ck ((⟨b1, 0⟩ : Ptr).add 1) [.sl x20] 0 h ∧ (wrL [.int .u64 x23, .int .i64 x24, .bool x25] (⟨b29, 0⟩ : Ptr) 0 (fun h => backend_Block_ask.j4 U a1 a2 (⟨b2, 0⟩ : Ptr) (⟨b26, 0⟩ : Ptr) (⟨b30, 0⟩ : Ptr) (⟨b29, 0⟩ : Ptr) Q h) h)) h) h) h) h))) h) ∧ ((al [.int .u64 0, .int .i64 0, .bool false] (fun b31 h => ck (p22.add (n21 * 3)) [.int .u64 x23, .int .i64 x24, .bool x25] 0 h ∧ ck ((⟨b1, 0⟩ : Ptr).add 1) [.sl x20] 0 h ∧ ck (p16.add (n15 * 3)) [.int .u64 x17, .int .i64 x18, .bool x19] 0 h ∧ ck ((⟨b1, 0⟩ : Ptr).add 1) [.sl x14] 0 h ∧ ck (p10.add (n9 * 3)) [.int .u64 x11, .int .i64 x12, .bool x13] 0 h ∧ ck ((⟨b1, 0⟩ : Ptr).add 1) [.sl x8] 0 h ∧ ((al [.int .u64 0, .int .i64 0, .bool false] (fun b32 h => ck (p22.add (n21 * 3)) [.int .u64 x23, .int .i64 x24, .bool x25] 0 h ∧ ck ((⟨b1, 0⟩ : Ptr).add 1) [.sl x20] 0 h ∧ ck (p16.add (n15 * 3)) [.int .u64 x17, .int .i64 x18, .bool x19] 0 h ∧ ck ((⟨b1, 0⟩ : Ptr).add 1) [.sl x14] 0 h ∧ ck (p10.add (n9 * 3)) [.int .u64 x11, .int .i64 x12, .bool x13] 0 h ∧ ck ((⟨b1, 0⟩ : Ptr).add 1) [.sl x8] 0 h ∧ al [.int .u64 0, .int .i64 0, .bool false] (fun b33 h => ck (p22.add (n21 * 3)) [.int .u64 x23, .int .i64 x24, .bool x25] 0 h ∧ ck ((⟨b1, 0⟩ : Ptr).add 1) [.sl x20] 0 h ∧ ck (p16.add (n15 * 3)) [.int .u64 x17, .int .i64 x18, .bool x19] 0 h ∧ ck ((⟨b1, 0⟩ : Ptr).add 1) [.sl x14] 0 h ∧ ck (p10.add (n9 * 3)) [.int .u64 x11, .int .i64 x12, .bool x13] 0 h ∧ ck ((⟨b1, 0⟩ : Ptr).add 1) [.sl x8] 0 h ∧ wrL [.int .u64 x11, .int .i64 x12, .bool x13] (⟨b32, 0⟩ : Ptr) 0 (fun h => ck (p22.add (n21 * 3)) [.int .u64 x23, .int .i64 x24, .bool x25] 0 h ∧ ck ((⟨b1, 0⟩ : Ptr).add 1) [.sl x20] 0 h ∧ ck (p16.add (n15 * 3)) [.int .u64 x17, .int .i64 x18, .bool x19] 0 h ∧ ck ((⟨b1, 0⟩ : Ptr).add 1) [.sl x14] 0 h ∧ wrL [.int .u64 x17, .int .i64 x18, .bool x19] (⟨b31, 0⟩ : Ptr) 0 (fun h => ck (p22.add (n21 * 3)) [.int .u64 x23, .int .i64 x24, .bool x25] 0 h ∧ ck ((⟨b1, 0⟩ : Ptr).add 1) [.sl x20] 0 h ∧ (wrL [.int .u64 x23, .int .i64 x24, .bool x25] (⟨b33, 0⟩ : Ptr) 0 (fun h => backend_Block_ask.j4 U a1 a2 (⟨b2, 0⟩ : Ptr) (⟨b32, 0⟩ : Ptr) (⟨b31, 0⟩ : Ptr) (⟨b33, 0⟩ : Ptr) Q h) h)) h) h) h) h) ∧ (al [.int .u64 0, .int .i64 0, .bool false] (fun b34 h => ck (p22.add (n21 * 3)) [.int .u64 x23, .int .i64 x24, .bool x25] 0 h ∧ ck ((⟨b1, 0⟩ : Ptr).add 1) [.sl x20] 0 h ∧ ck (p16.add (n15 * 3)) [.int .u64 x17, .int .i64 x18, .bool x19] 0 h ∧ ck ((⟨b1, 0⟩ : Ptr).add 1) [.sl x14] 0 h ∧ ck (p10.add (n9 * 3)) [.int .u64 x11, .int .i64 x12, .bool x13] 0 h ∧ ck ((⟨b1, 0⟩ : Ptr).add 1) [.sl x8] 0 h ∧ al [.int .u64 0, .int .i64 0, .bool false] (fun b35 h => ck (p22.add (n21 * 3)) [.int .u64 x23, .int .i64 x24, .bool x25] 0 h ∧ ck ((⟨b1, 0⟩ : Ptr).add 1) [.sl x20] 0 h ∧ ck (p16.add (n15 * 3)) [.int .u64 x17, .int .i64 x18, .bool x19] 0 h ∧ ck ((⟨b1, 0⟩ : Ptr).add 1) [.sl x14] 0 h ∧ ck (p10.add (n9 * 3)) [.int .u64 x11, .int .i64 x12, .bool x13] 0 h ∧ ck ((⟨b1, 0⟩ : Ptr).add 1) [.sl x8] 0 h ∧ wrL [.int .u64 x11, .int .i64 x12, .bool x13] (⟨b35, 0⟩ : Ptr) 0 (fun h => ck (p22.add (n21 * 3)) [.int .u64 x23, .int .i64 x24, .bool x25] 0 h ∧ ck ((⟨b1, 0⟩ : Ptr).add 1) [.sl x20] 0 h ∧ ck (p16.add (n15 * 3)) [.int .u64 x17, .int .i64 x18, .bool x19] 0 h ∧ ck ((⟨b1, 0⟩ : Ptr).add 1) [.sl x14] 0 h ∧ wrL [.int .u64 x17, .int .i64 x18, .bool x19] (⟨b31, 0⟩ : Ptr) 0 (fun h => ck (p22.add (n21 * 3)) [.int .u64 x23, .int .i64 x24, .bool x25] 0 h ∧ ck ((⟨b1, 0⟩ : Ptr).add 1) [.sl x20] 0 h ∧ (wrL [.int .u64 x23, .int .i64 x24, .bool x25] (⟨b34, 0⟩ : Ptr) 0 (fun h => backend_Block_ask.j4 U a1 a2 (⟨b2, 0⟩ : Ptr) (⟨b35, 0⟩ : Ptr) (⟨b31, 0⟩ : Ptr) (⟨b34, 0⟩ : Ptr) Q h) h)) h) h) h) h))) h) ∧ (al [.int .u64 0, .int .i64 0, .bool false] (fun b36 h => ck (p22.add (n21 * 3)) [.int .u64 x23, .int .i64 x24, .bool x25] 0 h ∧ ck ((⟨b1, 0⟩ : Ptr).add 1) [.sl x20] 0 h ∧ ck (p16.add (n15 * 3)) [.int .u64 x17, .int .i64 x18, .bool x19] 0 h ∧ ck ((⟨b1, 0⟩ : Ptr).add 1) [.sl x14] 0 h ∧ ck (p10.add (n9 * 3)) [.int .u64 x11, .int .i64 x12, .bool x13] 0 h ∧ ck ((⟨b1, 0⟩ : Ptr).add 1) [.sl x8] 0 h ∧ ((al [.int .u64 0, .int .i64 0, .bool false] (fun b37 h => ck (p22.add (n21 * 3)) [.int .u64 x23, .int .i64 x24, .bool x25] 0 h ∧ ck ((⟨b1, 0⟩ : Ptr).add 1) [.sl x20] 0 h ∧ ck (p16.add (n15 * 3)) [.int .u64 x17, .int .i64 x18, .bool x19] 0 h ∧ ck ((⟨b1, 0⟩ : Ptr).add 1) [.sl x14] 0 h ∧ ck (p10.add (n9 * 3)) [.int .u64 x11, .int .i64 x12, .bool x13] 0 h ∧ ck ((⟨b1, 0⟩ : Ptr).add 1) [.sl x8] 0 h ∧ al [.int .u64 0, .int .i64 0, .bool false] (fun b38 h => ck (p22.add (n21 * 3)) [.int .u64 x23, .int .i64 x24, .bool x25] 0 h ∧ ck ((⟨b1, 0⟩ : Ptr).add 1) [.sl x20] 0 h ∧ ck (p16.add (n15 * 3)) [.int .u64 x17, .int .i64 x18, .bool x19] 0 h ∧ ck ((⟨b1, 0⟩ : Ptr).add 1) [.sl x14] 0 h ∧ ck (p10.add (n9 * 3)) [.int .u64 x11, .int .i64 x12, .bool x13] 0 h ∧ ck ((⟨b1, 0⟩ : Ptr).add 1) [.sl x8] 0 h ∧ wrL [.int .u64 x11, .int .i64 x12, .bool x13] (⟨b37, 0⟩ : Ptr) 0 (fun h => ck (p22.add (n21 * 3)) [.int .u64 x23, .int .i64 x24, .bool x25] 0 h ∧ ck ((⟨b1, 0⟩ : Ptr).add 1) [.sl x20] 0 h ∧ ck (p16.add (n15 * 3)) [.int .u64 x17, .int .i64 x18, .bool x19] 0 h ∧ ck ((⟨b1, 0⟩ : Ptr).add 1) [.sl x14] 0 h ∧ wrL [.int .u64 x17, .int .i64 x18, .bool x19] (⟨b38, 0⟩ : Ptr) 0 (fun h => ck (p22.add (n21 * 3)) [.int .u64 x23, .int .i64 x24, .bool x25] 0 h ∧ ck ((⟨b1, 0⟩ : Ptr).add 1) [.sl x20] 0 h ∧ (wrL [.int .u64 x23, .int .i64 x24, .bool x25] (⟨b36, 0⟩ : Ptr) 0 (fun h => backend_Block_ask.j4 U a1 a2 (⟨b2, 0⟩ : Ptr) (⟨b37, 0⟩ : Ptr) (⟨b38, 0⟩ : Ptr) (⟨b36, 0⟩ : Ptr) Q h) h)) h) h) h) h) ∧ (al [.int .u64 0, .int .i64 0, .bool false] (fun b39 h => ck (p22.add (n21 * 3)) [.int .u64 x23, .int .i64 x24, .bool x25] 0 h ∧ ck ((⟨b1, 0⟩ : Ptr).add 1) [.sl x20] 0 h ∧ ck (p16.add (n15 * 3)) [.int .u64 x17, .int .i64 x18, .bool x19] 0 h ∧ ck ((⟨b1, 0⟩ : Ptr).add 1) [.sl x14] 0 h ∧ ck (p10.add (n9 * 3)) [.int .u64 x11, .int .i64 x12, .bool x13] 0 h ∧ ck ((⟨b1, 0⟩ : Ptr).add 1) [.sl x8] 0 h ∧ al [.int .u64 0, .int .i64 0, .bool false] (fun b40 h => ck (p22.add (n21 * 3)) [.int .u64 x23, .int .i64 x24, .bool x25] 0 h ∧ ck ((⟨b1, 0⟩ : Ptr).add 1) [.sl x20] 0 h ∧ ck (p16.add (n15 * 3)) [.int .u64 x17, .int .i64 x18, .bool x19] 0 h ∧ ck ((⟨b1, 0⟩ : Ptr).add 1) [.sl x14] 0 h ∧ ck (p10.add (n9 * 3)) [.int .u64 x11, .int .i64 x12, .bool x13] 0 h ∧ ck ((⟨b1, 0⟩ : Ptr).add 1) [.sl x8] 0 h ∧ wrL [.int .u64 x11, .int .i64 x12, .bool x13] (⟨b40, 0⟩ : Ptr) 0 (fun h => ck (p22.add (n21 * 3)) [.int .u64 x23, .int .i64 x24, .bool x25] 0 h ∧ ck ((⟨b1, 0⟩ : Ptr).add 1) [.sl x20] 0 h ∧ ck (p16.add (n15 * 3)) [.int .u64 x17, .int .i64 x18, .bool x19] 0 h ∧ ck ((⟨b1, 0⟩ : Ptr).add 1) [.sl x14] 0 h ∧ wrL [.int .u64 x17, .int .i64 x18, .bool x19] (⟨b39, 0⟩ : Ptr) 0 (fun h => ck (p22.add (n21 * 3)) [.int .u64 x23, .int .i64 x24, .bool x25] 0 h ∧ ck ((⟨b1, 0⟩ : Ptr).add 1) [.sl x20] 0 h ∧ (wrL [.int .u64 x23, .int .i64 x24, .bool x25] (⟨b36, 0⟩ : Ptr) 0 (fun h => backend_Block_ask.j4 U a1 a2 (⟨b2, 0⟩ : Ptr) (⟨b40, 0⟩ : Ptr) (⟨b39, 0⟩ : Ptr) (⟨b36, 0⟩ : Ptr) Q h) h)) h) h) h) h))) h))) h) h) h))) h) h) h) h))) h) h) h) h))) h)) h) h) h

def frames_Frames_wrong.j7   (Q : Int → Heap → Prop) (h : Heap) : Prop :=
  Q 15 h

def frames_Frames_wrong.j8   (Q : Int → Heap → Prop) (h : Heap) : Prop :=
  Q 0 h

def frames_Frames_wrong (a1 : Option Ptr) (a2 : Int) (a3 : Sl) (Q : Int → Heap → Prop) (h : Heap) : Prop :=
  frames_Frames_owned a1 a3 (fun r1 h => br (r1 != 0) (Q r1 h) (br (decide (a2 < 0)) (Q 2 h) (der a1 (fun p2 => rdI .i64 (p2.add 0) (fun x3 => br (decide (a2 ≥ x3)) (Q 2 h) (der a1 (fun p4 => rdM (p4.add 2) (fun x5 => mapGet (.int .i64) x5 (.int .i64 a2) (fun o6 => asI .i64 (o6.getD (.int .i64 0)) (fun x7 => br (x7 == 0) (frames_Frames_wrong.j7 Q h) (der a1 (fun p8 => rdM (p8.add 3) (fun x9 => ix 0 a3.len (fun n10 => der a3.p (fun p11 => rdI .i64 (p11.add (n10 * 1)) (fun x12 => mapGet (.int .i64) x9 (.int .i64 a2) (fun o13 => asI .i64 (o13.getD (.int .i64 0)) (fun x14 => ck (p11.add (n10 * 1)) [.int .i64 x12] 0 h ∧ (br (x14 != x12) (frames_Frames_wrong.j7 Q h) (frames_Frames_wrong.j8 Q h)))) h) h))) h)))) h) h))) h)))) h

def frames_Frames_Hold.j7   (Q : Int → Heap → Prop) (h : Heap) : Prop :=
  Q 0 h

def frames_Frames_Hold (a1 : Option Ptr) (a2 : Int) (a3 : Int) (Q : Int → Heap → Prop) (h : Heap) : Prop :=
  al [.int .i64 a3] (fun b1 h => frames_Frames_wrong a1 a2 ⟨some ⟨b1, 0⟩, 1, 1⟩ (fun r2 h => br (r2 != 0) (Q r2 h) (der a1 (fun p3 => rdM (p3.add 2) (fun x4 => mapGet (.int .i64) x4 (.int .i64 a2) (fun o5 => asI .i64 (o5.getD (.int .i64 0)) (fun x6 => br (decide (x6 ≥ 65536)) (Q 18 h) (der a1 (fun p7 => rdM (p7.add 2) (fun x8 => mapGet (.int .i64) x8 (.int .i64 a2) (fun o9 => asI .i64 (o9.getD (.int .i64 0)) (fun x10 => mapPut (.int .i64) x8 (.int .i64 a2) (.int .i64 (IntKind.i64.wrap (x10 + 1))) (fun h => frames_Frames_Hold.j7 Q h) h)) h) h)))) h) h))) h) h

def disk_Disk_wrong (a1 : Option Ptr) (a2 : Int) (Q : Int → Heap → Prop) (h : Heap) : Prop :=
  disk_Disk_none a1 (fun r1 h => br r1 (Q 1 h) (br (decide (a2 < 0)) (Q 12 h) (der a1 (fun p2 => rdI .i64 (p2.add 0) (fun x3 => br (decide (a2 ≥ x3)) (Q 12 h) (Q 0 h)) h)))) h

def slices_IndexFunc_disk_Request_disk_Request.b2 (U : Ifc)  (I2 : Sl → V → Int → Int → Heap → Prop) (a1 : Sl) (a2 : V) (a3 : Int) (a4 : Int) (Q : Int → Heap → Prop) (h : Heap) : Prop :=
  br (decide (a4 < a3)) (ix a4 a1.len (fun n1 => der a1.p (fun p2 => rdI .i64 ((p2.add (n1 * 4)).add 0) (fun x3 => rdB ((p2.add (n1 * 4)).add 1) (fun x4 => rdI .i64 ((p2.add (n1 * 4)).add 2) (fun x5 => rdI .i64 ((p2.add (n1 * 4)).add 3) (fun x6 => U.callV a2 [.agg [.int .i64 x3, .bool x4, .int .i64 x5, .int .i64 x6]] (fun r7 h => asB r7 (fun x8 => br x8 (Q a4 h) (I2 a1 a2 a3 (IntKind.i64.wrap (a4 + 1)) h))) h) h) h) h) h))) (Q (-1) h)

def slices_IndexFunc_disk_Request_disk_Request.j2 (U : Ifc)  (a1 : Sl) (a2 : V) (a3 : Int) (a4 : Int) (Q : Int → Heap → Prop) (h : Heap) : Prop :=
  ∀ I : Sl → V → Int → Int → Heap → Prop, (∀ a1 a2 a3 a4 h, slices_IndexFunc_disk_Request_disk_Request.b2 U  I a1 a2 a3 a4 Q h → I a1 a2 a3 a4 h) → I a1 a2 a3 a4 h

def slices_IndexFunc_disk_Request_disk_Request (U : Ifc) (a1 : Sl) (a2 : V) (Q : Int → Heap → Prop) (h : Heap) : Prop :=
  slices_IndexFunc_disk_Request_disk_Request.j2 U a1 a2 ((a1.len : Nat) : Int) 0 Q h

def slices_ContainsFunc_disk_Request_disk_Request (U : Ifc) (a1 : Sl) (a2 : V) (Q : Bool → Heap → Prop) (h : Heap) : Prop :=
  slices_IndexFunc_disk_Request_disk_Request U a1 a2 (fun r1 h => Q (decide (r1 ≥ 0)) h) h

def disk_Disk_Submit.j9 (U : Ifc)   (Q : Int → Heap → Prop) (h : Heap) : Prop :=
  Q 0 h

def disk_Disk_Submit (U : Ifc) (a1 : Option Ptr) (a2 : Int) (a3 : Bool) (a4 : Int) (a5 : Int) (Q : Int → Heap → Prop) (h : Heap) : Prop :=
  al [.int .i64 a2, .bool a3, .int .i64 a4, .int .i64 a5] (fun b1 h => rdI .i64 ((⟨b1, 0⟩ : Ptr).add 2) (fun x2 => disk_Disk_wrong a1 x2 (fun r3 h => br (r3 != 0) (Q r3 h) (der a1 (fun p4 => rdSl (p4.add 2) (fun x5 => slices_ContainsFunc_disk_Request_disk_Request U x5 (.fn 3 [.ptr (some (⟨b1, 0⟩ : Ptr))]) (fun r6 h => br r6 (Q 13 h) (der a1 (fun p7 => rdSl (p7.add 2) (fun x8 => br (decide (((x8.len : Nat) : Int) ≥ 8)) (Q 18 h) (der a1 (fun p9 => rdSl (p9.add 2) (fun x10 => rdI .i64 ((⟨b1, 0⟩ : Ptr).add 0) (fun x11 => rdB ((⟨b1, 0⟩ : Ptr).add 1) (fun x12 => rdI .i64 ((⟨b1, 0⟩ : Ptr).add 2) (fun x13 => rdI .i64 ((⟨b1, 0⟩ : Ptr).add 3) (fun x14 => al [.int .i64 x11, .bool x12, .int .i64 x13, .int .i64 x14] (fun b15 h => ck (p9.add 2) [.sl x10] 0 h ∧ (rdN (1 * 4) (⟨b15, 0⟩ : Ptr) (fun cs17 => appS 4 32 [.int .i64 0, .bool false, .int .i64 0, .int .i64 0] x10 cs17 1 (fun s16 h => der a1 (fun p18 => wr (p18.add 2) (.sl s16) (fun h => disk_Disk_Submit.j9 U Q h) h)) h) h)) h) h) h) h) h) h))) h))) h) h))) h) h) h

def frames_Frames_Free.j12  (a1 : Option Ptr) (a2 : Int) (Q : Bool → Int → Heap → Prop) (h : Heap) : Prop :=
  der a1 (fun p1 => rdI .i64 (p1.add 38) (fun x2 => der a1 (fun p3 => wr (p3.add 38) (.int .i64 (minI x2 a2)) (fun h => Q true 0 h) h)) h)

def frames_Frames_Free.j7  (a1 : Option Ptr) (a2 : Int) (a3 : Int) (Q : Bool → Int → Heap → Prop) (h : Heap) : Prop :=
  der a1 (fun p1 => rdM (p1.add 2) (fun x2 => mapGet (.int .i64) x2 (.int .i64 a2) (fun o3 => asI .i64 (o3.getD (.int .i64 0)) (fun x4 => br (decide (x4 > 0)) (Q false 0 h) (der a1 (fun p5 => rdM (p5.add 2) (fun x6 => mapDel (.int .i64) x6 (.int .i64 a2) (fun h => der a1 (fun p7 => rdM (p7.add 3) (fun x8 => mapDel (.int .i64) x8 (.int .i64 a2) (fun h => der a1 (fun p9 => ix a3 17 (fun n10 => rdI .i64 ((p9.add 4).add (n10 * 1)) (fun x11 => der a1 (fun p12 => ix a3 17 (fun n13 => wr ((p12.add 4).add (n13 * 1)) (.int .i64 (IntKind.i64.wrap (x11 - 1))) (fun h => frames_Frames_Free.j12 a1 a2 Q h) h))) h))) h) h)) h) h)))) h) h)

def frames_Frames_Free (a1 : Option Ptr) (a2 : Int) (a3 : Int) (Q : Bool → Int → Heap → Prop) (h : Heap) : Prop :=
  al [.int .i64 a3] (fun b1 h => frames_Frames_wrong a1 a2 ⟨some ⟨b1, 0⟩, 1, 1⟩ (fun r2 h => br (r2 != 0) (Q false r2 h) (der a1 (fun p3 => rdI .i64 (p3.add 1) (fun x4 => br (decide (a2 < x4)) (Q false 21 h) (der a1 (fun p5 => rdM (p5.add 2) (fun x6 => mapGet (.int .i64) x6 (.int .i64 a2) (fun o7 => asI .i64 (o7.getD (.int .i64 0)) (fun x8 => mapPut (.int .i64) x6 (.int .i64 a2) (.int .i64 (IntKind.i64.wrap (x8 - 1))) (fun h => frames_Frames_Free.j7 a1 a2 a3 Q h) h)) h) h))) h))) h) h

def backend_Block_submit.j5 (U : Ifc)   (Q : Int → Heap → Prop) (h : Heap) : Prop :=
  Q 1 h

def backend_Block_submit.j7 (U : Ifc)  (a1 : Option Ptr) (Q : Int → Heap → Prop) (h : Heap) : Prop :=
  der a1 (fun p1 => rdI .i64 (p1.add 6) (fun x2 => der a1 (fun p3 => wr (p3.add 6) (.int .i64 (IntKind.i64.wrap (x2 + 1))) (fun h => Q 0 h) h)) h)

def backend_Block_submit (U : Ifc) (a1 : Option Ptr) (a2 : Int) (a3 : Sl) (a4 : Int) (a5 : Bool) (a6 : Int) (a7 : Int) (Q : Int → Heap → Prop) (h : Heap) : Prop :=
  al [.int .i64 a2, .sl a3] (fun b1 h => al [.int .i64 a4, .bool a5, .int .i64 a6, .int .i64 a7] (fun b2 h => der a1 (fun p3 => rdP (p3.add 4) (fun x4 => rdI .i64 ((⟨b2, 0⟩ : Ptr).add 3) (fun x5 => der a1 (fun p6 => rdI .i64 (p6.add 5) (fun x7 => frames_Frames_Hold x4 x5 x7 (fun r8 h => br (r8 != 0) (Q 1 h) (der a1 (fun p9 => rdP (p9.add 1) (fun x10 => rdI .i64 ((⟨b2, 0⟩ : Ptr).add 0) (fun x11 => rdB ((⟨b2, 0⟩ : Ptr).add 1) (fun x12 => rdI .i64 ((⟨b2, 0⟩ : Ptr).add 2) (fun x13 => rdI .i64 ((⟨b2, 0⟩ : Ptr).add 3) (fun x14 => disk_Disk_Submit U x10 x11 x12 x13 x14 (fun r15 h => br (r15 != 0) (der a1 (fun p16 => rdP (p16.add 4) (fun x17 => rdI .i64 ((⟨b2, 0⟩ : Ptr).add 3) (fun x18 => der a1 (fun p19 => rdI .i64 (p19.add 5) (fun x20 => frames_Frames_Free x17 x18 x20 (fun r21 r22 h => backend_Block_submit.j5 U Q h) h) h)) h) h)) (der a1 (fun p23 => rdM (p23.add 7) (fun x24 => rdI .i64 ((⟨b2, 0⟩ : Ptr).add 0) (fun x25 => rdI .i64 ((⟨b1, 0⟩ : Ptr).add 0) (fun x26 => rdSl ((⟨b1, 0⟩ : Ptr).add 1) (fun x27 => rdI .i64 ((⟨b2, 0⟩ : Ptr).add 3) (fun x28 => rdB ((⟨b2, 0⟩ : Ptr).add 1) (fun x29 => ck ((⟨b2, 0⟩ : Ptr).add 0) [.int .i64 x25] 0 h ∧ ck (p23.add 7) [.map x24] 0 h ∧ (mapPut (.int .i64) x24 (.int .i64 x25) (.agg [.int .i64 x26, .sl x27, .int .i64 x28, .bool (!x29)]) (fun h => backend_Block_submit.j7 U a1 Q h) h)) h) h) h) h) h) h))) h) h) h) h) h) h))) h) h)) h) h)) h) h

def backend_tell (U : Ifc) (a1 : V) (a2 : Int) (a3 : Sl) (a4 : Int) (Q : Int → Heap → Prop) (h : Heap) : Prop :=
  al [.int .i64 a2, .sl a3] (fun b1 h => rdSl ((⟨b1, 0⟩ : Ptr).add 1) (fun x2 => rdSl ((⟨b1, 0⟩ : Ptr).add 1) (fun x3 => ix (IntKind.i64.wrap (((x3.len : Nat) : Int) - 1)) x2.len (fun n4 => der x2.p (fun p5 => rdI .u64 ((p5.add (n4 * 3)).add 0) (fun x6 => rdI .i64 ((p5.add (n4 * 3)).add 1) (fun x7 => rdB ((p5.add (n4 * 3)).add 2) (fun x8 => al [.int .u64 0, .int .i64 0, .bool false] (fun b9 h => wrL [.int .u64 x6, .int .i64 x7, .bool x8] (⟨b9, 0⟩ : Ptr) 0 (fun h => rdB ((⟨b9, 0⟩ : Ptr).add 2) (fun x10 => br x10 (rdI .u64 ((⟨b9, 0⟩ : Ptr).add 0) (fun x11 => al [.int .u8 a4] (fun b12 h => U.inv a1 "Put" [.int .u64 x11, .sl ⟨some ⟨b12, 0⟩, 1, 1⟩] (fun r13 h => asI .i64 r13 (fun x14 => br (x14 == 0) (Q 1 h) (Q 0 h))) h) h) h) (Q 0 h)) h) h) h) h) h) h))) h) h) h

def ring_Ring_Push.j5 (U : Ifc)   (Q : Int → Heap → Prop) (h : Heap) : Prop :=
  Q 2 h

def ring_Ring_Push.j7 (U : Ifc)   (Q : Int → Heap → Prop) (h : Heap) : Prop :=
  Q 21 h

def ring_Ring_Push.b11 (U : Ifc)  (I11 : (Option Ptr) → V → Sl → Int → Int → Heap → Prop) (a1 : Option Ptr) (a2 : V) (a3 : Sl) (a4 : Int) (a5 : Int) (Q : Int → Heap → Prop) (h : Heap) : Prop :=
  br (decide (a5 < a4)) (ix a5 a3.len (fun n1 => der a3.p (fun p2 => rdI .u64 ((p2.add (n1 * 2)).add 0) (fun x3 => rdI .u64 ((p2.add (n1 * 2)).add 1) (fun x4 => al [.int .u64 0, .int .u64 0] (fun b5 h => wrL [.int .u64 x3, .int .u64 x4] (⟨b5, 0⟩ : Ptr) 0 (fun h => rdI .u64 ((⟨b5, 0⟩ : Ptr).add 0) (fun x6 => rdI .u64 ((⟨b5, 0⟩ : Ptr).add 1) (fun x7 => U.inv a2 "Store" [.int .u64 x6, .int .i64 8, .int .u64 x7] (fun r8 h => asI .i64 r8 (fun x9 => br (x9 != 0) (der a1 (fun p10 => wr (p10.add 4) (.bool true) (fun h => Q 22 h) h)) (I11 a1 a2 a3 a4 (IntKind.i64.wrap (a5 + 1)) h))) h) h) h) h) h) h) h))) (der a1 (fun p11 => rdI .u64 (p11.add 3) (fun x12 => der a1 (fun p13 => wr (p13.add 3) (.int .u64 (IntKind.u64.wrap (x12 + 1))) (fun h => Q 0 h) h)) h))

def ring_Ring_Push.j11 (U : Ifc)  (a1 : Option Ptr) (a2 : V) (a3 : Sl) (a4 : Int) (a5 : Int) (Q : Int → Heap → Prop) (h : Heap) : Prop :=
  ∀ I : (Option Ptr) → V → Sl → Int → Int → Heap → Prop, (∀ a1 a2 a3 a4 a5 h, ring_Ring_Push.b11 U  I a1 a2 a3 a4 a5 Q h → I a1 a2 a3 a4 a5 h) → I a1 a2 a3 a4 a5 h

def ring_Ring_Push.j10 (U : Ifc)  (a1 : Option Ptr) (a2 : V) (a3 : Int) (a4 : Int) (a5 : Int) (a6 : Int) (Q : Int → Heap → Prop) (h : Heap) : Prop :=
  der a1 (fun p1 => rdI .u64 (p1.add 3) (fun x2 => al [.int .u64 a6, .int .u64 (IntKind.u64.wrap a3), .int .u64 (IntKind.u64.wrap (a6 + 8)), .int .u64 (IntKind.u64.wrap a4), .int .u64 a5, .int .u64 (IntKind.u64.wrap (x2 + 1))] (fun b3 h => ring_Ring_Push.j11 U a1 a2 ⟨some ⟨b3, 0⟩, 3, 3⟩ ((3 : Nat) : Int) 0 Q h) h) h)

def ring_Ring_Push.j8 (U : Ifc)  (a1 : Option Ptr) (a2 : V) (a3 : Int) (a4 : Int) (Q : Int → Heap → Prop) (h : Heap) : Prop :=
  der a1 (fun p1 => rdI .u64 (p1.add 0) (fun x2 => der a1 (fun p3 => rdI .u64 (p3.add 1) (fun x4 => der a1 (fun p5 => rdI .u64 (p5.add 3) (fun x6 => der a1 (fun p7 => rdI .u64 (p7.add 1) (fun x8 => nz x8 (ring_Ring_Push.j10 U a1 a2 a3 a4 (IntKind.u64.wrap ((IntKind.u64.wrap (x2 + (IntKind.u64.wrap (40 * x4)))) + 8)) (IntKind.u64.wrap ((IntKind.u64.wrap ((IntKind.u64.wrap ((IntKind.u64.wrap (x2 + (IntKind.u64.wrap (40 * x4)))) + 8)) + 8)) + (IntKind.u64.wrap (16 * (x6.tmod x8))))) Q h)) h)) h)) h)) h)

def ring_Ring_Push (U : Ifc) (a1 : Option Ptr) (a2 : V) (a3 : Int) (a4 : Int) (Q : Int → Heap → Prop) (h : Heap) : Prop :=
  ring_Ring_usable a1 a2 (fun r1 h => br (r1 != 0) (Q r1 h) (br (decide (a3 < 0)) (ring_Ring_Push.j5 U Q h) (der a1 (fun p2 => rdI .u64 (p2.add 1) (fun x3 => br (decide ((IntKind.u64.wrap a3) ≥ x3)) (ring_Ring_Push.j5 U Q h) (br (decide (a4 < 0)) (ring_Ring_Push.j5 U Q h) (der a1 (fun p4 => rdI .u64 (p4.add 3) (fun x5 => der a1 (fun p6 => rdI .u64 (p6.add 2) (fun x7 => br (x5 == x7) (ring_Ring_Push.j7 U Q h) (ring_Ring_Push.j8 U a1 a2 a3 a4 Q h)) h)) h)))) h)))) h

def backend_Block_Kick.j7 (U : Ifc) (I4 : (Option Ptr) → V → Int → Heap → Prop) (a1 : Int) (a2 : Int) (Q : Int → Int → Heap → Prop) (h : Heap) : Prop :=
  Q a1 a2 h

def backend_Block_Kick.j11 (U : Ifc) (I4 : (Option Ptr) → V → Int → Heap → Prop) (a1 : Option Ptr) (a2 : V) (a3 : Int) (a4 : Ptr) (a5 : Int) (Q : Int → Int → Heap → Prop) (h : Heap) : Prop :=
  br (a5 == 0) (I4 a1 a2 a3 h) (der a1 (fun p1 => rdP (p1.add 0) (fun x2 => rdI .i64 (a4.add 0) (fun x3 => rdI .i64 (a4.add 0) (fun x4 => rdSl (a4.add 1) (fun x5 => backend_tell U a2 x4 x5 a5 (fun r6 h => ck (a4.add 0) [.int .i64 x3] 0 h ∧ ck (p1.add 0) [.ptr x2] 0 h ∧ (ring_Ring_Push U x2 a2 x3 r6 (fun r7 h => br (r7 != 0) (Q a3 r7 h) (I4 a1 a2 (IntKind.i64.wrap (a3 + 1)) h)) h)) h) h) h) h) h))

def backend_Block_Kick.j8 (U : Ifc) (I4 : (Option Ptr) → V → Int → Heap → Prop) (a1 : Option Ptr) (a2 : V) (a3 : Int) (a4 : Ptr) (Q : Int → Int → Heap → Prop) (h : Heap) : Prop :=
  rdI .i64 (a4.add 0) (fun x1 => rdSl (a4.add 1) (fun x2 => backend_Block_ask U a1 a2 x1 x2 (fun r3 r4 r5 r6 r7 h => al [.int .i64 0, .bool false, .int .i64 0, .int .i64 0] (fun b8 h => wrL [.int .i64 r3, .bool r4, .int .i64 r5, .int .i64 r6] (⟨b8, 0⟩ : Ptr) 0 (fun h => br (r7 == 0) (rdI .i64 (a4.add 0) (fun x9 => rdSl (a4.add 1) (fun x10 => rdI .i64 ((⟨b8, 0⟩ : Ptr).add 0) (fun x11 => rdB ((⟨b8, 0⟩ : Ptr).add 1) (fun x12 => rdI .i64 ((⟨b8, 0⟩ : Ptr).add 2) (fun x13 => rdI .i64 ((⟨b8, 0⟩ : Ptr).add 3) (fun x14 => backend_Block_submit U a1 x9 x10 x11 x12 x13 x14 (fun r15 h => backend_Block_Kick.j11 U I4 a1 a2 a3 a4 r15 Q h) h) h) h) h) h) h) h) (backend_Block_Kick.j11 U I4 a1 a2 a3 a4 r7 Q h)) h) h) h) h) h

def backend_Block_Kick.b4 (U : Ifc)  (I4 : (Option Ptr) → V → Int → Heap → Prop) (a1 : Option Ptr) (a2 : V) (a3 : Int) (Q : Int → Int → Heap → Prop) (h : Heap) : Prop :=
  der a1 (fun p1 => rdM (p1.add 7) (fun x2 => mapLen x2 (fun n3 => br (decide (n3 < 8)) (der a1 (fun p4 => rdP (p4.add 0) (fun x5 => ring_Ring_Next U x5 a2 (fun r6 r7 r8 r9 h => al [.int .i64 0, .sl ⟨none, 0, 0⟩] (fun b10 h => wrL [.int .i64 r6, .sl r7] (⟨b10, 0⟩ : Ptr) 0 (fun h => br (!r8) (backend_Block_Kick.j7 U I4 a3 r9 Q h) (br (r9 != 0) (backend_Block_Kick.j7 U I4 a3 r9 Q h) (backend_Block_Kick.j8 U I4 a1 a2 a3 (⟨b10, 0⟩ : Ptr) Q h))) h) h) h) h)) (Q a3 0 h)) h) h)

def backend_Block_Kick.j4 (U : Ifc)  (a1 : Option Ptr) (a2 : V) (a3 : Int) (Q : Int → Int → Heap → Prop) (h : Heap) : Prop :=
  ∀ I : (Option Ptr) → V → Int → Heap → Prop, (∀ a1 a2 a3 h, backend_Block_Kick.b4 U  I a1 a2 a3 Q h → I a1 a2 a3 h) → I a1 a2 a3 h

def backend_Block_Kick (U : Ifc) (a1 : Option Ptr) (a2 : V) (Q : Int → Int → Heap → Prop) (h : Heap) : Prop :=
  backend_Block_none a1 a2 (fun r1 h => br r1 (Q 0 1 h) (backend_Block_Kick.j4 U a1 a2 0 Q h)) h

def word_Load.j2 (U : Ifc)   (Q : Int → Bool → Heap → Prop) (h : Heap) : Prop :=
  Q 0 false h

def word_Load.b5 (U : Ifc)  (I5 : Int → Int → Sl → Int → Int → Heap → Prop) (a1 : Int) (a2 : Int) (a3 : Sl) (a4 : Int) (a5 : Int) (Q : Int → Bool → Heap → Prop) (h : Heap) : Prop :=
  br (decide (a5 < a4)) (ix a5 a3.len (fun n1 => der a3.p (fun p2 => rdI .u8 (p2.add (n1 * 1)) (fun x3 => nneg (IntKind.i64.wrap (8 * a5)) (I5 a1 (ibits .or .u64 a2 (shlI .u64 (IntKind.u64.wrap x3) (IntKind.i64.wrap (8 * a5)))) a3 a4 (IntKind.i64.wrap (a5 + 1)) h)) h))) (br (a1 == 4) (Q (IntKind.u64.wrap (IntKind.i64.wrap (IntKind.i32.wrap a2))) true h) (Q a2 true h))

def word_Load.j5 (U : Ifc)  (a1 : Int) (a2 : Int) (a3 : Sl) (a4 : Int) (a5 : Int) (Q : Int → Bool → Heap → Prop) (h : Heap) : Prop :=
  ∀ I : Int → Int → Sl → Int → Int → Heap → Prop, (∀ a1 a2 a3 a4 a5 h, word_Load.b5 U  I a1 a2 a3 a4 a5 Q h → I a1 a2 a3 a4 a5 h) → I a1 a2 a3 a4 a5 h

def word_Load (U : Ifc) (a1 : Sl) (a2 : Int) (a3 : Int) (Q : Int → Bool → Heap → Prop) (h : Heap) : Prop :=
  word_known U a3 (fun r1 h => br (!r1) (word_Load.j2 U Q h) (br (decide (a2 < 0)) (word_Load.j2 U Q h) (br (decide (a2 > (IntKind.i64.wrap (((a1.len : Nat) : Int) - a3)))) (word_Load.j2 U Q h) (sb (IntKind.i64.wrap (a2 + a3)) a1.cap (fun n2 => sb a2 n2 (fun n3 => word_Load.j5 U a3 0 ⟨slp a1.p (n3 * 1) n3 a1.cap, n2 - n3, a1.cap - n3⟩ ((n2 - n3 : Nat) : Int) 0 Q h)))))) h

def mem_Memory_Load (U : Ifc) (a1 : Option Ptr) (a2 : Int) (a3 : Int) (Q : Int → Int → Heap → Prop) (h : Heap) : Prop :=
  mem_Memory_number a1 a2 a3 (fun r1 r2 h => br (r2 != 0) (Q 0 r2 h) (word_Load U r1 0 a3 (fun r3 r4 h => Q r3 0 h) h)) h

def palisadelaw24_Flat_Load (U : Ifc) (a1 : Option Ptr) (a2 : Int) (a3 : Int) (Q : Int → Int → Heap → Prop) (h : Heap) : Prop :=
  der a1 (fun p1 => rdI .i64 (p1.add 2) (fun x2 => br (decide (a2 ≥ (IntKind.u64.wrap (IntKind.i64.wrap (256 * x2))))) (Q 0 12 h) (der a1 (fun p3 => rdP (p3.add 0) (fun x4 => der a1 (fun p5 => rdI .i64 (p5.add 1) (fun x6 => mem_Memory_Load U x4 (IntKind.u64.wrap (a2 + (IntKind.u64.wrap (IntKind.i64.wrap (256 * x6))))) a3 (fun r7 r8 h => Q r7 r8 h) h) h)) h))) h)

def palisadelaw24_back (U : Ifc) (a1 : Option Ptr) (Q : Int → Int → Heap → Prop) (h : Heap) : Prop :=
  palisadelaw24_Flat_Load U a1 328 8 (fun r1 r2 h => nz 8 (palisadelaw24_Flat_Load U a1 (IntKind.u64.wrap ((IntKind.u64.wrap (336 + (IntKind.u64.wrap (16 * ((IntKind.u64.wrap (r1 - 1)).tmod 8))))) + 8)) 8 (fun r3 r4 h => Q (IntKind.i64.wrap r1) (IntKind.i64.wrap r3) h) h)) h

def slices_Clone_disk_Request_disk_Request (a1 : Sl) (Q : Sl → Heap → Prop) (h : Heap) : Prop :=
  br a1.p.isNone (Q ⟨none, 0, 0⟩ h) (al [] (fun b1 h => cellsS 4 a1 (fun cs3 => appS 4 32 [.int .i64 0, .bool false, .int .i64 0, .int .i64 0] ⟨some ⟨b1, 0⟩, 0, 0⟩ cs3 a1.len (fun s2 h => Q s2 h) h) h) h)

def disk_Disk_Pending (a1 : Option Ptr) (Q : Sl → Heap → Prop) (h : Heap) : Prop :=
  disk_Disk_none a1 (fun r1 h => br r1 (Q ⟨none, 0, 0⟩ h) (der a1 (fun p2 => rdSl (p2.add 2) (fun x3 => slices_Clone_disk_Request_disk_Request x3 (fun r4 h => Q r4 h) h) h))) h

def frames_Frames_Sum.b5  (I5 : Int → Ptr → Heap → Prop) (a1 : Int) (a2 : Ptr) (Q : Int → Heap → Prop) (h : Heap) : Prop :=
  a2.o = 0 ∧ nextM a2.b (fun h => Q a1 h) (fun k1 u2 h => a2.o = 0 ∧ entryM a2.b (fun k3 u4 => asI .i64 k3 (fun x5 => asI .i64 u4 (fun x6 => I5 (IntKind.i64.wrap (a1 + x6)) a2 h))) h) h

def frames_Frames_Sum.j5  (a1 : Int) (a2 : Ptr) (Q : Int → Heap → Prop) (h : Heap) : Prop :=
  ∀ I : Int → Ptr → Heap → Prop, (∀ a1 a2 h, frames_Frames_Sum.b5  I a1 a2 Q h → I a1 a2 h) → I a1 a2 h

def frames_Frames_Sum (a1 : Option Ptr) (Q : Int → Heap → Prop) (h : Heap) : Prop :=
  frames_Frames_none a1 (fun r1 h => br r1 (Q 0 h) (der a1 (fun p2 => rdM (p2.add 2) (fun x3 => rangeM x3 (fun b4 h => frames_Frames_Sum.j5 0 (⟨b4, 0⟩ : Ptr) Q h) h) h))) h

def palisadelaw24_BackendRefuses.j14 (U : Ifc)  (a1 : Option Ptr) (a2 : Int) (a3 : Int) (a4 : Int) (a5 : Int) (a6 : Int) (Q : Bool → Heap → Prop) (h : Heap) : Prop :=
  br (a2 == 1) (br (a3 == 0) (br (a4 == a6) (br (a5 == 1) (der a1 (fun p1 => rdP (p1.add 2) (fun x2 => disk_Disk_Pending x2 (fun r3 h => br (((r3.len : Nat) : Int) == 0) (der a1 (fun p4 => rdP (p4.add 1) (fun x5 => frames_Frames_Sum x5 (fun r6 h => Q (r6 == 36) h) h) h)) (Q false h)) h) h)) (Q false h)) (Q false h)) (Q false h)) (Q false h)

def palisadelaw24_BackendRefuses.j11 (U : Ifc)  (a1 : Int) (a2 : Option Ptr) (a3 : Int) (a4 : Int) (a5 : Int) (a6 : Int) (Q : Bool → Heap → Prop) (h : Heap) : Prop :=
  br (decide (a1 ≤ 1)) (palisadelaw24_BackendRefuses.j14 U a2 a3 a4 a5 a6 1 Q h) (palisadelaw24_BackendRefuses.j14 U a2 a3 a4 a5 a6 2 Q h)

def palisadelaw24_BackendRefuses.j7 (U : Ifc)  (a1 : Int) (a2 : Option Ptr) (a3 : Option Ptr) (a4 : Sl) (Q : Bool → Heap → Prop) (h : Heap) : Prop :=
  palisadelaw24_offer U a3 0 a4 (fun h => der a2 (fun p1 => ix 0 2 (fun n2 => rdP ((p1.add 7).add (n2 * 1)) (fun x3 => backend_Block_Kick U x3 (.iface 4 (.ptr a3)) (fun r4 r5 h => palisadelaw24_Flat_Load U a3 1100 1 (fun r6 r7 h => palisadelaw24_back U a3 (fun r8 r9 h => palisadelaw24_BackendRefuses.j11 U a1 a2 r4 r5 r6 r9 Q h) h) h) h) h))) h

def palisadelaw24_BackendRefuses.j18 (U : Ifc) (I17 : Sl → (Option Ptr) → (Option Ptr) → Sl → Int → Heap → Prop) (a1 : Sl) (a2 : Option Ptr) (a3 : Option Ptr) (a4 : Sl) (a5 : Int) (Q : Bool → Heap → Prop) (h : Heap) : Prop :=
  I17 a1 a2 a3 a4 (IntKind.i64.wrap (a5 + 1)) h

def palisadelaw24_BackendRefuses.j27 (U : Ifc)   (Q : Bool → Heap → Prop) (h : Heap) : Prop :=
  Q false h

def palisadelaw24_BackendRefuses.j28 (U : Ifc)  (a1 : Option Ptr) (a2 : Int) (a3 : Ptr) (Q : Bool → Heap → Prop) (h : Heap) : Prop :=
  rdI .u64 (a3.add 0) (fun x1 => palisadelaw24_Flat_Load U a1 x1 1 (fun r2 r3 h => rdB (a3.add 2) (fun x4 => br x4 (br (r2 == 2) (br (a2 == 1) (Q true h) (rdB (a3.add 2) (fun x5 => br (!x5) (Q (a2 == 0) h) (Q false h)) h)) (rdB (a3.add 2) (fun x6 => br (!x6) (Q (a2 == 0) h) (Q false h)) h)) (rdB (a3.add 2) (fun x7 => br (!x7) (Q (a2 == 0) h) (Q false h)) h)) h) h) h

def palisadelaw24_BackendRefuses.j25 (U : Ifc)  (a1 : Option Ptr) (a2 : Option Ptr) (a3 : Sl) (a4 : Int) (a5 : Int) (a6 : Int) (a7 : Int) (Q : Bool → Heap → Prop) (h : Heap) : Prop :=
  ix (IntKind.i64.wrap (((a3.len : Nat) : Int) - 1)) a3.len (fun n1 => der a3.p (fun p2 => rdI .u64 ((p2.add (n1 * 3)).add 0) (fun x3 => rdI .i64 ((p2.add (n1 * 3)).add 1) (fun x4 => rdB ((p2.add (n1 * 3)).add 2) (fun x5 => al [.int .u64 0, .int .i64 0, .bool false] (fun b6 h => wrL [.int .u64 x3, .int .i64 x4, .bool x5] (⟨b6, 0⟩ : Ptr) 0 (fun h => br (a4 != 1) (palisadelaw24_BackendRefuses.j27 U Q h) (br (a5 != 0) (palisadelaw24_BackendRefuses.j27 U Q h) (br (a6 != 1) (palisadelaw24_BackendRefuses.j27 U Q h) (der a1 (fun p7 => rdP (p7.add 2) (fun x8 => disk_Disk_Pending x8 (fun r9 h => br (((r9.len : Nat) : Int) != 0) (palisadelaw24_BackendRefuses.j27 U Q h) (der a1 (fun p10 => rdP (p10.add 1) (fun x11 => frames_Frames_Sum x11 (fun r12 h => br (r12 != 36) (palisadelaw24_BackendRefuses.j27 U Q h) (palisadelaw24_BackendRefuses.j28 U a2 a7 (⟨b6, 0⟩ : Ptr) Q h)) h) h))) h) h))))) h) h) h) h) h))

def palisadelaw24_BackendRefuses.j20 (U : Ifc)  (a1 : Option Ptr) (a2 : Option Ptr) (a3 : Sl) (Q : Bool → Heap → Prop) (h : Heap) : Prop :=
  br (((a3.len : Nat) : Int) == 0) (Q true h) (palisadelaw24_offer U a2 0 a3 (fun h => der a1 (fun p1 => ix 0 2 (fun n2 => rdP ((p1.add 7).add (n2 * 1)) (fun x3 => backend_Block_Kick U x3 (.iface 4 (.ptr a2)) (fun r4 r5 h => palisadelaw24_back U a2 (fun r6 r7 h => palisadelaw24_BackendRefuses.j25 U a1 a2 a3 r4 r5 r6 r7 Q h) h) h) h))) h)

def palisadelaw24_BackendRefuses.b17 (U : Ifc)  (I17 : Sl → (Option Ptr) → (Option Ptr) → Sl → Int → Heap → Prop) (a1 : Sl) (a2 : Option Ptr) (a3 : Option Ptr) (a4 : Sl) (a5 : Int) (Q : Bool → Heap → Prop) (h : Heap) : Prop :=
  br (decide (a5 < ((a1.len : Nat) : Int))) (br (decide (a5 < 8)) (ix a5 a1.len (fun n1 => der a1.p (fun p2 => rdI .u64 ((p2.add (n1 * 3)).add 0) (fun x3 => ix a5 a1.len (fun n4 => der a1.p (fun p5 => rdI .i64 ((p5.add (n4 * 3)).add 1) (fun x6 => ix a5 a1.len (fun n7 => der a1.p (fun p8 => rdB ((p8.add (n7 * 3)).add 2) (fun x9 => br x9 (al [.int .u64 (IntKind.u64.wrap (1200 + (ibits .and .u64 x3 63))), .int .i64 (IntKind.i64.wrap (1 + (ibits .and .i64 x6 15))), .bool (a5 == (IntKind.i64.wrap (((a1.len : Nat) : Int) - 1)))] (fun b10 h => rdN (1 * 3) (⟨b10, 0⟩ : Ptr) (fun cs12 => appS 3 24 [.int .u64 0, .int .i64 0, .bool false] a4 cs12 1 (fun s11 h => palisadelaw24_BackendRefuses.j18 U I17 a1 a2 a3 s11 a5 Q h) h) h) h) (al [.int .u64 (IntKind.u64.wrap (1200 + (ibits .and .u64 x3 63))), .int .i64 (IntKind.i64.wrap (1 + (ibits .and .i64 x6 15))), .bool false] (fun b13 h => rdN (1 * 3) (⟨b13, 0⟩ : Ptr) (fun cs15 => appS 3 24 [.int .u64 0, .int .i64 0, .bool false] a4 cs15 1 (fun s14 h => palisadelaw24_BackendRefuses.j18 U I17 a1 a2 a3 s14 a5 Q h) h) h) h)) h))) h))) h))) (palisadelaw24_BackendRefuses.j20 U a2 a3 a4 Q h)) (palisadelaw24_BackendRefuses.j20 U a2 a3 a4 Q h)

def palisadelaw24_BackendRefuses.j17 (U : Ifc)  (a1 : Sl) (a2 : Option Ptr) (a3 : Option Ptr) (a4 : Sl) (a5 : Int) (Q : Bool → Heap → Prop) (h : Heap) : Prop :=
  ∀ I : Sl → (Option Ptr) → (Option Ptr) → Sl → Int → Heap → Prop, (∀ a1 a2 a3 a4 a5 h, palisadelaw24_BackendRefuses.b17 U  I a1 a2 a3 a4 a5 Q h → I a1 a2 a3 a4 a5 h) → I a1 a2 a3 a4 a5 h

def palisadelaw24_BackendRefuses (U : Ifc) (a1 : Sl) (a2 : Int) (a3 : Int) (Q : Bool → Heap → Prop) (h : Heap) : Prop :=
  palisadelaw24_begin (fun r1 h => br r1.isNone (Q false h) (der r1 (fun p2 => ix 0 2 (fun n3 => rdP ((p2.add 3).add (n3 * 1)) (fun x4 => palisadelaw24_request U x4 a2 a3 6 (fun r5 h => br (decide (a2 > 1)) (palisadelaw24_BackendRefuses.j7 U a2 r1 x4 r5 Q h) (br (decide (a3 > 3)) (palisadelaw24_BackendRefuses.j7 U a2 r1 x4 r5 Q h) (palisadelaw24_BackendRefuses.j17 U a1 r1 x4 ⟨none, 0, 0⟩ 0 Q h))) h) h)))) h

def mem_Memory_Frames (a1 : Option Ptr) (Q : Int → Heap → Prop) (h : Heap) : Prop :=
  mem_Memory_none a1 (fun r1 h => br r1 (Q 0 h) (der a1 (fun p2 => rdSl (p2.add 0) (fun x3 => nz 256 (Q (IntKind.i64.wrap (((x3.len : Nat) : Int).tdiv 256)) h)) h))) h

def slices_DeleteFunc_disk_Request_disk_Request.j6 (U : Ifc) (I5 : Sl → V → Int → Int → Heap → Prop) (a1 : Sl) (a2 : V) (a3 : Int) (a4 : Int) (Q : Sl → Heap → Prop) (h : Heap) : Prop :=
  I5 a1 a2 a3 (IntKind.i64.wrap (a4 + 1)) h

def slices_DeleteFunc_disk_Request_disk_Request.b5 (U : Ifc)  (I5 : Sl → V → Int → Int → Heap → Prop) (a1 : Sl) (a2 : V) (a3 : Int) (a4 : Int) (Q : Sl → Heap → Prop) (h : Heap) : Prop :=
  br (decide (a4 < ((a1.len : Nat) : Int))) (ix a4 a1.len (fun n1 => der a1.p (fun p2 => rdI .i64 ((p2.add (n1 * 4)).add 0) (fun x3 => rdB ((p2.add (n1 * 4)).add 1) (fun x4 => rdI .i64 ((p2.add (n1 * 4)).add 2) (fun x5 => rdI .i64 ((p2.add (n1 * 4)).add 3) (fun x6 => al [.int .i64 0, .bool false, .int .i64 0, .int .i64 0] (fun b7 h => wrL [.int .i64 x3, .bool x4, .int .i64 x5, .int .i64 x6] (⟨b7, 0⟩ : Ptr) 0 (fun h => rdI .i64 ((⟨b7, 0⟩ : Ptr).add 0) (fun x8 => rdB ((⟨b7, 0⟩ : Ptr).add 1) (fun x9 => rdI .i64 ((⟨b7, 0⟩ : Ptr).add 2) (fun x10 => rdI .i64 ((⟨b7, 0⟩ : Ptr).add 3) (fun x11 => U.callV a2 [.agg [.int .i64 x8, .bool x9, .int .i64 x10, .int .i64 x11]] (fun r12 h => asB r12 (fun x13 => br (!x13) (rdI .i64 ((⟨b7, 0⟩ : Ptr).add 0) (fun x14 => rdB ((⟨b7, 0⟩ : Ptr).add 1) (fun x15 => rdI .i64 ((⟨b7, 0⟩ : Ptr).add 2) (fun x16 => rdI .i64 ((⟨b7, 0⟩ : Ptr).add 3) (fun x17 => ix a3 a1.len (fun n18 => der a1.p (fun p19 => wrL [.int .i64 x14, .bool x15, .int .i64 x16, .int .i64 x17] (p19.add (n18 * 4)) 0 (fun h => slices_DeleteFunc_disk_Request_disk_Request.j6 U I5 a1 a2 (IntKind.i64.wrap (a3 + 1)) a4 Q h) h))) h) h) h) h) (slices_DeleteFunc_disk_Request_disk_Request.j6 U I5 a1 a2 a3 a4 Q h))) h) h) h) h) h) h) h) h) h) h) h))) (sb a3 a1.len (fun n20 => clearS [.int .i64 0, .bool false, .int .i64 0, .int .i64 0] ⟨slp a1.p (n20 * 4) n20 a1.cap, a1.len - n20, a1.cap - n20⟩ (fun h => sb a3 a1.cap (fun n21 => Q ⟨slp a1.p (0 * 4) 0 a1.cap, n21 - 0, a1.cap - 0⟩ h)) h))

def slices_DeleteFunc_disk_Request_disk_Request.j5 (U : Ifc)  (a1 : Sl) (a2 : V) (a3 : Int) (a4 : Int) (Q : Sl → Heap → Prop) (h : Heap) : Prop :=
  ∀ I : Sl → V → Int → Int → Heap → Prop, (∀ a1 a2 a3 a4 h, slices_DeleteFunc_disk_Request_disk_Request.b5 U  I a1 a2 a3 a4 Q h → I a1 a2 a3 a4 h) → I a1 a2 a3 a4 h

def slices_DeleteFunc_disk_Request_disk_Request (U : Ifc) (a1 : Sl) (a2 : V) (Q : Sl → Heap → Prop) (h : Heap) : Prop :=
  slices_IndexFunc_disk_Request_disk_Request U a1 a2 (fun r1 h => br (r1 == (-1)) (Q a1 h) (slices_DeleteFunc_disk_Request_disk_Request.j5 U a1 a2 r1 (IntKind.i64.wrap (r1 + 1)) Q h)) h

def bytes_Clone (a1 : Sl) (Q : Sl → Heap → Prop) (h : Heap) : Prop :=
  br a1.p.isNone (Q ⟨none, 0, 0⟩ h) (al [] (fun b1 h => cellsS 1 a1 (fun cs3 => appS 1 1 [.int .u8 0] ⟨some ⟨b1, 0⟩, 0, 0⟩ cs3 a1.len (fun s2 h => Q s2 h) h) h) h)

def mem_Memory_Bytes (a1 : Option Ptr) (a2 : Int) (a3 : Int) (Q : Sl → Int → Heap → Prop) (h : Heap) : Prop :=
  mem_Memory_part a1 a2 a3 (fun r1 r2 h => bytes_Clone r1 (fun r3 h => Q r3 r2 h) h) h

def slices_IndexFunc_byte_byte.b2 (U : Ifc)  (I2 : Sl → V → Int → Int → Heap → Prop) (a1 : Sl) (a2 : V) (a3 : Int) (a4 : Int) (Q : Int → Heap → Prop) (h : Heap) : Prop :=
  br (decide (a4 < a3)) (ix a4 a1.len (fun n1 => der a1.p (fun p2 => rdI .u8 (p2.add (n1 * 1)) (fun x3 => U.callV a2 [.int .u8 x3] (fun r4 h => asB r4 (fun x5 => br x5 (Q a4 h) (I2 a1 a2 a3 (IntKind.i64.wrap (a4 + 1)) h))) h) h))) (Q (-1) h)

def slices_IndexFunc_byte_byte.j2 (U : Ifc)  (a1 : Sl) (a2 : V) (a3 : Int) (a4 : Int) (Q : Int → Heap → Prop) (h : Heap) : Prop :=
  ∀ I : Sl → V → Int → Int → Heap → Prop, (∀ a1 a2 a3 a4 h, slices_IndexFunc_byte_byte.b2 U  I a1 a2 a3 a4 Q h → I a1 a2 a3 a4 h) → I a1 a2 a3 a4 h

def slices_IndexFunc_byte_byte (U : Ifc) (a1 : Sl) (a2 : V) (Q : Int → Heap → Prop) (h : Heap) : Prop :=
  slices_IndexFunc_byte_byte.j2 U a1 a2 ((a1.len : Nat) : Int) 0 Q h

def slices_ContainsFunc_byte_byte (U : Ifc) (a1 : Sl) (a2 : V) (Q : Bool → Heap → Prop) (h : Heap) : Prop :=
  slices_IndexFunc_byte_byte U a1 a2 (fun r1 h => Q (decide (r1 ≥ 0)) h) h

def slices_Clone_byte_byte (a1 : Sl) (Q : Sl → Heap → Prop) (h : Heap) : Prop :=
  br a1.p.isNone (Q ⟨none, 0, 0⟩ h) (al [] (fun b1 h => cellsS 1 a1 (fun cs3 => appS 1 1 [.int .u8 0] ⟨some ⟨b1, 0⟩, 0, 0⟩ cs3 a1.len (fun s2 h => Q s2 h) h) h) h)

def disk_Disk_Put (U : Ifc) (a1 : Option Ptr) (a2 : Int) (a3 : Sl) (Q : Int → Heap → Prop) (h : Heap) : Prop :=
  disk_Disk_wrong a1 a2 (fun r1 h => br (r1 != 0) (Q r1 h) (br (((a3.len : Nat) : Int) != 256) (Q 2 h) (slices_ContainsFunc_byte_byte U a3 (.fn 57 []) (fun r2 h => br (!r2) (der a1 (fun p3 => rdM (p3.add 1) (fun x4 => mapDel (.int .i64) x4 (.int .i64 a2) (fun h => Q 0 h) h) h)) (der a1 (fun p5 => rdM (p5.add 1) (fun x6 => slices_Clone_byte_byte a3 (fun r7 h => ck (p5.add 1) [.map x6] 0 h ∧ (mapPut (.int .i64) x6 (.int .i64 a2) (.sl r7) (fun h => Q 0 h) h)) h) h))) h))) h

def disk_Disk_Block (a1 : Option Ptr) (a2 : Int) (Q : Sl → Int → Heap → Prop) (h : Heap) : Prop :=
  disk_Disk_wrong a1 a2 (fun r1 h => br (r1 != 0) (Q ⟨none, 0, 0⟩ r1 h) (mkSl 1 [.int .u8 0] 256 256 (fun s2 h => der a1 (fun p3 => rdM (p3.add 1) (fun x4 => mapGet (.int .i64) x4 (.int .i64 a2) (fun o5 => asSl (o5.getD (.sl ⟨none, 0, 0⟩)) (fun x6 => cellsS 1 x6 (fun cs7 => copyS 1 s2 cs7 x6.len (fun x8 h => Q s2 0 h) h) h)) h) h)) h)) h

def mem_Memory_Put (a1 : Option Ptr) (a2 : Int) (a3 : Sl) (Q : Int → Heap → Prop) (h : Heap) : Prop :=
  mem_Memory_part a1 a2 ((a3.len : Nat) : Int) (fun r1 r2 h => br (r2 == 0) (cellsS 1 a3 (fun cs3 => copyS 1 r1 cs3 a3.len (fun x4 h => Q r2 h) h) h) (Q r2 h)) h

def disk_Disk_Complete.j2 (U : Ifc)  (a1 : Ptr) (Q : Int → Bool → Int → Int → Int → Heap → Prop) (h : Heap) : Prop :=
  wrL [.int .i64 0, .bool false, .int .i64 0, .int .i64 0] a1 0 (fun h => rdI .i64 (a1.add 0) (fun x1 => rdB (a1.add 1) (fun x2 => rdI .i64 (a1.add 2) (fun x3 => rdI .i64 (a1.add 3) (fun x4 => Q x1 x2 x3 x4 1 h) h) h) h) h) h

def disk_Disk_Complete.j4 (U : Ifc)  (a1 : Ptr) (Q : Int → Bool → Int → Int → Int → Heap → Prop) (h : Heap) : Prop :=
  wrL [.int .i64 0, .bool false, .int .i64 0, .int .i64 0] a1 0 (fun h => rdI .i64 (a1.add 0) (fun x1 => rdB (a1.add 1) (fun x2 => rdI .i64 (a1.add 2) (fun x3 => rdI .i64 (a1.add 3) (fun x4 => Q x1 x2 x3 x4 14 h) h) h) h) h) h

def disk_Disk_Complete.j8 (U : Ifc)  (a1 : Ptr) (a2 : Ptr) (Q : Int → Bool → Int → Int → Int → Heap → Prop) (h : Heap) : Prop :=
  rdI .i64 (a2.add 0) (fun x1 => rdB (a2.add 1) (fun x2 => rdI .i64 (a2.add 2) (fun x3 => rdI .i64 (a2.add 3) (fun x4 => wrL [.int .i64 x1, .bool x2, .int .i64 x3, .int .i64 x4] a1 0 (fun h => rdI .i64 (a1.add 0) (fun x5 => rdB (a1.add 1) (fun x6 => rdI .i64 (a1.add 2) (fun x7 => rdI .i64 (a1.add 3) (fun x8 => Q x5 x6 x7 x8 12 h) h) h) h) h) h) h) h) h) h

def disk_Disk_Complete.j10 (U : Ifc)  (a1 : Option Ptr) (a2 : Option Ptr) (a3 : Ptr) (a4 : Ptr) (a5 : Int) (Q : Int → Bool → Int → Int → Int → Heap → Prop) (h : Heap) : Prop :=
  rdB (a4.add 1) (fun x1 => br x1 (mem_Memory_Bytes a2 a5 256 (fun r2 r3 h => rdI .i64 (a4.add 0) (fun x4 => rdB (a4.add 1) (fun x5 => rdI .i64 (a4.add 2) (fun x6 => rdI .i64 (a4.add 3) (fun x7 => rdI .i64 (a4.add 2) (fun x8 => disk_Disk_Put U a1 x8 r2 (fun r9 h => ck a4 [.int .i64 x4, .bool x5, .int .i64 x6, .int .i64 x7] 0 h ∧ (wrL [.int .i64 x4, .bool x5, .int .i64 x6, .int .i64 x7] a3 0 (fun h => rdI .i64 (a3.add 0) (fun x10 => rdB (a3.add 1) (fun x11 => rdI .i64 (a3.add 2) (fun x12 => rdI .i64 (a3.add 3) (fun x13 => Q x10 x11 x12 x13 r9 h) h) h) h) h) h)) h) h) h) h) h) h) h) (rdI .i64 (a4.add 2) (fun x14 => disk_Disk_Block a1 x14 (fun r15 r16 h => rdI .i64 (a4.add 0) (fun x17 => rdB (a4.add 1) (fun x18 => rdI .i64 (a4.add 2) (fun x19 => rdI .i64 (a4.add 3) (fun x20 => mem_Memory_Put a2 a5 r15 (fun r21 h => ck a4 [.int .i64 x17, .bool x18, .int .i64 x19, .int .i64 x20] 0 h ∧ (wrL [.int .i64 x17, .bool x18, .int .i64 x19, .int .i64 x20] a3 0 (fun h => rdI .i64 (a3.add 0) (fun x22 => rdB (a3.add 1) (fun x23 => rdI .i64 (a3.add 2) (fun x24 => rdI .i64 (a3.add 3) (fun x25 => Q x22 x23 x24 x25 r21 h) h) h) h) h) h)) h) h) h) h) h) h) h)) h

def disk_Disk_Complete.j6 (U : Ifc)  (a1 : Option Ptr) (a2 : Option Ptr) (a3 : Ptr) (a4 : Ptr) (Q : Int → Bool → Int → Int → Int → Heap → Prop) (h : Heap) : Prop :=
  der a1 (fun p1 => rdSl (p1.add 2) (fun x2 => slices_DeleteFunc_disk_Request_disk_Request U x2 (.fn 56 [.ptr (some a4)]) (fun r3 h => der a1 (fun p4 => wr (p4.add 2) (.sl r3) (fun h => rdI .i64 (a4.add 3) (fun x5 => br (decide (x5 < 0)) (disk_Disk_Complete.j8 U a3 a4 Q h) (rdI .i64 (a4.add 3) (fun x6 => mem_Memory_Frames a2 (fun r7 h => ck (a4.add 3) [.int .i64 x6] 0 h ∧ (br (decide (x6 ≥ r7)) (disk_Disk_Complete.j8 U a3 a4 Q h) (rdI .i64 (a4.add 3) (fun x8 => disk_Disk_Complete.j10 U a1 a2 a3 a4 (IntKind.u64.wrap ((IntKind.u64.wrap x8) * 256)) Q h) h))) h) h)) h) h)) h) h)

def disk_Disk_Complete (U : Ifc) (a1 : Option Ptr) (a2 : Option Ptr) (a3 : Int) (Q : Int → Bool → Int → Int → Int → Heap → Prop) (h : Heap) : Prop :=
  al [.int .i64 0, .bool false, .int .i64 0, .int .i64 0] (fun b1 h => disk_Disk_none a1 (fun r2 h => br r2 (disk_Disk_Complete.j2 U (⟨b1, 0⟩ : Ptr) Q h) (mem_Memory_Frames a2 (fun r3 h => br (r3 == 0) (disk_Disk_Complete.j2 U (⟨b1, 0⟩ : Ptr) Q h) (br (decide (a3 < 0)) (disk_Disk_Complete.j4 U (⟨b1, 0⟩ : Ptr) Q h) (der a1 (fun p4 => rdSl (p4.add 2) (fun x5 => br (decide (a3 ≥ ((x5.len : Nat) : Int))) (disk_Disk_Complete.j4 U (⟨b1, 0⟩ : Ptr) Q h) (der a1 (fun p6 => rdSl (p6.add 2) (fun x7 => ix a3 x7.len (fun n8 => der x7.p (fun p9 => rdI .i64 ((p9.add (n8 * 4)).add 0) (fun x10 => rdB ((p9.add (n8 * 4)).add 1) (fun x11 => rdI .i64 ((p9.add (n8 * 4)).add 2) (fun x12 => rdI .i64 ((p9.add (n8 * 4)).add 3) (fun x13 => al [.int .i64 0, .bool false, .int .i64 0, .int .i64 0] (fun b14 h => wrL [.int .i64 x10, .bool x11, .int .i64 x12, .int .i64 x13] (⟨b14, 0⟩ : Ptr) 0 (fun h => disk_Disk_Complete.j6 U a1 a2 (⟨b1, 0⟩ : Ptr) (⟨b14, 0⟩ : Ptr) Q h) h) h) h) h) h) h))) h))) h)))) h)) h) h

def frames_Frames_Count (a1 : Option Ptr) (a2 : Int) (Q : Int → Int → Heap → Prop) (h : Heap) : Prop :=
  frames_Frames_none a1 (fun r1 h => br r1 (Q 0 0 h) (frames_isOwner a2 (fun r2 h => br r2 (der a1 (fun p3 => ix a2 17 (fun n4 => rdI .i64 ((p3.add 4).add (n4 * 1)) (fun x5 => der a1 (fun p6 => rdI .i64 (p6.add 0) (fun x7 => der a1 (fun p8 => rdM (p8.add 2) (fun x9 => mapLen x9 (fun n10 => ck (p6.add 0) [.int .i64 x7] 0 h ∧ (Q x5 (IntKind.i64.wrap (x7 - n10)) h)) h) h)) h)) h))) (der a1 (fun p11 => rdI .i64 (p11.add 0) (fun x12 => der a1 (fun p13 => rdM (p13.add 2) (fun x14 => mapLen x14 (fun n15 => ck (p11.add 0) [.int .i64 x12] 0 h ∧ (Q 0 (IntKind.i64.wrap (x12 - n15)) h)) h) h)) h))) h)) h

def palisadelaw24_Flat_Put.j2   (Q : Int → Heap → Prop) (h : Heap) : Prop :=
  Q 12 h

def palisadelaw24_Flat_Put (a1 : Option Ptr) (a2 : Int) (a3 : Sl) (Q : Int → Heap → Prop) (h : Heap) : Prop :=
  der a1 (fun p1 => rdI .i64 (p1.add 2) (fun x2 => br (decide (a2 > (IntKind.u64.wrap (IntKind.i64.wrap (256 * x2))))) (palisadelaw24_Flat_Put.j2 Q h) (der a1 (fun p3 => rdI .i64 (p3.add 2) (fun x4 => br (decide ((IntKind.u64.wrap ((a3.len : Nat) : Int)) > (IntKind.u64.wrap ((IntKind.u64.wrap (IntKind.i64.wrap (256 * x4))) - a2)))) (palisadelaw24_Flat_Put.j2 Q h) (der a1 (fun p5 => rdP (p5.add 0) (fun x6 => der a1 (fun p7 => rdI .i64 (p7.add 1) (fun x8 => mem_Memory_Put x6 (IntKind.u64.wrap (a2 + (IntKind.u64.wrap (IntKind.i64.wrap (256 * x8))))) a3 (fun r9 h => Q r9 h) h) h)) h))) h))) h)

def palisadelaw24_Flat_Bytes.j2   (Q : Sl → Int → Heap → Prop) (h : Heap) : Prop :=
  Q ⟨none, 0, 0⟩ 12 h

def palisadelaw24_Flat_Bytes.j3  (a1 : Option Ptr) (a2 : Int) (a3 : Int) (Q : Sl → Int → Heap → Prop) (h : Heap) : Prop :=
  der a1 (fun p1 => rdP (p1.add 0) (fun x2 => der a1 (fun p3 => rdI .i64 (p3.add 1) (fun x4 => mem_Memory_Bytes x2 (IntKind.u64.wrap (a2 + (IntKind.u64.wrap (IntKind.i64.wrap (256 * x4))))) a3 (fun r5 r6 h => Q r5 r6 h) h) h)) h)

def palisadelaw24_Flat_Bytes (a1 : Option Ptr) (a2 : Int) (a3 : Int) (Q : Sl → Int → Heap → Prop) (h : Heap) : Prop :=
  br (decide (a3 < 0)) (palisadelaw24_Flat_Bytes.j2 Q h) (der a1 (fun p1 => rdI .i64 (p1.add 2) (fun x2 => br (decide (a2 > (IntKind.u64.wrap (IntKind.i64.wrap (256 * x2))))) (palisadelaw24_Flat_Bytes.j2 Q h) (der a1 (fun p3 => rdI .i64 (p3.add 2) (fun x4 => br (decide ((IntKind.u64.wrap a3) > (IntKind.u64.wrap ((IntKind.u64.wrap (IntKind.i64.wrap (256 * x4))) - a2)))) (palisadelaw24_Flat_Bytes.j2 Q h) (palisadelaw24_Flat_Bytes.j3 a1 a2 a3 Q h)) h))) h))

def disk_Disk_Complete_c1 (a1 : Int) (a2 : Bool) (a3 : Int) (a4 : Int) (a5 : Ptr) (Q : Bool → Heap → Prop) (h : Heap) : Prop :=
  al [.int .i64 a1, .bool a2, .int .i64 a3, .int .i64 a4] (fun b1 h => rdI .i64 ((⟨b1, 0⟩ : Ptr).add 0) (fun x2 => rdB ((⟨b1, 0⟩ : Ptr).add 1) (fun x3 => rdI .i64 ((⟨b1, 0⟩ : Ptr).add 2) (fun x4 => rdI .i64 ((⟨b1, 0⟩ : Ptr).add 3) (fun x5 => rdI .i64 (a5.add 0) (fun x6 => rdB (a5.add 1) (fun x7 => rdI .i64 (a5.add 2) (fun x8 => rdI .i64 (a5.add 3) (fun x9 => Q (eqL [x2 == x6, x3 == x7, x4 == x8, x5 == x9]) h) h) h) h) h) h) h) h) h) h

def disk_Disk_Put_c1 (a1 : Int) (Q : Bool → Heap → Prop) (h : Heap) : Prop :=
  Q (a1 != 0) h

def disk_Disk_Submit_c1 (a1 : Int) (a2 : Bool) (a3 : Int) (a4 : Int) (a5 : Ptr) (Q : Bool → Heap → Prop) (h : Heap) : Prop :=
  al [.int .i64 a1, .bool a2, .int .i64 a3, .int .i64 a4] (fun b1 h => rdI .i64 ((⟨b1, 0⟩ : Ptr).add 0) (fun x2 => rdI .i64 (a5.add 0) (fun x3 => Q (x2 == x3) h) h) h) h

def palisadelaw24_Flat_Frame (a1 : Option Ptr) (a2 : Int) (a3 : Bool) (Q : Int → Bool → Heap → Prop) (h : Heap) : Prop :=
  br (decide (a2 < 0)) (Q 0 false h) (der a1 (fun p1 => rdI .i64 (p1.add 2) (fun x2 => br (decide (a2 ≥ x2)) (Q 0 false h) (der a1 (fun p3 => rdI .i64 (p3.add 1) (fun x4 => Q (IntKind.i64.wrap (x4 + a2)) true h) h))) h))

end Go.Fn
