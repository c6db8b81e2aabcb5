/- The shallow functions. PRINTED by lift.py. -/
import Derived.Test.YtgfnnjnmomifjaaDoorLiftB
set_option linter.unusedVariables false
set_option maxRecDepth 100000
namespace Go.Fn
open Go.Lift

def z_palisade_frames_Frames : List V := [.int .i64 0, .int .i64 0, .map none, .map none, .int .i64 0, .int .i64 0, .int .i64 0, .int .i64 0, .int .i64 0, .int .i64 0, .int .i64 0, .int .i64 0, .int .i64 0, .int .i64 0, .int .i64 0, .int .i64 0, .int .i64 0, .int .i64 0, .int .i64 0, .int .i64 0, .int .i64 0, .int .i64 0, .int .i64 0, .int .i64 0, .int .i64 0, .int .i64 0, .int .i64 0, .int .i64 0, .int .i64 0, .int .i64 0, .int .i64 0, .int .i64 0, .int .i64 0, .int .i64 0, .int .i64 0, .int .i64 0, .int .i64 0, .int .i64 0, .int .i64 0]
def z_palisade_palisadelaw24_World : List V := [.ptr none, .ptr none, .ptr none, .ptr none, .ptr none, .ptr none, .ptr none, .ptr none, .ptr none]
def z_palisade_console_Console : List V := [.bool false, .sl ⟨none, 0, 0⟩, .sl ⟨none, 0, 0⟩, .int .i64 0, .int .i64 0, .int .i64 0, .int .i64 0]
def z_palisade_backend_Block : List V := [.ptr none, .ptr none, .int .i64 0, .int .i64 0, .ptr none, .int .i64 0, .int .i64 0, .map none]
def z_17_int : List V := [.int .i64 0, .int .i64 0, .int .i64 0, .int .i64 0, .int .i64 0, .int .i64 0, .int .i64 0, .int .i64 0, .int .i64 0, .int .i64 0, .int .i64 0, .int .i64 0, .int .i64 0, .int .i64 0, .int .i64 0, .int .i64 0, .int .i64 0]

def mem_New (a1 : Int) (Q : (Option Ptr) → Int → Heap → Prop) (h : Heap) : Prop :=
  br (decide (a1 < 1)) (Q none 2 h) (br (decide (a1 > 65536)) (Q none 2 h) (mkSl 1 [.int .u8 0] (IntKind.i64.wrap (a1 * 256)) (IntKind.i64.wrap (a1 * 256)) (fun s1 h => al [.sl s1] (fun b2 h => Q (some (⟨b2, 0⟩ : Ptr)) 0 h) h) h))

def frames_New.j2   (Q : (Option Ptr) → Int → Heap → Prop) (h : Heap) : Prop :=
  Q none 2 h

def frames_New.b11  (I11 : Int → Ptr → Int → Heap → Prop) (a1 : Int) (a2 : Ptr) (a3 : Int) (Q : (Option Ptr) → Int → Heap → Prop) (h : Heap) : Prop :=
  br (decide (a3 < 17)) (ix a3 17 (fun n1 => wr ((a2.add 21).add (n1 * 1)) (.int .i64 a1) (fun h => I11 a1 a2 (IntKind.i64.wrap (a3 + 1)) h) h)) (Q (some a2) 0 h)

def frames_New.j11  (a1 : Int) (a2 : Ptr) (a3 : Int) (Q : (Option Ptr) → Int → Heap → Prop) (h : Heap) : Prop :=
  ∀ I : Int → Ptr → Int → Heap → Prop, (∀ a1 a2 a3 h, frames_New.b11  I a1 a2 a3 Q h → I a1 a2 a3 h) → I a1 a2 a3 h

def frames_New.b5  (I5 : Int → Int → Ptr → Int → Int → Heap → Prop) (a1 : Int) (a2 : Int) (a3 : Ptr) (a4 : Int) (a5 : Int) (Q : (Option Ptr) → Int → Heap → Prop) (h : Heap) : Prop :=
  br (decide (a5 < a4)) (rdM (a3.add 2) (fun x1 => mapPut (.int .i64) x1 (.int .i64 a5) (.int .i64 1) (fun h => I5 a1 a2 a3 a4 (IntKind.i64.wrap (a5 + 1)) h) h) h) (ix 0 17 (fun n2 => wr ((a3.add 4).add (n2 * 1)) (.int .i64 a2) (fun h => frames_New.j11 a1 a3 0 Q h) h))

def frames_New.j5  (a1 : Int) (a2 : Int) (a3 : Ptr) (a4 : Int) (a5 : Int) (Q : (Option Ptr) → Int → Heap → Prop) (h : Heap) : Prop :=
  ∀ I : Int → Int → Ptr → Int → Int → Heap → Prop, (∀ a1 a2 a3 a4 a5 h, frames_New.b5  I a1 a2 a3 a4 a5 Q h → I a1 a2 a3 a4 a5 h) → I a1 a2 a3 a4 a5 h

def frames_New.j4  (a1 : Int) (a2 : Int) (a3 : Ptr) (Q : (Option Ptr) → Int → Heap → Prop) (h : Heap) : Prop :=
  frames_New.j5 a1 a2 a3 a2 0 Q h

def frames_New (a1 : Int) (a2 : Int) (Q : (Option Ptr) → Int → Heap → Prop) (h : Heap) : Prop :=
  br (decide (a1 < 1)) (frames_New.j2 Q h) (br (decide (a1 > 65536)) (frames_New.j2 Q h) (br (decide (a2 < 0)) (frames_New.j2 Q h) (br (decide (a2 > a1)) (frames_New.j2 Q h) (alM (.int .i64) (fun b1 h => alM (.int .i64) (fun b2 h => (putCells (putCells (putCells (putCells (putCells z_palisade_frames_Frames 0 [.int .i64 a1]) 1 [.int .i64 a2]) 2 [.map (some b1)]) 3 [.map (some b2)]) 38 [.int .i64 a2]).length = 39 ∧ al (putCells (putCells (putCells (putCells (putCells z_palisade_frames_Frames 0 [.int .i64 a1]) 1 [.int .i64 a2]) 2 [.map (some b1)]) 3 [.map (some b2)]) 38 [.int .i64 a2]) (fun b3 h => frames_New.j4 a1 a2 (⟨b3, 0⟩ : Ptr) Q h) h) h) h))))

def disk_New (a1 : Int) (Q : (Option Ptr) → Int → Heap → Prop) (h : Heap) : Prop :=
  br (decide (a1 < 1)) (Q none 2 h) (br (decide (a1 > 65536)) (Q none 2 h) (alM (.int .i64) (fun b1 h => al [.int .i64 a1, .map (some b1), .sl ⟨none, 0, 0⟩] (fun b2 h => Q (some (⟨b2, 0⟩ : Ptr)) 0 h) h) h))

def frames_Frames_none (a1 : Option Ptr) (Q : Bool → Heap → Prop) (h : Heap) : Prop :=
  br a1.isNone (Q true h) (der a1 (fun p1 => rdM (p1.add 2) (fun x2 => Q x2.isNone h) h))

def frames_isOwner (a1 : Int) (Q : Bool → Heap → Prop) (h : Heap) : Prop :=
  br (decide (a1 ≥ 0)) (Q (decide (a1 < 17)) h) (Q false h)

def frames_Frames_owned.b4  (I4 : Sl → Int → Int → Heap → Prop) (a1 : Sl) (a2 : Int) (a3 : Int) (Q : Int → Heap → Prop) (h : Heap) : Prop :=
  br (decide (a3 < a2)) (ix a3 a1.len (fun n1 => der a1.p (fun p2 => rdI .i64 (p2.add (n1 * 1)) (fun x3 => frames_isOwner x3 (fun r4 h => br (!r4) (Q 2 h) (I4 a1 a2 (IntKind.i64.wrap (a3 + 1)) h)) h) h))) (Q 0 h)

def frames_Frames_owned.j4  (a1 : Sl) (a2 : Int) (a3 : Int) (Q : Int → Heap → Prop) (h : Heap) : Prop :=
  ∀ I : Sl → Int → Int → Heap → Prop, (∀ a1 a2 a3 h, frames_Frames_owned.b4  I a1 a2 a3 Q h → I a1 a2 a3 h) → I a1 a2 a3 h

def frames_Frames_owned (a1 : Option Ptr) (a2 : Sl) (Q : Int → Heap → Prop) (h : Heap) : Prop :=
  frames_Frames_none a1 (fun r1 h => br r1 (Q 1 h) (frames_Frames_owned.j4 a2 ((a2.len : Nat) : Int) 0 Q h)) h

def frames_Frames_Alloc.j11  (a1 : Option Ptr) (a2 : Int) (Q : Int → Int → Heap → Prop) (h : Heap) : Prop :=
  der a1 (fun p1 => ix a2 17 (fun n2 => rdI .i64 ((p1.add 4).add (n2 * 1)) (fun x3 => der a1 (fun p4 => ix a2 17 (fun n5 => wr ((p4.add 4).add (n5 * 1)) (.int .i64 (IntKind.i64.wrap (x3 + 1))) (fun h => der a1 (fun p6 => rdI .i64 (p6.add 38) (fun x7 => Q x7 0 h) h)) h))) h))

def frames_Frames_Alloc.j8  (a1 : Option Ptr) (a2 : Int) (Q : Int → Int → Heap → Prop) (h : Heap) : Prop :=
  der a1 (fun p1 => rdI .i64 (p1.add 38) (fun x2 => der a1 (fun p3 => rdI .i64 (p3.add 0) (fun x4 => br (x2 == x4) (Q 0 20 h) (der a1 (fun p5 => rdM (p5.add 2) (fun x6 => der a1 (fun p7 => rdI .i64 (p7.add 38) (fun x8 => der a1 (fun p9 => rdM (p9.add 3) (fun x10 => der a1 (fun p11 => rdI .i64 (p11.add 38) (fun x12 => mapEnt (.int .i64) x6 (.int .i64 x8) (.int .i64 0) (fun r13 b14 h => asI .i64 r13 (fun x15 => entPut x6 b14 (.int .i64 1) (fun h => mapEnt (.int .i64) x10 (.int .i64 x12) (.int .i64 0) (fun r16 b17 h => asI .i64 r16 (fun x18 => entPut x10 b17 (.int .i64 a2) (fun h => frames_Frames_Alloc.j11 a1 a2 Q h) h)) h) h)) h) h)) h)) h)) h))) h)) h)

def frames_Frames_Alloc.b6  (I6 : (Option Ptr) → Int → Heap → Prop) (a1 : Option Ptr) (a2 : Int) (Q : Int → Int → Heap → Prop) (h : Heap) : Prop :=
  der a1 (fun p1 => rdI .i64 (p1.add 38) (fun x2 => der a1 (fun p3 => rdI .i64 (p3.add 0) (fun x4 => br (decide (x2 < x4)) (der a1 (fun p5 => rdM (p5.add 2) (fun x6 => der a1 (fun p7 => rdI .i64 (p7.add 38) (fun x8 => mapGet (.int .i64) x6 (.int .i64 x8) (fun o9 => asI .i64 (o9.getD (.int .i64 0)) (fun x10 => br (decide (x10 > 0)) (der a1 (fun p11 => rdI .i64 (p11.add 38) (fun x12 => der a1 (fun p13 => wr (p13.add 38) (.int .i64 (IntKind.i64.wrap (x12 + 1))) (fun h => I6 a1 a2 h) h)) h)) (frames_Frames_Alloc.j8 a1 a2 Q h))) h) h)) h)) (frames_Frames_Alloc.j8 a1 a2 Q h)) h)) h)

def frames_Frames_Alloc.j6  (a1 : Option Ptr) (a2 : Int) (Q : Int → Int → Heap → Prop) (h : Heap) : Prop :=
  ∀ I : (Option Ptr) → Int → Heap → Prop, (∀ a1 a2 h, frames_Frames_Alloc.b6  I a1 a2 Q h → I a1 a2 h) → I a1 a2 h

def frames_Frames_Alloc (a1 : Option Ptr) (a2 : Int) (Q : Int → Int → Heap → Prop) (h : Heap) : Prop :=
  al [.int .i64 a2] (fun b1 h => frames_Frames_owned a1 ⟨some ⟨b1, 0⟩, 1, 1⟩ (fun r2 h => br (r2 != 0) (Q 0 r2 h) (der a1 (fun p3 => ix a2 17 (fun n4 => rdI .i64 ((p3.add 4).add (n4 * 1)) (fun x5 => der a1 (fun p6 => ix a2 17 (fun n7 => rdI .i64 ((p6.add 21).add (n7 * 1)) (fun x8 => br (decide (x5 ≥ x8)) (Q 0 19 h) (frames_Frames_Alloc.j6 a1 a2 Q h)) h))) h)))) h) h

def ring_right (a1 : Int) (Q : Bool → Heap → Prop) (h : Heap) : Prop :=
  br (decide (a1 ≥ 1)) (br (decide (a1 ≤ 64)) (Q ((ibits .and .i64 a1 (IntKind.i64.wrap (a1 - 1))) == 0) h) (Q false h)) (Q false h)

def ring_New (a1 : Int) (a2 : Int) (Q : (Option Ptr) → Int → Heap → Prop) (h : Heap) : Prop :=
  ring_right a2 (fun r1 h => br (!r1) (Q none 2 h) (nz 8 (br ((a1.tmod 8) != 0) (Q none 2 h) (br (decide (a1 > 1099511627776)) (Q none 2 h) (al [.int .u64 a1, .int .u64 (IntKind.u64.wrap a2), .int .u64 0, .int .u64 0, .bool false] (fun b2 h => Q (some (⟨b2, 0⟩ : Ptr)) 0 h) h))))) h

def disk_Disk_none (a1 : Option Ptr) (Q : Bool → Heap → Prop) (h : Heap) : Prop :=
  br a1.isNone (Q true h) (der a1 (fun p1 => rdM (p1.add 1) (fun x2 => Q x2.isNone h) h))

def disk_Disk_Blocks (a1 : Option Ptr) (Q : Int → Heap → Prop) (h : Heap) : Prop :=
  disk_Disk_none a1 (fun r1 h => br r1 (Q 0 h) (der a1 (fun p2 => rdI .i64 (p2.add 0) (fun x3 => Q x3 h) h))) h

def backend_NewBlock.j4   (Q : (Option Ptr) → Int → Heap → Prop) (h : Heap) : Prop :=
  Q none 2 h

def backend_NewBlock.j5  (a1 : Option Ptr) (a2 : Option Ptr) (a3 : Int) (a4 : Int) (a5 : Option Ptr) (a6 : Int) (Q : (Option Ptr) → Int → Heap → Prop) (h : Heap) : Prop :=
  alM (.int .i64) (fun b1 h => al [.ptr a1, .ptr a2, .int .i64 a3, .int .i64 a4, .ptr a5, .int .i64 a6, .int .i64 0, .map (some b1)] (fun b2 h => Q (some (⟨b2, 0⟩ : Ptr)) 0 h) h) h

def backend_NewBlock (a1 : Option Ptr) (a2 : Option Ptr) (a3 : Int) (a4 : Int) (a5 : Option Ptr) (a6 : Int) (Q : (Option Ptr) → Int → Heap → Prop) (h : Heap) : Prop :=
  br a1.isNone (Q none 1 h) (br a2.isNone (Q none 1 h) (br a5.isNone (Q none 1 h) (br (decide (a6 < 1)) (backend_NewBlock.j4 Q h) (br (decide (a6 > 16)) (backend_NewBlock.j4 Q h) (br (decide (a3 < 0)) (backend_NewBlock.j4 Q h) (br (decide (a4 < 0)) (backend_NewBlock.j4 Q h) (disk_Disk_Blocks a2 (fun r1 h => br (decide (a3 > r1)) (backend_NewBlock.j4 Q h) (disk_Disk_Blocks a2 (fun r2 h => br (decide (a4 > (IntKind.i64.wrap (r2 - a3)))) (backend_NewBlock.j4 Q h) (backend_NewBlock.j5 a1 a2 a3 a4 a5 a6 Q h)) h)) h)))))))

def palisadelaw24_begin.j5   (Q : (Option Ptr) → Heap → Prop) (h : Heap) : Prop :=
  Q none h

def palisadelaw24_begin.j16 (I8 : (Option Ptr) → (Option Ptr) → (Option Ptr) → Ptr → Int → Heap → Prop) (I12 : (Option Ptr) → (Option Ptr) → (Option Ptr) → Ptr → Int → Int → Heap → Prop)  (Q : (Option Ptr) → Heap → Prop) (h : Heap) : Prop :=
  Q none h

def palisadelaw24_begin.j20 (I8 : (Option Ptr) → (Option Ptr) → (Option Ptr) → Ptr → Int → Heap → Prop)  (Q : (Option Ptr) → Heap → Prop) (h : Heap) : Prop :=
  Q none h

def palisadelaw24_begin.j9 (I8 : (Option Ptr) → (Option Ptr) → (Option Ptr) → Ptr → Int → Heap → Prop) (a1 : Option Ptr) (a2 : Option Ptr) (a3 : Option Ptr) (a4 : Ptr) (a5 : Int) (Q : (Option Ptr) → Heap → Prop) (h : Heap) : Prop :=
  I8 a1 a2 a3 a4 (IntKind.i64.wrap (a5 + 1)) h

def palisadelaw24_begin.j21 (I8 : (Option Ptr) → (Option Ptr) → (Option Ptr) → Ptr → Int → Heap → Prop) (a1 : Option Ptr) (a2 : Option Ptr) (a3 : Option Ptr) (a4 : Ptr) (a5 : Int) (a6 : Option Ptr) (a7 : Option Ptr) (Q : (Option Ptr) → Heap → Prop) (h : Heap) : Prop :=
  ix a5 2 (fun n1 => wr ((a4.add 5).add (n1 * 1)) (.ptr a6) (fun h => ix a5 2 (fun n2 => wr ((a4.add 7).add (n2 * 1)) (.ptr a7) (fun h => palisadelaw24_begin.j9 I8 a1 a2 a3 a4 a5 Q h) h)) h)

def palisadelaw24_begin.b12 (I8 : (Option Ptr) → (Option Ptr) → (Option Ptr) → Ptr → Int → Heap → Prop) (I12 : (Option Ptr) → (Option Ptr) → (Option Ptr) → Ptr → Int → Int → Heap → Prop) (a1 : Option Ptr) (a2 : Option Ptr) (a3 : Option Ptr) (a4 : Ptr) (a5 : Int) (a6 : Int) (Q : (Option Ptr) → Heap → Prop) (h : Heap) : Prop :=
  br (decide (a6 < 16)) (frames_Frames_Alloc a2 (IntKind.i64.wrap (1 + a5)) (fun r1 r2 h => br (r1 != (IntKind.i64.wrap ((IntKind.i64.wrap (4 + (IntKind.i64.wrap (16 * a5)))) + a6))) (palisadelaw24_begin.j16 I8 I12 Q h) (br (r2 != 0) (palisadelaw24_begin.j16 I8 I12 Q h) (I12 a1 a2 a3 a4 a5 (IntKind.i64.wrap (a6 + 1)) h))) h) (ring_New 0 8 (fun r3 r4 h => backend_NewBlock r3 a3 (IntKind.i64.wrap (4 * a5)) 4 a2 (IntKind.i64.wrap (1 + a5)) (fun r5 r6 h => br (r4 != 0) (palisadelaw24_begin.j20 I8 Q h) (br (r6 != 0) (palisadelaw24_begin.j20 I8 Q h) (br r5.isNone (palisadelaw24_begin.j20 I8 Q h) (palisadelaw24_begin.j21 I8 a1 a2 a3 a4 a5 r3 r5 Q h)))) h) h)

def palisadelaw24_begin.j12 (I8 : (Option Ptr) → (Option Ptr) → (Option Ptr) → Ptr → Int → Heap → Prop) (a1 : Option Ptr) (a2 : Option Ptr) (a3 : Option Ptr) (a4 : Ptr) (a5 : Int) (a6 : Int) (Q : (Option Ptr) → Heap → Prop) (h : Heap) : Prop :=
  ∀ I : (Option Ptr) → (Option Ptr) → (Option Ptr) → Ptr → Int → Int → Heap → Prop, (∀ a1 a2 a3 a4 a5 a6 h, palisadelaw24_begin.b12 I8 I a1 a2 a3 a4 a5 a6 Q h → I a1 a2 a3 a4 a5 a6 h) → I a1 a2 a3 a4 a5 a6 h

def palisadelaw24_begin.b8  (I8 : (Option Ptr) → (Option Ptr) → (Option Ptr) → Ptr → Int → Heap → Prop) (a1 : Option Ptr) (a2 : Option Ptr) (a3 : Option Ptr) (a4 : Ptr) (a5 : Int) (Q : (Option Ptr) → Heap → Prop) (h : Heap) : Prop :=
  br (decide (a5 < 2)) (al [.ptr a1, .int .i64 (IntKind.i64.wrap (4 + (IntKind.i64.wrap (16 * a5)))), .int .i64 16] (fun b1 h => ix a5 2 (fun n2 => wr ((a4.add 3).add (n2 * 1)) (.ptr (some (⟨b1, 0⟩ : Ptr))) (fun h => palisadelaw24_begin.j12 I8 a1 a2 a3 a4 a5 0 Q h) h)) h) (Q (some a4) h)

def palisadelaw24_begin.j8  (a1 : Option Ptr) (a2 : Option Ptr) (a3 : Option Ptr) (a4 : Ptr) (a5 : Int) (Q : (Option Ptr) → Heap → Prop) (h : Heap) : Prop :=
  ∀ I : (Option Ptr) → (Option Ptr) → (Option Ptr) → Ptr → Int → Heap → Prop, (∀ a1 a2 a3 a4 a5 h, palisadelaw24_begin.b8  I a1 a2 a3 a4 a5 Q h → I a1 a2 a3 a4 a5 h) → I a1 a2 a3 a4 a5 h

def palisadelaw24_begin.j6  (a1 : Option Ptr) (a2 : Option Ptr) (a3 : Option Ptr) (Q : (Option Ptr) → Heap → Prop) (h : Heap) : Prop :=
  al [.ptr a1, .ptr a2, .ptr a3, .ptr none, .ptr none, .ptr none, .ptr none, .ptr none, .ptr none] (fun b1 h => palisadelaw24_begin.j8 a1 a2 a3 (⟨b1, 0⟩ : Ptr) 0 Q h) h

def palisadelaw24_begin  (Q : (Option Ptr) → Heap → Prop) (h : Heap) : Prop :=
  mem_New 40 (fun r1 r2 h => frames_New 40 4 (fun r3 r4 h => disk_New 12 (fun r5 r6 h => br (r2 != 0) (palisadelaw24_begin.j5 Q h) (br (r4 != 0) (palisadelaw24_begin.j5 Q h) (br (r6 != 0) (palisadelaw24_begin.j5 Q h) (br r1.isNone (palisadelaw24_begin.j5 Q h) (br r3.isNone (palisadelaw24_begin.j5 Q h) (br r5.isNone (palisadelaw24_begin.j5 Q h) (palisadelaw24_begin.j6 r1 r3 r5 Q h))))))) h) h) h

def console_New  (Q : (Option Ptr) → Heap → Prop) (h : Heap) : Prop :=
  al [.bool true, .sl ⟨none, 0, 0⟩, .sl ⟨none, 0, 0⟩, .int .i64 0, .int .i64 0, .int .i64 0, .int .i64 0] (fun b1 h => Q (some (⟨b1, 0⟩ : Ptr)) h) h

def backend_NewTty (a1 : Option Ptr) (a2 : Option Ptr) (Q : (Option Ptr) → Int → Heap → Prop) (h : Heap) : Prop :=
  br a1.isNone (Q none 1 h) (br a2.isNone (Q none 1 h) (al [.ptr a1, .ptr a2] (fun b1 h => Q (some (⟨b1, 0⟩ : Ptr)) 0 h) h))

def console_Console_none (a1 : Option Ptr) (Q : Bool → Heap → Prop) (h : Heap) : Prop :=
  br a1.isNone (Q true h) (der a1 (fun p1 => rdB (p1.add 0) (fun x2 => Q (!x2) h) h))

def console_Console_Input.j7  (a1 : Int) (Q : Int → Int → Heap → Prop) (h : Heap) : Prop :=
  Q a1 0 h

def console_Console_Input.j5  (a1 : Option Ptr) (a2 : Sl) (a3 : Int) (Q : Int → Int → Heap → Prop) (h : Heap) : Prop :=
  der a1 (fun p1 => rdI .i64 ((p1.add 3).add 0) (fun x2 => der a1 (fun p3 => wr ((p3.add 3).add 0) (.int .i64 (IntKind.i64.wrap (x2 + a3))) (fun h => der a1 (fun p4 => rdI .i64 ((p4.add 3).add 1) (fun x5 => der a1 (fun p6 => wr ((p6.add 3).add 1) (.int .i64 (IntKind.i64.wrap (x5 + (IntKind.i64.wrap (((a2.len : Nat) : Int) - a3))))) (fun h => console_Console_Input.j7 a3 Q h) h)) h)) h)) h)

def console_Console_Input (a1 : Option Ptr) (a2 : Sl) (Q : Int → Int → Heap → Prop) (h : Heap) : Prop :=
  console_Console_none a1 (fun r1 h => br r1 (Q 0 1 h) (der a1 (fun p2 => rdSl (p2.add 1) (fun x3 => der a1 (fun p4 => rdSl (p4.add 1) (fun x5 => sb (minI ((a2.len : Nat) : Int) (IntKind.i64.wrap (4096 - ((x3.len : Nat) : Int)))) a2.cap (fun n6 => cellsS 1 ⟨slp a2.p (0 * 1) 0 a2.cap, n6 - 0, a2.cap - 0⟩ (fun cs8 => appS 1 1 [.int .u8 0] x5 cs8 (n6 - 0) (fun s7 h => der a1 (fun p9 => wr (p9.add 1) (.sl s7) (fun h => console_Console_Input.j5 a1 a2 (minI ((a2.len : Nat) : Int) (IntKind.i64.wrap (4096 - ((x3.len : Nat) : Int)))) Q h) h)) h) h)) h)) h))) h

def mem_Memory_none (a1 : Option Ptr) (Q : Bool → Heap → Prop) (h : Heap) : Prop :=
  br a1.isNone (Q true h) (der a1 (fun p1 => rdSl (p1.add 0) (fun x2 => Q x2.p.isNone h) h))

def mem_Memory_part_c1 (a1 : Ptr) (a2 : Ptr) (a3 : Ptr) (Q : Bool → Heap → Prop) (h : Heap) : Prop :=
  rdI .i64 a1 (fun x1 => rdP a2 (fun x2 => der x2 (fun p3 => rdSl (p3.add 0) (fun x4 => br (decide (x1 ≤ ((x4.len : Nat) : Int))) (rdI .u64 a3 (fun x5 => rdP a2 (fun x6 => der x6 (fun p7 => rdSl (p7.add 0) (fun x8 => rdI .i64 a1 (fun x9 => Q (decide (x5 ≤ (IntKind.u64.wrap (IntKind.i64.wrap (((x8.len : Nat) : Int) - x9))))) h) h) h)) h) h) (Q false h)) h)) h) h

def mem_Memory_part (a1 : Option Ptr) (a2 : Int) (a3 : Int) (Q : Sl → Int → Heap → Prop) (h : Heap) : Prop :=
  al [.ptr a1] (fun b1 h => al [.int .u64 a2] (fun b2 h => al [.int .i64 a3] (fun b3 h => rdP (⟨b1, 0⟩ : Ptr) (fun x4 => mem_Memory_none x4 (fun r5 h => br r5 (Q ⟨none, 0, 0⟩ 1 h) (rdI .i64 (⟨b3, 0⟩ : Ptr) (fun x6 => br (decide (x6 < 0)) (Q ⟨none, 0, 0⟩ 2 h) (mem_Memory_part_c1 (⟨b3, 0⟩ : Ptr) (⟨b1, 0⟩ : Ptr) (⟨b2, 0⟩ : Ptr) (fun r7 h => br (!r7) (Q ⟨none, 0, 0⟩ 12 h) (rdI .u64 (⟨b2, 0⟩ : Ptr) (fun x8 => rdI .i64 (⟨b3, 0⟩ : Ptr) (fun x9 => rdP (⟨b1, 0⟩ : Ptr) (fun x10 => der x10 (fun p11 => rdSl (p11.add 0) (fun x12 => rdI .u64 (⟨b2, 0⟩ : Ptr) (fun x13 => sb (IntKind.i64.wrap ((IntKind.i64.wrap x8) + x9)) x12.cap (fun n14 => sb (IntKind.i64.wrap ((IntKind.i64.wrap x8) + x9)) n14 (fun n15 => sb x13 n15 (fun n16 => Q ⟨slp x12.p (n16 * 1) n16 n14, n15 - n16, n14 - n16⟩ 0 h)))) h) h)) h) h) h)) h)) h)) h) h) h) h) h

def mem_Memory_Put (a1 : Option Ptr) (a2 : Int) (a3 : Sl) (Q : Int → Heap → Prop) (h : Heap) : Prop :=
  mem_Memory_part a1 a2 ((a3.len : Nat) : Int) (fun r1 r2 h => br (r2 == 0) (cellsS 1 a3 (fun cs3 => copyS 1 r1 cs3 a3.len (fun x4 h => Q r2 h) h) h) (Q r2 h)) h

def palisadelaw24_Flat_Put.j2   (Q : Int → Heap → Prop) (h : Heap) : Prop :=
  Q 12 h

def palisadelaw24_Flat_Put (a1 : Option Ptr) (a2 : Int) (a3 : Sl) (Q : Int → Heap → Prop) (h : Heap) : Prop :=
  der a1 (fun p1 => rdI .i64 (p1.add 2) (fun x2 => br (decide (a2 > (IntKind.u64.wrap (IntKind.i64.wrap (256 * x2))))) (palisadelaw24_Flat_Put.j2 Q h) (der a1 (fun p3 => rdI .i64 (p3.add 2) (fun x4 => br (decide ((IntKind.u64.wrap ((a3.len : Nat) : Int)) > (IntKind.u64.wrap ((IntKind.u64.wrap (IntKind.i64.wrap (256 * x4))) - a2)))) (palisadelaw24_Flat_Put.j2 Q h) (der a1 (fun p5 => rdP (p5.add 0) (fun x6 => der a1 (fun p7 => rdI .i64 (p7.add 1) (fun x8 => mem_Memory_Put x6 (IntKind.u64.wrap (a2 + (IntKind.u64.wrap (IntKind.i64.wrap (256 * x8))))) a3 (fun r9 h => Q r9 h) h) h)) h))) h))) h)

def mem_Memory_number.j5  (a1 : Option Ptr) (a2 : Int) (a3 : Int) (Q : Sl → Int → Heap → Prop) (h : Heap) : Prop :=
  nz (IntKind.u64.wrap a3) (br ((a2.tmod (IntKind.u64.wrap a3)) != 0) (Q ⟨none, 0, 0⟩ 11 h) (mem_Memory_part a1 a2 a3 (fun r1 r2 h => Q r1 r2 h) h))

def mem_Memory_number (a1 : Option Ptr) (a2 : Int) (a3 : Int) (Q : Sl → Int → Heap → Prop) (h : Heap) : Prop :=
  mem_Memory_none a1 (fun r1 h => br r1 (Q ⟨none, 0, 0⟩ 1 h) (br (a3 != 1) (br (a3 != 4) (br (a3 != 8) (Q ⟨none, 0, 0⟩ 2 h) (mem_Memory_number.j5 a1 a2 a3 Q h)) (mem_Memory_number.j5 a1 a2 a3 Q h)) (mem_Memory_number.j5 a1 a2 a3 Q h))) h

def word_known.j6 (U : Ifc) (I2 : Int → Int → Int → Int → Int → Int → Heap → Prop) (a1 : Int) (a2 : Int) (a3 : Int) (a4 : Int) (a5 : Int) (a6 : Int) (Q : Bool → Heap → Prop) (h : Heap) : Prop :=
  I2 a1 a2 a3 a4 a5 (IntKind.i64.wrap (a6 + 1)) h

def word_known.b2 (U : Ifc)  (I2 : Int → Int → Int → Int → Int → Int → Heap → Prop) (a1 : Int) (a2 : Int) (a3 : Int) (a4 : Int) (a5 : Int) (a6 : Int) (Q : Bool → Heap → Prop) (h : Heap) : Prop :=
  br (decide (a6 < 4)) (ix a6 4 (fun n1 => ∃ x3, ([.int .i64 a2, .int .i64 a3, .int .i64 a4, .int .i64 a5] : List V)[n1 * 1]? = some (.int .i64 x3) ∧ br (x3 == a1) (br (decide (x3 > 0)) (Q true h) (word_known.j6 U I2 a1 a2 a3 a4 a5 a6 Q h)) (word_known.j6 U I2 a1 a2 a3 a4 a5 a6 Q h))) (Q false h)

def word_known.j2 (U : Ifc)  (a1 : Int) (a2 : Int) (a3 : Int) (a4 : Int) (a5 : Int) (a6 : Int) (Q : Bool → Heap → Prop) (h : Heap) : Prop :=
  ∀ I : Int → Int → Int → Int → Int → Int → Heap → Prop, (∀ a1 a2 a3 a4 a5 a6 h, word_known.b2 U  I a1 a2 a3 a4 a5 a6 Q h → I a1 a2 a3 a4 a5 a6 h) → I a1 a2 a3 a4 a5 a6 h

def word_known (U : Ifc) (a1 : Int) (Q : Bool → Heap → Prop) (h : Heap) : Prop :=
  rdI .i64 ((⟨U.glob 1, 0⟩ : Ptr).add 0) (fun x1 => rdI .i64 ((⟨U.glob 1, 0⟩ : Ptr).add 1) (fun x2 => rdI .i64 ((⟨U.glob 1, 0⟩ : Ptr).add 2) (fun x3 => rdI .i64 ((⟨U.glob 1, 0⟩ : Ptr).add 3) (fun x4 => word_known.j2 U a1 x1 x2 x3 x4 0 Q h) h) h) h) h

def word_Store.b5 (U : Ifc)  (I5 : Int → Sl → Int → Int → Heap → Prop) (a1 : Int) (a2 : Sl) (a3 : Int) (a4 : Int) (Q : Sl → Heap → Prop) (h : Heap) : Prop :=
  br (decide (a4 < a3)) (nneg (IntKind.i64.wrap (8 * a4)) (ix a4 a2.len (fun n1 => der a2.p (fun p2 => wr (p2.add (n1 * 1)) (.int .u8 (IntKind.u8.wrap (shrI .u64 a1 (IntKind.i64.wrap (8 * a4))))) (fun h => I5 a1 a2 a3 (IntKind.i64.wrap (a4 + 1)) h) h)))) (Q a2 h)

def word_Store.j5 (U : Ifc)  (a1 : Int) (a2 : Sl) (a3 : Int) (a4 : Int) (Q : Sl → Heap → Prop) (h : Heap) : Prop :=
  ∀ I : Int → Sl → Int → Int → Heap → Prop, (∀ a1 a2 a3 a4 h, word_Store.b5 U  I a1 a2 a3 a4 Q h → I a1 a2 a3 a4 h) → I a1 a2 a3 a4 h

def word_Store (U : Ifc) (a1 : Int) (a2 : Int) (Q : Sl → Heap → Prop) (h : Heap) : Prop :=
  word_known U a2 (fun r1 h => br (!r1) (Q ⟨none, 0, 0⟩ h) (mkSl 1 [.int .u8 0] a2 a2 (fun s2 h => word_Store.j5 U a1 s2 ((s2.len : Nat) : Int) 0 Q h) h)) h

def mem_Memory_Store (U : Ifc) (a1 : Option Ptr) (a2 : Int) (a3 : Int) (a4 : Int) (Q : Int → Heap → Prop) (h : Heap) : Prop :=
  mem_Memory_number a1 a2 a3 (fun r1 r2 h => br (r2 == 0) (word_Store U a4 a3 (fun r3 h => cellsS 1 r3 (fun cs4 => copyS 1 r1 cs4 r3.len (fun x5 h => Q r2 h) h) h) h) (Q r2 h)) h

def palisadelaw24_Flat_Store (U : Ifc) (a1 : Option Ptr) (a2 : Int) (a3 : Int) (a4 : Int) (Q : Int → Heap → Prop) (h : Heap) : Prop :=
  der a1 (fun p1 => rdI .i64 (p1.add 2) (fun x2 => br (decide (a2 ≥ (IntKind.u64.wrap (IntKind.i64.wrap (256 * x2))))) (Q 12 h) (der a1 (fun p3 => rdP (p3.add 0) (fun x4 => der a1 (fun p5 => rdI .i64 (p5.add 1) (fun x6 => mem_Memory_Store U x4 (IntKind.u64.wrap (a2 + (IntKind.u64.wrap (IntKind.i64.wrap (256 * x6))))) a3 a4 (fun r7 h => Q r7 h) h) h)) h))) h)

def palisadelaw24_offer.j2 (U : Ifc) (I1 : (Option Ptr) → Int → Sl → Int → Heap → Prop) (a1 : Option Ptr) (a2 : Int) (a3 : Sl) (a4 : Int) (Q : Heap → Prop) (h : Heap) : Prop :=
  I1 a1 a2 a3 (IntKind.i64.wrap (a4 + 1)) h

def palisadelaw24_offer.j12 (U : Ifc) (I1 : (Option Ptr) → Int → Sl → Int → Heap → Prop) (a1 : Option Ptr) (a2 : Int) (a3 : Sl) (a4 : Int) (a5 : Int) (Q : Heap → Prop) (h : Heap) : Prop :=
  palisadelaw24_Flat_Store U a1 (IntKind.u64.wrap (a5 + 24)) 8 (IntKind.u64.wrap (IntKind.i64.wrap (a4 + 1))) (fun r1 h => palisadelaw24_offer.j2 U I1 a1 a2 a3 a4 Q h) h

def palisadelaw24_offer.j8 (U : Ifc) (I1 : (Option Ptr) → Int → Sl → Int → Heap → Prop) (a1 : Option Ptr) (a2 : Int) (a3 : Sl) (a4 : Int) (a5 : Int) (Q : Heap → Prop) (h : Heap) : Prop :=
  ix a4 a3.len (fun n1 => der a3.p (fun p2 => rdI .u64 ((p2.add (n1 * 3)).add 0) (fun x3 => palisadelaw24_Flat_Store U a1 (IntKind.u64.wrap (32 * (IntKind.u64.wrap a4))) 8 x3 (fun r4 h => ix a4 a3.len (fun n5 => der a3.p (fun p6 => rdI .i64 ((p6.add (n5 * 3)).add 1) (fun x7 => palisadelaw24_Flat_Store U a1 (IntKind.u64.wrap ((IntKind.u64.wrap (32 * (IntKind.u64.wrap a4))) + 8)) 8 (IntKind.u64.wrap x7) (fun r8 h => palisadelaw24_Flat_Store U a1 (IntKind.u64.wrap ((IntKind.u64.wrap (32 * (IntKind.u64.wrap a4))) + 16)) 8 a5 (fun r9 h => palisadelaw24_offer.j12 U I1 a1 a2 a3 a4 (IntKind.u64.wrap (32 * (IntKind.u64.wrap a4))) Q h) h) h) h))) h) h))

def palisadelaw24_offer.j6 (U : Ifc) (I1 : (Option Ptr) → Int → Sl → Int → Heap → Prop) (a1 : Option Ptr) (a2 : Int) (a3 : Sl) (a4 : Int) (a5 : Int) (Q : Heap → Prop) (h : Heap) : Prop :=
  br (decide ((IntKind.i64.wrap (a4 + 1)) < ((a3.len : Nat) : Int))) (br (decide (a4 < 7)) (palisadelaw24_offer.j8 U I1 a1 a2 a3 a4 (IntKind.u64.wrap (a5 + 1)) Q h) (palisadelaw24_offer.j8 U I1 a1 a2 a3 a4 a5 Q h)) (palisadelaw24_offer.j8 U I1 a1 a2 a3 a4 a5 Q h)

def palisadelaw24_offer.b1 (U : Ifc)  (I1 : (Option Ptr) → Int → Sl → Int → Heap → Prop) (a1 : Option Ptr) (a2 : Int) (a3 : Sl) (a4 : Int) (Q : Heap → Prop) (h : Heap) : Prop :=
  br (decide (a4 < ((a3.len : Nat) : Int))) (br (decide (a4 < 8)) (ix a4 a3.len (fun n1 => der a3.p (fun p2 => rdB ((p2.add (n1 * 3)).add 2) (fun x3 => br x3 (palisadelaw24_offer.j6 U I1 a1 a2 a3 a4 2 Q h) (palisadelaw24_offer.j6 U I1 a1 a2 a3 a4 0 Q h)) h))) (nz 8 (palisadelaw24_Flat_Store U a1 (IntKind.u64.wrap (264 + (IntKind.u64.wrap (8 * (IntKind.u64.wrap (a2.tmod 8)))))) 8 0 (fun r4 h => palisadelaw24_Flat_Store U a1 256 8 (IntKind.u64.wrap (IntKind.i64.wrap (a2 + 1))) (fun r5 h => Q h) h) h))) (nz 8 (palisadelaw24_Flat_Store U a1 (IntKind.u64.wrap (264 + (IntKind.u64.wrap (8 * (IntKind.u64.wrap (a2.tmod 8)))))) 8 0 (fun r6 h => palisadelaw24_Flat_Store U a1 256 8 (IntKind.u64.wrap (IntKind.i64.wrap (a2 + 1))) (fun r7 h => Q h) h) h))

def palisadelaw24_offer.j1 (U : Ifc)  (a1 : Option Ptr) (a2 : Int) (a3 : Sl) (a4 : Int) (Q : Heap → Prop) (h : Heap) : Prop :=
  ∀ I : (Option Ptr) → Int → Sl → Int → Heap → Prop, (∀ a1 a2 a3 a4 h, palisadelaw24_offer.b1 U  I a1 a2 a3 a4 Q h → I a1 a2 a3 a4 h) → I a1 a2 a3 a4 h

def palisadelaw24_offer (U : Ifc) (a1 : Option Ptr) (a2 : Int) (a3 : Sl) (Q : Heap → Prop) (h : Heap) : Prop :=
  palisadelaw24_offer.j1 U a1 a2 a3 0 Q h

def ring_Ring_usable (a1 : Option Ptr) (a2 : V) (Q : Int → Heap → Prop) (h : Heap) : Prop :=
  br a1.isNone (Q 1 h) (der a1 (fun p1 => rdI .u64 (p1.add 1) (fun x2 => br (x2 == 0) (Q 1 h) (isNil a2 (fun c3 => br c3 (Q 1 h) (der a1 (fun p4 => rdB (p4.add 4) (fun x5 => br x5 (Q 22 h) (Q 0 h)) h))))) h))

def ring_reader_number (U : Ifc) (a1 : Option Ptr) (a2 : Int) (Q : Int → Heap → Prop) (h : Heap) : Prop :=
  der a1 (fun p1 => rdV (p1.add 0) (fun x2 => U.inv x2 "Load" [.int .u64 a2, .int .i64 8] (fun r3 h => asTupV r3 (fun l4 => asCons l4 (fun v5 l6 => asI .u64 v5 (fun x7 => asCons l6 (fun v8 l9 => asI .i64 v8 (fun x10 => asNil l9 (der a1 (fun p11 => rdB (p11.add 1) (fun x12 => br x12 (der a1 (fun p13 => wr (p13.add 1) (.bool true) (fun h => Q x7 h) h)) (der a1 (fun p14 => wr (p14.add 1) (.bool (x10 != 0)) (fun h => Q x7 h) h))) h)))))))) h) h)

def ring_reader_part.j7 (U : Ifc) (I3 : (Option Ptr) → Int → Ptr → Ptr → Int → Heap → Prop) (a1 : Option Ptr) (a2 : Int) (a3 : Ptr) (a4 : Ptr) (a5 : Int) (Q : Int → Int → Bool → Int → Bool → Heap → Prop) (h : Heap) : Prop :=
  I3 a1 a2 a3 a4 (IntKind.i64.wrap (a5 + 1)) h

def ring_reader_part.j9 (U : Ifc)  (a1 : Option Ptr) (a2 : Ptr) (Q : Int → Int → Bool → Int → Bool → Heap → Prop) (h : Heap) : Prop :=
  der a1 (fun p1 => wr (p1.add 1) (.bool true) (fun h => wrL [.int .u64 0, .int .i64 0, .bool false] a2 0 (fun h => rdI .u64 (a2.add 0) (fun x2 => rdI .i64 (a2.add 1) (fun x3 => rdB (a2.add 2) (fun x4 => Q x2 x3 x4 0 false h) h) h) h) h) h)

def ring_reader_part.b3 (U : Ifc)  (I3 : (Option Ptr) → Int → Ptr → Ptr → Int → Heap → Prop) (a1 : Option Ptr) (a2 : Int) (a3 : Ptr) (a4 : Ptr) (a5 : Int) (Q : Int → Int → Bool → Int → Bool → Heap → Prop) (h : Heap) : Prop :=
  br (decide (a5 < 4)) (der a1 (fun p1 => rdB (p1.add 1) (fun x2 => br (!x2) (ring_reader_number U a1 (IntKind.u64.wrap (a2 + (IntKind.u64.wrap (8 * (IntKind.u64.wrap a5))))) (fun r3 h => ix a5 4 (fun n4 => wr (a4.add (n4 * 1)) (.int .u64 r3) (fun h => ring_reader_part.j7 U I3 a1 a2 a3 a4 a5 Q h) h)) h) (ring_reader_part.j7 U I3 a1 a2 a3 a4 a5 Q h)) h)) (ix 1 4 (fun n5 => rdI .u64 (a4.add (n5 * 1)) (fun x6 => br (decide (x6 < 1)) (ring_reader_part.j9 U a1 a3 Q h) (ix 1 4 (fun n7 => rdI .u64 (a4.add (n7 * 1)) (fun x8 => br (decide (x8 > 4096)) (ring_reader_part.j9 U a1 a3 Q h) (ix 2 4 (fun n9 => rdI .u64 (a4.add (n9 * 1)) (fun x10 => br (decide (x10 > 3)) (ring_reader_part.j9 U a1 a3 Q h) (ix 0 4 (fun n11 => rdI .u64 (a4.add (n11 * 1)) (fun x12 => ix 1 4 (fun n13 => rdI .u64 (a4.add (n13 * 1)) (fun x14 => br (decide (x12 > (IntKind.u64.wrap (1099511627776 - x14)))) (ring_reader_part.j9 U a1 a3 Q h) (ix 0 4 (fun n15 => rdI .u64 (a4.add (n15 * 1)) (fun x16 => ix 1 4 (fun n17 => rdI .u64 (a4.add (n17 * 1)) (fun x18 => ix 2 4 (fun n19 => rdI .u64 (a4.add (n19 * 1)) (fun x20 => ix 3 4 (fun n21 => rdI .u64 (a4.add (n21 * 1)) (fun x22 => ix 2 4 (fun n23 => rdI .u64 (a4.add (n23 * 1)) (fun x24 => ck (a4.add (n23 * 1)) [.int .u64 x24] 0 h ∧ ck (a4.add (n21 * 1)) [.int .u64 x22] 0 h ∧ wrL [.int .u64 x16, .int .i64 (IntKind.i64.wrap x18), .bool ((ibits .and .u64 x20 2) != 0)] a3 0 (fun h => ck (a4.add (n23 * 1)) [.int .u64 x24] 0 h ∧ ck (a4.add (n21 * 1)) [.int .u64 x22] 0 h ∧ (rdI .u64 (a3.add 0) (fun x25 => rdI .i64 (a3.add 1) (fun x26 => rdB (a3.add 2) (fun x27 => Q x25 x26 x27 x22 ((ibits .and .u64 x24 1) != 0) h) h) h) h)) h) h)) h)) h)) h)) h))) h)) h))) h))) h))) h))

def ring_reader_part.j3 (U : Ifc)  (a1 : Option Ptr) (a2 : Int) (a3 : Ptr) (a4 : Ptr) (a5 : Int) (Q : Int → Int → Bool → Int → Bool → Heap → Prop) (h : Heap) : Prop :=
  ∀ I : (Option Ptr) → Int → Ptr → Ptr → Int → Heap → Prop, (∀ a1 a2 a3 a4 a5 h, ring_reader_part.b3 U  I a1 a2 a3 a4 a5 Q h → I a1 a2 a3 a4 a5 h) → I a1 a2 a3 a4 a5 h

def ring_reader_part (U : Ifc) (a1 : Option Ptr) (a2 : Int) (Q : Int → Int → Bool → Int → Bool → Heap → Prop) (h : Heap) : Prop :=
  al [.int .u64 0, .int .i64 0, .bool false] (fun b1 h => al [.int .u64 0, .int .u64 0, .int .u64 0, .int .u64 0] (fun b2 h => ring_reader_part.j3 U a1 a2 (⟨b1, 0⟩ : Ptr) (⟨b2, 0⟩ : Ptr) 0 Q h) h) h

def ring_Ring_chain.j9 (U : Ifc) (I3 : (Option Ptr) → (Option Ptr) → Int → Ptr → Bool → Int → Int → Int → Heap → Prop) (a1 : Ptr) (Q : Int → Sl → Bool → Heap → Prop) (h : Heap) : Prop :=
  wrL [.int .i64 0, .sl ⟨none, 0, 0⟩] a1 0 (fun h => rdI .i64 (a1.add 0) (fun x1 => rdSl (a1.add 1) (fun x2 => Q x1 x2 false h) h) h) h

def ring_Ring_chain.j10 (U : Ifc) (I3 : (Option Ptr) → (Option Ptr) → Int → Ptr → Bool → Int → Int → Int → Heap → Prop) (a1 : Option Ptr) (a2 : Option Ptr) (a3 : Int) (a4 : Ptr) (a5 : Ptr) (a6 : Int) (a7 : Bool) (a8 : Int) (a9 : Int) (Q : Int → Sl → Bool → Heap → Prop) (h : Heap) : Prop :=
  rdSl (a4.add 1) (fun x1 => rdI .u64 (a5.add 0) (fun x2 => rdI .i64 (a5.add 1) (fun x3 => rdB (a5.add 2) (fun x4 => al [.int .u64 x2, .int .i64 x3, .bool x4] (fun b5 h => rdN (1 * 3) (⟨b5, 0⟩ : Ptr) (fun cs7 => appS 3 24 [.int .u64 0, .int .i64 0, .bool false] x1 cs7 1 (fun s6 h => wr (a4.add 1) (.sl s6) (fun h => br (!a7) (wr (a4.add 0) (.int .i64 (IntKind.i64.wrap a3)) (fun h => rdI .i64 (a4.add 0) (fun x8 => rdSl (a4.add 1) (fun x9 => wrL [.int .i64 x8, .sl x9] a4 0 (fun h => rdI .i64 (a4.add 0) (fun x10 => rdSl (a4.add 1) (fun x11 => Q x10 x11 (!a7) h) h) h) h) h) h) h) (I3 a1 a2 a3 a4 (!a7) a6 a8 (IntKind.u64.wrap (a9 + 1)) h)) h) h) h) h) h) h) h) h

def ring_Ring_chain.j8 (U : Ifc) (I3 : (Option Ptr) → (Option Ptr) → Int → Ptr → Bool → Int → Int → Int → Heap → Prop) (a1 : Option Ptr) (a2 : Option Ptr) (a3 : Int) (a4 : Ptr) (a5 : Ptr) (a6 : Int) (a7 : Bool) (a8 : Int) (a9 : Int) (a10 : Int) (Q : Int → Sl → Bool → Heap → Prop) (h : Heap) : Prop :=
  der a2 (fun p1 => rdB (p1.add 1) (fun x2 => br x2 (ring_Ring_chain.j9 U I3 a4 Q h) (br (decide (a8 > 0)) (rdSl (a4.add 1) (fun x3 => ix (IntKind.i64.wrap (a8 - 1)) x3.len (fun n4 => der x3.p (fun p5 => rdB ((p5.add (n4 * 3)).add 2) (fun x6 => br x6 (rdB (a5.add 2) (fun x7 => br (!x7) (ring_Ring_chain.j9 U I3 a4 Q h) (ring_Ring_chain.j10 U I3 a1 a2 a3 a4 a5 a6 a7 a9 a10 Q h)) h) (ring_Ring_chain.j10 U I3 a1 a2 a3 a4 a5 a6 a7 a9 a10 Q h)) h))) h) (ring_Ring_chain.j10 U I3 a1 a2 a3 a4 a5 a6 a7 a9 a10 Q h))) h)

def ring_Ring_chain.b3 (U : Ifc)  (I3 : (Option Ptr) → (Option Ptr) → Int → Ptr → Bool → Int → Int → Int → Heap → Prop) (a1 : Option Ptr) (a2 : Option Ptr) (a3 : Int) (a4 : Ptr) (a5 : Bool) (a6 : Int) (a7 : Int) (a8 : Int) (Q : Int → Sl → Bool → Heap → Prop) (h : Heap) : Prop :=
  br (decide (a8 < a7)) (der a1 (fun p1 => rdI .u64 (p1.add 1) (fun x2 => br (decide (a6 ≥ x2)) (wrL [.int .i64 0, .sl ⟨none, 0, 0⟩] a4 0 (fun h => rdI .i64 (a4.add 0) (fun x3 => rdSl (a4.add 1) (fun x4 => Q x3 x4 false h) h) h) h) (der a1 (fun p5 => rdI .u64 (p5.add 0) (fun x6 => ring_reader_part U a2 (IntKind.u64.wrap (x6 + (IntKind.u64.wrap (32 * a6)))) (fun r7 r8 r9 r10 r11 h => al [.int .u64 0, .int .i64 0, .bool false] (fun b12 h => wrL [.int .u64 r7, .int .i64 r8, .bool r9] (⟨b12, 0⟩ : Ptr) 0 (fun h => rdSl (a4.add 1) (fun x13 => ring_Ring_chain.j8 U I3 a1 a2 a3 a4 (⟨b12, 0⟩ : Ptr) r10 r11 ((x13.len : Nat) : Int) a7 a8 Q h) h) h) h) h) h))) h)) (wr (a4.add 0) (.int .i64 (IntKind.i64.wrap a3)) (fun h => rdI .i64 (a4.add 0) (fun x14 => rdSl (a4.add 1) (fun x15 => wrL [.int .i64 x14, .sl x15] a4 0 (fun h => rdI .i64 (a4.add 0) (fun x16 => rdSl (a4.add 1) (fun x17 => Q x16 x17 a5 h) h) h) h) h) h) h)

def ring_Ring_chain.j3 (U : Ifc)  (a1 : Option Ptr) (a2 : Option Ptr) (a3 : Int) (a4 : Ptr) (a5 : Bool) (a6 : Int) (a7 : Int) (a8 : Int) (Q : Int → Sl → Bool → Heap → Prop) (h : Heap) : Prop :=
  ∀ I : (Option Ptr) → (Option Ptr) → Int → Ptr → Bool → Int → Int → Int → Heap → Prop, (∀ a1 a2 a3 a4 a5 a6 a7 a8 h, ring_Ring_chain.b3 U  I a1 a2 a3 a4 a5 a6 a7 a8 Q h → I a1 a2 a3 a4 a5 a6 a7 a8 h) → I a1 a2 a3 a4 a5 a6 a7 a8 h

def ring_Ring_chain (U : Ifc) (a1 : Option Ptr) (a2 : Option Ptr) (a3 : Int) (Q : Int → Sl → Bool → Heap → Prop) (h : Heap) : Prop :=
  al [.int .i64 0, .sl ⟨none, 0, 0⟩] (fun b1 h => der a1 (fun p2 => rdI .u64 (p2.add 1) (fun x3 => ring_Ring_chain.j3 U a1 a2 a3 (⟨b1, 0⟩ : Ptr) false a3 x3 0 Q h) h)) h

def ring_Ring_Next.j11 (U : Ifc)  (a1 : Option Ptr) (a2 : Ptr) (a3 : Ptr) (a4 : Int) (Q : Int → Sl → Bool → Int → Heap → Prop) (h : Heap) : Prop :=
  rdB (a3.add 1) (fun x1 => br (!x1) (ring_Ring_chain U a1 (some a3) a4 (fun r2 r3 r4 h => al [.int .i64 0, .sl ⟨none, 0, 0⟩] (fun b5 h => wrL [.int .i64 r2, .sl r3] (⟨b5, 0⟩ : Ptr) 0 (fun h => br r4 (der a1 (fun p6 => rdI .u64 (p6.add 2) (fun x7 => der a1 (fun p8 => wr (p8.add 2) (.int .u64 (IntKind.u64.wrap (x7 + 1))) (fun h => rdI .i64 ((⟨b5, 0⟩ : Ptr).add 0) (fun x9 => rdSl ((⟨b5, 0⟩ : Ptr).add 1) (fun x10 => wrL [.int .i64 x9, .sl x10] a2 0 (fun h => rdI .i64 (a2.add 0) (fun x11 => rdSl (a2.add 1) (fun x12 => Q x11 x12 true 0 h) h) h) h) h) h) h)) h)) (der a1 (fun p13 => wr (p13.add 4) (.bool true) (fun h => wrL [.int .i64 0, .sl ⟨none, 0, 0⟩] a2 0 (fun h => rdI .i64 (a2.add 0) (fun x14 => rdSl (a2.add 1) (fun x15 => Q x14 x15 false 22 h) h) h) h) h))) h) h) h) (der a1 (fun p16 => wr (p16.add 4) (.bool true) (fun h => wrL [.int .i64 0, .sl ⟨none, 0, 0⟩] a2 0 (fun h => rdI .i64 (a2.add 0) (fun x17 => rdSl (a2.add 1) (fun x18 => Q x17 x18 false 22 h) h) h) h) h))) h

def ring_Ring_Next.j9 (U : Ifc)  (a1 : Option Ptr) (a2 : Ptr) (a3 : Ptr) (a4 : Int) (a5 : Int) (Q : Int → Sl → Bool → Int → Heap → Prop) (h : Heap) : Prop :=
  rdB (a3.add 1) (fun x1 => br (!x1) (der a1 (fun p2 => rdI .u64 (p2.add 2) (fun x3 => der a1 (fun p4 => rdI .u64 (p4.add 1) (fun x5 => br (decide ((IntKind.u64.wrap (a5 - x3)) ≤ x5)) (der a1 (fun p6 => rdI .u64 (p6.add 2) (fun x7 => der a1 (fun p8 => rdI .u64 (p8.add 1) (fun x9 => nz x9 (ring_reader_number U (some a3) (IntKind.u64.wrap (a4 + (IntKind.u64.wrap (8 * (IntKind.u64.wrap (1 + (x7.tmod x9))))))) (fun r10 h => ring_Ring_Next.j11 U a1 a2 a3 r10 Q h) h)) h)) h)) (der a1 (fun p11 => wr (p11.add 4) (.bool true) (fun h => wrL [.int .i64 0, .sl ⟨none, 0, 0⟩] a2 0 (fun h => rdI .i64 (a2.add 0) (fun x12 => rdSl (a2.add 1) (fun x13 => Q x12 x13 false 22 h) h) h) h) h))) h)) h)) (der a1 (fun p14 => wr (p14.add 4) (.bool true) (fun h => wrL [.int .i64 0, .sl ⟨none, 0, 0⟩] a2 0 (fun h => rdI .i64 (a2.add 0) (fun x15 => rdSl (a2.add 1) (fun x16 => Q x15 x16 false 22 h) h) h) h) h))) h

def ring_Ring_Next.j7 (U : Ifc)  (a1 : Option Ptr) (a2 : Ptr) (a3 : Ptr) (a4 : Int) (a5 : Int) (Q : Int → Sl → Bool → Int → Heap → Prop) (h : Heap) : Prop :=
  rdB (a3.add 1) (fun x1 => br (!x1) (der a1 (fun p2 => rdI .u64 (p2.add 2) (fun x3 => br (a5 == x3) (wrL [.int .i64 0, .sl ⟨none, 0, 0⟩] a2 0 (fun h => rdI .i64 (a2.add 0) (fun x4 => rdSl (a2.add 1) (fun x5 => Q x4 x5 false 0 h) h) h) h) (ring_Ring_Next.j9 U a1 a2 a3 a4 a5 Q h)) h)) (ring_Ring_Next.j9 U a1 a2 a3 a4 a5 Q h)) h

def ring_Ring_Next (U : Ifc) (a1 : Option Ptr) (a2 : V) (Q : Int → Sl → Bool → Int → Heap → Prop) (h : Heap) : Prop :=
  al [.int .i64 0, .sl ⟨none, 0, 0⟩] (fun b1 h => ring_Ring_usable a1 a2 (fun r2 h => br (r2 != 0) (wrL [.int .i64 0, .sl ⟨none, 0, 0⟩] (⟨b1, 0⟩ : Ptr) 0 (fun h => rdI .i64 ((⟨b1, 0⟩ : Ptr).add 0) (fun x3 => rdSl ((⟨b1, 0⟩ : Ptr).add 1) (fun x4 => Q x3 x4 false r2 h) h) h) h) (chk (V.one a2) (al [a2, .bool false] (fun b5 h => der a1 (fun p6 => rdI .u64 (p6.add 0) (fun x7 => der a1 (fun p8 => rdI .u64 (p8.add 1) (fun x9 => ring_reader_number U (some (⟨b5, 0⟩ : Ptr)) (IntKind.u64.wrap (x7 + (IntKind.u64.wrap (32 * x9)))) (fun r10 h => ring_Ring_Next.j7 U a1 (⟨b1, 0⟩ : Ptr) (⟨b5, 0⟩ : Ptr) (IntKind.u64.wrap (x7 + (IntKind.u64.wrap (32 * x9)))) r10 Q h) h) h)) h)) h))) h) h

def ring_Ring_Push.j5 (U : Ifc)   (Q : Int → Heap → Prop) (h : Heap) : Prop :=
  Q 2 h

def ring_Ring_Push.j7 (U : Ifc)   (Q : Int → Heap → Prop) (h : Heap) : Prop :=
  Q 21 h

def ring_Ring_Push.b11 (U : Ifc)  (I11 : (Option Ptr) → V → Sl → Int → Int → Heap → Prop) (a1 : Option Ptr) (a2 : V) (a3 : Sl) (a4 : Int) (a5 : Int) (Q : Int → Heap → Prop) (h : Heap) : Prop :=
  br (decide (a5 < a4)) (ix a5 a3.len (fun n1 => der a3.p (fun p2 => rdI .u64 ((p2.add (n1 * 2)).add 0) (fun x3 => rdI .u64 ((p2.add (n1 * 2)).add 1) (fun x4 => al [.int .u64 0, .int .u64 0] (fun b5 h => wrL [.int .u64 x3, .int .u64 x4] (⟨b5, 0⟩ : Ptr) 0 (fun h => rdI .u64 ((⟨b5, 0⟩ : Ptr).add 0) (fun x6 => rdI .u64 ((⟨b5, 0⟩ : Ptr).add 1) (fun x7 => U.inv a2 "Store" [.int .u64 x6, .int .i64 8, .int .u64 x7] (fun r8 h => asI .i64 r8 (fun x9 => br (x9 != 0) (der a1 (fun p10 => wr (p10.add 4) (.bool true) (fun h => Q 22 h) h)) (I11 a1 a2 a3 a4 (IntKind.i64.wrap (a5 + 1)) h))) h) h) h) h) h) h) h))) (der a1 (fun p11 => rdI .u64 (p11.add 3) (fun x12 => der a1 (fun p13 => wr (p13.add 3) (.int .u64 (IntKind.u64.wrap (x12 + 1))) (fun h => Q 0 h) h)) h))

def ring_Ring_Push.j11 (U : Ifc)  (a1 : Option Ptr) (a2 : V) (a3 : Sl) (a4 : Int) (a5 : Int) (Q : Int → Heap → Prop) (h : Heap) : Prop :=
  ∀ I : (Option Ptr) → V → Sl → Int → Int → Heap → Prop, (∀ a1 a2 a3 a4 a5 h, ring_Ring_Push.b11 U  I a1 a2 a3 a4 a5 Q h → I a1 a2 a3 a4 a5 h) → I a1 a2 a3 a4 a5 h

def ring_Ring_Push.j10 (U : Ifc)  (a1 : Option Ptr) (a2 : V) (a3 : Int) (a4 : Int) (a5 : Int) (a6 : Int) (Q : Int → Heap → Prop) (h : Heap) : Prop :=
  der a1 (fun p1 => rdI .u64 (p1.add 3) (fun x2 => al [.int .u64 a6, .int .u64 (IntKind.u64.wrap a3), .int .u64 (IntKind.u64.wrap (a6 + 8)), .int .u64 (IntKind.u64.wrap a4), .int .u64 a5, .int .u64 (IntKind.u64.wrap (x2 + 1))] (fun b3 h => ring_Ring_Push.j11 U a1 a2 ⟨some ⟨b3, 0⟩, 3, 3⟩ ((3 : Nat) : Int) 0 Q h) h) h)

def ring_Ring_Push.j8 (U : Ifc)  (a1 : Option Ptr) (a2 : V) (a3 : Int) (a4 : Int) (Q : Int → Heap → Prop) (h : Heap) : Prop :=
  der a1 (fun p1 => rdI .u64 (p1.add 0) (fun x2 => der a1 (fun p3 => rdI .u64 (p3.add 1) (fun x4 => der a1 (fun p5 => rdI .u64 (p5.add 3) (fun x6 => der a1 (fun p7 => rdI .u64 (p7.add 1) (fun x8 => nz x8 (ring_Ring_Push.j10 U a1 a2 a3 a4 (IntKind.u64.wrap ((IntKind.u64.wrap (x2 + (IntKind.u64.wrap (40 * x4)))) + 8)) (IntKind.u64.wrap ((IntKind.u64.wrap ((IntKind.u64.wrap ((IntKind.u64.wrap (x2 + (IntKind.u64.wrap (40 * x4)))) + 8)) + 8)) + (IntKind.u64.wrap (16 * (x6.tmod x8))))) Q h)) h)) h)) h)) h)

def ring_Ring_Push (U : Ifc) (a1 : Option Ptr) (a2 : V) (a3 : Int) (a4 : Int) (Q : Int → Heap → Prop) (h : Heap) : Prop :=
  ring_Ring_usable a1 a2 (fun r1 h => br (r1 != 0) (Q r1 h) (br (decide (a3 < 0)) (ring_Ring_Push.j5 U Q h) (der a1 (fun p2 => rdI .u64 (p2.add 1) (fun x3 => br (decide ((IntKind.u64.wrap a3) ≥ x3)) (ring_Ring_Push.j5 U Q h) (br (decide (a4 < 0)) (ring_Ring_Push.j5 U Q h) (der a1 (fun p4 => rdI .u64 (p4.add 3) (fun x5 => der a1 (fun p6 => rdI .u64 (p6.add 2) (fun x7 => br (x5 == x7) (ring_Ring_Push.j7 U Q h) (ring_Ring_Push.j8 U a1 a2 a3 a4 Q h)) h)) h)))) h)))) h

def backend_each.j5 (U : Ifc) (I3 : V → (Option Ptr) → V → Int → Heap → Prop) (a1 : Int) (a2 : Int) (Q : Int → Int → Heap → Prop) (h : Heap) : Prop :=
  Q a1 a2 h

def backend_each.j2 (U : Ifc) (I3 : V → (Option Ptr) → V → Int → Heap → Prop) (a1 : V) (a2 : Option Ptr) (a3 : V) (a4 : Int) (Q : Int → Int → Heap → Prop) (h : Heap) : Prop :=
  I3 a1 a2 a3 (IntKind.i64.wrap (a4 + 1)) h

def backend_each.j8 (U : Ifc) (I3 : V → (Option Ptr) → V → Int → Heap → Prop) (a1 : V) (a2 : Option Ptr) (a3 : V) (a4 : Int) (a5 : Ptr) (Q : Int → Int → Heap → Prop) (h : Heap) : Prop :=
  rdI .i64 ((a5.add 0).add 0) (fun x1 => rdI .i64 (a5.add 2) (fun x2 => ring_Ring_Push U a2 a1 x1 x2 (fun r3 h => br (r3 != 0) (Q a4 r3 h) (backend_each.j2 U I3 a1 a2 a3 a4 Q h)) h) h) h

def backend_each.b3 (U : Ifc)  (I3 : V → (Option Ptr) → V → Int → Heap → Prop) (a1 : V) (a2 : Option Ptr) (a3 : V) (a4 : Int) (Q : Int → Int → Heap → Prop) (h : Heap) : Prop :=
  ring_Ring_Next U a2 a1 (fun r1 r2 r3 r4 h => al [.int .i64 0, .sl ⟨none, 0, 0⟩] (fun b5 h => wrL [.int .i64 r1, .sl r2] (⟨b5, 0⟩ : Ptr) 0 (fun h => br (!r3) (backend_each.j5 U I3 a4 r4 Q h) (br (r4 != 0) (backend_each.j5 U I3 a4 r4 Q h) (rdI .i64 ((⟨b5, 0⟩ : Ptr).add 0) (fun x6 => rdSl ((⟨b5, 0⟩ : Ptr).add 1) (fun x7 => al [.int .i64 0, .sl ⟨none, 0, 0⟩, .int .i64 0] (fun b8 h => wrL [.int .i64 x6, .sl x7, .int .i64 0] (⟨b8, 0⟩ : Ptr) 0 (fun h => rdI .i64 ((⟨b5, 0⟩ : Ptr).add 0) (fun x9 => rdSl ((⟨b5, 0⟩ : Ptr).add 1) (fun x10 => U.callV a3 [.agg [.int .i64 x9, .sl x10]] (fun r11 h => asI .i64 r11 (fun x12 => wr ((⟨b8, 0⟩ : Ptr).add 2) (.int .i64 x12) (fun h => backend_each.j8 U I3 a1 a2 a3 a4 (⟨b8, 0⟩ : Ptr) Q h) h)) h) h) h) h) h) h) h))) h) h) h

def backend_each.j3 (U : Ifc)  (a1 : V) (a2 : Option Ptr) (a3 : V) (a4 : Int) (Q : Int → Int → Heap → Prop) (h : Heap) : Prop :=
  ∀ I : V → (Option Ptr) → V → Int → Heap → Prop, (∀ a1 a2 a3 a4 h, backend_each.b3 U  I a1 a2 a3 a4 Q h → I a1 a2 a3 a4 h) → I a1 a2 a3 a4 h

def backend_each (U : Ifc) (a1 : V) (a2 : Option Ptr) (a3 : V) (Q : Int → Int → Heap → Prop) (h : Heap) : Prop :=
  backend_each.j3 U a1 a2 a3 0 Q h

def backend_Tty_Kick (U : Ifc) (a1 : Option Ptr) (a2 : V) (Q : Int → Int → Heap → Prop) (h : Heap) : Prop :=
  al [.ptr a1] (fun b1 h => chk (V.one a2) (al [a2] (fun b2 h => rdP (⟨b1, 0⟩ : Ptr) (fun x3 => br x3.isNone (Q 0 1 h) (rdP (⟨b1, 0⟩ : Ptr) (fun x4 => der x4 (fun p5 => rdP (p5.add 0) (fun x6 => br x6.isNone (Q 0 1 h) (rdV (⟨b2, 0⟩ : Ptr) (fun x7 => isNil x7 (fun c8 => br c8 (Q 0 1 h) (rdV (⟨b2, 0⟩ : Ptr) (fun x9 => rdP (⟨b1, 0⟩ : Ptr) (fun x10 => der x10 (fun p11 => rdP (p11.add 0) (fun x12 => ck (p11.add 0) [.ptr x12] 0 h ∧ ck (⟨b1, 0⟩ : Ptr) [.ptr x10] 0 h ∧ ck (⟨b2, 0⟩ : Ptr) (V.cells x9) 0 h ∧ (backend_each U x9 x12 (.fn 258 [.ptr (some (⟨b2, 0⟩ : Ptr)), .ptr (some (⟨b1, 0⟩ : Ptr))]) (fun r13 r14 h => Q r13 r14 h) h)) h)) h) h))) h)) h)) h)) h) h)) h

def word_Load.j2 (U : Ifc)   (Q : Int → Bool → Heap → Prop) (h : Heap) : Prop :=
  Q 0 false h

def word_Load.b5 (U : Ifc)  (I5 : Int → Int → Sl → Int → Int → Heap → Prop) (a1 : Int) (a2 : Int) (a3 : Sl) (a4 : Int) (a5 : Int) (Q : Int → Bool → Heap → Prop) (h : Heap) : Prop :=
  br (decide (a5 < a4)) (ix a5 a3.len (fun n1 => der a3.p (fun p2 => rdI .u8 (p2.add (n1 * 1)) (fun x3 => nneg (IntKind.i64.wrap (8 * a5)) (I5 a1 (ibits .or .u64 a2 (shlI .u64 (IntKind.u64.wrap x3) (IntKind.i64.wrap (8 * a5)))) a3 a4 (IntKind.i64.wrap (a5 + 1)) h)) h))) (br (a1 == 4) (Q (IntKind.u64.wrap (IntKind.i64.wrap (IntKind.i32.wrap a2))) true h) (Q a2 true h))

def word_Load.j5 (U : Ifc)  (a1 : Int) (a2 : Int) (a3 : Sl) (a4 : Int) (a5 : Int) (Q : Int → Bool → Heap → Prop) (h : Heap) : Prop :=
  ∀ I : Int → Int → Sl → Int → Int → Heap → Prop, (∀ a1 a2 a3 a4 a5 h, word_Load.b5 U  I a1 a2 a3 a4 a5 Q h → I a1 a2 a3 a4 a5 h) → I a1 a2 a3 a4 a5 h

def word_Load (U : Ifc) (a1 : Sl) (a2 : Int) (a3 : Int) (Q : Int → Bool → Heap → Prop) (h : Heap) : Prop :=
  word_known U a3 (fun r1 h => br (!r1) (word_Load.j2 U Q h) (br (decide (a2 < 0)) (word_Load.j2 U Q h) (br (decide (a2 > (IntKind.i64.wrap (((a1.len : Nat) : Int) - a3)))) (word_Load.j2 U Q h) (sb (IntKind.i64.wrap (a2 + a3)) a1.cap (fun n2 => sb a2 n2 (fun n3 => word_Load.j5 U a3 0 ⟨slp a1.p (n3 * 1) n3 a1.cap, n2 - n3, a1.cap - n3⟩ ((n2 - n3 : Nat) : Int) 0 Q h)))))) h

def mem_Memory_Load (U : Ifc) (a1 : Option Ptr) (a2 : Int) (a3 : Int) (Q : Int → Int → Heap → Prop) (h : Heap) : Prop :=
  mem_Memory_number a1 a2 a3 (fun r1 r2 h => br (r2 != 0) (Q 0 r2 h) (word_Load U r1 0 a3 (fun r3 r4 h => Q r3 0 h) h)) h

def palisadelaw24_Flat_Load (U : Ifc) (a1 : Option Ptr) (a2 : Int) (a3 : Int) (Q : Int → Int → Heap → Prop) (h : Heap) : Prop :=
  der a1 (fun p1 => rdI .i64 (p1.add 2) (fun x2 => br (decide (a2 ≥ (IntKind.u64.wrap (IntKind.i64.wrap (256 * x2))))) (Q 0 12 h) (der a1 (fun p3 => rdP (p3.add 0) (fun x4 => der a1 (fun p5 => rdI .i64 (p5.add 1) (fun x6 => mem_Memory_Load U x4 (IntKind.u64.wrap (a2 + (IntKind.u64.wrap (IntKind.i64.wrap (256 * x6))))) a3 (fun r7 r8 h => Q r7 r8 h) h) h)) h))) h)

def palisadelaw24_back (U : Ifc) (a1 : Option Ptr) (Q : Int → Int → Heap → Prop) (h : Heap) : Prop :=
  palisadelaw24_Flat_Load U a1 328 8 (fun r1 r2 h => nz 8 (palisadelaw24_Flat_Load U a1 (IntKind.u64.wrap ((IntKind.u64.wrap (336 + (IntKind.u64.wrap (16 * ((IntKind.u64.wrap (r1 - 1)).tmod 8))))) + 8)) 8 (fun r3 r4 h => Q (IntKind.i64.wrap r1) (IntKind.i64.wrap r3) h) h)) h

def bytes_Clone (a1 : Sl) (Q : Sl → Heap → Prop) (h : Heap) : Prop :=
  br a1.p.isNone (Q ⟨none, 0, 0⟩ h) (al [] (fun b1 h => cellsS 1 a1 (fun cs3 => appS 1 1 [.int .u8 0] ⟨some ⟨b1, 0⟩, 0, 0⟩ cs3 a1.len (fun s2 h => Q s2 h) h) h) h)

def mem_Memory_Bytes (a1 : Option Ptr) (a2 : Int) (a3 : Int) (Q : Sl → Int → Heap → Prop) (h : Heap) : Prop :=
  mem_Memory_part a1 a2 a3 (fun r1 r2 h => bytes_Clone r1 (fun r3 h => Q r3 r2 h) h) h

def palisadelaw24_Flat_Bytes.j2   (Q : Sl → Int → Heap → Prop) (h : Heap) : Prop :=
  Q ⟨none, 0, 0⟩ 12 h

def palisadelaw24_Flat_Bytes.j3  (a1 : Option Ptr) (a2 : Int) (a3 : Int) (Q : Sl → Int → Heap → Prop) (h : Heap) : Prop :=
  der a1 (fun p1 => rdP (p1.add 0) (fun x2 => der a1 (fun p3 => rdI .i64 (p3.add 1) (fun x4 => mem_Memory_Bytes x2 (IntKind.u64.wrap (a2 + (IntKind.u64.wrap (IntKind.i64.wrap (256 * x4))))) a3 (fun r5 r6 h => Q r5 r6 h) h) h)) h)

def palisadelaw24_Flat_Bytes (a1 : Option Ptr) (a2 : Int) (a3 : Int) (Q : Sl → Int → Heap → Prop) (h : Heap) : Prop :=
  br (decide (a3 < 0)) (palisadelaw24_Flat_Bytes.j2 Q h) (der a1 (fun p1 => rdI .i64 (p1.add 2) (fun x2 => br (decide (a2 > (IntKind.u64.wrap (IntKind.i64.wrap (256 * x2))))) (palisadelaw24_Flat_Bytes.j2 Q h) (der a1 (fun p3 => rdI .i64 (p3.add 2) (fun x4 => br (decide ((IntKind.u64.wrap a3) > (IntKind.u64.wrap ((IntKind.u64.wrap (IntKind.i64.wrap (256 * x4))) - a2)))) (palisadelaw24_Flat_Bytes.j2 Q h) (palisadelaw24_Flat_Bytes.j3 a1 a2 a3 Q h)) h))) h))

def slices_Clone_byte_byte (a1 : Sl) (Q : Sl → Heap → Prop) (h : Heap) : Prop :=
  br a1.p.isNone (Q ⟨none, 0, 0⟩ h) (al [] (fun b1 h => cellsS 1 a1 (fun cs3 => appS 1 1 [.int .u8 0] ⟨some ⟨b1, 0⟩, 0, 0⟩ cs3 a1.len (fun s2 h => Q s2 h) h) h) h)

def console_Console_Written (a1 : Option Ptr) (Q : Sl → Heap → Prop) (h : Heap) : Prop :=
  console_Console_none a1 (fun r1 h => br r1 (Q ⟨none, 0, 0⟩ h) (der a1 (fun p2 => rdSl (p2.add 2) (fun x3 => slices_Clone_byte_byte x3 (fun r4 h => Q r4 h) h) h))) h

def palisadelaw24_BackendTtys.j4 (U : Ifc)   (Q : Bool → Heap → Prop) (h : Heap) : Prop :=
  Q false h

def palisadelaw24_BackendTtys.j7 (U : Ifc)   (Q : Bool → Heap → Prop) (h : Heap) : Prop :=
  Q false h

def palisadelaw24_BackendTtys.j21 (U : Ifc)  (a1 : Sl) (a2 : Sl) (a3 : Option Ptr) (a4 : Int) (a5 : Int) (a6 : Int) (a7 : Int) (a8 : Sl) (Q : Bool → Heap → Prop) (h : Heap) : Prop :=
  br (a5 == 1) (br (a4 == 0) (br (a6 == a7) (sb a7 a2.cap (fun n1 => (cellsS 1 a8 (fun cs2 => bytesOf cs2 (fun s3 => cellsS 1 ⟨slp a2.p (0 * 1) 0 a2.cap, n1 - 0, a2.cap - 0⟩ (fun cs4 => bytesOf cs4 (fun s5 => br (s3 == s5) ((console_Console_Written a3 (fun r6 h => (cellsS 1 r6 (fun cs7 => bytesOf cs7 (fun s8 => cellsS 1 a1 (fun cs9 => bytesOf cs9 (fun s10 => catS s10 ([0] : List UInt8) (fun s11 => Q (s8 == s11) h))) h)) h) ∧ (cellsS 1 a1 (fun cs12 => bytesOf cs12 (fun s13 => catS s13 ([0] : List UInt8) (fun s14 => cellsS 1 r6 (fun cs15 => bytesOf cs15 (fun s16 => Q (s16 == s14) h)) h))) h)) h) ∧ (cellsS 1 a1 (fun cs17 => bytesOf cs17 (fun s18 => catS s18 ([0] : List UInt8) (fun s19 => console_Console_Written a3 (fun r20 h => cellsS 1 r20 (fun cs21 => bytesOf cs21 (fun s22 => Q (s22 == s19) h)) h) h))) h)) (((Q false h) ∧ (Q false h)) ∧ (Q false h)))) h)) h) ∧ (cellsS 1 ⟨slp a2.p (0 * 1) 0 a2.cap, n1 - 0, a2.cap - 0⟩ (fun cs23 => bytesOf cs23 (fun s24 => cellsS 1 a8 (fun cs25 => bytesOf cs25 (fun s26 => br (s26 == s24) ((console_Console_Written a3 (fun r27 h => (cellsS 1 r27 (fun cs28 => bytesOf cs28 (fun s29 => cellsS 1 a1 (fun cs30 => bytesOf cs30 (fun s31 => catS s31 ([0] : List UInt8) (fun s32 => Q (s29 == s32) h))) h)) h) ∧ (cellsS 1 a1 (fun cs33 => bytesOf cs33 (fun s34 => catS s34 ([0] : List UInt8) (fun s35 => cellsS 1 r27 (fun cs36 => bytesOf cs36 (fun s37 => Q (s37 == s35) h)) h))) h)) h) ∧ (cellsS 1 a1 (fun cs38 => bytesOf cs38 (fun s39 => catS s39 ([0] : List UInt8) (fun s40 => console_Console_Written a3 (fun r41 h => cellsS 1 r41 (fun cs42 => bytesOf cs42 (fun s43 => Q (s43 == s40) h)) h) h))) h)) (((Q false h) ∧ (Q false h)) ∧ (Q false h)))) h)) h))) ((((Q false h) ∧ (Q false h)) ∧ (Q false h)) ∧ (((Q false h) ∧ (Q false h)) ∧ (Q false h)))) ((((Q false h) ∧ (Q false h)) ∧ (Q false h)) ∧ (((Q false h) ∧ (Q false h)) ∧ (Q false h)))) ((((Q false h) ∧ (Q false h)) ∧ (Q false h)) ∧ (((Q false h) ∧ (Q false h)) ∧ (Q false h)))

def palisadelaw24_BackendTtys.j17 (U : Ifc)  (a1 : Sl) (a2 : Sl) (a3 : Int) (a4 : Option Ptr) (a5 : Option Ptr) (a6 : Option Ptr) (Q : Bool → Heap → Prop) (h : Heap) : Prop :=
  backend_Tty_Kick U a5 (.iface 4 (.ptr a6)) (fun r1 r2 h => palisadelaw24_back U a6 (fun r3 r4 h => palisadelaw24_Flat_Bytes a6 2048 (minI a3 ((a2.len : Nat) : Int)) (fun r5 r6 h => palisadelaw24_BackendTtys.j21 U a1 a2 a4 r2 r1 r4 (minI a3 ((a2.len : Nat) : Int)) r5 Q h) h) h) h

def palisadelaw24_BackendTtys.j12 (U : Ifc)  (a1 : Sl) (a2 : Sl) (a3 : Int) (a4 : Option Ptr) (a5 : Option Ptr) (a6 : Option Ptr) (Q : Bool → Heap → Prop) (h : Heap) : Prop :=
  console_Console_Input a5 a2 (fun r1 r2 h => der a4 (fun p3 => ix 0 2 (fun n4 => rdP ((p3.add 3).add (n4 * 1)) (fun x5 => palisadelaw24_Flat_Put x5 1024 a1 (fun r6 h => al [.int .u64 1024, .int .i64 (IntKind.i64.wrap (1 + ((a1.len : Nat) : Int))), .bool false, .int .u64 2048, .int .i64 (IntKind.i64.wrap (1 + (ibits .and .i64 a3 255))), .bool true] (fun b7 h => palisadelaw24_offer U x5 0 ⟨some ⟨b7, 0⟩, 2, 2⟩ (fun h => palisadelaw24_BackendTtys.j17 U a1 a2 (IntKind.i64.wrap (1 + (ibits .and .i64 a3 255))) a5 a6 x5 Q h) h) h) h) h))) h

def palisadelaw24_BackendTtys.j10 (U : Ifc)  (a1 : Sl) (a2 : Sl) (a3 : Int) (a4 : Option Ptr) (a5 : Option Ptr) (a6 : Option Ptr) (Q : Bool → Heap → Prop) (h : Heap) : Prop :=
  br (decide (((a2.len : Nat) : Int) > 500)) (sb 500 a2.cap (fun n1 => palisadelaw24_BackendTtys.j12 U a1 ⟨slp a2.p (0 * 1) 0 a2.cap, n1 - 0, a2.cap - 0⟩ a3 a4 a5 a6 Q h)) (palisadelaw24_BackendTtys.j12 U a1 a2 a3 a4 a5 a6 Q h)

def palisadelaw24_BackendTtys.j8 (U : Ifc)  (a1 : Sl) (a2 : Sl) (a3 : Int) (a4 : Option Ptr) (a5 : Option Ptr) (a6 : Option Ptr) (Q : Bool → Heap → Prop) (h : Heap) : Prop :=
  br (decide (((a1.len : Nat) : Int) > 500)) (sb 500 a1.cap (fun n1 => palisadelaw24_BackendTtys.j10 U ⟨slp a1.p (0 * 1) 0 a1.cap, n1 - 0, a1.cap - 0⟩ a2 a3 a4 a5 a6 Q h)) (palisadelaw24_BackendTtys.j10 U a1 a2 a3 a4 a5 a6 Q h)

def palisadelaw24_BackendTtys (U : Ifc) (a1 : Sl) (a2 : Sl) (a3 : Int) (Q : Bool → Heap → Prop) (h : Heap) : Prop :=
  palisadelaw24_begin (fun r1 h => console_New (fun r2 h => br r1.isNone (palisadelaw24_BackendTtys.j4 U Q h) (br r2.isNone (palisadelaw24_BackendTtys.j4 U Q h) (der r1 (fun p3 => ix 0 2 (fun n4 => rdP ((p3.add 5).add (n4 * 1)) (fun x5 => backend_NewTty x5 r2 (fun r6 r7 h => br (r7 != 0) (palisadelaw24_BackendTtys.j7 U Q h) (br r6.isNone (palisadelaw24_BackendTtys.j7 U Q h) (palisadelaw24_BackendTtys.j8 U a1 a2 a3 r1 r2 r6 Q h))) h) h))))) h) h

def backend_tell (U : Ifc) (a1 : V) (a2 : Int) (a3 : Sl) (a4 : Int) (Q : Int → Heap → Prop) (h : Heap) : Prop :=
  al [.int .i64 a2, .sl a3] (fun b1 h => rdSl ((⟨b1, 0⟩ : Ptr).add 1) (fun x2 => rdSl ((⟨b1, 0⟩ : Ptr).add 1) (fun x3 => ix (IntKind.i64.wrap (((x3.len : Nat) : Int) - 1)) x2.len (fun n4 => der x2.p (fun p5 => rdI .u64 ((p5.add (n4 * 3)).add 0) (fun x6 => rdI .i64 ((p5.add (n4 * 3)).add 1) (fun x7 => rdB ((p5.add (n4 * 3)).add 2) (fun x8 => al [.int .u64 0, .int .i64 0, .bool false] (fun b9 h => wrL [.int .u64 x6, .int .i64 x7, .bool x8] (⟨b9, 0⟩ : Ptr) 0 (fun h => rdB ((⟨b9, 0⟩ : Ptr).add 2) (fun x10 => br x10 (rdI .u64 ((⟨b9, 0⟩ : Ptr).add 0) (fun x11 => al [.int .u8 a4] (fun b12 h => U.inv a1 "Put" [.int .u64 x11, .sl ⟨some ⟨b12, 0⟩, 1, 1⟩] (fun r13 h => asI .i64 r13 (fun x14 => br (x14 == 0) (Q 1 h) (Q 0 h))) h) h) h) (Q 0 h)) h) h) h) h) h) h))) h) h) h

def backend_number.b2  (I2 : Sl → Int → Int → Heap → Prop) (a1 : Sl) (a2 : Int) (a3 : Int) (Q : Int → Heap → Prop) (h : Heap) : Prop :=
  br (decide (a3 ≥ 0)) (nneg 8 (ix a3 a1.len (fun n1 => der a1.p (fun p2 => rdI .u8 (p2.add (n1 * 1)) (fun x3 => I2 a1 (ibits .or .u64 (shlI .u64 a2 8) (IntKind.u64.wrap x3)) (IntKind.i64.wrap (a3 - 1)) h) h)))) (Q a2 h)

def backend_number.j2  (a1 : Sl) (a2 : Int) (a3 : Int) (Q : Int → Heap → Prop) (h : Heap) : Prop :=
  ∀ I : Sl → Int → Int → Heap → Prop, (∀ a1 a2 a3 h, backend_number.b2  I a1 a2 a3 Q h → I a1 a2 a3 h) → I a1 a2 a3 h

def backend_number (a1 : Sl) (Q : Int → Heap → Prop) (h : Heap) : Prop :=
  backend_number.j2 a1 0 7 Q h

def mem_Memory_Frames (a1 : Option Ptr) (Q : Int → Heap → Prop) (h : Heap) : Prop :=
  mem_Memory_none a1 (fun r1 h => br r1 (Q 0 h) (der a1 (fun p2 => rdSl (p2.add 0) (fun x3 => nz 256 (Q (IntKind.i64.wrap (((x3.len : Nat) : Int).tdiv 256)) h)) h))) h

def palisadelaw24_Flat_Frame (a1 : Option Ptr) (a2 : Int) (a3 : Bool) (Q : Int → Bool → Heap → Prop) (h : Heap) : Prop :=
  br (decide (a2 < 0)) (Q 0 false h) (der a1 (fun p1 => rdI .i64 (p1.add 2) (fun x2 => br (decide (a2 ≥ x2)) (Q 0 false h) (der a1 (fun p3 => rdI .i64 (p3.add 1) (fun x4 => Q (IntKind.i64.wrap (x4 + a2)) true h) h))) h))

def backend_gather.j8 (U : Ifc) (I3 : V → Int → Sl → Sl → Int → Int → Heap → Prop)  (Q : Sl → Bool → Heap → Prop) (h : Heap) : Prop :=
  Q ⟨none, 0, 0⟩ false h

def backend_gather.j9 (U : Ifc) (I3 : V → Int → Sl → Sl → Int → Int → Heap → Prop) (a1 : V) (a2 : Int) (a3 : Sl) (a4 : Sl) (a5 : Sl) (a6 : Int) (a7 : Int) (Q : Sl → Bool → Heap → Prop) (h : Heap) : Prop :=
  cellsS 1 a4 (fun cs2 => appS 1 1 [.int .u8 0] a3 cs2 a4.len (fun s1 h => I3 a1 a2 s1 a5 a6 (IntKind.i64.wrap (a7 + 1)) h) h) h

def backend_gather.b3 (U : Ifc)  (I3 : V → Int → Sl → Sl → Int → Int → Heap → Prop) (a1 : V) (a2 : Int) (a3 : Sl) (a4 : Sl) (a5 : Int) (a6 : Int) (Q : Sl → Bool → Heap → Prop) (h : Heap) : Prop :=
  br (decide (a6 < a5)) (ix a6 a4.len (fun n1 => der a4.p (fun p2 => rdI .u64 ((p2.add (n1 * 3)).add 0) (fun x3 => rdI .i64 ((p2.add (n1 * 3)).add 1) (fun x4 => rdB ((p2.add (n1 * 3)).add 2) (fun x5 => al [.int .u64 0, .int .i64 0, .bool false] (fun b6 h => wrL [.int .u64 x3, .int .i64 x4, .bool x5] (⟨b6, 0⟩ : Ptr) 0 (fun h => rdB ((⟨b6, 0⟩ : Ptr).add 2) (fun x7 => br x7 (I3 a1 a2 a3 a4 a5 (IntKind.i64.wrap (a6 + 1)) h) (rdI .u64 ((⟨b6, 0⟩ : Ptr).add 0) (fun x8 => rdI .i64 ((⟨b6, 0⟩ : Ptr).add 1) (fun x9 => U.inv a1 "Bytes" [.int .u64 x8, .int .i64 x9] (fun r10 h => asTupV r10 (fun l11 => asCons l11 (fun v12 l13 => asSl v12 (fun x14 => asCons l13 (fun v15 l16 => asI .i64 v15 (fun x17 => asNil l16 (br (x17 != 0) (backend_gather.j8 U I3 Q h) (br (decide ((IntKind.i64.wrap (((a3.len : Nat) : Int) + ((x14.len : Nat) : Int))) > a2)) (backend_gather.j8 U I3 Q h) (backend_gather.j9 U I3 a1 a2 a3 x14 a4 a5 a6 Q h))))))))) h) h) h)) h) h) h) h) h) h))) (Q a3 true h)

def backend_gather.j3 (U : Ifc)  (a1 : V) (a2 : Int) (a3 : Sl) (a4 : Sl) (a5 : Int) (a6 : Int) (Q : Sl → Bool → Heap → Prop) (h : Heap) : Prop :=
  ∀ I : V → Int → Sl → Sl → Int → Int → Heap → Prop, (∀ a1 a2 a3 a4 a5 a6 h, backend_gather.b3 U  I a1 a2 a3 a4 a5 a6 Q h → I a1 a2 a3 a4 a5 a6 h) → I a1 a2 a3 a4 a5 a6 h

def backend_gather (U : Ifc) (a1 : V) (a2 : Int) (a3 : Sl) (a4 : Int) (Q : Sl → Bool → Heap → Prop) (h : Heap) : Prop :=
  al [.int .i64 a2, .sl a3] (fun b1 h => rdSl ((⟨b1, 0⟩ : Ptr).add 1) (fun x2 => backend_gather.j3 U a1 a4 ⟨none, 0, 0⟩ x2 ((x2.len : Nat) : Int) 0 Q h) h) h

def console_Console_Write.j5  (a1 : Option Ptr) (a2 : Int) (Q : Int → Int → Heap → Prop) (h : Heap) : Prop :=
  der a1 (fun p1 => rdI .i64 ((p1.add 3).add 3) (fun x2 => der a1 (fun p3 => wr ((p3.add 3).add 3) (.int .i64 (IntKind.i64.wrap (x2 + a2))) (fun h => Q a2 0 h) h)) h)

def console_Console_Write (a1 : Option Ptr) (a2 : Sl) (Q : Int → Int → Heap → Prop) (h : Heap) : Prop :=
  console_Console_none a1 (fun r1 h => br r1 (Q 0 1 h) (der a1 (fun p2 => rdSl (p2.add 2) (fun x3 => der a1 (fun p4 => rdSl (p4.add 2) (fun x5 => sb (minI ((a2.len : Nat) : Int) (IntKind.i64.wrap (1048576 - ((x3.len : Nat) : Int)))) a2.cap (fun n6 => cellsS 1 ⟨slp a2.p (0 * 1) 0 a2.cap, n6 - 0, a2.cap - 0⟩ (fun cs8 => appS 1 1 [.int .u8 0] x5 cs8 (n6 - 0) (fun s7 h => der a1 (fun p9 => wr (p9.add 2) (.sl s7) (fun h => console_Console_Write.j5 a1 (minI ((a2.len : Nat) : Int) (IntKind.i64.wrap (1048576 - ((x3.len : Nat) : Int)))) Q h) h)) h) h)) h)) h))) h

def slices_Delete_byte_byte.j7  (a1 : Sl) (Q : Sl → Heap → Prop) (h : Heap) : Prop :=
  Q a1 h

def slices_Delete_byte_byte (a1 : Sl) (a2 : Int) (a3 : Int) (Q : Sl → Heap → Prop) (h : Heap) : Prop :=
  sb ((a1.len : Nat) : Int) a1.cap (fun n1 => sb a3 n1 (fun n2 => sb a2 n2 (fun n3 => br (a2 == a3) (Q a1 h) (sb a2 a1.cap (fun n4 => sb a3 a1.len (fun n5 => cellsS 1 ⟨slp a1.p (n5 * 1) n5 a1.cap, a1.len - n5, a1.cap - n5⟩ (fun cs7 => appS 1 1 [.int .u8 0] ⟨slp a1.p (0 * 1) 0 a1.cap, n4 - 0, a1.cap - 0⟩ cs7 (a1.len - n5) (fun s6 h => sb ((a1.len : Nat) : Int) s6.cap (fun n8 => sb ((s6.len : Nat) : Int) n8 (fun n9 => clearS [.int .u8 0] ⟨slp s6.p (n9 * 1) n9 s6.cap, n8 - n9, s6.cap - n9⟩ (fun h => slices_Delete_byte_byte.j7 s6 Q h) h))) h) h))))))

def console_Console_Read.j2   (Q : Sl → Heap → Prop) (h : Heap) : Prop :=
  Q ⟨none, 0, 0⟩ h

def console_Console_Read.j6  (a1 : Option Ptr) (a2 : Sl) (a3 : Int) (Q : Sl → Heap → Prop) (h : Heap) : Prop :=
  der a1 (fun p1 => rdI .i64 ((p1.add 3).add 2) (fun x2 => der a1 (fun p3 => wr ((p3.add 3).add 2) (.int .i64 (IntKind.i64.wrap (x2 + a3))) (fun h => Q a2 h) h)) h)

def console_Console_Read (a1 : Option Ptr) (a2 : Int) (Q : Sl → Heap → Prop) (h : Heap) : Prop :=
  console_Console_none a1 (fun r1 h => br r1 (console_Console_Read.j2 Q h) (br (decide (a2 < 1)) (console_Console_Read.j2 Q h) (der a1 (fun p2 => rdSl (p2.add 1) (fun x3 => mkSl 1 [.int .u8 0] (minI a2 ((x3.len : Nat) : Int)) (minI a2 ((x3.len : Nat) : Int)) (fun s4 h => der a1 (fun p5 => rdSl (p5.add 1) (fun x6 => cellsS 1 x6 (fun cs7 => copyS 1 s4 cs7 x6.len (fun x8 h => der a1 (fun p9 => rdSl (p9.add 1) (fun x10 => slices_Delete_byte_byte x10 0 x8 (fun r11 h => der a1 (fun p12 => wr (p12.add 1) (.sl r11) (fun h => console_Console_Read.j6 a1 s4 x8 Q h) h)) h) h)) h) h) h)) h) h)))) h

def backend_spread.j10 (U : Ifc) (I3 : V → Sl → Int → Sl → Int → Int → Heap → Prop) (a1 : V) (a2 : Sl) (a3 : Int) (a4 : Sl) (a5 : Int) (a6 : Int) (Q : Int → Heap → Prop) (h : Heap) : Prop :=
  I3 a1 a2 a3 a4 a5 (IntKind.i64.wrap (a6 + 1)) h

def backend_spread.j11 (U : Ifc)  (a1 : Int) (Q : Int → Heap → Prop) (h : Heap) : Prop :=
  Q a1 h

def backend_spread.j8 (U : Ifc) (I3 : V → Sl → Int → Sl → Int → Int → Heap → Prop) (a1 : V) (a2 : Sl) (a3 : Int) (a4 : Int) (a5 : Sl) (a6 : Int) (a7 : Int) (Q : Int → Heap → Prop) (h : Heap) : Prop :=
  sb a4 a2.len (fun n1 => backend_spread.j10 U I3 a1 ⟨slp a2.p (n1 * 1) n1 a2.cap, a2.len - n1, a2.cap - n1⟩ (IntKind.i64.wrap (a3 + a4)) a5 a6 a7 Q h)

def backend_spread.b3 (U : Ifc)  (I3 : V → Sl → Int → Sl → Int → Int → Heap → Prop) (a1 : V) (a2 : Sl) (a3 : Int) (a4 : Sl) (a5 : Int) (a6 : Int) (Q : Int → Heap → Prop) (h : Heap) : Prop :=
  br (decide (a6 < a5)) (ix a6 a4.len (fun n1 => der a4.p (fun p2 => rdI .u64 ((p2.add (n1 * 3)).add 0) (fun x3 => rdI .i64 ((p2.add (n1 * 3)).add 1) (fun x4 => rdB ((p2.add (n1 * 3)).add 2) (fun x5 => al [.int .u64 0, .int .i64 0, .bool false] (fun b6 h => wrL [.int .u64 x3, .int .i64 x4, .bool x5] (⟨b6, 0⟩ : Ptr) 0 (fun h => rdI .i64 ((⟨b6, 0⟩ : Ptr).add 1) (fun x7 => rdB ((⟨b6, 0⟩ : Ptr).add 2) (fun x8 => br (!x8) (backend_spread.j10 U I3 a1 a2 a3 a4 a5 a6 Q h) (br ((minI x7 ((a2.len : Nat) : Int)) == 0) (backend_spread.j10 U I3 a1 a2 a3 a4 a5 a6 Q h) (rdI .u64 ((⟨b6, 0⟩ : Ptr).add 0) (fun x9 => sb (minI x7 ((a2.len : Nat) : Int)) a2.cap (fun n10 => mthC "Put" a1 (fun v11 => ck ((⟨b6, 0⟩ : Ptr).add 0) [.int .u64 x9] 0 h ∧ (nilCU U v11 (fun v12 => U.inv a1 "Put" [.int .u64 x9, .sl ⟨slp a2.p (0 * 1) 0 a2.cap, n10 - 0, a2.cap - 0⟩] (fun r13 h => asI .i64 r13 (fun x14 => br (x14 != 0) (backend_spread.j11 U a3 Q h) (backend_spread.j8 U I3 a1 a2 a3 (minI x7 ((a2.len : Nat) : Int)) a4 a5 a6 Q h))) h))))) h))) h) h) h) h) h) h) h))) (backend_spread.j11 U a3 Q h)

def backend_spread.j3 (U : Ifc)  (a1 : V) (a2 : Sl) (a3 : Int) (a4 : Sl) (a5 : Int) (a6 : Int) (Q : Int → Heap → Prop) (h : Heap) : Prop :=
  ∀ I : V → Sl → Int → Sl → Int → Int → Heap → Prop, (∀ a1 a2 a3 a4 a5 a6 h, backend_spread.b3 U  I a1 a2 a3 a4 a5 a6 Q h → I a1 a2 a3 a4 a5 a6 h) → I a1 a2 a3 a4 a5 a6 h

def backend_spread (U : Ifc) (a1 : V) (a2 : Int) (a3 : Sl) (a4 : Sl) (Q : Int → Heap → Prop) (h : Heap) : Prop :=
  al [.int .i64 a2, .sl a3] (fun b1 h => rdSl ((⟨b1, 0⟩ : Ptr).add 1) (fun x2 => backend_spread.j3 U a1 a4 0 x2 ((x2.len : Nat) : Int) 0 Q h) h) h

def backend_Tty_Kick_c1.j10 (U : Ifc) (I6 : Ptr → Ptr → Int → Sl → Int → Int → Heap → Prop) (a1 : Ptr) (a2 : Ptr) (a3 : Int) (a4 : Sl) (a5 : Int) (a6 : Int) (Q : Int → Heap → Prop) (h : Heap) : Prop :=
  I6 a1 a2 a3 a4 a5 (IntKind.i64.wrap (a6 + 1)) h

def backend_Tty_Kick_c1.b6 (U : Ifc)  (I6 : Ptr → Ptr → Int → Sl → Int → Int → Heap → Prop) (a1 : Ptr) (a2 : Ptr) (a3 : Int) (a4 : Sl) (a5 : Int) (a6 : Int) (Q : Int → Heap → Prop) (h : Heap) : Prop :=
  br (decide (a6 < a5)) (ix a6 a4.len (fun n1 => der a4.p (fun p2 => rdI .u64 ((p2.add (n1 * 3)).add 0) (fun x3 => rdI .i64 ((p2.add (n1 * 3)).add 1) (fun x4 => rdB ((p2.add (n1 * 3)).add 2) (fun x5 => al [.int .u64 0, .int .i64 0, .bool false] (fun b6 h => wrL [.int .u64 x3, .int .i64 x4, .bool x5] (⟨b6, 0⟩ : Ptr) 0 (fun h => rdB ((⟨b6, 0⟩ : Ptr).add 2) (fun x7 => br x7 (rdV a1 (fun x8 => rdI .u64 ((⟨b6, 0⟩ : Ptr).add 0) (fun x9 => rdI .i64 ((⟨b6, 0⟩ : Ptr).add 1) (fun x10 => rdB ((⟨b6, 0⟩ : Ptr).add 2) (fun x11 => rdP a2 (fun x12 => der x12 (fun p13 => rdP (p13.add 1) (fun x14 => rdI .i64 ((⟨b6, 0⟩ : Ptr).add 1) (fun x15 => (al [.int .u64 x9, .int .i64 x10, .bool x11] (fun b16 h => ck ((⟨b6, 0⟩ : Ptr).add 1) [.int .i64 x15] 0 h ∧ ck (p13.add 1) [.ptr x14] 0 h ∧ ck a2 [.ptr x12] 0 h ∧ ck a1 (V.cells x8) 0 h ∧ ((ck ((⟨b6, 0⟩ : Ptr).add 1) [.int .i64 x15] 0 h ∧ ck (p13.add 1) [.ptr x14] 0 h ∧ ck a2 [.ptr x12] 0 h ∧ ck a1 (V.cells x8) 0 h ∧ console_Console_Read x14 x15 (fun r17 h => ck a1 (V.cells x8) 0 h ∧ (backend_spread U x8 0 ⟨some ⟨b16, 0⟩, 1, 1⟩ r17 (fun r18 h => backend_Tty_Kick_c1.j10 U I6 a1 a2 (IntKind.i64.wrap (a3 + r18)) a4 a5 a6 Q h) h)) h) ∧ (console_Console_Read x14 x15 (fun r19 h => ck a1 (V.cells x8) 0 h ∧ ck a1 (V.cells x8) 0 h ∧ (backend_spread U x8 0 ⟨some ⟨b16, 0⟩, 1, 1⟩ r19 (fun r20 h => backend_Tty_Kick_c1.j10 U I6 a1 a2 (IntKind.i64.wrap (a3 + r20)) a4 a5 a6 Q h) h)) h))) h) ∧ (console_Console_Read x14 x15 (fun r21 h => ck (⟨b6, 0⟩ : Ptr) [.int .u64 x9, .int .i64 x10, .bool x11] 0 h ∧ ck a1 (V.cells x8) 0 h ∧ al [.int .u64 x9, .int .i64 x10, .bool x11] (fun b22 h => ck a1 (V.cells x8) 0 h ∧ ck a1 (V.cells x8) 0 h ∧ (backend_spread U x8 0 ⟨some ⟨b22, 0⟩, 1, 1⟩ r21 (fun r23 h => backend_Tty_Kick_c1.j10 U I6 a1 a2 (IntKind.i64.wrap (a3 + r23)) a4 a5 a6 Q h) h)) h) h)) h) h)) h) h) h) h) h) (backend_Tty_Kick_c1.j10 U I6 a1 a2 a3 a4 a5 a6 Q h)) h) h) h) h) h) h))) (Q a3 h)

def backend_Tty_Kick_c1.j6 (U : Ifc)  (a1 : Ptr) (a2 : Ptr) (a3 : Int) (a4 : Sl) (a5 : Int) (a6 : Int) (Q : Int → Heap → Prop) (h : Heap) : Prop :=
  ∀ I : Ptr → Ptr → Int → Sl → Int → Int → Heap → Prop, (∀ a1 a2 a3 a4 a5 a6 h, backend_Tty_Kick_c1.b6 U  I a1 a2 a3 a4 a5 a6 Q h → I a1 a2 a3 a4 a5 a6 h) → I a1 a2 a3 a4 a5 a6 h

def backend_Tty_Kick_c1.j4 (U : Ifc)  (a1 : Ptr) (a2 : Ptr) (a3 : Ptr) (Q : Int → Heap → Prop) (h : Heap) : Prop :=
  rdSl (a3.add 1) (fun x1 => backend_Tty_Kick_c1.j6 U a1 a2 0 x1 ((x1.len : Nat) : Int) 0 Q h) h

def backend_Tty_Kick_c1 (U : Ifc) (a1 : Int) (a2 : Sl) (a3 : Ptr) (a4 : Ptr) (Q : Int → Heap → Prop) (h : Heap) : Prop :=
  al [.int .i64 a1, .sl a2] (fun b1 h => rdV a3 (fun x2 => rdI .i64 ((⟨b1, 0⟩ : Ptr).add 0) (fun x3 => rdSl ((⟨b1, 0⟩ : Ptr).add 1) (fun x4 => backend_gather U x2 x3 x4 262144 (fun r5 r6 h => br r6 (rdP a4 (fun x7 => der x7 (fun p8 => rdP (p8.add 1) (fun x9 => console_Console_Write x9 r5 (fun r10 r11 h => backend_Tty_Kick_c1.j4 U a3 a4 (⟨b1, 0⟩ : Ptr) Q h) h) h)) h) (backend_Tty_Kick_c1.j4 U a3 a4 (⟨b1, 0⟩ : Ptr) Q h)) h) h) h) h) h

end Go.Fn
