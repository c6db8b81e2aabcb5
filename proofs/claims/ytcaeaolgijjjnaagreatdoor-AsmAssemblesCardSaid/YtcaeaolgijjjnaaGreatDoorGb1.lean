/- The links of the shallow functions to the machine. PRINTED by lift.py. -/
import Derived.Test.YtcaeaolgijjjnaaGreatDoorGb0
set_option linter.unusedSimpArgs false
set_option linter.unusedVariables false

set_option linter.unusedVariables false
set_option maxRecDepth 100000
namespace Go.Fn
open Go.Lift

noncomputable def zf6.code : Code := Go.Proofs.Tryz.f82.body.getD .skip

theorem zf6.fun : Fun sg.P 82 86 [.cell 4 52, .tmp 5, .tmp 6] zf6.code := mkFun Go.Proofs.Tryz.func82 (by kernel_rfl) (by kernel_rfl) (by kernel_rfl) (by kernel_rfl)

def zf6.ret (Q : Int → Int → Int → Int → Int → (List UInt8) → Bool → Heap → Prop) (v : V) (h : Heap) : Prop :=
  match v with
  | .tup [.agg [.int .i64 r1, .int .i64 r2, .int .i64 r3, .int .i64 r4, .int .i64 r5], .str r6, .bool r7] => Q r1 r2 r3 r4 r5 r6 r7 h
  | _ => False

def zf6.C (vs : List V) (κ : V → Heap → Prop) (h : Heap) : Prop :=
  match vs with
  | [.int .i64 a1, .sl a2] => zf6 a1 a2 (fun r1 r2 r3 r4 r5 r6 r7 h => κ (.tup [.agg [.int .i64 r1, .int .i64 r2, .int .i64 r3, .int .i64 r4, .int .i64 r5], .str r6, .bool r7]) h) h
  | _ => False

noncomputable def zf6.calls : List (Nat × (List V → (V → Heap → Prop) → Heap → Prop)) := [(339, zf8.C), (398, zf4.C), (397, zf13.C), (396, zf5.C)]

noncomputable def zf6.E (Q : Int → Int → Int → Int → Int → (List UInt8) → Bool → Heap → Prop) (cuts : List (Nat × (List Nat × (List V → Heap → Prop)))) : Env := { tis := tisT, fns := fnsT, tys := tysT, gls := [], rts := rtsT, unk := [], nxt := [], calls := zf6.calls, ifc := noIfc, cuts := cuts, ret := zf6.ret Q, rets := [.cell 4 52, .tmp 5, .tmp 6], n := 86 }

theorem zf6.callsOK {W0 : World} : CallsOK sg W0 zf6.calls := ⟨zf8.S, zf4.S, zf13.S, zf5.S, trivial⟩

def zf6.k12 (I : Sl → Ptr → (List UInt8) → Bool → (Option Nat) → Ptr → Heap → Prop) (vs : List V) (h : Heap) : Prop :=
  match vs with
  | [.sl a1, .ptr (some a2), .str a3, .bool a4, .map a5, .ptr (some a6)] => I a1 a2 a3 a4 a5 a6 h
  | _ => False

def zf6.k16 (I : Ptr → Heap → Prop) (vs : List V) (h : Heap) : Prop :=
  match vs with
  | [.ptr (some a1)] => I a1 h
  | _ => False

def zf6.k17 (I : Sl → Ptr → (List UInt8) → Bool → (Option Nat) → Int → Ptr → Heap → Prop) (vs : List V) (h : Heap) : Prop :=
  match vs with
  | [.sl a1, .ptr (some a2), .str a3, .bool a4, .map a5, .int .i64 a6, .ptr (some a7)] => I a1 a2 a3 a4 a5 a6 a7 h
  | _ => False

def zf6.k15 (I : Sl → Ptr → (List UInt8) → Bool → (Option Nat) → Int → Int → Ptr → Heap → Prop) (vs : List V) (h : Heap) : Prop :=
  match vs with
  | [.sl a1, .ptr (some a2), .str a3, .bool a4, .map a5, .int .i64 a6, .int .i32 a7, .ptr (some a8)] => I a1 a2 a3 a4 a5 a6 a7 a8 h
  | _ => False

def zf6.k7 (I : Sl → Ptr → (List UInt8) → (Option Nat) → Ptr → Heap → Prop) (vs : List V) (h : Heap) : Prop :=
  match vs with
  | [.sl a1, .ptr (some a2), .str a3, .map a4, .ptr (some a5)] => I a1 a2 a3 a4 a5 h
  | _ => False

theorem zf6.p12 : (posC zf6.code []).filter (fun p => Nat.beq p.1 12) = [(12, atPos (posC zf6.code []) 12)] := by kernel_rfl

theorem zf6.e12 : ∀ (I7 : Sl → Ptr → (List UInt8) → (Option Nat) → Ptr → Heap → Prop) (a1 : Sl) (a2 : Ptr) (a3 : List UInt8) (a4 : Bool) (a5 : Option Nat) (a6 : Ptr) (Q : Int → Int → Int → Int → Int → (List UInt8) → Bool → Heap → Prop) (h : Heap), zf6.j12 I7 a1 a2 a3 a4 a5 a6 Q h = pts (zf6.E Q [(7, ([1, 4, 5, 8, 29], zf6.k7 I7))]) 3000 true (atPos (posC zf6.code []) 12) (frAt [1, 4, 5, 6, 8, 29] [.sl a1, .ptr (some a2), .str a3, .bool a4, .map a5, .ptr (some a6)]) h := by
  intros; kernel_rfl

theorem zf6.s12 {W0 : World} (Q : Int → Int → Int → Int → Int → (List UInt8) → Bool → Heap → Prop) (I7 : Sl → Ptr → (List UInt8) → (Option Nat) → Ptr → Heap → Prop) (h7 : CutOK sg W0 86 (entered 82) (Post sg W0 (zf6.ret Q)) (posC zf6.code []) 7 [1, 4, 5, 8, 29] (zf6.k7 I7)) : CutOK sg W0 86 (entered 82) (Post sg W0 (zf6.ret Q)) (posC zf6.code []) 12 [1, 4, 5, 6, 8, 29] (zf6.k12 (fun a1 a2 a3 a4 a5 a6 h => zf6.j12 I7 a1 a2 a3 a4 a5 a6 Q h)) := by
  refine cutOK_head (fun vs h hk => ?_)
  unfold zf6.k12 at hk
  split at hk
  · rename_i a1 a2 a3 a4 a5 a6
    intro todo hm ρ a w s f hp
    exact piece (E := zf6.E Q [(7, ([1, 4, 5, 8, 29], zf6.k7 I7))]) (vs := [.sl a1, .ptr (some a2), .str a3, .bool a4, .map a5, .ptr (some a6)]) (envOK seatOK zf6.callsOK noIfc_ok) (fnOK seatOK zf6.fun) ⟨h7, trivial⟩ zf6.p12 (fuel := 3000) (by rw [← zf6.e12]; exact hk) hm s f hp
  · exact hk.elim

theorem zf6.p16 : (posC zf6.code []).filter (fun p => Nat.beq p.1 16) = [(16, atPos (posC zf6.code []) 16)] := by kernel_rfl

theorem zf6.e16 : ∀ (I7 : Sl → Ptr → (List UInt8) → (Option Nat) → Ptr → Heap → Prop) (a1 : Ptr) (Q : Int → Int → Int → Int → Int → (List UInt8) → Bool → Heap → Prop) (h : Heap), zf6.j16 I7 a1 Q h = pts (zf6.E Q []) 3000 true (atPos (posC zf6.code []) 16) (frAt [4] [.ptr (some a1)]) h := by
  intros; kernel_rfl

theorem zf6.s16 {W0 : World} (Q : Int → Int → Int → Int → Int → (List UInt8) → Bool → Heap → Prop) (I7 : Sl → Ptr → (List UInt8) → (Option Nat) → Ptr → Heap → Prop) (h7 : CutOK sg W0 86 (entered 82) (Post sg W0 (zf6.ret Q)) (posC zf6.code []) 7 [1, 4, 5, 8, 29] (zf6.k7 I7)) : CutOK sg W0 86 (entered 82) (Post sg W0 (zf6.ret Q)) (posC zf6.code []) 16 [4] (zf6.k16 (fun a1 h => zf6.j16 I7 a1 Q h)) := by
  refine cutOK_head (fun vs h hk => ?_)
  unfold zf6.k16 at hk
  split at hk
  · rename_i a1
    intro todo hm ρ a w s f hp
    exact piece (E := zf6.E Q []) (vs := [.ptr (some a1)]) (envOK seatOK zf6.callsOK noIfc_ok) (fnOK seatOK zf6.fun) trivial zf6.p16 (fuel := 3000) (by rw [← zf6.e16]; exact hk) hm s f hp
  · exact hk.elim

theorem zf6.p17 : (posC zf6.code []).filter (fun p => Nat.beq p.1 17) = [(17, atPos (posC zf6.code []) 17)] := by kernel_rfl

theorem zf6.e17 : ∀ (I7 : Sl → Ptr → (List UInt8) → (Option Nat) → Ptr → Heap → Prop) (a1 : Sl) (a2 : Ptr) (a3 : List UInt8) (a4 : Bool) (a5 : Option Nat) (a6 : Int) (a7 : Ptr) (Q : Int → Int → Int → Int → Int → (List UInt8) → Bool → Heap → Prop) (h : Heap), zf6.j17 I7 a1 a2 a3 a4 a5 a6 a7 Q h = pts (zf6.E Q [(7, ([1, 4, 5, 8, 29], zf6.k7 I7))]) 3000 true (atPos (posC zf6.code []) 17) (frAt [1, 4, 5, 6, 8, 9, 29] [.sl a1, .ptr (some a2), .str a3, .bool a4, .map a5, .int .i64 a6, .ptr (some a7)]) h := by
  intros; kernel_rfl

theorem zf6.s17 {W0 : World} (Q : Int → Int → Int → Int → Int → (List UInt8) → Bool → Heap → Prop) (I7 : Sl → Ptr → (List UInt8) → (Option Nat) → Ptr → Heap → Prop) (h7 : CutOK sg W0 86 (entered 82) (Post sg W0 (zf6.ret Q)) (posC zf6.code []) 7 [1, 4, 5, 8, 29] (zf6.k7 I7)) : CutOK sg W0 86 (entered 82) (Post sg W0 (zf6.ret Q)) (posC zf6.code []) 17 [1, 4, 5, 6, 8, 9, 29] (zf6.k17 (fun a1 a2 a3 a4 a5 a6 a7 h => zf6.j17 I7 a1 a2 a3 a4 a5 a6 a7 Q h)) := by
  refine cutOK_head (fun vs h hk => ?_)
  unfold zf6.k17 at hk
  split at hk
  · rename_i a1 a2 a3 a4 a5 a6 a7
    intro todo hm ρ a w s f hp
    exact piece (E := zf6.E Q [(7, ([1, 4, 5, 8, 29], zf6.k7 I7))]) (vs := [.sl a1, .ptr (some a2), .str a3, .bool a4, .map a5, .int .i64 a6, .ptr (some a7)]) (envOK seatOK zf6.callsOK noIfc_ok) (fnOK seatOK zf6.fun) ⟨h7, trivial⟩ zf6.p17 (fuel := 3000) (by rw [← zf6.e17]; exact hk) hm s f hp
  · exact hk.elim

theorem zf6.p15 : (posC zf6.code []).filter (fun p => Nat.beq p.1 15) = [(15, atPos (posC zf6.code []) 15)] := by kernel_rfl

theorem zf6.e15 : ∀ (I7 : Sl → Ptr → (List UInt8) → (Option Nat) → Ptr → Heap → Prop) (a1 : Sl) (a2 : Ptr) (a3 : List UInt8) (a4 : Bool) (a5 : Option Nat) (a6 : Int) (a7 : Int) (a8 : Ptr) (Q : Int → Int → Int → Int → Int → (List UInt8) → Bool → Heap → Prop) (h : Heap), zf6.j15 I7 a1 a2 a3 a4 a5 a6 a7 a8 Q h = pts (zf6.E Q [(16, ([4], zf6.k16 (fun a1 h => zf6.j16 I7 a1 Q h))), (17, ([1, 4, 5, 6, 8, 9, 29], zf6.k17 (fun a1 a2 a3 a4 a5 a6 a7 h => zf6.j17 I7 a1 a2 a3 a4 a5 a6 a7 Q h)))]) 3000 true (atPos (posC zf6.code []) 15) (frAt [1, 4, 5, 6, 8, 9, 10, 29] [.sl a1, .ptr (some a2), .str a3, .bool a4, .map a5, .int .i64 a6, .int .i32 a7, .ptr (some a8)]) h := by
  intros; kernel_rfl

theorem zf6.s15 {W0 : World} (Q : Int → Int → Int → Int → Int → (List UInt8) → Bool → Heap → Prop) (I7 : Sl → Ptr → (List UInt8) → (Option Nat) → Ptr → Heap → Prop) (h7 : CutOK sg W0 86 (entered 82) (Post sg W0 (zf6.ret Q)) (posC zf6.code []) 7 [1, 4, 5, 8, 29] (zf6.k7 I7)) : CutOK sg W0 86 (entered 82) (Post sg W0 (zf6.ret Q)) (posC zf6.code []) 15 [1, 4, 5, 6, 8, 9, 10, 29] (zf6.k15 (fun a1 a2 a3 a4 a5 a6 a7 a8 h => zf6.j15 I7 a1 a2 a3 a4 a5 a6 a7 a8 Q h)) := by
  refine cutOK_head (fun vs h hk => ?_)
  unfold zf6.k15 at hk
  split at hk
  · rename_i a1 a2 a3 a4 a5 a6 a7 a8
    intro todo hm ρ a w s f hp
    exact piece (E := zf6.E Q [(16, ([4], zf6.k16 (fun a1 h => zf6.j16 I7 a1 Q h))), (17, ([1, 4, 5, 6, 8, 9, 29], zf6.k17 (fun a1 a2 a3 a4 a5 a6 a7 h => zf6.j17 I7 a1 a2 a3 a4 a5 a6 a7 Q h)))]) (vs := [.sl a1, .ptr (some a2), .str a3, .bool a4, .map a5, .int .i64 a6, .int .i32 a7, .ptr (some a8)]) (envOK seatOK zf6.callsOK noIfc_ok) (fnOK seatOK zf6.fun) ⟨(zf6.s16 Q I7 h7), (zf6.s17 Q I7 h7), trivial⟩ zf6.p15 (fuel := 3000) (by rw [← zf6.e15]; exact hk) hm s f hp
  · exact hk.elim

theorem zf6.p7 : (posC zf6.code []).filter (fun p => Nat.beq p.1 7) = [(7, atPos (posC zf6.code []) 7)] := by kernel_rfl

theorem zf6.e7 : ∀  (I7 : Sl → Ptr → (List UInt8) → (Option Nat) → Ptr → Heap → Prop) (a1 : Sl) (a2 : Ptr) (a3 : List UInt8) (a4 : Option Nat) (a5 : Ptr) (Q : Int → Int → Int → Int → Int → (List UInt8) → Bool → Heap → Prop) (h : Heap), zf6.b7  I7 a1 a2 a3 a4 a5 Q h = pts (zf6.E Q [(12, ([1, 4, 5, 6, 8, 29], zf6.k12 (fun a1 a2 a3 a4 a5 a6 h => zf6.j12 I7 a1 a2 a3 a4 a5 a6 Q h))), (15, ([1, 4, 5, 6, 8, 9, 10, 29], zf6.k15 (fun a1 a2 a3 a4 a5 a6 a7 a8 h => zf6.j15 I7 a1 a2 a3 a4 a5 a6 a7 a8 Q h)))]) 3000 true (atPos (posC zf6.code []) 7) (frAt [1, 4, 5, 8, 29] [.sl a1, .ptr (some a2), .str a3, .map a4, .ptr (some a5)]) h := by
  intros; kernel_rfl

theorem zf6.s7 {W0 : World} (Q : Int → Int → Int → Int → Int → (List UInt8) → Bool → Heap → Prop)   : CutOK sg W0 86 (entered 82) (Post sg W0 (zf6.ret Q)) (posC zf6.code []) 7 [1, 4, 5, 8, 29] (zf6.k7 (fun a1 a2 a3 a4 a5 h => zf6.j7  a1 a2 a3 a4 a5 Q h)) := by
  refine cutOK_head (fun vs h hk => ?_)
  unfold zf6.k7 at hk
  split at hk
  · rename_i a1 a2 a3 a4 a5
    refine hk (fun a1 a2 a3 a4 a5 h => Head sg W0 86 (entered 82) (Post sg W0 (zf6.ret Q)) (posC zf6.code []) 7 [1, 4, 5, 8, 29] [.sl a1, .ptr (some a2), .str a3, .map a4, .ptr (some a5)] h) ?_
    intro a1 a2 a3 a4 a5 h hb todo hm ρ a w s f hp
    have hself : CutOK sg W0 86 (entered 82) (Post sg W0 (zf6.ret Q)) (posC zf6.code []) 7 [1, 4, 5, 8, 29] (zf6.k7 (fun a1 a2 a3 a4 a5 h => Head sg W0 86 (entered 82) (Post sg W0 (zf6.ret Q)) (posC zf6.code []) 7 [1, 4, 5, 8, 29] [.sl a1, .ptr (some a2), .str a3, .map a4, .ptr (some a5)] h)) := cutOK_head (fun vs h hk => by unfold zf6.k7 at hk; split at hk; exact hk; exact hk.elim)
    exact piece (E := zf6.E Q [(12, ([1, 4, 5, 6, 8, 29], zf6.k12 (fun a1 a2 a3 a4 a5 a6 h => zf6.j12 (fun a1 a2 a3 a4 a5 h => Head sg W0 86 (entered 82) (Post sg W0 (zf6.ret Q)) (posC zf6.code []) 7 [1, 4, 5, 8, 29] [.sl a1, .ptr (some a2), .str a3, .map a4, .ptr (some a5)] h) a1 a2 a3 a4 a5 a6 Q h))), (15, ([1, 4, 5, 6, 8, 9, 10, 29], zf6.k15 (fun a1 a2 a3 a4 a5 a6 a7 a8 h => zf6.j15 (fun a1 a2 a3 a4 a5 h => Head sg W0 86 (entered 82) (Post sg W0 (zf6.ret Q)) (posC zf6.code []) 7 [1, 4, 5, 8, 29] [.sl a1, .ptr (some a2), .str a3, .map a4, .ptr (some a5)] h) a1 a2 a3 a4 a5 a6 a7 a8 Q h)))]) (vs := [.sl a1, .ptr (some a2), .str a3, .map a4, .ptr (some a5)]) (envOK seatOK zf6.callsOK noIfc_ok) (fnOK seatOK zf6.fun) ⟨(zf6.s12 Q (fun a1 a2 a3 a4 a5 h => Head sg W0 86 (entered 82) (Post sg W0 (zf6.ret Q)) (posC zf6.code []) 7 [1, 4, 5, 8, 29] [.sl a1, .ptr (some a2), .str a3, .map a4, .ptr (some a5)] h) hself), (zf6.s15 Q (fun a1 a2 a3 a4 a5 h => Head sg W0 86 (entered 82) (Post sg W0 (zf6.ret Q)) (posC zf6.code []) 7 [1, 4, 5, 8, 29] [.sl a1, .ptr (some a2), .str a3, .map a4, .ptr (some a5)] h) hself), trivial⟩ zf6.p7 (fuel := 3000) (by rw [← zf6.e7]; exact hb) hm s f hp
  · exact hk.elim

theorem zf6.e : ∀ (a1 : Int) (a2 : Sl) (Q : Int → Int → Int → Int → Int → (List UInt8) → Bool → Heap → Prop) (h : Heap), zf6 a1 a2 Q h = pts (zf6.E Q [(7, ([1, 4, 5, 8, 29], zf6.k7 (fun a1 a2 a3 a4 a5 h => zf6.j7  a1 a2 a3 a4 a5 Q h)))]) 3000 true [.code zf6.code] (frOf 0 [.int .i64 a1, .sl a2]) h := by
  intros; kernel_rfl

theorem zf6.S {W0 : World} : FnS sg W0 400 zf6.C := by
  intro vs κ h wv hx w s
  unfold zf6.C at hx
  split at hx
  · rename_i a1 a2
    refine postImp (ret := zf6.ret (fun r1 r2 r3 r4 r5 r6 r7 h => κ (.tup [.agg [.int .i64 r1, .int .i64 r2, .int .i64 r3, .int .i64 r4, .int .i64 r5], .str r6, .bool r7]) h)) (fun v h hr => by unfold zf6.ret at hr; split at hr; exact hr; exact hr.elim) ?_
    exact calls_of_pts (E := zf6.E (fun r1 r2 r3 r4 r5 r6 r7 h => κ (.tup [.agg [.int .i64 r1, .int .i64 r2, .int .i64 r3, .int .i64 r4, .int .i64 r5], .str r6, .bool r7]) h) [(7, ([1, 4, 5, 8, 29], zf6.k7 (fun a1 a2 a3 a4 a5 h => zf6.j7  a1 a2 a3 a4 a5 (fun r1 r2 r3 r4 r5 r6 r7 h => κ (.tup [.agg [.int .i64 r1, .int .i64 r2, .int .i64 r3, .int .i64 r4, .int .i64 r5], .str r6, .bool r7]) h) h)))]) (envOK seatOK zf6.callsOK noIfc_ok) seatOK.mixed zf6.fun (Nat.le_of_ble_eq_true rfl) wv (cutL_ok ⟨(zf6.s7 (fun r1 r2 r3 r4 r5 r6 r7 h => κ (.tup [.agg [.int .i64 r1, .int .i64 r2, .int .i64 r3, .int .i64 r4, .int .i64 r5], .str r6, .bool r7]) h)), trivial⟩) s (fuel := 3000) (by rw [← zf6.e]; exact hx)
  · exact hx.elim

noncomputable def zf12.code : Code := Go.Proofs.Tryz.f50.body.getD .skip

theorem zf12.fun : Fun sg.P 50 122 [.tmp 6] zf12.code := mkFun Go.Proofs.Tryz.func50 (by kernel_rfl) (by kernel_rfl) (by kernel_rfl) (by kernel_rfl)

def zf12.ret (Q : V → Heap → Prop) (v : V) (h : Heap) : Prop := Q v h

def zf12.C (U : Ifc) (vs : List V) (κ : V → Heap → Prop) (h : Heap) : Prop :=
  match vs with
  | [.ptr a1, .int .i64 a2, .sl a3] => zf12 U a1 a2 a3 (fun r1 h => κ r1 h) h
  | _ => False

noncomputable def zf12.calls (U : Ifc) : List (Nat × (List V → (V → Heap → Prop) → Heap → Prop)) := [(396, zf5.C), (399, zf7.C U), (400, zf6.C)]

noncomputable def zf12.E (U : Ifc) (Q : V → Heap → Prop) (cuts : List (Nat × (List Nat × (List V → Heap → Prop)))) : Env := { tis := tisT, fns := fnsT, tys := tysT, gls := glsT, rts := rtsT, unk := [], nxt := [], calls := zf12.calls U, ifc := U, cuts := cuts, ret := zf12.ret Q, rets := [.tmp 6], n := 122 }

theorem zf12.callsOK {W0 : World} {U : Ifc} (hU : IfcOK sg W0 glsT U) : CallsOK sg W0 (zf12.calls U) := ⟨zf5.S, (zf7.S hU), zf6.S, trivial⟩

def zf12.k17 (I : Int → Heap → Prop) (vs : List V) (h : Heap) : Prop :=
  match vs with
  | [.int .i64 a1] => I a1 h
  | _ => False

def zf12.k21 (I : (Option Ptr) → Ptr → Heap → Prop) (vs : List V) (h : Heap) : Prop :=
  match vs with
  | [.ptr a1, .ptr (some a2)] => I a1 a2 h
  | _ => False

def zf12.k16 (I : (Option Ptr) → Int → Sl → Ptr → Int → Bool → Int → Int → Heap → Prop) (vs : List V) (h : Heap) : Prop :=
  match vs with
  | [.ptr a1, .int .i64 a2, .sl a3, .ptr (some a4), .int .i64 a5, .bool a6, .int .i64 a7, .int .i64 a8] => I a1 a2 a3 a4 a5 a6 a7 a8 h
  | _ => False

def zf12.k10 (I : (Option Ptr) → Int → Sl → Ptr → Heap → Prop) (vs : List V) (h : Heap) : Prop :=
  match vs with
  | [.ptr a1, .int .i64 a2, .sl a3, .ptr (some a4)] => I a1 a2 a3 a4 h
  | _ => False

def zf12.k5 (I : Int → Heap → Prop) (vs : List V) (h : Heap) : Prop :=
  match vs with
  | [.int .i64 a1] => I a1 h
  | _ => False

def zf12.k3 (I : (Option Ptr) → Int → Sl → Ptr → Int → Bool → Heap → Prop) (vs : List V) (h : Heap) : Prop :=
  match vs with
  | [.ptr a1, .int .i64 a2, .sl a3, .ptr (some a4), .int .i64 a5, .bool a6] => I a1 a2 a3 a4 a5 a6 h
  | _ => False

theorem zf12.p17 : (posC zf12.code []).filter (fun p => Nat.beq p.1 17) = [(17, atPos (posC zf12.code []) 17)] := by kernel_rfl

theorem zf12.e17 : ∀ (U : Ifc)  (a1 : Int) (Q : V → Heap → Prop) (h : Heap), zf12.j17 U  a1 Q h = pts (zf12.E U Q []) 3000 true (atPos (posC zf12.code []) 17) (frAt [1] [.int .i64 a1]) h := by
  intros; kernel_rfl

theorem zf12.s17 {W0 : World} {U : Ifc} (hU : IfcOK sg W0 glsT U) (Q : V → Heap → Prop)   : CutOK sg W0 122 (entered 50) (Post sg W0 (zf12.ret Q)) (posC zf12.code []) 17 [1] (zf12.k17 (fun a1 h => zf12.j17 U  a1 Q h)) := by
  refine cutOK_head (fun vs h hk => ?_)
  unfold zf12.k17 at hk
  split at hk
  · rename_i a1
    intro todo hm ρ a w s f hp
    exact piece (E := zf12.E U Q []) (vs := [.int .i64 a1]) (envOK seatOK (zf12.callsOK hU) hU) (fnOK seatOK zf12.fun) trivial zf12.p17 (fuel := 3000) (by rw [← zf12.e17]; exact hk) hm s f hp
  · exact hk.elim

theorem zf12.p21 : (posC zf12.code []).filter (fun p => Nat.beq p.1 21) = [(21, atPos (posC zf12.code []) 21)] := by kernel_rfl

theorem zf12.e21 : ∀ (U : Ifc)  (a1 : Option Ptr) (a2 : Ptr) (Q : V → Heap → Prop) (h : Heap), zf12.j21 U  a1 a2 Q h = pts (zf12.E U Q []) 3000 true (atPos (posC zf12.code []) 21) (frAt [0, 7] [.ptr a1, .ptr (some a2)]) h := by
  intros; kernel_rfl

theorem zf12.s21 {W0 : World} {U : Ifc} (hU : IfcOK sg W0 glsT U) (Q : V → Heap → Prop)   : CutOK sg W0 122 (entered 50) (Post sg W0 (zf12.ret Q)) (posC zf12.code []) 21 [0, 7] (zf12.k21 (fun a1 a2 h => zf12.j21 U  a1 a2 Q h)) := by
  refine cutOK_head (fun vs h hk => ?_)
  unfold zf12.k21 at hk
  split at hk
  · rename_i a1 a2
    intro todo hm ρ a w s f hp
    exact piece (E := zf12.E U Q []) (vs := [.ptr a1, .ptr (some a2)]) (envOK seatOK (zf12.callsOK hU) hU) (fnOK seatOK zf12.fun) trivial zf12.p21 (fuel := 3000) (by rw [← zf12.e21]; exact hk) hm s f hp
  · exact hk.elim

theorem zf12.p16 : (posC zf12.code []).filter (fun p => Nat.beq p.1 16) = [(16, atPos (posC zf12.code []) 16)] := by kernel_rfl

theorem zf12.e16 : ∀ (U : Ifc)  (a1 : Option Ptr) (a2 : Int) (a3 : Sl) (a4 : Ptr) (a5 : Int) (a6 : Bool) (a7 : Int) (a8 : Int) (Q : V → Heap → Prop) (h : Heap), zf12.j16 U  a1 a2 a3 a4 a5 a6 a7 a8 Q h = pts (zf12.E U Q [(17, ([1], zf12.k17 (fun a1 h => zf12.j17 U  a1 Q h))), (21, ([0, 7], zf12.k21 (fun a1 a2 h => zf12.j21 U  a1 a2 Q h)))]) 3000 true (atPos (posC zf12.code []) 16) (frAt [0, 1, 2, 7, 8, 9, 10, 11] [.ptr a1, .int .i64 a2, .sl a3, .ptr (some a4), .int .i64 a5, .bool a6, .int .i64 a7, .int .i64 a8]) h := by
  intros; kernel_rfl

theorem zf12.s16 {W0 : World} {U : Ifc} (hU : IfcOK sg W0 glsT U) (Q : V → Heap → Prop)   : CutOK sg W0 122 (entered 50) (Post sg W0 (zf12.ret Q)) (posC zf12.code []) 16 [0, 1, 2, 7, 8, 9, 10, 11] (zf12.k16 (fun a1 a2 a3 a4 a5 a6 a7 a8 h => zf12.j16 U  a1 a2 a3 a4 a5 a6 a7 a8 Q h)) := by
  refine cutOK_head (fun vs h hk => ?_)
  unfold zf12.k16 at hk
  split at hk
  · rename_i a1 a2 a3 a4 a5 a6 a7 a8
    intro todo hm ρ a w s f hp
    exact piece (E := zf12.E U Q [(17, ([1], zf12.k17 (fun a1 h => zf12.j17 U  a1 Q h))), (21, ([0, 7], zf12.k21 (fun a1 a2 h => zf12.j21 U  a1 a2 Q h)))]) (vs := [.ptr a1, .int .i64 a2, .sl a3, .ptr (some a4), .int .i64 a5, .bool a6, .int .i64 a7, .int .i64 a8]) (envOK seatOK (zf12.callsOK hU) hU) (fnOK seatOK zf12.fun) ⟨(zf12.s17 hU Q  ), (zf12.s21 hU Q  ), trivial⟩ zf12.p16 (fuel := 3000) (by rw [← zf12.e16]; exact hk) hm s f hp
  · exact hk.elim

theorem zf12.p10 : (posC zf12.code []).filter (fun p => Nat.beq p.1 10) = [(10, atPos (posC zf12.code []) 10)] := by kernel_rfl

theorem zf12.e10 : ∀ (U : Ifc)  (a1 : Option Ptr) (a2 : Int) (a3 : Sl) (a4 : Ptr) (Q : V → Heap → Prop) (h : Heap), zf12.j10 U  a1 a2 a3 a4 Q h = pts (zf12.E U Q [(16, ([0, 1, 2, 7, 8, 9, 10, 11], zf12.k16 (fun a1 a2 a3 a4 a5 a6 a7 a8 h => zf12.j16 U  a1 a2 a3 a4 a5 a6 a7 a8 Q h)))]) 3000 true (atPos (posC zf12.code []) 10) (frAt [0, 1, 2, 7] [.ptr a1, .int .i64 a2, .sl a3, .ptr (some a4)]) h := by
  intros; kernel_rfl

theorem zf12.s10 {W0 : World} {U : Ifc} (hU : IfcOK sg W0 glsT U) (Q : V → Heap → Prop)   : CutOK sg W0 122 (entered 50) (Post sg W0 (zf12.ret Q)) (posC zf12.code []) 10 [0, 1, 2, 7] (zf12.k10 (fun a1 a2 a3 a4 h => zf12.j10 U  a1 a2 a3 a4 Q h)) := by
  refine cutOK_head (fun vs h hk => ?_)
  unfold zf12.k10 at hk
  split at hk
  · rename_i a1 a2 a3 a4
    intro todo hm ρ a w s f hp
    exact piece (E := zf12.E U Q [(16, ([0, 1, 2, 7, 8, 9, 10, 11], zf12.k16 (fun a1 a2 a3 a4 a5 a6 a7 a8 h => zf12.j16 U  a1 a2 a3 a4 a5 a6 a7 a8 Q h)))]) (vs := [.ptr a1, .int .i64 a2, .sl a3, .ptr (some a4)]) (envOK seatOK (zf12.callsOK hU) hU) (fnOK seatOK zf12.fun) ⟨(zf12.s16 hU Q  ), trivial⟩ zf12.p10 (fuel := 3000) (by rw [← zf12.e10]; exact hk) hm s f hp
  · exact hk.elim

theorem zf12.p5 : (posC zf12.code []).filter (fun p => Nat.beq p.1 5) = [(5, atPos (posC zf12.code []) 5)] := by kernel_rfl

theorem zf12.e5 : ∀ (U : Ifc)  (a1 : Int) (Q : V → Heap → Prop) (h : Heap), zf12.j5 U  a1 Q h = pts (zf12.E U Q []) 3000 true (atPos (posC zf12.code []) 5) (frAt [1] [.int .i64 a1]) h := by
  intros; kernel_rfl

theorem zf12.s5 {W0 : World} {U : Ifc} (hU : IfcOK sg W0 glsT U) (Q : V → Heap → Prop)   : CutOK sg W0 122 (entered 50) (Post sg W0 (zf12.ret Q)) (posC zf12.code []) 5 [1] (zf12.k5 (fun a1 h => zf12.j5 U  a1 Q h)) := by
  refine cutOK_head (fun vs h hk => ?_)
  unfold zf12.k5 at hk
  split at hk
  · rename_i a1
    intro todo hm ρ a w s f hp
    exact piece (E := zf12.E U Q []) (vs := [.int .i64 a1]) (envOK seatOK (zf12.callsOK hU) hU) (fnOK seatOK zf12.fun) trivial zf12.p5 (fuel := 3000) (by rw [← zf12.e5]; exact hk) hm s f hp
  · exact hk.elim

theorem zf12.p3 : (posC zf12.code []).filter (fun p => Nat.beq p.1 3) = [(3, atPos (posC zf12.code []) 3)] := by kernel_rfl

theorem zf12.e3 : ∀ (U : Ifc)  (a1 : Option Ptr) (a2 : Int) (a3 : Sl) (a4 : Ptr) (a5 : Int) (a6 : Bool) (Q : V → Heap → Prop) (h : Heap), zf12.j3 U  a1 a2 a3 a4 a5 a6 Q h = pts (zf12.E U Q [(5, ([1], zf12.k5 (fun a1 h => zf12.j5 U  a1 Q h))), (21, ([0, 7], zf12.k21 (fun a1 a2 h => zf12.j21 U  a1 a2 Q h)))]) 3000 true (atPos (posC zf12.code []) 3) (frAt [0, 1, 2, 7, 12, 13] [.ptr a1, .int .i64 a2, .sl a3, .ptr (some a4), .int .i64 a5, .bool a6]) h := by
  intros; kernel_rfl

theorem zf12.s3 {W0 : World} {U : Ifc} (hU : IfcOK sg W0 glsT U) (Q : V → Heap → Prop)   : CutOK sg W0 122 (entered 50) (Post sg W0 (zf12.ret Q)) (posC zf12.code []) 3 [0, 1, 2, 7, 12, 13] (zf12.k3 (fun a1 a2 a3 a4 a5 a6 h => zf12.j3 U  a1 a2 a3 a4 a5 a6 Q h)) := by
  refine cutOK_head (fun vs h hk => ?_)
  unfold zf12.k3 at hk
  split at hk
  · rename_i a1 a2 a3 a4 a5 a6
    intro todo hm ρ a w s f hp
    exact piece (E := zf12.E U Q [(5, ([1], zf12.k5 (fun a1 h => zf12.j5 U  a1 Q h))), (21, ([0, 7], zf12.k21 (fun a1 a2 h => zf12.j21 U  a1 a2 Q h)))]) (vs := [.ptr a1, .int .i64 a2, .sl a3, .ptr (some a4), .int .i64 a5, .bool a6]) (envOK seatOK (zf12.callsOK hU) hU) (fnOK seatOK zf12.fun) ⟨(zf12.s5 hU Q  ), (zf12.s21 hU Q  ), trivial⟩ zf12.p3 (fuel := 3000) (by rw [← zf12.e3]; exact hk) hm s f hp
  · exact hk.elim

theorem zf12.e : ∀ (U : Ifc) (a1 : Option Ptr) (a2 : Int) (a3 : Sl) (Q : V → Heap → Prop) (h : Heap), zf12 U a1 a2 a3 Q h = pts (zf12.E U Q [(10, ([0, 1, 2, 7], zf12.k10 (fun a1 a2 a3 a4 h => zf12.j10 U  a1 a2 a3 a4 Q h))), (3, ([0, 1, 2, 7, 12, 13], zf12.k3 (fun a1 a2 a3 a4 a5 a6 h => zf12.j3 U  a1 a2 a3 a4 a5 a6 Q h)))]) 3000 true [.code zf12.code] (frOf 0 [.ptr a1, .int .i64 a2, .sl a3]) h := by
  intros; kernel_rfl

theorem zf12.S {W0 : World} {U : Ifc} (hU : IfcOK sg W0 glsT U) : FnS sg W0 401 (zf12.C U) := by
  intro vs κ h wv hx w s
  unfold zf12.C at hx
  split at hx
  · rename_i a1 a2 a3
    refine postImp (ret := zf12.ret (fun r1 h => κ r1 h)) (fun v h hr => hr) ?_
    exact calls_of_pts (E := zf12.E U (fun r1 h => κ r1 h) [(10, ([0, 1, 2, 7], zf12.k10 (fun a1 a2 a3 a4 h => zf12.j10 U  a1 a2 a3 a4 (fun r1 h => κ r1 h) h))), (3, ([0, 1, 2, 7, 12, 13], zf12.k3 (fun a1 a2 a3 a4 a5 a6 h => zf12.j3 U  a1 a2 a3 a4 a5 a6 (fun r1 h => κ r1 h) h)))]) (envOK seatOK (zf12.callsOK hU) hU) seatOK.mixed zf12.fun (Nat.le_of_ble_eq_true rfl) wv (cutL_ok ⟨(zf12.s10 hU (fun r1 h => κ r1 h)), (zf12.s3 hU (fun r1 h => κ r1 h)), trivial⟩) s (fuel := 3000) (by rw [← zf12.e]; exact hx)
  · exact hx.elim

noncomputable def zf9.code : Code := Go.Proofs.Tryz.f22.body.getD .skip

theorem zf9.fun : Fun sg.P 22 90 [.tmp 2, .tmp 3] zf9.code := mkFun Go.Proofs.Tryz.func22 (by kernel_rfl) (by kernel_rfl) (by kernel_rfl) (by kernel_rfl)

def zf9.ret (Q : (Option Ptr) → V → Heap → Prop) (v : V) (h : Heap) : Prop :=
  match v with
  | .tup [.ptr r1, r2] => Q r1 r2 h
  | _ => False

def zf9.C (U : Ifc) (vs : List V) (κ : V → Heap → Prop) (h : Heap) : Prop :=
  match vs with
  | [.str a1] => zf9 U a1 (fun r1 r2 h => κ (.tup [.ptr r1, r2]) h) h
  | _ => False

noncomputable def zf9.calls (U : Ifc) : List (Nat × (List V → (V → Heap → Prop) → Heap → Prop)) := [(384, zf63.C), (382, zf68.C U), (383, zf60.C U), (386, zf64.C), (388, zf71.C), (398, zf4.C), (401, zf12.C U)]

noncomputable def zf9.E (U : Ifc) (Q : (Option Ptr) → V → Heap → Prop) (cuts : List (Nat × (List Nat × (List V → Heap → Prop)))) : Env := { tis := tisT, fns := fnsT, tys := tysT, gls := glsT, rts := rtsT, unk := [], nxt := [], calls := zf9.calls U, ifc := U, cuts := cuts, ret := zf9.ret Q, rets := [.tmp 2, .tmp 3], n := 90 }

theorem zf9.callsOK {W0 : World} {U : Ifc} (hU : IfcOK sg W0 glsT U) : CallsOK sg W0 (zf9.calls U) := ⟨zf63.S, (zf68.S hU), (zf60.S hU), zf64.S, zf71.S, zf4.S, (zf12.S hU), trivial⟩

def zf9.k12 (I : Int → Heap → Prop) (vs : List V) (h : Heap) : Prop :=
  match vs with
  | [.int .i64 a1] => I a1 h
  | _ => False

def zf9.k15 (I : Ptr → Int → Sl → Sl → Int → Int → Heap → Prop) (vs : List V) (h : Heap) : Prop :=
  match vs with
  | [.ptr (some a1), .fn 357 [], .int .i64 a2, .sl a3, .sl a4, .int .i64 a5, .int .i64 a6] => I a1 a2 a3 a4 a5 a6 h
  | _ => False

def zf9.k14 (I : Ptr → Int → Sl → Sl → Int → Int → Heap → Prop) (vs : List V) (h : Heap) : Prop :=
  match vs with
  | [.ptr (some a1), .fn 357 [], .int .i64 a2, .sl a3, .sl a4, .int .i64 a5, .int .i64 a6] => I a1 a2 a3 a4 a5 a6 h
  | _ => False

def zf9.k9 (I : Ptr → Int → Sl → Sl → Int → Int → Heap → Prop) (vs : List V) (h : Heap) : Prop :=
  match vs with
  | [.ptr (some a1), .fn 357 [], .int .i64 a2, .sl a3, .sl a4, .int .i64 a5, .int .i64 a6] => I a1 a2 a3 a4 a5 a6 h
  | _ => False

def zf9.k4 (I : Ptr → Sl → Int → Int → Heap → Prop) (vs : List V) (h : Heap) : Prop :=
  match vs with
  | [.ptr (some a1), .fn 357 [], .sl a2, .int .i64 a3, .int .i64 a4] => I a1 a2 a3 a4 h
  | _ => False

theorem zf9.p12 : (posC zf9.code []).filter (fun p => Nat.beq p.1 12) = [(12, atPos (posC zf9.code []) 12)] := by kernel_rfl

theorem zf9.e12 : ∀ (U : Ifc) (I4 : Ptr → Sl → Int → Int → Heap → Prop) (a1 : Int) (Q : (Option Ptr) → V → Heap → Prop) (h : Heap), zf9.j12 U I4 a1 Q h = pts (zf9.E U Q []) 3000 true (atPos (posC zf9.code []) 12) (frAt [6] [.int .i64 a1]) h := by
  intros; kernel_rfl

theorem zf9.s12 {W0 : World} {U : Ifc} (hU : IfcOK sg W0 glsT U) (Q : (Option Ptr) → V → Heap → Prop) (I4 : Ptr → Sl → Int → Int → Heap → Prop) (h4 : CutOK sg W0 90 (entered 22) (Post sg W0 (zf9.ret Q)) (posC zf9.code []) 4 [4, 5, 17, 18, 19] (zf9.k4 I4)) : CutOK sg W0 90 (entered 22) (Post sg W0 (zf9.ret Q)) (posC zf9.code []) 12 [6] (zf9.k12 (fun a1 h => zf9.j12 U I4 a1 Q h)) := by
  refine cutOK_head (fun vs h hk => ?_)
  unfold zf9.k12 at hk
  split at hk
  · rename_i a1
    intro todo hm ρ a w s f hp
    exact piece (E := zf9.E U Q []) (vs := [.int .i64 a1]) (envOK seatOK (zf9.callsOK hU) hU) (fnOK seatOK zf9.fun) trivial zf9.p12 (fuel := 3000) (by rw [← zf9.e12]; exact hk) hm s f hp
  · exact hk.elim

theorem zf9.p15 : (posC zf9.code []).filter (fun p => Nat.beq p.1 15) = [(15, atPos (posC zf9.code []) 15)] := by kernel_rfl

theorem zf9.e15 : ∀ (U : Ifc) (I4 : Ptr → Sl → Int → Int → Heap → Prop) (a1 : Ptr) (a2 : Int) (a3 : Sl) (a4 : Sl) (a5 : Int) (a6 : Int) (Q : (Option Ptr) → V → Heap → Prop) (h : Heap), zf9.j15 U I4 a1 a2 a3 a4 a5 a6 Q h = pts (zf9.E U Q [(4, ([4, 5, 17, 18, 19], zf9.k4 I4))]) 3000 true (atPos (posC zf9.code []) 15) (frAt [4, 5, 6, 8, 17, 18, 19] [.ptr (some a1), .fn 357 [], .int .i64 a2, .sl a3, .sl a4, .int .i64 a5, .int .i64 a6]) h := by
  intros; kernel_rfl

theorem zf9.s15 {W0 : World} {U : Ifc} (hU : IfcOK sg W0 glsT U) (Q : (Option Ptr) → V → Heap → Prop) (I4 : Ptr → Sl → Int → Int → Heap → Prop) (h4 : CutOK sg W0 90 (entered 22) (Post sg W0 (zf9.ret Q)) (posC zf9.code []) 4 [4, 5, 17, 18, 19] (zf9.k4 I4)) : CutOK sg W0 90 (entered 22) (Post sg W0 (zf9.ret Q)) (posC zf9.code []) 15 [4, 5, 6, 8, 17, 18, 19] (zf9.k15 (fun a1 a2 a3 a4 a5 a6 h => zf9.j15 U I4 a1 a2 a3 a4 a5 a6 Q h)) := by
  refine cutOK_head (fun vs h hk => ?_)
  unfold zf9.k15 at hk
  split at hk
  · rename_i a1 a2 a3 a4 a5 a6
    intro todo hm ρ a w s f hp
    exact piece (E := zf9.E U Q [(4, ([4, 5, 17, 18, 19], zf9.k4 I4))]) (vs := [.ptr (some a1), .fn 357 [], .int .i64 a2, .sl a3, .sl a4, .int .i64 a5, .int .i64 a6]) (envOK seatOK (zf9.callsOK hU) hU) (fnOK seatOK zf9.fun) ⟨h4, trivial⟩ zf9.p15 (fuel := 3000) (by rw [← zf9.e15]; exact hk) hm s f hp
  · exact hk.elim

theorem zf9.p14 : (posC zf9.code []).filter (fun p => Nat.beq p.1 14) = [(14, atPos (posC zf9.code []) 14)] := by kernel_rfl

theorem zf9.e14 : ∀ (U : Ifc) (I4 : Ptr → Sl → Int → Int → Heap → Prop) (a1 : Ptr) (a2 : Int) (a3 : Sl) (a4 : Sl) (a5 : Int) (a6 : Int) (Q : (Option Ptr) → V → Heap → Prop) (h : Heap), zf9.j14 U I4 a1 a2 a3 a4 a5 a6 Q h = pts (zf9.E U Q [(15, ([4, 5, 6, 8, 17, 18, 19], zf9.k15 (fun a1 a2 a3 a4 a5 a6 h => zf9.j15 U I4 a1 a2 a3 a4 a5 a6 Q h)))]) 3000 true (atPos (posC zf9.code []) 14) (frAt [4, 5, 6, 8, 17, 18, 19] [.ptr (some a1), .fn 357 [], .int .i64 a2, .sl a3, .sl a4, .int .i64 a5, .int .i64 a6]) h := by
  intros; kernel_rfl

theorem zf9.s14 {W0 : World} {U : Ifc} (hU : IfcOK sg W0 glsT U) (Q : (Option Ptr) → V → Heap → Prop) (I4 : Ptr → Sl → Int → Int → Heap → Prop) (h4 : CutOK sg W0 90 (entered 22) (Post sg W0 (zf9.ret Q)) (posC zf9.code []) 4 [4, 5, 17, 18, 19] (zf9.k4 I4)) : CutOK sg W0 90 (entered 22) (Post sg W0 (zf9.ret Q)) (posC zf9.code []) 14 [4, 5, 6, 8, 17, 18, 19] (zf9.k14 (fun a1 a2 a3 a4 a5 a6 h => zf9.j14 U I4 a1 a2 a3 a4 a5 a6 Q h)) := by
  refine cutOK_head (fun vs h hk => ?_)
  unfold zf9.k14 at hk
  split at hk
  · rename_i a1 a2 a3 a4 a5 a6
    intro todo hm ρ a w s f hp
    exact piece (E := zf9.E U Q [(15, ([4, 5, 6, 8, 17, 18, 19], zf9.k15 (fun a1 a2 a3 a4 a5 a6 h => zf9.j15 U I4 a1 a2 a3 a4 a5 a6 Q h)))]) (vs := [.ptr (some a1), .fn 357 [], .int .i64 a2, .sl a3, .sl a4, .int .i64 a5, .int .i64 a6]) (envOK seatOK (zf9.callsOK hU) hU) (fnOK seatOK zf9.fun) ⟨(zf9.s15 hU Q I4 h4), trivial⟩ zf9.p14 (fuel := 3000) (by rw [← zf9.e14]; exact hk) hm s f hp
  · exact hk.elim

theorem zf9.p9 : (posC zf9.code []).filter (fun p => Nat.beq p.1 9) = [(9, atPos (posC zf9.code []) 9)] := by kernel_rfl

theorem zf9.e9 : ∀ (U : Ifc) (I4 : Ptr → Sl → Int → Int → Heap → Prop) (a1 : Ptr) (a2 : Int) (a3 : Sl) (a4 : Sl) (a5 : Int) (a6 : Int) (Q : (Option Ptr) → V → Heap → Prop) (h : Heap), zf9.j9 U I4 a1 a2 a3 a4 a5 a6 Q h = pts (zf9.E U Q [(12, ([6], zf9.k12 (fun a1 h => zf9.j12 U I4 a1 Q h))), (14, ([4, 5, 6, 8, 17, 18, 19], zf9.k14 (fun a1 a2 a3 a4 a5 a6 h => zf9.j14 U I4 a1 a2 a3 a4 a5 a6 Q h)))]) 3000 true (atPos (posC zf9.code []) 9) (frAt [4, 5, 6, 8, 17, 18, 19] [.ptr (some a1), .fn 357 [], .int .i64 a2, .sl a3, .sl a4, .int .i64 a5, .int .i64 a6]) h := by
  intros; kernel_rfl

theorem zf9.s9 {W0 : World} {U : Ifc} (hU : IfcOK sg W0 glsT U) (Q : (Option Ptr) → V → Heap → Prop) (I4 : Ptr → Sl → Int → Int → Heap → Prop) (h4 : CutOK sg W0 90 (entered 22) (Post sg W0 (zf9.ret Q)) (posC zf9.code []) 4 [4, 5, 17, 18, 19] (zf9.k4 I4)) : CutOK sg W0 90 (entered 22) (Post sg W0 (zf9.ret Q)) (posC zf9.code []) 9 [4, 5, 6, 8, 17, 18, 19] (zf9.k9 (fun a1 a2 a3 a4 a5 a6 h => zf9.j9 U I4 a1 a2 a3 a4 a5 a6 Q h)) := by
  refine cutOK_head (fun vs h hk => ?_)
  unfold zf9.k9 at hk
  split at hk
  · rename_i a1 a2 a3 a4 a5 a6
    intro todo hm ρ a w s f hp
    exact piece (E := zf9.E U Q [(12, ([6], zf9.k12 (fun a1 h => zf9.j12 U I4 a1 Q h))), (14, ([4, 5, 6, 8, 17, 18, 19], zf9.k14 (fun a1 a2 a3 a4 a5 a6 h => zf9.j14 U I4 a1 a2 a3 a4 a5 a6 Q h)))]) (vs := [.ptr (some a1), .fn 357 [], .int .i64 a2, .sl a3, .sl a4, .int .i64 a5, .int .i64 a6]) (envOK seatOK (zf9.callsOK hU) hU) (fnOK seatOK zf9.fun) ⟨(zf9.s12 hU Q I4 h4), (zf9.s14 hU Q I4 h4), trivial⟩ zf9.p9 (fuel := 3000) (by rw [← zf9.e9]; exact hk) hm s f hp
  · exact hk.elim

theorem zf9.p4 : (posC zf9.code []).filter (fun p => Nat.beq p.1 4) = [(4, atPos (posC zf9.code []) 4)] := by kernel_rfl

theorem zf9.e4 : ∀ (U : Ifc)  (I4 : Ptr → Sl → Int → Int → Heap → Prop) (a1 : Ptr) (a2 : Sl) (a3 : Int) (a4 : Int) (Q : (Option Ptr) → V → Heap → Prop) (h : Heap), zf9.b4 U  I4 a1 a2 a3 a4 Q h = pts (zf9.E U Q [(9, ([4, 5, 6, 8, 17, 18, 19], zf9.k9 (fun a1 a2 a3 a4 a5 a6 h => zf9.j9 U I4 a1 a2 a3 a4 a5 a6 Q h))), (15, ([4, 5, 6, 8, 17, 18, 19], zf9.k15 (fun a1 a2 a3 a4 a5 a6 h => zf9.j15 U I4 a1 a2 a3 a4 a5 a6 Q h)))]) 3000 true (atPos (posC zf9.code []) 4) (frAt [4, 5, 17, 18, 19] [.ptr (some a1), .fn 357 [], .sl a2, .int .i64 a3, .int .i64 a4]) h := by
  intros; kernel_rfl

theorem zf9.s4 {W0 : World} {U : Ifc} (hU : IfcOK sg W0 glsT U) (Q : (Option Ptr) → V → Heap → Prop)   : CutOK sg W0 90 (entered 22) (Post sg W0 (zf9.ret Q)) (posC zf9.code []) 4 [4, 5, 17, 18, 19] (zf9.k4 (fun a1 a2 a3 a4 h => zf9.j4 U  a1 a2 a3 a4 Q h)) := by
  refine cutOK_head (fun vs h hk => ?_)
  unfold zf9.k4 at hk
  split at hk
  · rename_i a1 a2 a3 a4
    refine hk (fun a1 a2 a3 a4 h => Head sg W0 90 (entered 22) (Post sg W0 (zf9.ret Q)) (posC zf9.code []) 4 [4, 5, 17, 18, 19] [.ptr (some a1), .fn 357 [], .sl a2, .int .i64 a3, .int .i64 a4] h) ?_
    intro a1 a2 a3 a4 h hb todo hm ρ a w s f hp
    have hself : CutOK sg W0 90 (entered 22) (Post sg W0 (zf9.ret Q)) (posC zf9.code []) 4 [4, 5, 17, 18, 19] (zf9.k4 (fun a1 a2 a3 a4 h => Head sg W0 90 (entered 22) (Post sg W0 (zf9.ret Q)) (posC zf9.code []) 4 [4, 5, 17, 18, 19] [.ptr (some a1), .fn 357 [], .sl a2, .int .i64 a3, .int .i64 a4] h)) := cutOK_head (fun vs h hk => by unfold zf9.k4 at hk; split at hk; exact hk; exact hk.elim)
    exact piece (E := zf9.E U Q [(9, ([4, 5, 6, 8, 17, 18, 19], zf9.k9 (fun a1 a2 a3 a4 a5 a6 h => zf9.j9 U (fun a1 a2 a3 a4 h => Head sg W0 90 (entered 22) (Post sg W0 (zf9.ret Q)) (posC zf9.code []) 4 [4, 5, 17, 18, 19] [.ptr (some a1), .fn 357 [], .sl a2, .int .i64 a3, .int .i64 a4] h) a1 a2 a3 a4 a5 a6 Q h))), (15, ([4, 5, 6, 8, 17, 18, 19], zf9.k15 (fun a1 a2 a3 a4 a5 a6 h => zf9.j15 U (fun a1 a2 a3 a4 h => Head sg W0 90 (entered 22) (Post sg W0 (zf9.ret Q)) (posC zf9.code []) 4 [4, 5, 17, 18, 19] [.ptr (some a1), .fn 357 [], .sl a2, .int .i64 a3, .int .i64 a4] h) a1 a2 a3 a4 a5 a6 Q h)))]) (vs := [.ptr (some a1), .fn 357 [], .sl a2, .int .i64 a3, .int .i64 a4]) (envOK seatOK (zf9.callsOK hU) hU) (fnOK seatOK zf9.fun) ⟨(zf9.s9 hU Q (fun a1 a2 a3 a4 h => Head sg W0 90 (entered 22) (Post sg W0 (zf9.ret Q)) (posC zf9.code []) 4 [4, 5, 17, 18, 19] [.ptr (some a1), .fn 357 [], .sl a2, .int .i64 a3, .int .i64 a4] h) hself), (zf9.s15 hU Q (fun a1 a2 a3 a4 h => Head sg W0 90 (entered 22) (Post sg W0 (zf9.ret Q)) (posC zf9.code []) 4 [4, 5, 17, 18, 19] [.ptr (some a1), .fn 357 [], .sl a2, .int .i64 a3, .int .i64 a4] h) hself), trivial⟩ zf9.p4 (fuel := 3000) (by rw [← zf9.e4]; exact hb) hm s f hp
  · exact hk.elim

theorem zf9.e : ∀ (U : Ifc) (a1 : List UInt8) (Q : (Option Ptr) → V → Heap → Prop) (h : Heap), zf9 U a1 Q h = pts (zf9.E U Q [(4, ([4, 5, 17, 18, 19], zf9.k4 (fun a1 a2 a3 a4 h => zf9.j4 U  a1 a2 a3 a4 Q h)))]) 3000 true [.code zf9.code] (frOf 0 [.str a1]) h := by
  intros; kernel_rfl

theorem zf9.S {W0 : World} {U : Ifc} (hU : IfcOK sg W0 glsT U) : FnS sg W0 358 (zf9.C U) := by
  intro vs κ h wv hx w s
  unfold zf9.C at hx
  split at hx
  · rename_i a1
    refine postImp (ret := zf9.ret (fun r1 r2 h => κ (.tup [.ptr r1, r2]) h)) (fun v h hr => by unfold zf9.ret at hr; split at hr; exact hr; exact hr.elim) ?_
    exact calls_of_pts (E := zf9.E U (fun r1 r2 h => κ (.tup [.ptr r1, r2]) h) [(4, ([4, 5, 17, 18, 19], zf9.k4 (fun a1 a2 a3 a4 h => zf9.j4 U  a1 a2 a3 a4 (fun r1 r2 h => κ (.tup [.ptr r1, r2]) h) h)))]) (envOK seatOK (zf9.callsOK hU) hU) seatOK.mixed zf9.fun (Nat.le_of_ble_eq_true rfl) wv (cutL_ok ⟨(zf9.s4 hU (fun r1 r2 h => κ (.tup [.ptr r1, r2]) h)), trivial⟩) s (fuel := 3000) (by rw [← zf9.e]; exact hx)
  · exact hx.elim

noncomputable def zf28.code : Code := Go.Proofs.Tryz.f117.body.getD .skip

theorem zf28.fun : Fun sg.P 117 51 [.tmp 4, .tmp 5] zf28.code := mkFun Go.Proofs.Tryz.func117 (by kernel_rfl) (by kernel_rfl) (by kernel_rfl) (by kernel_rfl)

def zf28.ret (Q : Int → Int → Heap → Prop) (v : V) (h : Heap) : Prop :=
  match v with
  | .tup [.int .u64 r1, .int .u64 r2] => Q r1 r2 h
  | _ => False

def zf28.C (vs : List V) (κ : V → Heap → Prop) (h : Heap) : Prop :=
  match vs with
  | [.int .u64 a1, .int .u64 a2] => zf28 a1 a2 (fun r1 r2 h => κ (.tup [.int .u64 r1, .int .u64 r2]) h) h
  | _ => False

noncomputable def zf28.calls : List (Nat × (List V → (V → Heap → Prop) → Heap → Prop)) := []

noncomputable def zf28.E (Q : Int → Int → Heap → Prop) (cuts : List (Nat × (List Nat × (List V → Heap → Prop)))) : Env := { tis := tisT, fns := fnsT, tys := tysT, gls := [], rts := rtsT, unk := [], nxt := [], calls := zf28.calls, ifc := noIfc, cuts := cuts, ret := zf28.ret Q, rets := [.tmp 4, .tmp 5], n := 51 }

theorem zf28.callsOK {W0 : World} : CallsOK sg W0 zf28.calls := trivial

def zf28.k7 (I : Int → Int → Int → Int → Int → Int → Heap → Prop) (vs : List V) (h : Heap) : Prop :=
  match vs with
  | [.int .u64 a1, .int .u64 a2, .int .u64 a3, .int .u64 a4, .int .u64 a5, .int .u64 a6] => I a1 a2 a3 a4 a5 a6 h
  | _ => False

theorem zf28.p7 : (posC zf28.code []).filter (fun p => Nat.beq p.1 7) = [(7, atPos (posC zf28.code []) 7)] := by kernel_rfl

theorem zf28.e7 : ∀  (a1 : Int) (a2 : Int) (a3 : Int) (a4 : Int) (a5 : Int) (a6 : Int) (Q : Int → Int → Heap → Prop) (h : Heap), zf28.j7  a1 a2 a3 a4 a5 a6 Q h = pts (zf28.E Q []) 3000 true (atPos (posC zf28.code []) 7) (frAt [0, 1, 6, 7, 9, 11] [.int .u64 a1, .int .u64 a2, .int .u64 a3, .int .u64 a4, .int .u64 a5, .int .u64 a6]) h := by
  intros; kernel_rfl

theorem zf28.s7 {W0 : World} (Q : Int → Int → Heap → Prop)   : CutOK sg W0 51 (entered 117) (Post sg W0 (zf28.ret Q)) (posC zf28.code []) 7 [0, 1, 6, 7, 9, 11] (zf28.k7 (fun a1 a2 a3 a4 a5 a6 h => zf28.j7  a1 a2 a3 a4 a5 a6 Q h)) := by
  refine cutOK_head (fun vs h hk => ?_)
  unfold zf28.k7 at hk
  split at hk
  · rename_i a1 a2 a3 a4 a5 a6
    intro todo hm ρ a w s f hp
    exact piece (E := zf28.E Q []) (vs := [.int .u64 a1, .int .u64 a2, .int .u64 a3, .int .u64 a4, .int .u64 a5, .int .u64 a6]) (envOK seatOK zf28.callsOK noIfc_ok) (fnOK seatOK zf28.fun) trivial zf28.p7 (fuel := 3000) (by rw [← zf28.e7]; exact hk) hm s f hp
  · exact hk.elim

theorem zf28.e : ∀ (a1 : Int) (a2 : Int) (Q : Int → Int → Heap → Prop) (h : Heap), zf28 a1 a2 Q h = pts (zf28.E Q [(7, ([0, 1, 6, 7, 9, 11], zf28.k7 (fun a1 a2 a3 a4 a5 a6 h => zf28.j7  a1 a2 a3 a4 a5 a6 Q h)))]) 3000 true [.code zf28.code] (frOf 0 [.int .u64 a1, .int .u64 a2]) h := by
  intros; kernel_rfl

theorem zf28.S {W0 : World} : FnS sg W0 362 zf28.C := by
  intro vs κ h wv hx w s
  unfold zf28.C at hx
  split at hx
  · rename_i a1 a2
    refine postImp (ret := zf28.ret (fun r1 r2 h => κ (.tup [.int .u64 r1, .int .u64 r2]) h)) (fun v h hr => by unfold zf28.ret at hr; split at hr; exact hr; exact hr.elim) ?_
    exact calls_of_pts (E := zf28.E (fun r1 r2 h => κ (.tup [.int .u64 r1, .int .u64 r2]) h) [(7, ([0, 1, 6, 7, 9, 11], zf28.k7 (fun a1 a2 a3 a4 a5 a6 h => zf28.j7  a1 a2 a3 a4 a5 a6 (fun r1 r2 h => κ (.tup [.int .u64 r1, .int .u64 r2]) h) h)))]) (envOK seatOK zf28.callsOK noIfc_ok) seatOK.mixed zf28.fun (Nat.le_of_ble_eq_true rfl) wv (cutL_ok ⟨(zf28.s7 (fun r1 r2 h => κ (.tup [.int .u64 r1, .int .u64 r2]) h)), trivial⟩) s (fuel := 3000) (by rw [← zf28.e]; exact hx)
  · exact hx.elim

noncomputable def zf27.code : Code := Go.Proofs.Tryz.f83.body.getD .skip

theorem zf27.fun : Fun sg.P 83 30 [.tmp 4, .tmp 5] zf27.code := mkFun Go.Proofs.Tryz.func83 (by kernel_rfl) (by kernel_rfl) (by kernel_rfl) (by kernel_rfl)

def zf27.ret (Q : Int → Int → Heap → Prop) (v : V) (h : Heap) : Prop :=
  match v with
  | .tup [.int .u64 r1, .int .u64 r2] => Q r1 r2 h
  | _ => False

def zf27.C (vs : List V) (κ : V → Heap → Prop) (h : Heap) : Prop :=
  match vs with
  | [.int .u64 a1, .int .u64 a2] => zf27 a1 a2 (fun r1 r2 h => κ (.tup [.int .u64 r1, .int .u64 r2]) h) h
  | _ => False

noncomputable def zf27.calls : List (Nat × (List V → (V → Heap → Prop) → Heap → Prop)) := [(362, zf28.C)]

noncomputable def zf27.E (Q : Int → Int → Heap → Prop) (cuts : List (Nat × (List Nat × (List V → Heap → Prop)))) : Env := { tis := tisT, fns := fnsT, tys := tysT, gls := [], rts := rtsT, unk := [], nxt := [], calls := zf27.calls, ifc := noIfc, cuts := cuts, ret := zf27.ret Q, rets := [.tmp 4, .tmp 5], n := 30 }

theorem zf27.callsOK {W0 : World} : CallsOK sg W0 zf27.calls := ⟨zf28.S, trivial⟩

theorem zf27.e : ∀ (a1 : Int) (a2 : Int) (Q : Int → Int → Heap → Prop) (h : Heap), zf27 a1 a2 Q h = pts (zf27.E Q []) 3000 true [.code zf27.code] (frOf 0 [.int .u64 a1, .int .u64 a2]) h := by
  intros; kernel_rfl

theorem zf27.S {W0 : World} : FnS sg W0 363 zf27.C := by
  intro vs κ h wv hx w s
  unfold zf27.C at hx
  split at hx
  · rename_i a1 a2
    refine postImp (ret := zf27.ret (fun r1 r2 h => κ (.tup [.int .u64 r1, .int .u64 r2]) h)) (fun v h hr => by unfold zf27.ret at hr; split at hr; exact hr; exact hr.elim) ?_
    exact calls_of_pts (E := zf27.E (fun r1 r2 h => κ (.tup [.int .u64 r1, .int .u64 r2]) h) []) (envOK seatOK zf27.callsOK noIfc_ok) seatOK.mixed zf27.fun (Nat.le_of_ble_eq_true rfl) wv (cutL_ok trivial) s (fuel := 3000) (by rw [← zf27.e]; exact hx)
  · exact hx.elim

noncomputable def zf56.code : Code := Go.Proofs.Tryz.f51.body.getD .skip

theorem zf56.fun : Fun sg.P 51 48 [.tmp 4] zf56.code := mkFun Go.Proofs.Tryz.func51 (by kernel_rfl) (by kernel_rfl) (by kernel_rfl) (by kernel_rfl)

def zf56.ret (Q : Sl → Heap → Prop) (v : V) (h : Heap) : Prop :=
  match v with
  | .sl r1 => Q r1 h
  | _ => False

def zf56.C (vs : List V) (κ : V → Heap → Prop) (h : Heap) : Prop :=
  match vs with
  | [.sl a1, .int .i64 a2] => zf56 a1 a2 (fun r1 h => κ (.sl r1) h) h
  | _ => False

noncomputable def zf56.calls : List (Nat × (List V → (V → Heap → Prop) → Heap → Prop)) := [(363, zf27.C)]

noncomputable def zf56.E (Q : Sl → Heap → Prop) (cuts : List (Nat × (List Nat × (List V → Heap → Prop)))) : Env := { tis := tisT, fns := fnsT, tys := tysT, gls := [], rts := rtsT, unk := [], nxt := [], calls := zf56.calls, ifc := noIfc, cuts := cuts, ret := zf56.ret Q, rets := [.tmp 4], n := 48 }

theorem zf56.callsOK {W0 : World} : CallsOK sg W0 zf56.calls := ⟨zf27.S, trivial⟩

def zf56.k5 (I : Sl → Int → Heap → Prop) (vs : List V) (h : Heap) : Prop :=
  match vs with
  | [.sl a1, .int .u64 a2] => I a1 a2 h
  | _ => False

def zf56.k8 (I : Sl → Int → Heap → Prop) (vs : List V) (h : Heap) : Prop :=
  match vs with
  | [.sl a1, .int .i64 a2] => I a1 a2 h
  | _ => False

theorem zf56.p5 : (posC zf56.code []).filter (fun p => Nat.beq p.1 5) = [(5, atPos (posC zf56.code []) 5)] := by kernel_rfl

theorem zf56.e5 : ∀  (a1 : Sl) (a2 : Int) (Q : Sl → Heap → Prop) (h : Heap), zf56.j5  a1 a2 Q h = pts (zf56.E Q []) 3000 true (atPos (posC zf56.code []) 5) (frAt [0, 6] [.sl a1, .int .u64 a2]) h := by
  intros; kernel_rfl

theorem zf56.s5 {W0 : World} (Q : Sl → Heap → Prop)   : CutOK sg W0 48 (entered 51) (Post sg W0 (zf56.ret Q)) (posC zf56.code []) 5 [0, 6] (zf56.k5 (fun a1 a2 h => zf56.j5  a1 a2 Q h)) := by
  refine cutOK_head (fun vs h hk => ?_)
  unfold zf56.k5 at hk
  split at hk
  · rename_i a1 a2
    intro todo hm ρ a w s f hp
    exact piece (E := zf56.E Q []) (vs := [.sl a1, .int .u64 a2]) (envOK seatOK zf56.callsOK noIfc_ok) (fnOK seatOK zf56.fun) trivial zf56.p5 (fuel := 3000) (by rw [← zf56.e5]; exact hk) hm s f hp
  · exact hk.elim

theorem zf56.p8 : (posC zf56.code []).filter (fun p => Nat.beq p.1 8) = [(8, atPos (posC zf56.code []) 8)] := by kernel_rfl

theorem zf56.e8 : ∀  (I8 : Sl → Int → Heap → Prop) (a1 : Sl) (a2 : Int) (Q : Sl → Heap → Prop) (h : Heap), zf56.b8  I8 a1 a2 Q h = pts (zf56.E Q [(8, ([7, 8], zf56.k8 I8))]) 3000 true (atPos (posC zf56.code []) 8) (frAt [7, 8] [.sl a1, .int .i64 a2]) h := by
  intros; kernel_rfl

theorem zf56.s8 {W0 : World} (Q : Sl → Heap → Prop)   : CutOK sg W0 48 (entered 51) (Post sg W0 (zf56.ret Q)) (posC zf56.code []) 8 [7, 8] (zf56.k8 (fun a1 a2 h => zf56.j8  a1 a2 Q h)) := by
  refine cutOK_head (fun vs h hk => ?_)
  unfold zf56.k8 at hk
  split at hk
  · rename_i a1 a2
    refine hk (fun a1 a2 h => Head sg W0 48 (entered 51) (Post sg W0 (zf56.ret Q)) (posC zf56.code []) 8 [7, 8] [.sl a1, .int .i64 a2] h) ?_
    intro a1 a2 h hb todo hm ρ a w s f hp
    have hself : CutOK sg W0 48 (entered 51) (Post sg W0 (zf56.ret Q)) (posC zf56.code []) 8 [7, 8] (zf56.k8 (fun a1 a2 h => Head sg W0 48 (entered 51) (Post sg W0 (zf56.ret Q)) (posC zf56.code []) 8 [7, 8] [.sl a1, .int .i64 a2] h)) := cutOK_head (fun vs h hk => by unfold zf56.k8 at hk; split at hk; exact hk; exact hk.elim)
    exact piece (E := zf56.E Q [(8, ([7, 8], zf56.k8 (fun a1 a2 h => Head sg W0 48 (entered 51) (Post sg W0 (zf56.ret Q)) (posC zf56.code []) 8 [7, 8] [.sl a1, .int .i64 a2] h)))]) (vs := [.sl a1, .int .i64 a2]) (envOK seatOK zf56.callsOK noIfc_ok) (fnOK seatOK zf56.fun) ⟨hself, trivial⟩ zf56.p8 (fuel := 3000) (by rw [← zf56.e8]; exact hb) hm s f hp
  · exact hk.elim

theorem zf56.e : ∀ (a1 : Sl) (a2 : Int) (Q : Sl → Heap → Prop) (h : Heap), zf56 a1 a2 Q h = pts (zf56.E Q [(5, ([0, 6], zf56.k5 (fun a1 a2 h => zf56.j5  a1 a2 Q h))), (8, ([7, 8], zf56.k8 (fun a1 a2 h => zf56.j8  a1 a2 Q h)))]) 3000 true [.code zf56.code] (frOf 0 [.sl a1, .int .i64 a2]) h := by
  intros; kernel_rfl

theorem zf56.S {W0 : World} : FnS sg W0 364 zf56.C := by
  intro vs κ h wv hx w s
  unfold zf56.C at hx
  split at hx
  · rename_i a1 a2
    refine postImp (ret := zf56.ret (fun r1 h => κ (.sl r1) h)) (fun v h hr => by unfold zf56.ret at hr; split at hr; exact hr; exact hr.elim) ?_
    exact calls_of_pts (E := zf56.E (fun r1 h => κ (.sl r1) h) [(5, ([0, 6], zf56.k5 (fun a1 a2 h => zf56.j5  a1 a2 (fun r1 h => κ (.sl r1) h) h))), (8, ([7, 8], zf56.k8 (fun a1 a2 h => zf56.j8  a1 a2 (fun r1 h => κ (.sl r1) h) h)))]) (envOK seatOK zf56.callsOK noIfc_ok) seatOK.mixed zf56.fun (Nat.le_of_ble_eq_true rfl) wv (cutL_ok ⟨(zf56.s5 (fun r1 h => κ (.sl r1) h)), (zf56.s8 (fun r1 h => κ (.sl r1) h)), trivial⟩) s (fuel := 3000) (by rw [← zf56.e]; exact hx)
  · exact hx.elim

noncomputable def zf79.code : Code := Go.Proofs.Tryz.f65.body.getD .skip

theorem zf79.fun : Fun sg.P 65 15 [.tmp 6] zf79.code := mkFun Go.Proofs.Tryz.func65 (by kernel_rfl) (by kernel_rfl) (by kernel_rfl) (by kernel_rfl)

def zf79.ret (Q : Bool → Heap → Prop) (v : V) (h : Heap) : Prop :=
  match v with
  | .bool r1 => Q r1 h
  | _ => False

def zf79.C (vs : List V) (κ : V → Heap → Prop) (h : Heap) : Prop :=
  match vs with
  | [.int .i64 a1, .int .i64 a2, .int .i64 a3] => zf79 a1 a2 a3 (fun r1 h => κ (.bool r1) h) h
  | _ => False

noncomputable def zf79.calls : List (Nat × (List V → (V → Heap → Prop) → Heap → Prop)) := []

noncomputable def zf79.E (Q : Bool → Heap → Prop) (cuts : List (Nat × (List Nat × (List V → Heap → Prop)))) : Env := { tis := tisT, fns := fnsT, tys := tysT, gls := [], rts := rtsT, unk := [], nxt := [], calls := zf79.calls, ifc := noIfc, cuts := cuts, ret := zf79.ret Q, rets := [.tmp 6], n := 15 }

theorem zf79.callsOK {W0 : World} : CallsOK sg W0 zf79.calls := trivial

theorem zf79.e : ∀ (a1 : Int) (a2 : Int) (a3 : Int) (Q : Bool → Heap → Prop) (h : Heap), zf79 a1 a2 a3 Q h = pts (zf79.E Q []) 3000 true [.code zf79.code] (frOf 0 [.int .i64 a1, .int .i64 a2, .int .i64 a3]) h := by
  intros; kernel_rfl

theorem zf79.S {W0 : World} : FnS sg W0 169 zf79.C := by
  intro vs κ h wv hx w s
  unfold zf79.C at hx
  split at hx
  · rename_i a1 a2 a3
    refine postImp (ret := zf79.ret (fun r1 h => κ (.bool r1) h)) (fun v h hr => by unfold zf79.ret at hr; split at hr; exact hr; exact hr.elim) ?_
    exact calls_of_pts (E := zf79.E (fun r1 h => κ (.bool r1) h) []) (envOK seatOK zf79.callsOK noIfc_ok) seatOK.mixed zf79.fun (Nat.le_of_ble_eq_true rfl) wv (cutL_ok trivial) s (fuel := 3000) (by rw [← zf79.e]; exact hx)
  · exact hx.elim

noncomputable def zf76.code : Code := Go.Proofs.Tryz.f34.body.getD .skip

theorem zf76.fun : Fun sg.P 34 15 [.tmp 4] zf76.code := mkFun Go.Proofs.Tryz.func34 (by kernel_rfl) (by kernel_rfl) (by kernel_rfl) (by kernel_rfl)

def zf76.ret (Q : Int → Heap → Prop) (v : V) (h : Heap) : Prop :=
  match v with
  | .int .i64 r1 => Q r1 h
  | _ => False

def zf76.C (vs : List V) (κ : V → Heap → Prop) (h : Heap) : Prop :=
  match vs with
  | [.int .i64 a1, .int .i64 a2] => zf76 a1 a2 (fun r1 h => κ (.int .i64 r1) h) h
  | _ => False

noncomputable def zf76.calls : List (Nat × (List V → (V → Heap → Prop) → Heap → Prop)) := [(169, zf79.C)]

noncomputable def zf76.E (Q : Int → Heap → Prop) (cuts : List (Nat × (List Nat × (List V → Heap → Prop)))) : Env := { tis := tisT, fns := fnsT, tys := tysT, gls := [], rts := rtsT, unk := [], nxt := [], calls := zf76.calls, ifc := noIfc, cuts := cuts, ret := zf76.ret Q, rets := [.tmp 4], n := 15 }

theorem zf76.callsOK {W0 : World} : CallsOK sg W0 zf76.calls := ⟨zf79.S, trivial⟩

theorem zf76.e : ∀ (a1 : Int) (a2 : Int) (Q : Int → Heap → Prop) (h : Heap), zf76 a1 a2 Q h = pts (zf76.E Q []) 3000 true [.code zf76.code] (frOf 0 [.int .i64 a1, .int .i64 a2]) h := by
  intros; kernel_rfl

theorem zf76.S {W0 : World} : FnS sg W0 176 zf76.C := by
  intro vs κ h wv hx w s
  unfold zf76.C at hx
  split at hx
  · rename_i a1 a2
    refine postImp (ret := zf76.ret (fun r1 h => κ (.int .i64 r1) h)) (fun v h hr => by unfold zf76.ret at hr; split at hr; exact hr; exact hr.elim) ?_
    exact calls_of_pts (E := zf76.E (fun r1 h => κ (.int .i64 r1) h) []) (envOK seatOK zf76.callsOK noIfc_ok) seatOK.mixed zf76.fun (Nat.le_of_ble_eq_true rfl) wv (cutL_ok trivial) s (fuel := 3000) (by rw [← zf76.e]; exact hx)
  · exact hx.elim

noncomputable def zf74.code : Code := Go.Proofs.Tryz.f119.body.getD .skip

theorem zf74.fun : Fun sg.P 119 14 [.tmp 4] zf74.code := mkFun Go.Proofs.Tryz.func119 (by kernel_rfl) (by kernel_rfl) (by kernel_rfl) (by kernel_rfl)

def zf74.ret (Q : Bool → Heap → Prop) (v : V) (h : Heap) : Prop :=
  match v with
  | .bool r1 => Q r1 h
  | _ => False

def zf74.C (vs : List V) (κ : V → Heap → Prop) (h : Heap) : Prop :=
  match vs with
  | [.int .i64 a1, .int .i64 a2] => zf74 a1 a2 (fun r1 h => κ (.bool r1) h) h
  | _ => False

noncomputable def zf74.calls : List (Nat × (List V → (V → Heap → Prop) → Heap → Prop)) := [(176, zf76.C), (169, zf79.C)]

noncomputable def zf74.E (Q : Bool → Heap → Prop) (cuts : List (Nat × (List Nat × (List V → Heap → Prop)))) : Env := { tis := tisT, fns := fnsT, tys := tysT, gls := [], rts := rtsT, unk := [], nxt := [], calls := zf74.calls, ifc := noIfc, cuts := cuts, ret := zf74.ret Q, rets := [.tmp 4], n := 14 }

theorem zf74.callsOK {W0 : World} : CallsOK sg W0 zf74.calls := ⟨zf76.S, zf79.S, trivial⟩

theorem zf74.e : ∀ (a1 : Int) (a2 : Int) (Q : Bool → Heap → Prop) (h : Heap), zf74 a1 a2 Q h = pts (zf74.E Q []) 3000 true [.code zf74.code] (frOf 0 [.int .i64 a1, .int .i64 a2]) h := by
  intros; kernel_rfl

theorem zf74.S {W0 : World} : FnS sg W0 177 zf74.C := by
  intro vs κ h wv hx w s
  unfold zf74.C at hx
  split at hx
  · rename_i a1 a2
    refine postImp (ret := zf74.ret (fun r1 h => κ (.bool r1) h)) (fun v h hr => by unfold zf74.ret at hr; split at hr; exact hr; exact hr.elim) ?_
    exact calls_of_pts (E := zf74.E (fun r1 h => κ (.bool r1) h) []) (envOK seatOK zf74.callsOK noIfc_ok) seatOK.mixed zf74.fun (Nat.le_of_ble_eq_true rfl) wv (cutL_ok trivial) s (fuel := 3000) (by rw [← zf74.e]; exact hx)
  · exact hx.elim

noncomputable def zf19.code : Code := Go.Proofs.Tryz.f89.body.getD .skip

theorem zf19.fun : Fun sg.P 89 41 [.tmp 6] zf19.code := mkFun Go.Proofs.Tryz.func89 (by kernel_rfl) (by kernel_rfl) (by kernel_rfl) (by kernel_rfl)

def zf19.ret (Q : Bool → Heap → Prop) (v : V) (h : Heap) : Prop :=
  match v with
  | .bool r1 => Q r1 h
  | _ => False

def zf19.C (vs : List V) (κ : V → Heap → Prop) (h : Heap) : Prop :=
  match vs with
  | [.int .i64 a1, .int .i64 a2, .int .i64 a3] => zf19 a1 a2 a3 (fun r1 h => κ (.bool r1) h) h
  | _ => False

noncomputable def zf19.calls : List (Nat × (List V → (V → Heap → Prop) → Heap → Prop)) := [(177, zf74.C)]

noncomputable def zf19.E (Q : Bool → Heap → Prop) (cuts : List (Nat × (List Nat × (List V → Heap → Prop)))) : Env := { tis := tisT, fns := fnsT, tys := tysT, gls := [], rts := rtsT, unk := [], nxt := [], calls := zf19.calls, ifc := noIfc, cuts := cuts, ret := zf19.ret Q, rets := [.tmp 6], n := 41 }

theorem zf19.callsOK {W0 : World} : CallsOK sg W0 zf19.calls := ⟨zf74.S, trivial⟩

def zf19.k5 (I : Int → Heap → Prop) (vs : List V) (h : Heap) : Prop :=
  match vs with
  | [.int .i64 a1] => I a1 h
  | _ => False

def zf19.k9 (I : Int → Heap → Prop) (vs : List V) (h : Heap) : Prop :=
  match vs with
  | [.int .i64 a1] => I a1 h
  | _ => False

theorem zf19.p5 : (posC zf19.code []).filter (fun p => Nat.beq p.1 5) = [(5, atPos (posC zf19.code []) 5)] := by kernel_rfl

theorem zf19.e5 : ∀  (a1 : Int) (Q : Bool → Heap → Prop) (h : Heap), zf19.j5  a1 Q h = pts (zf19.E Q []) 3000 true (atPos (posC zf19.code []) 5) (frAt [2] [.int .i64 a1]) h := by
  intros; kernel_rfl

theorem zf19.s5 {W0 : World} (Q : Bool → Heap → Prop)   : CutOK sg W0 41 (entered 89) (Post sg W0 (zf19.ret Q)) (posC zf19.code []) 5 [2] (zf19.k5 (fun a1 h => zf19.j5  a1 Q h)) := by
  refine cutOK_head (fun vs h hk => ?_)
  unfold zf19.k5 at hk
  split at hk
  · rename_i a1
    intro todo hm ρ a w s f hp
    exact piece (E := zf19.E Q []) (vs := [.int .i64 a1]) (envOK seatOK zf19.callsOK noIfc_ok) (fnOK seatOK zf19.fun) trivial zf19.p5 (fuel := 3000) (by rw [← zf19.e5]; exact hk) hm s f hp
  · exact hk.elim

theorem zf19.p9 : (posC zf19.code []).filter (fun p => Nat.beq p.1 9) = [(9, atPos (posC zf19.code []) 9)] := by kernel_rfl

theorem zf19.e9 : ∀  (a1 : Int) (Q : Bool → Heap → Prop) (h : Heap), zf19.j9  a1 Q h = pts (zf19.E Q []) 3000 true (atPos (posC zf19.code []) 9) (frAt [2] [.int .i64 a1]) h := by
  intros; kernel_rfl

theorem zf19.s9 {W0 : World} (Q : Bool → Heap → Prop)   : CutOK sg W0 41 (entered 89) (Post sg W0 (zf19.ret Q)) (posC zf19.code []) 9 [2] (zf19.k9 (fun a1 h => zf19.j9  a1 Q h)) := by
  refine cutOK_head (fun vs h hk => ?_)
  unfold zf19.k9 at hk
  split at hk
  · rename_i a1
    intro todo hm ρ a w s f hp
    exact piece (E := zf19.E Q []) (vs := [.int .i64 a1]) (envOK seatOK zf19.callsOK noIfc_ok) (fnOK seatOK zf19.fun) trivial zf19.p9 (fuel := 3000) (by rw [← zf19.e9]; exact hk) hm s f hp
  · exact hk.elim

theorem zf19.e : ∀ (a1 : Int) (a2 : Int) (a3 : Int) (Q : Bool → Heap → Prop) (h : Heap), zf19 a1 a2 a3 Q h = pts (zf19.E Q [(5, ([2], zf19.k5 (fun a1 h => zf19.j5  a1 Q h))), (9, ([2], zf19.k9 (fun a1 h => zf19.j9  a1 Q h)))]) 3000 true [.code zf19.code] (frOf 0 [.int .i64 a1, .int .i64 a2, .int .i64 a3]) h := by
  intros; kernel_rfl

theorem zf19.S {W0 : World} : FnS sg W0 178 zf19.C := by
  intro vs κ h wv hx w s
  unfold zf19.C at hx
  split at hx
  · rename_i a1 a2 a3
    refine postImp (ret := zf19.ret (fun r1 h => κ (.bool r1) h)) (fun v h hr => by unfold zf19.ret at hr; split at hr; exact hr; exact hr.elim) ?_
    exact calls_of_pts (E := zf19.E (fun r1 h => κ (.bool r1) h) [(5, ([2], zf19.k5 (fun a1 h => zf19.j5  a1 (fun r1 h => κ (.bool r1) h) h))), (9, ([2], zf19.k9 (fun a1 h => zf19.j9  a1 (fun r1 h => κ (.bool r1) h) h)))]) (envOK seatOK zf19.callsOK noIfc_ok) seatOK.mixed zf19.fun (Nat.le_of_ble_eq_true rfl) wv (cutL_ok ⟨(zf19.s5 (fun r1 h => κ (.bool r1) h)), (zf19.s9 (fun r1 h => κ (.bool r1) h)), trivial⟩) s (fuel := 3000) (by rw [← zf19.e]; exact hx)
  · exact hx.elim

noncomputable def zf18.code : Code := Go.Proofs.Tryz.f66.body.getD .skip

theorem zf18.fun : Fun sg.P 66 94 [.tmp 2] zf18.code := mkFun Go.Proofs.Tryz.func66 (by kernel_rfl) (by kernel_rfl) (by kernel_rfl) (by kernel_rfl)

def zf18.ret (Q : Bool → Heap → Prop) (v : V) (h : Heap) : Prop :=
  match v with
  | .bool r1 => Q r1 h
  | _ => False

def zf18.C (vs : List V) (κ : V → Heap → Prop) (h : Heap) : Prop :=
  match vs with
  | [.agg [.int .i64 a1, .int .i64 a2, .int .i64 a3, .int .i64 a4, .int .i64 a5]] => zf18 a1 a2 a3 a4 a5 (fun r1 h => κ (.bool r1) h) h
  | _ => False

noncomputable def zf18.calls : List (Nat × (List V → (V → Heap → Prop) → Heap → Prop)) := [(175, zf17.C), (178, zf19.C)]

noncomputable def zf18.E (Q : Bool → Heap → Prop) (cuts : List (Nat × (List Nat × (List V → Heap → Prop)))) : Env := { tis := tisT, fns := fnsT, tys := tysT, gls := [], rts := rtsT, unk := [], nxt := [], calls := zf18.calls, ifc := noIfc, cuts := cuts, ret := zf18.ret Q, rets := [.tmp 2], n := 94 }

theorem zf18.callsOK {W0 : World} : CallsOK sg W0 zf18.calls := ⟨zf17.S, zf19.S, trivial⟩

def zf18.k3 (I : Heap → Prop) (vs : List V) (h : Heap) : Prop :=
  match vs with
  | [] => I  h
  | _ => False

def zf18.k8 (I : Heap → Prop) (vs : List V) (h : Heap) : Prop :=
  match vs with
  | [] => I  h
  | _ => False

def zf18.k9 (I : Sl → Int → Int → Heap → Prop) (vs : List V) (h : Heap) : Prop :=
  match vs with
  | [.sl a1, .int .i64 a2, .int .i64 a3] => I a1 a2 a3 h
  | _ => False

def zf18.k5 (I : Sl → Int → Int → Heap → Prop) (vs : List V) (h : Heap) : Prop :=
  match vs with
  | [.sl a1, .int .i64 a2, .int .i64 a3] => I a1 a2 a3 h
  | _ => False

def zf18.k4 (I : Ptr → Int → Heap → Prop) (vs : List V) (h : Heap) : Prop :=
  match vs with
  | [.ptr (some a1), .int .i64 a2] => I a1 a2 h
  | _ => False

theorem zf18.p3 : (posC zf18.code []).filter (fun p => Nat.beq p.1 3) = [(3, atPos (posC zf18.code []) 3)] := by kernel_rfl

theorem zf18.e3 : ∀   (Q : Bool → Heap → Prop) (h : Heap), zf18.j3   Q h = pts (zf18.E Q []) 3000 true (atPos (posC zf18.code []) 3) (frAt [] []) h := by
  intros; kernel_rfl

theorem zf18.s3 {W0 : World} (Q : Bool → Heap → Prop)   : CutOK sg W0 94 (entered 66) (Post sg W0 (zf18.ret Q)) (posC zf18.code []) 3 [] (zf18.k3 (fun  h => zf18.j3   Q h)) := by
  refine cutOK_head (fun vs h hk => ?_)
  unfold zf18.k3 at hk
  split at hk
  · skip
    intro todo hm ρ a w s f hp
    exact piece (E := zf18.E Q []) (vs := []) (envOK seatOK zf18.callsOK noIfc_ok) (fnOK seatOK zf18.fun) trivial zf18.p3 (fuel := 3000) (by rw [← zf18.e3]; exact hk) hm s f hp
  · exact hk.elim

theorem zf18.p8 : (posC zf18.code []).filter (fun p => Nat.beq p.1 8) = [(8, atPos (posC zf18.code []) 8)] := by kernel_rfl

theorem zf18.e8 : ∀ (I5 : Sl → Int → Int → Heap → Prop)  (Q : Bool → Heap → Prop) (h : Heap), zf18.j8 I5  Q h = pts (zf18.E Q []) 3000 true (atPos (posC zf18.code []) 8) (frAt [] []) h := by
  intros; kernel_rfl

theorem zf18.s8 {W0 : World} (Q : Bool → Heap → Prop) (I5 : Sl → Int → Int → Heap → Prop) (h5 : CutOK sg W0 94 (entered 66) (Post sg W0 (zf18.ret Q)) (posC zf18.code []) 5 [69, 70, 71] (zf18.k5 I5)) : CutOK sg W0 94 (entered 66) (Post sg W0 (zf18.ret Q)) (posC zf18.code []) 8 [] (zf18.k8 (fun  h => zf18.j8 I5  Q h)) := by
  refine cutOK_head (fun vs h hk => ?_)
  unfold zf18.k8 at hk
  split at hk
  · skip
    intro todo hm ρ a w s f hp
    exact piece (E := zf18.E Q []) (vs := []) (envOK seatOK zf18.callsOK noIfc_ok) (fnOK seatOK zf18.fun) trivial zf18.p8 (fuel := 3000) (by rw [← zf18.e8]; exact hk) hm s f hp
  · exact hk.elim

theorem zf18.p9 : (posC zf18.code []).filter (fun p => Nat.beq p.1 9) = [(9, atPos (posC zf18.code []) 9)] := by kernel_rfl

theorem zf18.e9 : ∀ (I5 : Sl → Int → Int → Heap → Prop) (a1 : Sl) (a2 : Int) (a3 : Int) (Q : Bool → Heap → Prop) (h : Heap), zf18.j9 I5 a1 a2 a3 Q h = pts (zf18.E Q [(5, ([69, 70, 71], zf18.k5 I5))]) 3000 true (atPos (posC zf18.code []) 9) (frAt [69, 70, 71] [.sl a1, .int .i64 a2, .int .i64 a3]) h := by
  intros; kernel_rfl

theorem zf18.s9 {W0 : World} (Q : Bool → Heap → Prop) (I5 : Sl → Int → Int → Heap → Prop) (h5 : CutOK sg W0 94 (entered 66) (Post sg W0 (zf18.ret Q)) (posC zf18.code []) 5 [69, 70, 71] (zf18.k5 I5)) : CutOK sg W0 94 (entered 66) (Post sg W0 (zf18.ret Q)) (posC zf18.code []) 9 [69, 70, 71] (zf18.k9 (fun a1 a2 a3 h => zf18.j9 I5 a1 a2 a3 Q h)) := by
  refine cutOK_head (fun vs h hk => ?_)
  unfold zf18.k9 at hk
  split at hk
  · rename_i a1 a2 a3
    intro todo hm ρ a w s f hp
    exact piece (E := zf18.E Q [(5, ([69, 70, 71], zf18.k5 I5))]) (vs := [.sl a1, .int .i64 a2, .int .i64 a3]) (envOK seatOK zf18.callsOK noIfc_ok) (fnOK seatOK zf18.fun) ⟨h5, trivial⟩ zf18.p9 (fuel := 3000) (by rw [← zf18.e9]; exact hk) hm s f hp
  · exact hk.elim

theorem zf18.p5 : (posC zf18.code []).filter (fun p => Nat.beq p.1 5) = [(5, atPos (posC zf18.code []) 5)] := by kernel_rfl

theorem zf18.e5 : ∀  (I5 : Sl → Int → Int → Heap → Prop) (a1 : Sl) (a2 : Int) (a3 : Int) (Q : Bool → Heap → Prop) (h : Heap), zf18.b5  I5 a1 a2 a3 Q h = pts (zf18.E Q [(8, ([], zf18.k8 (fun  h => zf18.j8 I5  Q h))), (9, ([69, 70, 71], zf18.k9 (fun a1 a2 a3 h => zf18.j9 I5 a1 a2 a3 Q h)))]) 3000 true (atPos (posC zf18.code []) 5) (frAt [69, 70, 71] [.sl a1, .int .i64 a2, .int .i64 a3]) h := by
  intros; kernel_rfl

theorem zf18.s5 {W0 : World} (Q : Bool → Heap → Prop)   : CutOK sg W0 94 (entered 66) (Post sg W0 (zf18.ret Q)) (posC zf18.code []) 5 [69, 70, 71] (zf18.k5 (fun a1 a2 a3 h => zf18.j5  a1 a2 a3 Q h)) := by
  refine cutOK_head (fun vs h hk => ?_)
  unfold zf18.k5 at hk
  split at hk
  · rename_i a1 a2 a3
    refine hk (fun a1 a2 a3 h => Head sg W0 94 (entered 66) (Post sg W0 (zf18.ret Q)) (posC zf18.code []) 5 [69, 70, 71] [.sl a1, .int .i64 a2, .int .i64 a3] h) ?_
    intro a1 a2 a3 h hb todo hm ρ a w s f hp
    have hself : CutOK sg W0 94 (entered 66) (Post sg W0 (zf18.ret Q)) (posC zf18.code []) 5 [69, 70, 71] (zf18.k5 (fun a1 a2 a3 h => Head sg W0 94 (entered 66) (Post sg W0 (zf18.ret Q)) (posC zf18.code []) 5 [69, 70, 71] [.sl a1, .int .i64 a2, .int .i64 a3] h)) := cutOK_head (fun vs h hk => by unfold zf18.k5 at hk; split at hk; exact hk; exact hk.elim)
    exact piece (E := zf18.E Q [(8, ([], zf18.k8 (fun  h => zf18.j8 (fun a1 a2 a3 h => Head sg W0 94 (entered 66) (Post sg W0 (zf18.ret Q)) (posC zf18.code []) 5 [69, 70, 71] [.sl a1, .int .i64 a2, .int .i64 a3] h)  Q h))), (9, ([69, 70, 71], zf18.k9 (fun a1 a2 a3 h => zf18.j9 (fun a1 a2 a3 h => Head sg W0 94 (entered 66) (Post sg W0 (zf18.ret Q)) (posC zf18.code []) 5 [69, 70, 71] [.sl a1, .int .i64 a2, .int .i64 a3] h) a1 a2 a3 Q h)))]) (vs := [.sl a1, .int .i64 a2, .int .i64 a3]) (envOK seatOK zf18.callsOK noIfc_ok) (fnOK seatOK zf18.fun) ⟨(zf18.s8 Q (fun a1 a2 a3 h => Head sg W0 94 (entered 66) (Post sg W0 (zf18.ret Q)) (posC zf18.code []) 5 [69, 70, 71] [.sl a1, .int .i64 a2, .int .i64 a3] h) hself), (zf18.s9 Q (fun a1 a2 a3 h => Head sg W0 94 (entered 66) (Post sg W0 (zf18.ret Q)) (posC zf18.code []) 5 [69, 70, 71] [.sl a1, .int .i64 a2, .int .i64 a3] h) hself), trivial⟩ zf18.p5 (fuel := 3000) (by rw [← zf18.e5]; exact hb) hm s f hp
  · exact hk.elim

theorem zf18.p4 : (posC zf18.code []).filter (fun p => Nat.beq p.1 4) = [(4, atPos (posC zf18.code []) 4)] := by kernel_rfl

theorem zf18.e4 : ∀  (a1 : Ptr) (a2 : Int) (Q : Bool → Heap → Prop) (h : Heap), zf18.j4  a1 a2 Q h = pts (zf18.E Q [(5, ([69, 70, 71], zf18.k5 (fun a1 a2 a3 h => zf18.j5  a1 a2 a3 Q h)))]) 3000 true (atPos (posC zf18.code []) 4) (frAt [1, 3] [.ptr (some a1), .int .i64 a2]) h := by
  intros; kernel_rfl

theorem zf18.s4 {W0 : World} (Q : Bool → Heap → Prop)   : CutOK sg W0 94 (entered 66) (Post sg W0 (zf18.ret Q)) (posC zf18.code []) 4 [1, 3] (zf18.k4 (fun a1 a2 h => zf18.j4  a1 a2 Q h)) := by
  refine cutOK_head (fun vs h hk => ?_)
  unfold zf18.k4 at hk
  split at hk
  · rename_i a1 a2
    intro todo hm ρ a w s f hp
    exact piece (E := zf18.E Q [(5, ([69, 70, 71], zf18.k5 (fun a1 a2 a3 h => zf18.j5  a1 a2 a3 Q h)))]) (vs := [.ptr (some a1), .int .i64 a2]) (envOK seatOK zf18.callsOK noIfc_ok) (fnOK seatOK zf18.fun) ⟨(zf18.s5 Q  ), trivial⟩ zf18.p4 (fuel := 3000) (by rw [← zf18.e4]; exact hk) hm s f hp
  · exact hk.elim

theorem zf18.e : ∀ (a1 : Int) (a2 : Int) (a3 : Int) (a4 : Int) (a5 : Int) (Q : Bool → Heap → Prop) (h : Heap), zf18 a1 a2 a3 a4 a5 Q h = pts (zf18.E Q [(3, ([], zf18.k3 (fun  h => zf18.j3   Q h))), (4, ([1, 3], zf18.k4 (fun a1 a2 h => zf18.j4  a1 a2 Q h)))]) 3000 true [.code zf18.code] (frOf 0 [.agg [.int .i64 a1, .int .i64 a2, .int .i64 a3, .int .i64 a4, .int .i64 a5]]) h := by
  intros; kernel_rfl

theorem zf18.S {W0 : World} : FnS sg W0 179 zf18.C := by
  intro vs κ h wv hx w s
  unfold zf18.C at hx
  split at hx
  · rename_i a1 a2 a3 a4 a5
    refine postImp (ret := zf18.ret (fun r1 h => κ (.bool r1) h)) (fun v h hr => by unfold zf18.ret at hr; split at hr; exact hr; exact hr.elim) ?_
    exact calls_of_pts (E := zf18.E (fun r1 h => κ (.bool r1) h) [(3, ([], zf18.k3 (fun  h => zf18.j3   (fun r1 h => κ (.bool r1) h) h))), (4, ([1, 3], zf18.k4 (fun a1 a2 h => zf18.j4  a1 a2 (fun r1 h => κ (.bool r1) h) h)))]) (envOK seatOK zf18.callsOK noIfc_ok) seatOK.mixed zf18.fun (Nat.le_of_ble_eq_true rfl) wv (cutL_ok ⟨(zf18.s3 (fun r1 h => κ (.bool r1) h)), (zf18.s4 (fun r1 h => κ (.bool r1) h)), trivial⟩) s (fuel := 3000) (by rw [← zf18.e]; exact hx)
  · exact hx.elim

noncomputable def zf77.code : Code := Go.Proofs.Tryz.f62.body.getD .skip

theorem zf77.fun : Fun sg.P 62 17 [.tmp 4] zf77.code := mkFun Go.Proofs.Tryz.func62 (by kernel_rfl) (by kernel_rfl) (by kernel_rfl) (by kernel_rfl)

def zf77.ret (Q : Bool → Heap → Prop) (v : V) (h : Heap) : Prop :=
  match v with
  | .bool r1 => Q r1 h
  | _ => False

def zf77.C (vs : List V) (κ : V → Heap → Prop) (h : Heap) : Prop :=
  match vs with
  | [.int .i64 a1, .int .i64 a2] => zf77 a1 a2 (fun r1 h => κ (.bool r1) h) h
  | _ => False

noncomputable def zf77.calls : List (Nat × (List V → (V → Heap → Prop) → Heap → Prop)) := [(169, zf79.C)]

noncomputable def zf77.E (Q : Bool → Heap → Prop) (cuts : List (Nat × (List Nat × (List V → Heap → Prop)))) : Env := { tis := tisT, fns := fnsT, tys := tysT, gls := [], rts := rtsT, unk := [], nxt := [], calls := zf77.calls, ifc := noIfc, cuts := cuts, ret := zf77.ret Q, rets := [.tmp 4], n := 17 }

theorem zf77.callsOK {W0 : World} : CallsOK sg W0 zf77.calls := ⟨zf79.S, trivial⟩

theorem zf77.e : ∀ (a1 : Int) (a2 : Int) (Q : Bool → Heap → Prop) (h : Heap), zf77 a1 a2 Q h = pts (zf77.E Q []) 3000 true [.code zf77.code] (frOf 0 [.int .i64 a1, .int .i64 a2]) h := by
  intros; kernel_rfl

theorem zf77.S {W0 : World} : FnS sg W0 170 zf77.C := by
  intro vs κ h wv hx w s
  unfold zf77.C at hx
  split at hx
  · rename_i a1 a2
    refine postImp (ret := zf77.ret (fun r1 h => κ (.bool r1) h)) (fun v h hr => by unfold zf77.ret at hr; split at hr; exact hr; exact hr.elim) ?_
    exact calls_of_pts (E := zf77.E (fun r1 h => κ (.bool r1) h) []) (envOK seatOK zf77.callsOK noIfc_ok) seatOK.mixed zf77.fun (Nat.le_of_ble_eq_true rfl) wv (cutL_ok trivial) s (fuel := 3000) (by rw [← zf77.e]; exact hx)
  · exact hx.elim

noncomputable def zf78.code : Code := Go.Proofs.Tryz.f63.body.getD .skip

theorem zf78.fun : Fun sg.P 63 6 [.tmp 2] zf78.code := mkFun Go.Proofs.Tryz.func63 (by kernel_rfl) (by kernel_rfl) (by kernel_rfl) (by kernel_rfl)

def zf78.ret (Q : Int → Heap → Prop) (v : V) (h : Heap) : Prop :=
  match v with
  | .int .u64 r1 => Q r1 h
  | _ => False

def zf78.C (vs : List V) (κ : V → Heap → Prop) (h : Heap) : Prop :=
  match vs with
  | [.int .i64 a1] => zf78 a1 (fun r1 h => κ (.int .u64 r1) h) h
  | _ => False

noncomputable def zf78.calls : List (Nat × (List V → (V → Heap → Prop) → Heap → Prop)) := []

noncomputable def zf78.E (Q : Int → Heap → Prop) (cuts : List (Nat × (List Nat × (List V → Heap → Prop)))) : Env := { tis := tisT, fns := fnsT, tys := tysT, gls := [], rts := rtsT, unk := [], nxt := [], calls := zf78.calls, ifc := noIfc, cuts := cuts, ret := zf78.ret Q, rets := [.tmp 2], n := 6 }

theorem zf78.callsOK {W0 : World} : CallsOK sg W0 zf78.calls := trivial

theorem zf78.e : ∀ (a1 : Int) (Q : Int → Heap → Prop) (h : Heap), zf78 a1 Q h = pts (zf78.E Q []) 3000 true [.code zf78.code] (frOf 0 [.int .i64 a1]) h := by
  intros; kernel_rfl

theorem zf78.S {W0 : World} : FnS sg W0 171 zf78.C := by
  intro vs κ h wv hx w s
  unfold zf78.C at hx
  split at hx
  · rename_i a1
    refine postImp (ret := zf78.ret (fun r1 h => κ (.int .u64 r1) h)) (fun v h hr => by unfold zf78.ret at hr; split at hr; exact hr; exact hr.elim) ?_
    exact calls_of_pts (E := zf78.E (fun r1 h => κ (.int .u64 r1) h) []) (envOK seatOK zf78.callsOK noIfc_ok) seatOK.mixed zf78.fun (Nat.le_of_ble_eq_true rfl) wv (cutL_ok trivial) s (fuel := 3000) (by rw [← zf78.e]; exact hx)
  · exact hx.elim

noncomputable def zf75.code : Code := Go.Proofs.Tryz.f67.body.getD .skip

theorem zf75.fun : Fun sg.P 67 30 [.tmp 8] zf75.code := mkFun Go.Proofs.Tryz.func67 (by kernel_rfl) (by kernel_rfl) (by kernel_rfl) (by kernel_rfl)

def zf75.ret (Q : Int → Heap → Prop) (v : V) (h : Heap) : Prop :=
  match v with
  | .int .u32 r1 => Q r1 h
  | _ => False

def zf75.C (vs : List V) (κ : V → Heap → Prop) (h : Heap) : Prop :=
  match vs with
  | [.int .u32 a1, .int .i64 a2, .int .i64 a3, .int .i64 a4] => zf75 a1 a2 a3 a4 (fun r1 h => κ (.int .u32 r1) h) h
  | _ => False

noncomputable def zf75.calls : List (Nat × (List V → (V → Heap → Prop) → Heap → Prop)) := [(170, zf77.C), (171, zf78.C)]

noncomputable def zf75.E (Q : Int → Heap → Prop) (cuts : List (Nat × (List Nat × (List V → Heap → Prop)))) : Env := { tis := tisT, fns := fnsT, tys := tysT, gls := [], rts := rtsT, unk := [], nxt := [], calls := zf75.calls, ifc := noIfc, cuts := cuts, ret := zf75.ret Q, rets := [.tmp 8], n := 30 }

theorem zf75.callsOK {W0 : World} : CallsOK sg W0 zf75.calls := ⟨zf77.S, zf78.S, trivial⟩

theorem zf75.e : ∀ (a1 : Int) (a2 : Int) (a3 : Int) (a4 : Int) (Q : Int → Heap → Prop) (h : Heap), zf75 a1 a2 a3 a4 Q h = pts (zf75.E Q []) 3000 true [.code zf75.code] (frOf 0 [.int .u32 a1, .int .i64 a2, .int .i64 a3, .int .i64 a4]) h := by
  intros; kernel_rfl

theorem zf75.S {W0 : World} : FnS sg W0 180 zf75.C := by
  intro vs κ h wv hx w s
  unfold zf75.C at hx
  split at hx
  · rename_i a1 a2 a3 a4
    refine postImp (ret := zf75.ret (fun r1 h => κ (.int .u32 r1) h)) (fun v h hr => by unfold zf75.ret at hr; split at hr; exact hr; exact hr.elim) ?_
    exact calls_of_pts (E := zf75.E (fun r1 h => κ (.int .u32 r1) h) []) (envOK seatOK zf75.callsOK noIfc_ok) seatOK.mixed zf75.fun (Nat.le_of_ble_eq_true rfl) wv (cutL_ok trivial) s (fuel := 3000) (by rw [← zf75.e]; exact hx)
  · exact hx.elim

noncomputable def zf16.code : Code := Go.Proofs.Tryz.f35.body.getD .skip

theorem zf16.fun : Fun sg.P 35 43 [.tmp 2, .tmp 3] zf16.code := mkFun Go.Proofs.Tryz.func35 (by kernel_rfl) (by kernel_rfl) (by kernel_rfl) (by kernel_rfl)

def zf16.ret (Q : Int → Int → Heap → Prop) (v : V) (h : Heap) : Prop :=
  match v with
  | .tup [.int .u32 r1, .int .i64 r2] => Q r1 r2 h
  | _ => False

def zf16.C (vs : List V) (κ : V → Heap → Prop) (h : Heap) : Prop :=
  match vs with
  | [.agg [.int .i64 a1, .int .i64 a2, .int .i64 a3, .int .i64 a4, .int .i64 a5]] => zf16 a1 a2 a3 a4 a5 (fun r1 r2 h => κ (.tup [.int .u32 r1, .int .i64 r2]) h) h
  | _ => False

noncomputable def zf16.calls : List (Nat × (List V → (V → Heap → Prop) → Heap → Prop)) := [(175, zf17.C), (179, zf18.C), (180, zf75.C)]

noncomputable def zf16.E (Q : Int → Int → Heap → Prop) (cuts : List (Nat × (List Nat × (List V → Heap → Prop)))) : Env := { tis := tisT, fns := fnsT, tys := tysT, gls := [], rts := rtsT, unk := [], nxt := [], calls := zf16.calls, ifc := noIfc, cuts := cuts, ret := zf16.ret Q, rets := [.tmp 2, .tmp 3], n := 43 }

theorem zf16.callsOK {W0 : World} : CallsOK sg W0 zf16.calls := ⟨zf17.S, zf18.S, zf75.S, trivial⟩

def zf16.k4 (I : Ptr → Int → Heap → Prop) (vs : List V) (h : Heap) : Prop :=
  match vs with
  | [.ptr (some a1), .int .u32 a2] => I a1 a2 h
  | _ => False

theorem zf16.p4 : (posC zf16.code []).filter (fun p => Nat.beq p.1 4) = [(4, atPos (posC zf16.code []) 4)] := by kernel_rfl

theorem zf16.e4 : ∀  (a1 : Ptr) (a2 : Int) (Q : Int → Int → Heap → Prop) (h : Heap), zf16.j4  a1 a2 Q h = pts (zf16.E Q []) 3000 true (atPos (posC zf16.code []) 4) (frAt [1, 4] [.ptr (some a1), .int .u32 a2]) h := by
  intros; kernel_rfl

theorem zf16.s4 {W0 : World} (Q : Int → Int → Heap → Prop)   : CutOK sg W0 43 (entered 35) (Post sg W0 (zf16.ret Q)) (posC zf16.code []) 4 [1, 4] (zf16.k4 (fun a1 a2 h => zf16.j4  a1 a2 Q h)) := by
  refine cutOK_head (fun vs h hk => ?_)
  unfold zf16.k4 at hk
  split at hk
  · rename_i a1 a2
    intro todo hm ρ a w s f hp
    exact piece (E := zf16.E Q []) (vs := [.ptr (some a1), .int .u32 a2]) (envOK seatOK zf16.callsOK noIfc_ok) (fnOK seatOK zf16.fun) trivial zf16.p4 (fuel := 3000) (by rw [← zf16.e4]; exact hk) hm s f hp
  · exact hk.elim

theorem zf16.e : ∀ (a1 : Int) (a2 : Int) (a3 : Int) (a4 : Int) (a5 : Int) (Q : Int → Int → Heap → Prop) (h : Heap), zf16 a1 a2 a3 a4 a5 Q h = pts (zf16.E Q [(4, ([1, 4], zf16.k4 (fun a1 a2 h => zf16.j4  a1 a2 Q h)))]) 3000 true [.code zf16.code] (frOf 0 [.agg [.int .i64 a1, .int .i64 a2, .int .i64 a3, .int .i64 a4, .int .i64 a5]]) h := by
  intros; kernel_rfl

theorem zf16.S {W0 : World} : FnS sg W0 181 zf16.C := by
  intro vs κ h wv hx w s
  unfold zf16.C at hx
  split at hx
  · rename_i a1 a2 a3 a4 a5
    refine postImp (ret := zf16.ret (fun r1 r2 h => κ (.tup [.int .u32 r1, .int .i64 r2]) h)) (fun v h hr => by unfold zf16.ret at hr; split at hr; exact hr; exact hr.elim) ?_
    exact calls_of_pts (E := zf16.E (fun r1 r2 h => κ (.tup [.int .u32 r1, .int .i64 r2]) h) [(4, ([1, 4], zf16.k4 (fun a1 a2 h => zf16.j4  a1 a2 (fun r1 r2 h => κ (.tup [.int .u32 r1, .int .i64 r2]) h) h)))]) (envOK seatOK zf16.callsOK noIfc_ok) seatOK.mixed zf16.fun (Nat.le_of_ble_eq_true rfl) wv (cutL_ok ⟨(zf16.s4 (fun r1 r2 h => κ (.tup [.int .u32 r1, .int .i64 r2]) h)), trivial⟩) s (fuel := 3000) (by rw [← zf16.e]; exact hx)
  · exact hx.elim

end Go.Fn
