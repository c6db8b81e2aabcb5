/- The links of the shallow functions to the machine. PRINTED by lift.py. -/
import Derived.Test.YtcaeaolgijjjnaaGreatDoorGb1
set_option linter.unusedSimpArgs false
set_option linter.unusedVariables false

set_option linter.unusedVariables false
set_option maxRecDepth 100000
namespace Go.Fn
open Go.Lift

noncomputable def zf11.code : Code := Go.Proofs.Tryz.f23.body.getD .skip

theorem zf11.fun : Fun sg.P 23 78 [.tmp 2, .tmp 3] zf11.code := mkFun Go.Proofs.Tryz.func23 (by kernel_rfl) (by kernel_rfl) (by kernel_rfl) (by kernel_rfl)

def zf11.ret (Q : Sl → V → Heap → Prop) (v : V) (h : Heap) : Prop :=
  match v with
  | .tup [.sl r1, r2] => Q r1 r2 h
  | _ => False

def zf11.C (vs : List V) (κ : V → Heap → Prop) (h : Heap) : Prop :=
  match vs with
  | [.ptr a1] => zf11 a1 (fun r1 r2 h => κ (.tup [.sl r1, r2]) h) h
  | _ => False

noncomputable def zf11.calls : List (Nat × (List V → (V → Heap → Prop) → Heap → Prop)) := [(181, zf16.C), (364, zf56.C)]

noncomputable def zf11.E (Q : Sl → V → Heap → Prop) (cuts : List (Nat × (List Nat × (List V → Heap → Prop)))) : Env := { tis := tisT, fns := fnsT, tys := tysT, gls := [], rts := rtsT, unk := [], nxt := [], calls := zf11.calls, ifc := noIfc, cuts := cuts, ret := zf11.ret Q, rets := [.tmp 2, .tmp 3], n := 78 }

theorem zf11.callsOK {W0 : World} : CallsOK sg W0 zf11.calls := ⟨zf16.S, zf56.S, trivial⟩

def zf11.k16 (I : (Option Ptr) → Sl → Sl → Int → Int → Heap → Prop) (vs : List V) (h : Heap) : Prop :=
  match vs with
  | [.ptr a1, .sl a2, .sl a3, .int .i64 a4, .int .i64 a5] => I a1 a2 a3 a4 a5 h
  | _ => False

def zf11.k10 (I : Ptr → Heap → Prop) (vs : List V) (h : Heap) : Prop :=
  match vs with
  | [.ptr (some a1)] => I a1 h
  | _ => False

def zf11.k11 (I : (Option Ptr) → Sl → Ptr → Int → Sl → Int → Int → Heap → Prop) (vs : List V) (h : Heap) : Prop :=
  match vs with
  | [.ptr a1, .sl a2, .ptr (some a3), .int .i64 a4, .sl a5, .int .i64 a6, .int .i64 a7] => I a1 a2 a3 a4 a5 a6 a7 h
  | _ => False

def zf11.k3 (I : (Option Ptr) → Sl → Sl → Int → Int → Heap → Prop) (vs : List V) (h : Heap) : Prop :=
  match vs with
  | [.ptr a1, .sl a2, .sl a3, .int .i64 a4, .int .i64 a5] => I a1 a2 a3 a4 a5 h
  | _ => False

theorem zf11.p16 : (posC zf11.code []).filter (fun p => Nat.beq p.1 16) = [(16, atPos (posC zf11.code []) 16)] := by kernel_rfl

theorem zf11.e16 : ∀ (I3 : (Option Ptr) → Sl → Sl → Int → Int → Heap → Prop) (a1 : Option Ptr) (a2 : Sl) (a3 : Sl) (a4 : Int) (a5 : Int) (Q : Sl → V → Heap → Prop) (h : Heap), zf11.j16 I3 a1 a2 a3 a4 a5 Q h = pts (zf11.E Q [(3, ([0, 4, 14, 15, 16], zf11.k3 I3))]) 3000 true (atPos (posC zf11.code []) 16) (frAt [0, 4, 14, 15, 16] [.ptr a1, .sl a2, .sl a3, .int .i64 a4, .int .i64 a5]) h := by
  intros; kernel_rfl

theorem zf11.s16 {W0 : World} (Q : Sl → V → Heap → Prop) (I3 : (Option Ptr) → Sl → Sl → Int → Int → Heap → Prop) (h3 : CutOK sg W0 78 (entered 23) (Post sg W0 (zf11.ret Q)) (posC zf11.code []) 3 [0, 4, 14, 15, 16] (zf11.k3 I3)) : CutOK sg W0 78 (entered 23) (Post sg W0 (zf11.ret Q)) (posC zf11.code []) 16 [0, 4, 14, 15, 16] (zf11.k16 (fun a1 a2 a3 a4 a5 h => zf11.j16 I3 a1 a2 a3 a4 a5 Q h)) := by
  refine cutOK_head (fun vs h hk => ?_)
  unfold zf11.k16 at hk
  split at hk
  · rename_i a1 a2 a3 a4 a5
    intro todo hm ρ a w s f hp
    exact piece (E := zf11.E Q [(3, ([0, 4, 14, 15, 16], zf11.k3 I3))]) (vs := [.ptr a1, .sl a2, .sl a3, .int .i64 a4, .int .i64 a5]) (envOK seatOK zf11.callsOK noIfc_ok) (fnOK seatOK zf11.fun) ⟨h3, trivial⟩ zf11.p16 (fuel := 3000) (by rw [← zf11.e16]; exact hk) hm s f hp
  · exact hk.elim

theorem zf11.p10 : (posC zf11.code []).filter (fun p => Nat.beq p.1 10) = [(10, atPos (posC zf11.code []) 10)] := by kernel_rfl

theorem zf11.e10 : ∀ (I3 : (Option Ptr) → Sl → Sl → Int → Int → Heap → Prop) (a1 : Ptr) (Q : Sl → V → Heap → Prop) (h : Heap), zf11.j10 I3 a1 Q h = pts (zf11.E Q []) 3000 true (atPos (posC zf11.code []) 10) (frAt [6] [.ptr (some a1)]) h := by
  intros; kernel_rfl

theorem zf11.s10 {W0 : World} (Q : Sl → V → Heap → Prop) (I3 : (Option Ptr) → Sl → Sl → Int → Int → Heap → Prop) (h3 : CutOK sg W0 78 (entered 23) (Post sg W0 (zf11.ret Q)) (posC zf11.code []) 3 [0, 4, 14, 15, 16] (zf11.k3 I3)) : CutOK sg W0 78 (entered 23) (Post sg W0 (zf11.ret Q)) (posC zf11.code []) 10 [6] (zf11.k10 (fun a1 h => zf11.j10 I3 a1 Q h)) := by
  refine cutOK_head (fun vs h hk => ?_)
  unfold zf11.k10 at hk
  split at hk
  · rename_i a1
    intro todo hm ρ a w s f hp
    exact piece (E := zf11.E Q []) (vs := [.ptr (some a1)]) (envOK seatOK zf11.callsOK noIfc_ok) (fnOK seatOK zf11.fun) trivial zf11.p10 (fuel := 3000) (by rw [← zf11.e10]; exact hk) hm s f hp
  · exact hk.elim

theorem zf11.p11 : (posC zf11.code []).filter (fun p => Nat.beq p.1 11) = [(11, atPos (posC zf11.code []) 11)] := by kernel_rfl

theorem zf11.e11 : ∀ (I3 : (Option Ptr) → Sl → Sl → Int → Int → Heap → Prop) (a1 : Option Ptr) (a2 : Sl) (a3 : Ptr) (a4 : Int) (a5 : Sl) (a6 : Int) (a7 : Int) (Q : Sl → V → Heap → Prop) (h : Heap), zf11.j11 I3 a1 a2 a3 a4 a5 a6 a7 Q h = pts (zf11.E Q [(16, ([0, 4, 14, 15, 16], zf11.k16 (fun a1 a2 a3 a4 a5 h => zf11.j16 I3 a1 a2 a3 a4 a5 Q h)))]) 3000 true (atPos (posC zf11.code []) 11) (frAt [0, 4, 6, 7, 14, 15, 16] [.ptr a1, .sl a2, .ptr (some a3), .int .i64 a4, .sl a5, .int .i64 a6, .int .i64 a7]) h := by
  intros; kernel_rfl

theorem zf11.s11 {W0 : World} (Q : Sl → V → Heap → Prop) (I3 : (Option Ptr) → Sl → Sl → Int → Int → Heap → Prop) (h3 : CutOK sg W0 78 (entered 23) (Post sg W0 (zf11.ret Q)) (posC zf11.code []) 3 [0, 4, 14, 15, 16] (zf11.k3 I3)) : CutOK sg W0 78 (entered 23) (Post sg W0 (zf11.ret Q)) (posC zf11.code []) 11 [0, 4, 6, 7, 14, 15, 16] (zf11.k11 (fun a1 a2 a3 a4 a5 a6 a7 h => zf11.j11 I3 a1 a2 a3 a4 a5 a6 a7 Q h)) := by
  refine cutOK_head (fun vs h hk => ?_)
  unfold zf11.k11 at hk
  split at hk
  · rename_i a1 a2 a3 a4 a5 a6 a7
    intro todo hm ρ a w s f hp
    exact piece (E := zf11.E Q [(16, ([0, 4, 14, 15, 16], zf11.k16 (fun a1 a2 a3 a4 a5 h => zf11.j16 I3 a1 a2 a3 a4 a5 Q h)))]) (vs := [.ptr a1, .sl a2, .ptr (some a3), .int .i64 a4, .sl a5, .int .i64 a6, .int .i64 a7]) (envOK seatOK zf11.callsOK noIfc_ok) (fnOK seatOK zf11.fun) ⟨(zf11.s16 Q I3 h3), trivial⟩ zf11.p11 (fuel := 3000) (by rw [← zf11.e11]; exact hk) hm s f hp
  · exact hk.elim

theorem zf11.p3 : (posC zf11.code []).filter (fun p => Nat.beq p.1 3) = [(3, atPos (posC zf11.code []) 3)] := by kernel_rfl

theorem zf11.e3 : ∀  (I3 : (Option Ptr) → Sl → Sl → Int → Int → Heap → Prop) (a1 : Option Ptr) (a2 : Sl) (a3 : Sl) (a4 : Int) (a5 : Int) (Q : Sl → V → Heap → Prop) (h : Heap), zf11.b3  I3 a1 a2 a3 a4 a5 Q h = pts (zf11.E Q [(16, ([0, 4, 14, 15, 16], zf11.k16 (fun a1 a2 a3 a4 a5 h => zf11.j16 I3 a1 a2 a3 a4 a5 Q h))), (10, ([6], zf11.k10 (fun a1 h => zf11.j10 I3 a1 Q h))), (11, ([0, 4, 6, 7, 14, 15, 16], zf11.k11 (fun a1 a2 a3 a4 a5 a6 a7 h => zf11.j11 I3 a1 a2 a3 a4 a5 a6 a7 Q h)))]) 3000 true (atPos (posC zf11.code []) 3) (frAt [0, 4, 14, 15, 16] [.ptr a1, .sl a2, .sl a3, .int .i64 a4, .int .i64 a5]) h := by
  intros; kernel_rfl

theorem zf11.s3 {W0 : World} (Q : Sl → V → Heap → Prop)   : CutOK sg W0 78 (entered 23) (Post sg W0 (zf11.ret Q)) (posC zf11.code []) 3 [0, 4, 14, 15, 16] (zf11.k3 (fun a1 a2 a3 a4 a5 h => zf11.j3  a1 a2 a3 a4 a5 Q h)) := by
  refine cutOK_head (fun vs h hk => ?_)
  unfold zf11.k3 at hk
  split at hk
  · rename_i a1 a2 a3 a4 a5
    refine hk (fun a1 a2 a3 a4 a5 h => Head sg W0 78 (entered 23) (Post sg W0 (zf11.ret Q)) (posC zf11.code []) 3 [0, 4, 14, 15, 16] [.ptr a1, .sl a2, .sl a3, .int .i64 a4, .int .i64 a5] h) ?_
    intro a1 a2 a3 a4 a5 h hb todo hm ρ a w s f hp
    have hself : CutOK sg W0 78 (entered 23) (Post sg W0 (zf11.ret Q)) (posC zf11.code []) 3 [0, 4, 14, 15, 16] (zf11.k3 (fun a1 a2 a3 a4 a5 h => Head sg W0 78 (entered 23) (Post sg W0 (zf11.ret Q)) (posC zf11.code []) 3 [0, 4, 14, 15, 16] [.ptr a1, .sl a2, .sl a3, .int .i64 a4, .int .i64 a5] h)) := cutOK_head (fun vs h hk => by unfold zf11.k3 at hk; split at hk; exact hk; exact hk.elim)
    exact piece (E := zf11.E Q [(16, ([0, 4, 14, 15, 16], zf11.k16 (fun a1 a2 a3 a4 a5 h => zf11.j16 (fun a1 a2 a3 a4 a5 h => Head sg W0 78 (entered 23) (Post sg W0 (zf11.ret Q)) (posC zf11.code []) 3 [0, 4, 14, 15, 16] [.ptr a1, .sl a2, .sl a3, .int .i64 a4, .int .i64 a5] h) a1 a2 a3 a4 a5 Q h))), (10, ([6], zf11.k10 (fun a1 h => zf11.j10 (fun a1 a2 a3 a4 a5 h => Head sg W0 78 (entered 23) (Post sg W0 (zf11.ret Q)) (posC zf11.code []) 3 [0, 4, 14, 15, 16] [.ptr a1, .sl a2, .sl a3, .int .i64 a4, .int .i64 a5] h) a1 Q h))), (11, ([0, 4, 6, 7, 14, 15, 16], zf11.k11 (fun a1 a2 a3 a4 a5 a6 a7 h => zf11.j11 (fun a1 a2 a3 a4 a5 h => Head sg W0 78 (entered 23) (Post sg W0 (zf11.ret Q)) (posC zf11.code []) 3 [0, 4, 14, 15, 16] [.ptr a1, .sl a2, .sl a3, .int .i64 a4, .int .i64 a5] h) a1 a2 a3 a4 a5 a6 a7 Q h)))]) (vs := [.ptr a1, .sl a2, .sl a3, .int .i64 a4, .int .i64 a5]) (envOK seatOK zf11.callsOK noIfc_ok) (fnOK seatOK zf11.fun) ⟨(zf11.s16 Q (fun a1 a2 a3 a4 a5 h => Head sg W0 78 (entered 23) (Post sg W0 (zf11.ret Q)) (posC zf11.code []) 3 [0, 4, 14, 15, 16] [.ptr a1, .sl a2, .sl a3, .int .i64 a4, .int .i64 a5] h) hself), (zf11.s10 Q (fun a1 a2 a3 a4 a5 h => Head sg W0 78 (entered 23) (Post sg W0 (zf11.ret Q)) (posC zf11.code []) 3 [0, 4, 14, 15, 16] [.ptr a1, .sl a2, .sl a3, .int .i64 a4, .int .i64 a5] h) hself), (zf11.s11 Q (fun a1 a2 a3 a4 a5 h => Head sg W0 78 (entered 23) (Post sg W0 (zf11.ret Q)) (posC zf11.code []) 3 [0, 4, 14, 15, 16] [.ptr a1, .sl a2, .sl a3, .int .i64 a4, .int .i64 a5] h) hself), trivial⟩ zf11.p3 (fuel := 3000) (by rw [← zf11.e3]; exact hb) hm s f hp
  · exact hk.elim

theorem zf11.e : ∀ (a1 : Option Ptr) (Q : Sl → V → Heap → Prop) (h : Heap), zf11 a1 Q h = pts (zf11.E Q [(3, ([0, 4, 14, 15, 16], zf11.k3 (fun a1 a2 a3 a4 a5 h => zf11.j3  a1 a2 a3 a4 a5 Q h)))]) 3000 true [.code zf11.code] (frOf 0 [.ptr a1]) h := by
  intros; kernel_rfl

theorem zf11.S {W0 : World} : FnS sg W0 359 zf11.C := by
  intro vs κ h wv hx w s
  unfold zf11.C at hx
  split at hx
  · rename_i a1
    refine postImp (ret := zf11.ret (fun r1 r2 h => κ (.tup [.sl r1, r2]) h)) (fun v h hr => by unfold zf11.ret at hr; split at hr; exact hr; exact hr.elim) ?_
    exact calls_of_pts (E := zf11.E (fun r1 r2 h => κ (.tup [.sl r1, r2]) h) [(3, ([0, 4, 14, 15, 16], zf11.k3 (fun a1 a2 a3 a4 a5 h => zf11.j3  a1 a2 a3 a4 a5 (fun r1 r2 h => κ (.tup [.sl r1, r2]) h) h)))]) (envOK seatOK zf11.callsOK noIfc_ok) seatOK.mixed zf11.fun (Nat.le_of_ble_eq_true rfl) wv (cutL_ok ⟨(zf11.s3 (fun r1 r2 h => κ (.tup [.sl r1, r2]) h)), trivial⟩) s (fuel := 3000) (by rw [← zf11.e]; exact hx)
  · exact hx.elim

noncomputable def zf3.code : Code := Go.Proofs.Tryz.f12.body.getD .skip

theorem zf3.fun : Fun sg.P 12 40 [.tmp 4, .tmp 5, .tmp 6] zf3.code := mkFun Go.Proofs.Tryz.func12 (by kernel_rfl) (by kernel_rfl) (by kernel_rfl) (by kernel_rfl)

def zf3.ret (Q : (Option Ptr) → Sl → V → Heap → Prop) (v : V) (h : Heap) : Prop :=
  match v with
  | .tup [.ptr r1, .sl r2, r3] => Q r1 r2 r3 h
  | _ => False

def zf3.C (U : Ifc) (vs : List V) (κ : V → Heap → Prop) (h : Heap) : Prop :=
  match vs with
  | [.str a1, .int .u64 a2] => zf3 U a1 a2 (fun r1 r2 r3 h => κ (.tup [.ptr r1, .sl r2, r3]) h) h
  | _ => False

noncomputable def zf3.calls (U : Ifc) : List (Nat × (List V → (V → Heap → Prop) → Heap → Prop)) := [(358, zf9.C U), (359, zf11.C)]

noncomputable def zf3.E (U : Ifc) (Q : (Option Ptr) → Sl → V → Heap → Prop) (cuts : List (Nat × (List Nat × (List V → Heap → Prop)))) : Env := { tis := tisT, fns := fnsT, tys := tysT, gls := glsT, rts := rtsT, unk := [], nxt := [], calls := zf3.calls U, ifc := U, cuts := cuts, ret := zf3.ret Q, rets := [.tmp 4, .tmp 5, .tmp 6], n := 40 }

theorem zf3.callsOK {W0 : World} {U : Ifc} (hU : IfcOK sg W0 glsT U) : CallsOK sg W0 (zf3.calls U) := ⟨(zf9.S hU), zf11.S, trivial⟩

def zf3.k2 (I : Heap → Prop) (vs : List V) (h : Heap) : Prop :=
  match vs with
  | [] => I  h
  | _ => False

def zf3.k9 (I : (Option Ptr) → V → Sl → Heap → Prop) (vs : List V) (h : Heap) : Prop :=
  match vs with
  | [.ptr a1, a2, .sl a3] => I a1 a2 a3 h
  | _ => False

theorem zf3.p2 : (posC zf3.code []).filter (fun p => Nat.beq p.1 2) = [(2, atPos (posC zf3.code []) 2)] := by kernel_rfl

theorem zf3.e2 : ∀ (U : Ifc)   (Q : (Option Ptr) → Sl → V → Heap → Prop) (h : Heap), zf3.j2 U   Q h = pts (zf3.E U Q []) 3000 true (atPos (posC zf3.code []) 2) (frAt [] []) h := by
  intros; kernel_rfl

theorem zf3.s2 {W0 : World} {U : Ifc} (hU : IfcOK sg W0 glsT U) (Q : (Option Ptr) → Sl → V → Heap → Prop)   : CutOK sg W0 40 (entered 12) (Post sg W0 (zf3.ret Q)) (posC zf3.code []) 2 [] (zf3.k2 (fun  h => zf3.j2 U   Q h)) := by
  refine cutOK_head (fun vs h hk => ?_)
  unfold zf3.k2 at hk
  split at hk
  · skip
    intro todo hm ρ a w s f hp
    exact piece (E := zf3.E U Q []) (vs := []) (envOK seatOK (zf3.callsOK hU) hU) (fnOK seatOK zf3.fun) trivial zf3.p2 (fuel := 3000) (by rw [← zf3.e2]; exact hk) hm s f hp
  · exact hk.elim

theorem zf3.p9 : (posC zf3.code []).filter (fun p => Nat.beq p.1 9) = [(9, atPos (posC zf3.code []) 9)] := by kernel_rfl

theorem zf3.e9 : ∀ (U : Ifc)  (a1 : Option Ptr) (a2 : V) (a3 : Sl) (Q : (Option Ptr) → Sl → V → Heap → Prop) (h : Heap), zf3.j9 U  a1 a2 a3 Q h = pts (zf3.E U Q []) 3000 true (atPos (posC zf3.code []) 9) (frAt [7, 8, 9] [.ptr a1, a2, .sl a3]) h := by
  intros; kernel_rfl

theorem zf3.s9 {W0 : World} {U : Ifc} (hU : IfcOK sg W0 glsT U) (Q : (Option Ptr) → Sl → V → Heap → Prop)   : CutOK sg W0 40 (entered 12) (Post sg W0 (zf3.ret Q)) (posC zf3.code []) 9 [7, 8, 9] (zf3.k9 (fun a1 a2 a3 h => zf3.j9 U  a1 a2 a3 Q h)) := by
  refine cutOK_head (fun vs h hk => ?_)
  unfold zf3.k9 at hk
  split at hk
  · rename_i a1 a2 a3
    intro todo hm ρ a w s f hp
    exact piece (E := zf3.E U Q []) (vs := [.ptr a1, a2, .sl a3]) (envOK seatOK (zf3.callsOK hU) hU) (fnOK seatOK zf3.fun) trivial zf3.p9 (fuel := 3000) (by rw [← zf3.e9]; exact hk) hm s f hp
  · exact hk.elim

theorem zf3.e : ∀ (U : Ifc) (a1 : List UInt8) (a2 : Int) (Q : (Option Ptr) → Sl → V → Heap → Prop) (h : Heap), zf3 U a1 a2 Q h = pts (zf3.E U Q [(2, ([], zf3.k2 (fun  h => zf3.j2 U   Q h))), (9, ([7, 8, 9], zf3.k9 (fun a1 a2 a3 h => zf3.j9 U  a1 a2 a3 Q h)))]) 3000 true [.code zf3.code] (frOf 0 [.str a1, .int .u64 a2]) h := by
  intros; kernel_rfl

theorem zf3.S {W0 : World} {U : Ifc} (hU : IfcOK sg W0 glsT U) : FnS sg W0 360 (zf3.C U) := by
  intro vs κ h wv hx w s
  unfold zf3.C at hx
  split at hx
  · rename_i a1 a2
    refine postImp (ret := zf3.ret (fun r1 r2 r3 h => κ (.tup [.ptr r1, .sl r2, r3]) h)) (fun v h hr => by unfold zf3.ret at hr; split at hr; exact hr; exact hr.elim) ?_
    exact calls_of_pts (E := zf3.E U (fun r1 r2 r3 h => κ (.tup [.ptr r1, .sl r2, r3]) h) [(2, ([], zf3.k2 (fun  h => zf3.j2 U   (fun r1 r2 r3 h => κ (.tup [.ptr r1, .sl r2, r3]) h) h))), (9, ([7, 8, 9], zf3.k9 (fun a1 a2 a3 h => zf3.j9 U  a1 a2 a3 (fun r1 r2 r3 h => κ (.tup [.ptr r1, .sl r2, r3]) h) h)))]) (envOK seatOK (zf3.callsOK hU) hU) seatOK.mixed zf3.fun (Nat.le_of_ble_eq_true rfl) wv (cutL_ok ⟨(zf3.s2 hU (fun r1 r2 r3 h => κ (.tup [.ptr r1, .sl r2, r3]) h)), (zf3.s9 hU (fun r1 r2 r3 h => κ (.tup [.ptr r1, .sl r2, r3]) h)), trivial⟩) s (fuel := 3000) (by rw [← zf3.e]; exact hx)
  · exact hx.elim

noncomputable def zf14.code : Code := Go.Proofs.Tryz.f13.body.getD .skip

theorem zf14.fun : Fun sg.P 13 42 [.tmp 4] zf14.code := mkFun Go.Proofs.Tryz.func13 (by kernel_rfl) (by kernel_rfl) (by kernel_rfl) (by kernel_rfl)

def zf14.ret (Q : Bool → Heap → Prop) (v : V) (h : Heap) : Prop :=
  match v with
  | .bool r1 => Q r1 h
  | _ => False

def zf14.C (U : Ifc) (vs : List V) (κ : V → Heap → Prop) (h : Heap) : Prop :=
  match vs with
  | [a1, a2] => zf14 U a1 a2 (fun r1 h => κ (.bool r1) h) h
  | _ => False

theorem zf14.S {W0 : World} {U : Ifc} (hU : IfcOK sg W0 glsT U) : FnS sg W0 405 (zf14.C U) := by
  intro vs κ h wv hx w s
  refine as_S (g := 405) (c := 6) (F := 6) (E := 5) (pF := 7) (pE := 9) (rt := 10) hU rfl (by kernel_rfl) (by kernel_rfl) (by kernel_rfl) (by kernel_rfl) (by kernel_rfl) (by kernel_rfl) (by kernel_rfl) zf14.fun vs κ h wv ?_ w s
  unfold zf14.C at hx
  split at hx
  · exact hx
  · exact hx.elim

noncomputable def zf0.code : Code := Go.Proofs.Tryz.f6.body.getD .skip

theorem zf0.fun : Fun sg.P 6 31 [.tmp 4, .tmp 5, .cell 6 24] zf0.code := mkFun Go.Proofs.Tryz.func6 (by kernel_rfl) (by kernel_rfl) (by kernel_rfl) (by kernel_rfl)

def zf0.ret (Q : Sl → Int → Int → Heap → Prop) (v : V) (h : Heap) : Prop :=
  match v with
  | .tup [.sl r1, .int .i64 r2, .int .i64 r3] => Q r1 r2 r3 h
  | _ => False

def zf0.C (U : Ifc) (vs : List V) (κ : V → Heap → Prop) (h : Heap) : Prop :=
  match vs with
  | [.str a1, .int .u64 a2] => zf0 U a1 a2 (fun r1 r2 r3 h => κ (.tup [.sl r1, .int .i64 r2, .int .i64 r3]) h) h
  | _ => False

noncomputable def zf0.calls (U : Ifc) : List (Nat × (List V → (V → Heap → Prop) → Heap → Prop)) := [(360, zf3.C U), (405, zf14.C U)]

noncomputable def zf0.E (U : Ifc) (Q : Sl → Int → Int → Heap → Prop) (cuts : List (Nat × (List Nat × (List V → Heap → Prop)))) : Env := { tis := tisT, fns := fnsT, tys := tysT, gls := glsT, rts := rtsT, unk := [], nxt := [], calls := zf0.calls U, ifc := U, cuts := cuts, ret := zf0.ret Q, rets := [.tmp 4, .tmp 5, .cell 6 24], n := 31 }

theorem zf0.callsOK {W0 : World} {U : Ifc} (hU : IfcOK sg W0 glsT U) : CallsOK sg W0 (zf0.calls U) := ⟨(zf3.S hU), (zf14.S hU), trivial⟩

theorem zf0.e : ∀ (U : Ifc) (a1 : List UInt8) (a2 : Int) (Q : Sl → Int → Int → Heap → Prop) (h : Heap), zf0 U a1 a2 Q h = pts (zf0.E U Q []) 3000 true [.code zf0.code] (frOf 0 [.str a1, .int .u64 a2]) h := by
  intros; kernel_rfl

theorem zf0.S {W0 : World} {U : Ifc} (hU : IfcOK sg W0 glsT U) : FnS sg W0 361 (zf0.C U) := by
  intro vs κ h wv hx w s
  unfold zf0.C at hx
  split at hx
  · rename_i a1 a2
    refine postImp (ret := zf0.ret (fun r1 r2 r3 h => κ (.tup [.sl r1, .int .i64 r2, .int .i64 r3]) h)) (fun v h hr => by unfold zf0.ret at hr; split at hr; exact hr; exact hr.elim) ?_
    exact calls_of_pts (E := zf0.E U (fun r1 r2 r3 h => κ (.tup [.sl r1, .int .i64 r2, .int .i64 r3]) h) []) (envOK seatOK (zf0.callsOK hU) hU) seatOK.mixed zf0.fun (Nat.le_of_ble_eq_true rfl) wv (cutL_ok trivial) s (fuel := 3000) (by rw [← zf0.e]; exact hx)
  · exact hx.elim

noncomputable def zf47.code : Code := Go.Proofs.Tryz.f55.body.getD .skip

theorem zf47.fun : Fun sg.P 55 70 [.tmp 2] zf47.code := mkFun Go.Proofs.Tryz.func55 (by kernel_rfl) (by kernel_rfl) (by kernel_rfl) (by kernel_rfl)

def zf47.ret (Q : Sl → Heap → Prop) (v : V) (h : Heap) : Prop :=
  match v with
  | .sl r1 => Q r1 h
  | _ => False

def zf47.C (vs : List V) (κ : V → Heap → Prop) (h : Heap) : Prop :=
  match vs with
  | [.str a1] => zf47 a1 (fun r1 h => κ (.sl r1) h) h
  | _ => False

noncomputable def zf47.calls : List (Nat × (List V → (V → Heap → Prop) → Heap → Prop)) := []

noncomputable def zf47.E (Q : Sl → Heap → Prop) (cuts : List (Nat × (List Nat × (List V → Heap → Prop)))) : Env := { tis := tisT, fns := fnsT, tys := tysT, gls := [], rts := rtsT, unk := [], nxt := [], calls := zf47.calls, ifc := noIfc, cuts := cuts, ret := zf47.ret Q, rets := [.tmp 2], n := 70 }

theorem zf47.callsOK {W0 : World} : CallsOK sg W0 zf47.calls := trivial

def zf47.k5 (I : (List UInt8) → Sl → (List UInt8) → Int → Heap → Prop) (vs : List V) (h : Heap) : Prop :=
  match vs with
  | [.str a1, .sl a2, .str a3, .int .i64 a4] => I a1 a2 a3 a4 h
  | _ => False

def zf47.k10 (I : (List UInt8) → Sl → Int → Bool → Heap → Prop) (vs : List V) (h : Heap) : Prop :=
  match vs with
  | [.str a1, .sl a2, .int .i64 a3, .bool a4] => I a1 a2 a3 a4 h
  | _ => False

def zf47.k8 (I : (List UInt8) → Sl → (List UInt8) → Int → Bool → Heap → Prop) (vs : List V) (h : Heap) : Prop :=
  match vs with
  | [.str a1, .sl a2, .str a3, .int .i64 a4, .bool a5] => I a1 a2 a3 a4 a5 h
  | _ => False

def zf47.k13 (I : (List UInt8) → Sl → (List UInt8) → Int → Heap → Prop) (vs : List V) (h : Heap) : Prop :=
  match vs with
  | [.str a1, .sl a2, .str a3, .int .i64 a4] => I a1 a2 a3 a4 h
  | _ => False

def zf47.k7 (I : (List UInt8) → Sl → (List UInt8) → Int → Bool → Heap → Prop) (vs : List V) (h : Heap) : Prop :=
  match vs with
  | [.str a1, .sl a2, .str a3, .int .i64 a4, .bool a5] => I a1 a2 a3 a4 a5 h
  | _ => False

def zf47.k4 (I : (List UInt8) → Sl → (List UInt8) → Int → Heap → Prop) (vs : List V) (h : Heap) : Prop :=
  match vs with
  | [.str a1, .sl a2, .str a3, .int .i64 a4] => I a1 a2 a3 a4 h
  | _ => False

theorem zf47.p5 : (posC zf47.code []).filter (fun p => Nat.beq p.1 5) = [(5, atPos (posC zf47.code []) 5)] := by kernel_rfl

theorem zf47.e5 : ∀ (I4 : (List UInt8) → Sl → (List UInt8) → Int → Heap → Prop) (a1 : List UInt8) (a2 : Sl) (a3 : List UInt8) (a4 : Int) (Q : Sl → Heap → Prop) (h : Heap), zf47.j5 I4 a1 a2 a3 a4 Q h = pts (zf47.E Q [(4, ([0, 3, 4, 5], zf47.k4 I4))]) 3000 true (atPos (posC zf47.code []) 5) (frAt [0, 3, 4, 5] [.str a1, .sl a2, .str a3, .int .i64 a4]) h := by
  intros; kernel_rfl

theorem zf47.s5 {W0 : World} (Q : Sl → Heap → Prop) (I4 : (List UInt8) → Sl → (List UInt8) → Int → Heap → Prop) (h4 : CutOK sg W0 70 (entered 55) (Post sg W0 (zf47.ret Q)) (posC zf47.code []) 4 [0, 3, 4, 5] (zf47.k4 I4)) : CutOK sg W0 70 (entered 55) (Post sg W0 (zf47.ret Q)) (posC zf47.code []) 5 [0, 3, 4, 5] (zf47.k5 (fun a1 a2 a3 a4 h => zf47.j5 I4 a1 a2 a3 a4 Q h)) := by
  refine cutOK_head (fun vs h hk => ?_)
  unfold zf47.k5 at hk
  split at hk
  · rename_i a1 a2 a3 a4
    intro todo hm ρ a w s f hp
    exact piece (E := zf47.E Q [(4, ([0, 3, 4, 5], zf47.k4 I4))]) (vs := [.str a1, .sl a2, .str a3, .int .i64 a4]) (envOK seatOK zf47.callsOK noIfc_ok) (fnOK seatOK zf47.fun) ⟨h4, trivial⟩ zf47.p5 (fuel := 3000) (by rw [← zf47.e5]; exact hk) hm s f hp
  · exact hk.elim

theorem zf47.p10 : (posC zf47.code []).filter (fun p => Nat.beq p.1 10) = [(10, atPos (posC zf47.code []) 10)] := by kernel_rfl

theorem zf47.e10 : ∀ (I4 : (List UInt8) → Sl → (List UInt8) → Int → Heap → Prop) (a1 : List UInt8) (a2 : Sl) (a3 : Int) (a4 : Bool) (Q : Sl → Heap → Prop) (h : Heap), zf47.j10 I4 a1 a2 a3 a4 Q h = pts (zf47.E Q [(5, ([0, 3, 4, 5], zf47.k5 (fun a1 a2 a3 a4 h => zf47.j5 I4 a1 a2 a3 a4 Q h)))]) 3000 true (atPos (posC zf47.code []) 10) (frAt [0, 3, 5, 6] [.str a1, .sl a2, .int .i64 a3, .bool a4]) h := by
  intros; kernel_rfl

theorem zf47.s10 {W0 : World} (Q : Sl → Heap → Prop) (I4 : (List UInt8) → Sl → (List UInt8) → Int → Heap → Prop) (h4 : CutOK sg W0 70 (entered 55) (Post sg W0 (zf47.ret Q)) (posC zf47.code []) 4 [0, 3, 4, 5] (zf47.k4 I4)) : CutOK sg W0 70 (entered 55) (Post sg W0 (zf47.ret Q)) (posC zf47.code []) 10 [0, 3, 5, 6] (zf47.k10 (fun a1 a2 a3 a4 h => zf47.j10 I4 a1 a2 a3 a4 Q h)) := by
  refine cutOK_head (fun vs h hk => ?_)
  unfold zf47.k10 at hk
  split at hk
  · rename_i a1 a2 a3 a4
    intro todo hm ρ a w s f hp
    exact piece (E := zf47.E Q [(5, ([0, 3, 4, 5], zf47.k5 (fun a1 a2 a3 a4 h => zf47.j5 I4 a1 a2 a3 a4 Q h)))]) (vs := [.str a1, .sl a2, .int .i64 a3, .bool a4]) (envOK seatOK zf47.callsOK noIfc_ok) (fnOK seatOK zf47.fun) ⟨(zf47.s5 Q I4 h4), trivial⟩ zf47.p10 (fuel := 3000) (by rw [← zf47.e10]; exact hk) hm s f hp
  · exact hk.elim

theorem zf47.p8 : (posC zf47.code []).filter (fun p => Nat.beq p.1 8) = [(8, atPos (posC zf47.code []) 8)] := by kernel_rfl

theorem zf47.e8 : ∀ (I4 : (List UInt8) → Sl → (List UInt8) → Int → Heap → Prop) (a1 : List UInt8) (a2 : Sl) (a3 : List UInt8) (a4 : Int) (a5 : Bool) (Q : Sl → Heap → Prop) (h : Heap), zf47.j8 I4 a1 a2 a3 a4 a5 Q h = pts (zf47.E Q [(10, ([0, 3, 5, 6], zf47.k10 (fun a1 a2 a3 a4 h => zf47.j10 I4 a1 a2 a3 a4 Q h)))]) 3000 true (atPos (posC zf47.code []) 8) (frAt [0, 3, 4, 5, 6] [.str a1, .sl a2, .str a3, .int .i64 a4, .bool a5]) h := by
  intros; kernel_rfl

theorem zf47.s8 {W0 : World} (Q : Sl → Heap → Prop) (I4 : (List UInt8) → Sl → (List UInt8) → Int → Heap → Prop) (h4 : CutOK sg W0 70 (entered 55) (Post sg W0 (zf47.ret Q)) (posC zf47.code []) 4 [0, 3, 4, 5] (zf47.k4 I4)) : CutOK sg W0 70 (entered 55) (Post sg W0 (zf47.ret Q)) (posC zf47.code []) 8 [0, 3, 4, 5, 6] (zf47.k8 (fun a1 a2 a3 a4 a5 h => zf47.j8 I4 a1 a2 a3 a4 a5 Q h)) := by
  refine cutOK_head (fun vs h hk => ?_)
  unfold zf47.k8 at hk
  split at hk
  · rename_i a1 a2 a3 a4 a5
    intro todo hm ρ a w s f hp
    exact piece (E := zf47.E Q [(10, ([0, 3, 5, 6], zf47.k10 (fun a1 a2 a3 a4 h => zf47.j10 I4 a1 a2 a3 a4 Q h)))]) (vs := [.str a1, .sl a2, .str a3, .int .i64 a4, .bool a5]) (envOK seatOK zf47.callsOK noIfc_ok) (fnOK seatOK zf47.fun) ⟨(zf47.s10 Q I4 h4), trivial⟩ zf47.p8 (fuel := 3000) (by rw [← zf47.e8]; exact hk) hm s f hp
  · exact hk.elim

theorem zf47.p13 : (posC zf47.code []).filter (fun p => Nat.beq p.1 13) = [(13, atPos (posC zf47.code []) 13)] := by kernel_rfl

theorem zf47.e13 : ∀ (I4 : (List UInt8) → Sl → (List UInt8) → Int → Heap → Prop) (a1 : List UInt8) (a2 : Sl) (a3 : List UInt8) (a4 : Int) (Q : Sl → Heap → Prop) (h : Heap), zf47.j13 I4 a1 a2 a3 a4 Q h = pts (zf47.E Q [(5, ([0, 3, 4, 5], zf47.k5 (fun a1 a2 a3 a4 h => zf47.j5 I4 a1 a2 a3 a4 Q h)))]) 3000 true (atPos (posC zf47.code []) 13) (frAt [0, 3, 4, 5] [.str a1, .sl a2, .str a3, .int .i64 a4]) h := by
  intros; kernel_rfl

theorem zf47.s13 {W0 : World} (Q : Sl → Heap → Prop) (I4 : (List UInt8) → Sl → (List UInt8) → Int → Heap → Prop) (h4 : CutOK sg W0 70 (entered 55) (Post sg W0 (zf47.ret Q)) (posC zf47.code []) 4 [0, 3, 4, 5] (zf47.k4 I4)) : CutOK sg W0 70 (entered 55) (Post sg W0 (zf47.ret Q)) (posC zf47.code []) 13 [0, 3, 4, 5] (zf47.k13 (fun a1 a2 a3 a4 h => zf47.j13 I4 a1 a2 a3 a4 Q h)) := by
  refine cutOK_head (fun vs h hk => ?_)
  unfold zf47.k13 at hk
  split at hk
  · rename_i a1 a2 a3 a4
    intro todo hm ρ a w s f hp
    exact piece (E := zf47.E Q [(5, ([0, 3, 4, 5], zf47.k5 (fun a1 a2 a3 a4 h => zf47.j5 I4 a1 a2 a3 a4 Q h)))]) (vs := [.str a1, .sl a2, .str a3, .int .i64 a4]) (envOK seatOK zf47.callsOK noIfc_ok) (fnOK seatOK zf47.fun) ⟨(zf47.s5 Q I4 h4), trivial⟩ zf47.p13 (fuel := 3000) (by rw [← zf47.e13]; exact hk) hm s f hp
  · exact hk.elim

theorem zf47.p7 : (posC zf47.code []).filter (fun p => Nat.beq p.1 7) = [(7, atPos (posC zf47.code []) 7)] := by kernel_rfl

theorem zf47.e7 : ∀ (I4 : (List UInt8) → Sl → (List UInt8) → Int → Heap → Prop) (a1 : List UInt8) (a2 : Sl) (a3 : List UInt8) (a4 : Int) (a5 : Bool) (Q : Sl → Heap → Prop) (h : Heap), zf47.j7 I4 a1 a2 a3 a4 a5 Q h = pts (zf47.E Q [(8, ([0, 3, 4, 5, 6], zf47.k8 (fun a1 a2 a3 a4 a5 h => zf47.j8 I4 a1 a2 a3 a4 a5 Q h))), (13, ([0, 3, 4, 5], zf47.k13 (fun a1 a2 a3 a4 h => zf47.j13 I4 a1 a2 a3 a4 Q h)))]) 3000 true (atPos (posC zf47.code []) 7) (frAt [0, 3, 4, 5, 6] [.str a1, .sl a2, .str a3, .int .i64 a4, .bool a5]) h := by
  intros; kernel_rfl

theorem zf47.s7 {W0 : World} (Q : Sl → Heap → Prop) (I4 : (List UInt8) → Sl → (List UInt8) → Int → Heap → Prop) (h4 : CutOK sg W0 70 (entered 55) (Post sg W0 (zf47.ret Q)) (posC zf47.code []) 4 [0, 3, 4, 5] (zf47.k4 I4)) : CutOK sg W0 70 (entered 55) (Post sg W0 (zf47.ret Q)) (posC zf47.code []) 7 [0, 3, 4, 5, 6] (zf47.k7 (fun a1 a2 a3 a4 a5 h => zf47.j7 I4 a1 a2 a3 a4 a5 Q h)) := by
  refine cutOK_head (fun vs h hk => ?_)
  unfold zf47.k7 at hk
  split at hk
  · rename_i a1 a2 a3 a4 a5
    intro todo hm ρ a w s f hp
    exact piece (E := zf47.E Q [(8, ([0, 3, 4, 5, 6], zf47.k8 (fun a1 a2 a3 a4 a5 h => zf47.j8 I4 a1 a2 a3 a4 a5 Q h))), (13, ([0, 3, 4, 5], zf47.k13 (fun a1 a2 a3 a4 h => zf47.j13 I4 a1 a2 a3 a4 Q h)))]) (vs := [.str a1, .sl a2, .str a3, .int .i64 a4, .bool a5]) (envOK seatOK zf47.callsOK noIfc_ok) (fnOK seatOK zf47.fun) ⟨(zf47.s8 Q I4 h4), (zf47.s13 Q I4 h4), trivial⟩ zf47.p7 (fuel := 3000) (by rw [← zf47.e7]; exact hk) hm s f hp
  · exact hk.elim

theorem zf47.p4 : (posC zf47.code []).filter (fun p => Nat.beq p.1 4) = [(4, atPos (posC zf47.code []) 4)] := by kernel_rfl

theorem zf47.e4 : ∀  (I4 : (List UInt8) → Sl → (List UInt8) → Int → Heap → Prop) (a1 : List UInt8) (a2 : Sl) (a3 : List UInt8) (a4 : Int) (Q : Sl → Heap → Prop) (h : Heap), zf47.b4  I4 a1 a2 a3 a4 Q h = pts (zf47.E Q [(7, ([0, 3, 4, 5, 6], zf47.k7 (fun a1 a2 a3 a4 a5 h => zf47.j7 I4 a1 a2 a3 a4 a5 Q h)))]) 3000 true (atPos (posC zf47.code []) 4) (frAt [0, 3, 4, 5] [.str a1, .sl a2, .str a3, .int .i64 a4]) h := by
  intros; kernel_rfl

theorem zf47.s4 {W0 : World} (Q : Sl → Heap → Prop)   : CutOK sg W0 70 (entered 55) (Post sg W0 (zf47.ret Q)) (posC zf47.code []) 4 [0, 3, 4, 5] (zf47.k4 (fun a1 a2 a3 a4 h => zf47.j4  a1 a2 a3 a4 Q h)) := by
  refine cutOK_head (fun vs h hk => ?_)
  unfold zf47.k4 at hk
  split at hk
  · rename_i a1 a2 a3 a4
    refine hk (fun a1 a2 a3 a4 h => Head sg W0 70 (entered 55) (Post sg W0 (zf47.ret Q)) (posC zf47.code []) 4 [0, 3, 4, 5] [.str a1, .sl a2, .str a3, .int .i64 a4] h) ?_
    intro a1 a2 a3 a4 h hb todo hm ρ a w s f hp
    have hself : CutOK sg W0 70 (entered 55) (Post sg W0 (zf47.ret Q)) (posC zf47.code []) 4 [0, 3, 4, 5] (zf47.k4 (fun a1 a2 a3 a4 h => Head sg W0 70 (entered 55) (Post sg W0 (zf47.ret Q)) (posC zf47.code []) 4 [0, 3, 4, 5] [.str a1, .sl a2, .str a3, .int .i64 a4] h)) := cutOK_head (fun vs h hk => by unfold zf47.k4 at hk; split at hk; exact hk; exact hk.elim)
    exact piece (E := zf47.E Q [(7, ([0, 3, 4, 5, 6], zf47.k7 (fun a1 a2 a3 a4 a5 h => zf47.j7 (fun a1 a2 a3 a4 h => Head sg W0 70 (entered 55) (Post sg W0 (zf47.ret Q)) (posC zf47.code []) 4 [0, 3, 4, 5] [.str a1, .sl a2, .str a3, .int .i64 a4] h) a1 a2 a3 a4 a5 Q h)))]) (vs := [.str a1, .sl a2, .str a3, .int .i64 a4]) (envOK seatOK zf47.callsOK noIfc_ok) (fnOK seatOK zf47.fun) ⟨(zf47.s7 Q (fun a1 a2 a3 a4 h => Head sg W0 70 (entered 55) (Post sg W0 (zf47.ret Q)) (posC zf47.code []) 4 [0, 3, 4, 5] [.str a1, .sl a2, .str a3, .int .i64 a4] h) hself), trivial⟩ zf47.p4 (fuel := 3000) (by rw [← zf47.e4]; exact hb) hm s f hp
  · exact hk.elim

theorem zf47.e : ∀ (a1 : List UInt8) (Q : Sl → Heap → Prop) (h : Heap), zf47 a1 Q h = pts (zf47.E Q [(4, ([0, 3, 4, 5], zf47.k4 (fun a1 a2 a3 a4 h => zf47.j4  a1 a2 a3 a4 Q h)))]) 3000 true [.code zf47.code] (frOf 0 [.str a1]) h := by
  intros; kernel_rfl

theorem zf47.S {W0 : World} : FnS sg W0 365 zf47.C := by
  intro vs κ h wv hx w s
  unfold zf47.C at hx
  split at hx
  · rename_i a1
    refine postImp (ret := zf47.ret (fun r1 h => κ (.sl r1) h)) (fun v h hr => by unfold zf47.ret at hr; split at hr; exact hr; exact hr.elim) ?_
    exact calls_of_pts (E := zf47.E (fun r1 h => κ (.sl r1) h) [(4, ([0, 3, 4, 5], zf47.k4 (fun a1 a2 a3 a4 h => zf47.j4  a1 a2 a3 a4 (fun r1 h => κ (.sl r1) h) h)))]) (envOK seatOK zf47.callsOK noIfc_ok) seatOK.mixed zf47.fun (Nat.le_of_ble_eq_true rfl) wv (cutL_ok ⟨(zf47.s4 (fun r1 h => κ (.sl r1) h)), trivial⟩) s (fuel := 3000) (by rw [← zf47.e]; exact hx)
  · exact hx.elim

noncomputable def zf41.code : Code := Go.Proofs.Tryz.f118.body.getD .skip

theorem zf41.fun : Fun sg.P 118 23 [.tmp 2] zf41.code := mkFun Go.Proofs.Tryz.func118 (by kernel_rfl) (by kernel_rfl) (by kernel_rfl) (by kernel_rfl)

def zf41.ret (Q : (List UInt8) → Heap → Prop) (v : V) (h : Heap) : Prop :=
  match v with
  | .str r1 => Q r1 h
  | _ => False

def zf41.C (U : Ifc) (vs : List V) (κ : V → Heap → Prop) (h : Heap) : Prop :=
  match vs with
  | [.int .i64 a1] => zf41 U a1 (fun r1 h => κ (.str r1) h) h
  | _ => False

def zf41.R334 (U : Ifc) (vs : List V) (κ : V → Heap → Prop) (h : Heap) : Prop := U.callV (.fn 334 []) vs (fun r h => asStr r (fun x => κ (.str x) h)) h

theorem zf41.R334_S {W0 : World} {U : Ifc} (hU : IfcOK sg W0 glsT U) : FnS sg W0 334 (zf41.R334 U) := by
  intro vs κ h wv hx w s
  refine callsVal_mono (hU.callV _ _ _ _ (V.wf_one rfl) wv hx w s) (fun e w2 hp => ?_)
  obtain ⟨r, h2, he, wr, hs, hk⟩ := hp
  cases r <;> try exact hk.elim
  all_goals first | exact ⟨_, h2, he, wr, hs, hk⟩ | (obtain ⟨hc, hk⟩ := chk_true hk; obtain rfl := of_decide_eq_true hc; exact ⟨_, h2, he, wr, hs, hk⟩)

noncomputable def zf41.calls (U : Ifc) : List (Nat × (List V → (V → Heap → Prop) → Heap → Prop)) := [(334, zf41.R334 U)]

noncomputable def zf41.E (U : Ifc) (Q : (List UInt8) → Heap → Prop) (cuts : List (Nat × (List Nat × (List V → Heap → Prop)))) : Env := { tis := tisT, fns := fnsT, tys := tysT, gls := glsT, rts := rtsT, unk := [], nxt := [], calls := zf41.calls U, ifc := U, cuts := cuts, ret := zf41.ret Q, rets := [.tmp 2], n := 23 }

theorem zf41.callsOK {W0 : World} {U : Ifc} (hU : IfcOK sg W0 glsT U) : CallsOK sg W0 (zf41.calls U) := ⟨(zf41.R334_S hU), trivial⟩

theorem zf41.e : ∀ (U : Ifc) (a1 : Int) (Q : (List UInt8) → Heap → Prop) (h : Heap), zf41 U a1 Q h = pts (zf41.E U Q []) 3000 true [.code zf41.code] (frOf 0 [.int .i64 a1]) h := by
  intros; kernel_rfl

theorem zf41.S {W0 : World} {U : Ifc} (hU : IfcOK sg W0 glsT U) : FnS sg W0 334 (zf41.C U) := by
  intro vs κ h wv hx w s
  unfold zf41.C at hx
  split at hx
  · rename_i a1
    refine postImp (ret := zf41.ret (fun r1 h => κ (.str r1) h)) (fun v h hr => by unfold zf41.ret at hr; split at hr; exact hr; exact hr.elim) ?_
    exact calls_of_pts (E := zf41.E U (fun r1 h => κ (.str r1) h) []) (envOK seatOK (zf41.callsOK hU) hU) seatOK.mixed zf41.fun (Nat.le_of_ble_eq_true rfl) wv (cutL_ok trivial) s (fuel := 3000) (by rw [← zf41.e]; exact hx)
  · exact hx.elim

noncomputable def zf46.code : Code := Go.Proofs.Tryz.f84.body.getD .skip

theorem zf46.fun : Fun sg.P 84 14 [.tmp 2] zf46.code := mkFun Go.Proofs.Tryz.func84 (by kernel_rfl) (by kernel_rfl) (by kernel_rfl) (by kernel_rfl)

def zf46.ret (Q : Int → Heap → Prop) (v : V) (h : Heap) : Prop :=
  match v with
  | .int .i64 r1 => Q r1 h
  | _ => False

def zf46.C (U : Ifc) (vs : List V) (κ : V → Heap → Prop) (h : Heap) : Prop :=
  match vs with
  | [.str a1] => zf46 U a1 (fun r1 h => κ (.int .i64 r1) h) h
  | _ => False

noncomputable def zf46.calls (U : Ifc) : List (Nat × (List V → (V → Heap → Prop) → Heap → Prop)) := [(334, zf41.C U)]

noncomputable def zf46.E (U : Ifc) (Q : Int → Heap → Prop) (cuts : List (Nat × (List Nat × (List V → Heap → Prop)))) : Env := { tis := tisT, fns := fnsT, tys := tysT, gls := glsT, rts := rtsT, unk := [], nxt := [], calls := zf46.calls U, ifc := U, cuts := cuts, ret := zf46.ret Q, rets := [.tmp 2], n := 14 }

theorem zf46.callsOK {W0 : World} {U : Ifc} (hU : IfcOK sg W0 glsT U) : CallsOK sg W0 (zf46.calls U) := ⟨(zf41.S hU), trivial⟩

def zf46.k2 (I : (List UInt8) → Int → Heap → Prop) (vs : List V) (h : Heap) : Prop :=
  match vs with
  | [.str a1, .int .i64 a2] => I a1 a2 h
  | _ => False

theorem zf46.p2 : (posC zf46.code []).filter (fun p => Nat.beq p.1 2) = [(2, atPos (posC zf46.code []) 2)] := by kernel_rfl

theorem zf46.e2 : ∀ (U : Ifc)  (I2 : (List UInt8) → Int → Heap → Prop) (a1 : List UInt8) (a2 : Int) (Q : Int → Heap → Prop) (h : Heap), zf46.b2 U  I2 a1 a2 Q h = pts (zf46.E U Q [(2, ([0, 3], zf46.k2 I2))]) 3000 true (atPos (posC zf46.code []) 2) (frAt [0, 3] [.str a1, .int .i64 a2]) h := by
  intros; kernel_rfl

theorem zf46.s2 {W0 : World} {U : Ifc} (hU : IfcOK sg W0 glsT U) (Q : Int → Heap → Prop)   : CutOK sg W0 14 (entered 84) (Post sg W0 (zf46.ret Q)) (posC zf46.code []) 2 [0, 3] (zf46.k2 (fun a1 a2 h => zf46.j2 U  a1 a2 Q h)) := by
  refine cutOK_head (fun vs h hk => ?_)
  unfold zf46.k2 at hk
  split at hk
  · rename_i a1 a2
    refine hk (fun a1 a2 h => Head sg W0 14 (entered 84) (Post sg W0 (zf46.ret Q)) (posC zf46.code []) 2 [0, 3] [.str a1, .int .i64 a2] h) ?_
    intro a1 a2 h hb todo hm ρ a w s f hp
    have hself : CutOK sg W0 14 (entered 84) (Post sg W0 (zf46.ret Q)) (posC zf46.code []) 2 [0, 3] (zf46.k2 (fun a1 a2 h => Head sg W0 14 (entered 84) (Post sg W0 (zf46.ret Q)) (posC zf46.code []) 2 [0, 3] [.str a1, .int .i64 a2] h)) := cutOK_head (fun vs h hk => by unfold zf46.k2 at hk; split at hk; exact hk; exact hk.elim)
    exact piece (E := zf46.E U Q [(2, ([0, 3], zf46.k2 (fun a1 a2 h => Head sg W0 14 (entered 84) (Post sg W0 (zf46.ret Q)) (posC zf46.code []) 2 [0, 3] [.str a1, .int .i64 a2] h)))]) (vs := [.str a1, .int .i64 a2]) (envOK seatOK (zf46.callsOK hU) hU) (fnOK seatOK zf46.fun) ⟨hself, trivial⟩ zf46.p2 (fuel := 3000) (by rw [← zf46.e2]; exact hb) hm s f hp
  · exact hk.elim

theorem zf46.e : ∀ (U : Ifc) (a1 : List UInt8) (Q : Int → Heap → Prop) (h : Heap), zf46 U a1 Q h = pts (zf46.E U Q [(2, ([0, 3], zf46.k2 (fun a1 a2 h => zf46.j2 U  a1 a2 Q h)))]) 3000 true [.code zf46.code] (frOf 0 [.str a1]) h := by
  intros; kernel_rfl

theorem zf46.S {W0 : World} {U : Ifc} (hU : IfcOK sg W0 glsT U) : FnS sg W0 366 (zf46.C U) := by
  intro vs κ h wv hx w s
  unfold zf46.C at hx
  split at hx
  · rename_i a1
    refine postImp (ret := zf46.ret (fun r1 h => κ (.int .i64 r1) h)) (fun v h hr => by unfold zf46.ret at hr; split at hr; exact hr; exact hr.elim) ?_
    exact calls_of_pts (E := zf46.E U (fun r1 h => κ (.int .i64 r1) h) [(2, ([0, 3], zf46.k2 (fun a1 a2 h => zf46.j2 U  a1 a2 (fun r1 h => κ (.int .i64 r1) h) h)))]) (envOK seatOK (zf46.callsOK hU) hU) seatOK.mixed zf46.fun (Nat.le_of_ble_eq_true rfl) wv (cutL_ok ⟨(zf46.s2 hU (fun r1 h => κ (.int .i64 r1) h)), trivial⟩) s (fuel := 3000) (by rw [← zf46.e]; exact hx)
  · exact hx.elim

noncomputable def zf50.code : Code := Go.Proofs.Tryz.f56.body.getD .skip

theorem zf50.fun : Fun sg.P 56 55 [.tmp 2] zf50.code := mkFun Go.Proofs.Tryz.func56 (by kernel_rfl) (by kernel_rfl) (by kernel_rfl) (by kernel_rfl)

def zf50.ret (Q : Bool → Heap → Prop) (v : V) (h : Heap) : Prop :=
  match v with
  | .bool r1 => Q r1 h
  | _ => False

def zf50.C (U : Ifc) (vs : List V) (κ : V → Heap → Prop) (h : Heap) : Prop :=
  match vs with
  | [.str a1] => zf50 U a1 (fun r1 h => κ (.bool r1) h) h
  | _ => False

noncomputable def zf50.calls (U : Ifc) : List (Nat × (List V → (V → Heap → Prop) → Heap → Prop)) := [(366, zf46.C U)]

noncomputable def zf50.E (U : Ifc) (Q : Bool → Heap → Prop) (cuts : List (Nat × (List Nat × (List V → Heap → Prop)))) : Env := { tis := tisT, fns := fnsT, tys := tysT, gls := glsT, rts := rtsT, unk := [], nxt := [], calls := zf50.calls U, ifc := U, cuts := cuts, ret := zf50.ret Q, rets := [.tmp 2], n := 55 }

theorem zf50.callsOK {W0 : World} {U : Ifc} (hU : IfcOK sg W0 glsT U) : CallsOK sg W0 (zf50.calls U) := ⟨(zf46.S hU), trivial⟩

def zf50.k6 (I : Heap → Prop) (vs : List V) (h : Heap) : Prop :=
  match vs with
  | [] => I  h
  | _ => False

def zf50.k3 (I : (List UInt8) → Int → Heap → Prop) (vs : List V) (h : Heap) : Prop :=
  match vs with
  | [.str a1, .int .i64 a2] => I a1 a2 h
  | _ => False

def zf50.k2 (I : (List UInt8) → Int → Heap → Prop) (vs : List V) (h : Heap) : Prop :=
  match vs with
  | [.str a1, .int .i64 a2] => I a1 a2 h
  | _ => False

theorem zf50.p6 : (posC zf50.code []).filter (fun p => Nat.beq p.1 6) = [(6, atPos (posC zf50.code []) 6)] := by kernel_rfl

theorem zf50.e6 : ∀ (U : Ifc) (I2 : (List UInt8) → Int → Heap → Prop)  (Q : Bool → Heap → Prop) (h : Heap), zf50.j6 U I2  Q h = pts (zf50.E U Q []) 3000 true (atPos (posC zf50.code []) 6) (frAt [] []) h := by
  intros; kernel_rfl

theorem zf50.s6 {W0 : World} {U : Ifc} (hU : IfcOK sg W0 glsT U) (Q : Bool → Heap → Prop) (I2 : (List UInt8) → Int → Heap → Prop) (h2 : CutOK sg W0 55 (entered 56) (Post sg W0 (zf50.ret Q)) (posC zf50.code []) 2 [0, 3] (zf50.k2 I2)) : CutOK sg W0 55 (entered 56) (Post sg W0 (zf50.ret Q)) (posC zf50.code []) 6 [] (zf50.k6 (fun  h => zf50.j6 U I2  Q h)) := by
  refine cutOK_head (fun vs h hk => ?_)
  unfold zf50.k6 at hk
  split at hk
  · skip
    intro todo hm ρ a w s f hp
    exact piece (E := zf50.E U Q []) (vs := []) (envOK seatOK (zf50.callsOK hU) hU) (fnOK seatOK zf50.fun) trivial zf50.p6 (fuel := 3000) (by rw [← zf50.e6]; exact hk) hm s f hp
  · exact hk.elim

theorem zf50.p3 : (posC zf50.code []).filter (fun p => Nat.beq p.1 3) = [(3, atPos (posC zf50.code []) 3)] := by kernel_rfl

theorem zf50.e3 : ∀ (U : Ifc) (I2 : (List UInt8) → Int → Heap → Prop) (a1 : List UInt8) (a2 : Int) (Q : Bool → Heap → Prop) (h : Heap), zf50.j3 U I2 a1 a2 Q h = pts (zf50.E U Q [(2, ([0, 3], zf50.k2 I2))]) 3000 true (atPos (posC zf50.code []) 3) (frAt [0, 3] [.str a1, .int .i64 a2]) h := by
  intros; kernel_rfl

theorem zf50.s3 {W0 : World} {U : Ifc} (hU : IfcOK sg W0 glsT U) (Q : Bool → Heap → Prop) (I2 : (List UInt8) → Int → Heap → Prop) (h2 : CutOK sg W0 55 (entered 56) (Post sg W0 (zf50.ret Q)) (posC zf50.code []) 2 [0, 3] (zf50.k2 I2)) : CutOK sg W0 55 (entered 56) (Post sg W0 (zf50.ret Q)) (posC zf50.code []) 3 [0, 3] (zf50.k3 (fun a1 a2 h => zf50.j3 U I2 a1 a2 Q h)) := by
  refine cutOK_head (fun vs h hk => ?_)
  unfold zf50.k3 at hk
  split at hk
  · rename_i a1 a2
    intro todo hm ρ a w s f hp
    exact piece (E := zf50.E U Q [(2, ([0, 3], zf50.k2 I2))]) (vs := [.str a1, .int .i64 a2]) (envOK seatOK (zf50.callsOK hU) hU) (fnOK seatOK zf50.fun) ⟨h2, trivial⟩ zf50.p3 (fuel := 3000) (by rw [← zf50.e3]; exact hk) hm s f hp
  · exact hk.elim

theorem zf50.p2 : (posC zf50.code []).filter (fun p => Nat.beq p.1 2) = [(2, atPos (posC zf50.code []) 2)] := by kernel_rfl

theorem zf50.e2 : ∀ (U : Ifc)  (I2 : (List UInt8) → Int → Heap → Prop) (a1 : List UInt8) (a2 : Int) (Q : Bool → Heap → Prop) (h : Heap), zf50.b2 U  I2 a1 a2 Q h = pts (zf50.E U Q [(6, ([], zf50.k6 (fun  h => zf50.j6 U I2  Q h))), (3, ([0, 3], zf50.k3 (fun a1 a2 h => zf50.j3 U I2 a1 a2 Q h)))]) 3000 true (atPos (posC zf50.code []) 2) (frAt [0, 3] [.str a1, .int .i64 a2]) h := by
  intros; kernel_rfl

theorem zf50.s2 {W0 : World} {U : Ifc} (hU : IfcOK sg W0 glsT U) (Q : Bool → Heap → Prop)   : CutOK sg W0 55 (entered 56) (Post sg W0 (zf50.ret Q)) (posC zf50.code []) 2 [0, 3] (zf50.k2 (fun a1 a2 h => zf50.j2 U  a1 a2 Q h)) := by
  refine cutOK_head (fun vs h hk => ?_)
  unfold zf50.k2 at hk
  split at hk
  · rename_i a1 a2
    refine hk (fun a1 a2 h => Head sg W0 55 (entered 56) (Post sg W0 (zf50.ret Q)) (posC zf50.code []) 2 [0, 3] [.str a1, .int .i64 a2] h) ?_
    intro a1 a2 h hb todo hm ρ a w s f hp
    have hself : CutOK sg W0 55 (entered 56) (Post sg W0 (zf50.ret Q)) (posC zf50.code []) 2 [0, 3] (zf50.k2 (fun a1 a2 h => Head sg W0 55 (entered 56) (Post sg W0 (zf50.ret Q)) (posC zf50.code []) 2 [0, 3] [.str a1, .int .i64 a2] h)) := cutOK_head (fun vs h hk => by unfold zf50.k2 at hk; split at hk; exact hk; exact hk.elim)
    exact piece (E := zf50.E U Q [(6, ([], zf50.k6 (fun  h => zf50.j6 U (fun a1 a2 h => Head sg W0 55 (entered 56) (Post sg W0 (zf50.ret Q)) (posC zf50.code []) 2 [0, 3] [.str a1, .int .i64 a2] h)  Q h))), (3, ([0, 3], zf50.k3 (fun a1 a2 h => zf50.j3 U (fun a1 a2 h => Head sg W0 55 (entered 56) (Post sg W0 (zf50.ret Q)) (posC zf50.code []) 2 [0, 3] [.str a1, .int .i64 a2] h) a1 a2 Q h)))]) (vs := [.str a1, .int .i64 a2]) (envOK seatOK (zf50.callsOK hU) hU) (fnOK seatOK zf50.fun) ⟨(zf50.s6 hU Q (fun a1 a2 h => Head sg W0 55 (entered 56) (Post sg W0 (zf50.ret Q)) (posC zf50.code []) 2 [0, 3] [.str a1, .int .i64 a2] h) hself), (zf50.s3 hU Q (fun a1 a2 h => Head sg W0 55 (entered 56) (Post sg W0 (zf50.ret Q)) (posC zf50.code []) 2 [0, 3] [.str a1, .int .i64 a2] h) hself), trivial⟩ zf50.p2 (fuel := 3000) (by rw [← zf50.e2]; exact hb) hm s f hp
  · exact hk.elim

theorem zf50.e : ∀ (U : Ifc) (a1 : List UInt8) (Q : Bool → Heap → Prop) (h : Heap), zf50 U a1 Q h = pts (zf50.E U Q [(2, ([0, 3], zf50.k2 (fun a1 a2 h => zf50.j2 U  a1 a2 Q h)))]) 3000 true [.code zf50.code] (frOf 0 [.str a1]) h := by
  intros; kernel_rfl

theorem zf50.S {W0 : World} {U : Ifc} (hU : IfcOK sg W0 glsT U) : FnS sg W0 367 (zf50.C U) := by
  intro vs κ h wv hx w s
  unfold zf50.C at hx
  split at hx
  · rename_i a1
    refine postImp (ret := zf50.ret (fun r1 h => κ (.bool r1) h)) (fun v h hr => by unfold zf50.ret at hr; split at hr; exact hr; exact hr.elim) ?_
    exact calls_of_pts (E := zf50.E U (fun r1 h => κ (.bool r1) h) [(2, ([0, 3], zf50.k2 (fun a1 a2 h => zf50.j2 U  a1 a2 (fun r1 h => κ (.bool r1) h) h)))]) (envOK seatOK (zf50.callsOK hU) hU) seatOK.mixed zf50.fun (Nat.le_of_ble_eq_true rfl) wv (cutL_ok ⟨(zf50.s2 hU (fun r1 h => κ (.bool r1) h)), trivial⟩) s (fuel := 3000) (by rw [← zf50.e]; exact hx)
  · exact hx.elim

noncomputable def zf44.code : Code := Go.Proofs.Tryz.f57.body.getD .skip

theorem zf44.fun : Fun sg.P 57 71 [.tmp 2, .tmp 3] zf44.code := mkFun Go.Proofs.Tryz.func57 (by kernel_rfl) (by kernel_rfl) (by kernel_rfl) (by kernel_rfl)

def zf44.ret (Q : Int → Bool → Heap → Prop) (v : V) (h : Heap) : Prop :=
  match v with
  | .tup [.int .i64 r1, .bool r2] => Q r1 r2 h
  | _ => False

def zf44.C (vs : List V) (κ : V → Heap → Prop) (h : Heap) : Prop :=
  match vs with
  | [.str a1] => zf44 a1 (fun r1 r2 h => κ (.tup [.int .i64 r1, .bool r2]) h) h
  | _ => False

noncomputable def zf44.calls : List (Nat × (List V → (V → Heap → Prop) → Heap → Prop)) := []

noncomputable def zf44.E (Q : Int → Bool → Heap → Prop) (cuts : List (Nat × (List Nat × (List V → Heap → Prop)))) : Env := { tis := tisT, fns := fnsT, tys := tysT, gls := [], rts := rtsT, unk := [], nxt := [], calls := zf44.calls, ifc := noIfc, cuts := cuts, ret := zf44.ret Q, rets := [.tmp 2, .tmp 3], n := 71 }

theorem zf44.callsOK {W0 : World} : CallsOK sg W0 zf44.calls := trivial

def zf44.k5 (I : Heap → Prop) (vs : List V) (h : Heap) : Prop :=
  match vs with
  | [] => I  h
  | _ => False

def zf44.k11 (I : Heap → Prop) (vs : List V) (h : Heap) : Prop :=
  match vs with
  | [] => I  h
  | _ => False

def zf44.k8 (I : (List UInt8) → (List UInt8) → Int → Int → Heap → Prop) (vs : List V) (h : Heap) : Prop :=
  match vs with
  | [.str a1, .str a2, .int .i64 a3, .int .i64 a4] => I a1 a2 a3 a4 h
  | _ => False

def zf44.k6 (I : (List UInt8) → (List UInt8) → Heap → Prop) (vs : List V) (h : Heap) : Prop :=
  match vs with
  | [.str a1, .str a2] => I a1 a2 h
  | _ => False

def zf44.k4 (I : (List UInt8) → (List UInt8) → Heap → Prop) (vs : List V) (h : Heap) : Prop :=
  match vs with
  | [.str a1, .str a2] => I a1 a2 h
  | _ => False

theorem zf44.p5 : (posC zf44.code []).filter (fun p => Nat.beq p.1 5) = [(5, atPos (posC zf44.code []) 5)] := by kernel_rfl

theorem zf44.e5 : ∀   (Q : Int → Bool → Heap → Prop) (h : Heap), zf44.j5   Q h = pts (zf44.E Q []) 3000 true (atPos (posC zf44.code []) 5) (frAt [] []) h := by
  intros; kernel_rfl

theorem zf44.s5 {W0 : World} (Q : Int → Bool → Heap → Prop)   : CutOK sg W0 71 (entered 57) (Post sg W0 (zf44.ret Q)) (posC zf44.code []) 5 [] (zf44.k5 (fun  h => zf44.j5   Q h)) := by
  refine cutOK_head (fun vs h hk => ?_)
  unfold zf44.k5 at hk
  split at hk
  · skip
    intro todo hm ρ a w s f hp
    exact piece (E := zf44.E Q []) (vs := []) (envOK seatOK zf44.callsOK noIfc_ok) (fnOK seatOK zf44.fun) trivial zf44.p5 (fuel := 3000) (by rw [← zf44.e5]; exact hk) hm s f hp
  · exact hk.elim

theorem zf44.p11 : (posC zf44.code []).filter (fun p => Nat.beq p.1 11) = [(11, atPos (posC zf44.code []) 11)] := by kernel_rfl

theorem zf44.e11 : ∀ (I8 : (List UInt8) → (List UInt8) → Int → Int → Heap → Prop)  (Q : Int → Bool → Heap → Prop) (h : Heap), zf44.j11 I8  Q h = pts (zf44.E Q []) 3000 true (atPos (posC zf44.code []) 11) (frAt [] []) h := by
  intros; kernel_rfl

theorem zf44.s11 {W0 : World} (Q : Int → Bool → Heap → Prop) (I8 : (List UInt8) → (List UInt8) → Int → Int → Heap → Prop) (h8 : CutOK sg W0 71 (entered 57) (Post sg W0 (zf44.ret Q)) (posC zf44.code []) 8 [0, 4, 5, 6] (zf44.k8 I8)) : CutOK sg W0 71 (entered 57) (Post sg W0 (zf44.ret Q)) (posC zf44.code []) 11 [] (zf44.k11 (fun  h => zf44.j11 I8  Q h)) := by
  refine cutOK_head (fun vs h hk => ?_)
  unfold zf44.k11 at hk
  split at hk
  · skip
    intro todo hm ρ a w s f hp
    exact piece (E := zf44.E Q []) (vs := []) (envOK seatOK zf44.callsOK noIfc_ok) (fnOK seatOK zf44.fun) trivial zf44.p11 (fuel := 3000) (by rw [← zf44.e11]; exact hk) hm s f hp
  · exact hk.elim

theorem zf44.p8 : (posC zf44.code []).filter (fun p => Nat.beq p.1 8) = [(8, atPos (posC zf44.code []) 8)] := by kernel_rfl

theorem zf44.e8 : ∀  (I8 : (List UInt8) → (List UInt8) → Int → Int → Heap → Prop) (a1 : List UInt8) (a2 : List UInt8) (a3 : Int) (a4 : Int) (Q : Int → Bool → Heap → Prop) (h : Heap), zf44.b8  I8 a1 a2 a3 a4 Q h = pts (zf44.E Q [(11, ([], zf44.k11 (fun  h => zf44.j11 I8  Q h))), (8, ([0, 4, 5, 6], zf44.k8 I8))]) 3000 true (atPos (posC zf44.code []) 8) (frAt [0, 4, 5, 6] [.str a1, .str a2, .int .i64 a3, .int .i64 a4]) h := by
  intros; kernel_rfl

theorem zf44.s8 {W0 : World} (Q : Int → Bool → Heap → Prop)   : CutOK sg W0 71 (entered 57) (Post sg W0 (zf44.ret Q)) (posC zf44.code []) 8 [0, 4, 5, 6] (zf44.k8 (fun a1 a2 a3 a4 h => zf44.j8  a1 a2 a3 a4 Q h)) := by
  refine cutOK_head (fun vs h hk => ?_)
  unfold zf44.k8 at hk
  split at hk
  · rename_i a1 a2 a3 a4
    refine hk (fun a1 a2 a3 a4 h => Head sg W0 71 (entered 57) (Post sg W0 (zf44.ret Q)) (posC zf44.code []) 8 [0, 4, 5, 6] [.str a1, .str a2, .int .i64 a3, .int .i64 a4] h) ?_
    intro a1 a2 a3 a4 h hb todo hm ρ a w s f hp
    have hself : CutOK sg W0 71 (entered 57) (Post sg W0 (zf44.ret Q)) (posC zf44.code []) 8 [0, 4, 5, 6] (zf44.k8 (fun a1 a2 a3 a4 h => Head sg W0 71 (entered 57) (Post sg W0 (zf44.ret Q)) (posC zf44.code []) 8 [0, 4, 5, 6] [.str a1, .str a2, .int .i64 a3, .int .i64 a4] h)) := cutOK_head (fun vs h hk => by unfold zf44.k8 at hk; split at hk; exact hk; exact hk.elim)
    exact piece (E := zf44.E Q [(11, ([], zf44.k11 (fun  h => zf44.j11 (fun a1 a2 a3 a4 h => Head sg W0 71 (entered 57) (Post sg W0 (zf44.ret Q)) (posC zf44.code []) 8 [0, 4, 5, 6] [.str a1, .str a2, .int .i64 a3, .int .i64 a4] h)  Q h))), (8, ([0, 4, 5, 6], zf44.k8 (fun a1 a2 a3 a4 h => Head sg W0 71 (entered 57) (Post sg W0 (zf44.ret Q)) (posC zf44.code []) 8 [0, 4, 5, 6] [.str a1, .str a2, .int .i64 a3, .int .i64 a4] h)))]) (vs := [.str a1, .str a2, .int .i64 a3, .int .i64 a4]) (envOK seatOK zf44.callsOK noIfc_ok) (fnOK seatOK zf44.fun) ⟨(zf44.s11 Q (fun a1 a2 a3 a4 h => Head sg W0 71 (entered 57) (Post sg W0 (zf44.ret Q)) (posC zf44.code []) 8 [0, 4, 5, 6] [.str a1, .str a2, .int .i64 a3, .int .i64 a4] h) hself), hself, trivial⟩ zf44.p8 (fuel := 3000) (by rw [← zf44.e8]; exact hb) hm s f hp
  · exact hk.elim

theorem zf44.p6 : (posC zf44.code []).filter (fun p => Nat.beq p.1 6) = [(6, atPos (posC zf44.code []) 6)] := by kernel_rfl

theorem zf44.e6 : ∀  (a1 : List UInt8) (a2 : List UInt8) (Q : Int → Bool → Heap → Prop) (h : Heap), zf44.j6  a1 a2 Q h = pts (zf44.E Q [(8, ([0, 4, 5, 6], zf44.k8 (fun a1 a2 a3 a4 h => zf44.j8  a1 a2 a3 a4 Q h)))]) 3000 true (atPos (posC zf44.code []) 6) (frAt [0, 4] [.str a1, .str a2]) h := by
  intros; kernel_rfl

theorem zf44.s6 {W0 : World} (Q : Int → Bool → Heap → Prop)   : CutOK sg W0 71 (entered 57) (Post sg W0 (zf44.ret Q)) (posC zf44.code []) 6 [0, 4] (zf44.k6 (fun a1 a2 h => zf44.j6  a1 a2 Q h)) := by
  refine cutOK_head (fun vs h hk => ?_)
  unfold zf44.k6 at hk
  split at hk
  · rename_i a1 a2
    intro todo hm ρ a w s f hp
    exact piece (E := zf44.E Q [(8, ([0, 4, 5, 6], zf44.k8 (fun a1 a2 a3 a4 h => zf44.j8  a1 a2 a3 a4 Q h)))]) (vs := [.str a1, .str a2]) (envOK seatOK zf44.callsOK noIfc_ok) (fnOK seatOK zf44.fun) ⟨(zf44.s8 Q  ), trivial⟩ zf44.p6 (fuel := 3000) (by rw [← zf44.e6]; exact hk) hm s f hp
  · exact hk.elim

theorem zf44.p4 : (posC zf44.code []).filter (fun p => Nat.beq p.1 4) = [(4, atPos (posC zf44.code []) 4)] := by kernel_rfl

theorem zf44.e4 : ∀  (a1 : List UInt8) (a2 : List UInt8) (Q : Int → Bool → Heap → Prop) (h : Heap), zf44.j4  a1 a2 Q h = pts (zf44.E Q [(5, ([], zf44.k5 (fun  h => zf44.j5   Q h))), (6, ([0, 4], zf44.k6 (fun a1 a2 h => zf44.j6  a1 a2 Q h)))]) 3000 true (atPos (posC zf44.code []) 4) (frAt [0, 4] [.str a1, .str a2]) h := by
  intros; kernel_rfl

theorem zf44.s4 {W0 : World} (Q : Int → Bool → Heap → Prop)   : CutOK sg W0 71 (entered 57) (Post sg W0 (zf44.ret Q)) (posC zf44.code []) 4 [0, 4] (zf44.k4 (fun a1 a2 h => zf44.j4  a1 a2 Q h)) := by
  refine cutOK_head (fun vs h hk => ?_)
  unfold zf44.k4 at hk
  split at hk
  · rename_i a1 a2
    intro todo hm ρ a w s f hp
    exact piece (E := zf44.E Q [(5, ([], zf44.k5 (fun  h => zf44.j5   Q h))), (6, ([0, 4], zf44.k6 (fun a1 a2 h => zf44.j6  a1 a2 Q h)))]) (vs := [.str a1, .str a2]) (envOK seatOK zf44.callsOK noIfc_ok) (fnOK seatOK zf44.fun) ⟨(zf44.s5 Q  ), (zf44.s6 Q  ), trivial⟩ zf44.p4 (fuel := 3000) (by rw [← zf44.e4]; exact hk) hm s f hp
  · exact hk.elim

theorem zf44.e : ∀ (a1 : List UInt8) (Q : Int → Bool → Heap → Prop) (h : Heap), zf44 a1 Q h = pts (zf44.E Q [(4, ([0, 4], zf44.k4 (fun a1 a2 h => zf44.j4  a1 a2 Q h)))]) 3000 true [.code zf44.code] (frOf 0 [.str a1]) h := by
  intros; kernel_rfl

theorem zf44.S {W0 : World} : FnS sg W0 368 zf44.C := by
  intro vs κ h wv hx w s
  unfold zf44.C at hx
  split at hx
  · rename_i a1
    refine postImp (ret := zf44.ret (fun r1 r2 h => κ (.tup [.int .i64 r1, .bool r2]) h)) (fun v h hr => by unfold zf44.ret at hr; split at hr; exact hr; exact hr.elim) ?_
    exact calls_of_pts (E := zf44.E (fun r1 r2 h => κ (.tup [.int .i64 r1, .bool r2]) h) [(4, ([0, 4], zf44.k4 (fun a1 a2 h => zf44.j4  a1 a2 (fun r1 r2 h => κ (.tup [.int .i64 r1, .bool r2]) h) h)))]) (envOK seatOK zf44.callsOK noIfc_ok) seatOK.mixed zf44.fun (Nat.le_of_ble_eq_true rfl) wv (cutL_ok ⟨(zf44.s4 (fun r1 r2 h => κ (.tup [.int .i64 r1, .bool r2]) h)), trivial⟩) s (fuel := 3000) (by rw [← zf44.e]; exact hx)
  · exact hx.elim

noncomputable def zf43.code : Code := Go.Proofs.Tryz.f85.body.getD .skip

theorem zf43.fun : Fun sg.P 85 2 [.tmp 0] zf43.code := mkFun Go.Proofs.Tryz.func85 (by kernel_rfl) (by kernel_rfl) (by kernel_rfl) (by kernel_rfl)

def zf43.ret (Q : Sl → Heap → Prop) (v : V) (h : Heap) : Prop :=
  match v with
  | .sl r1 => Q r1 h
  | _ => False

def zf43.C (vs : List V) (κ : V → Heap → Prop) (h : Heap) : Prop :=
  match vs with
  | [] => zf43  (fun r1 h => κ (.sl r1) h) h
  | _ => False

noncomputable def zf43.calls : List (Nat × (List V → (V → Heap → Prop) → Heap → Prop)) := []

noncomputable def zf43.E (Q : Sl → Heap → Prop) (cuts : List (Nat × (List Nat × (List V → Heap → Prop)))) : Env := { tis := tisT, fns := fnsT, tys := tysT, gls := [], rts := rtsT, unk := [], nxt := [], calls := zf43.calls, ifc := noIfc, cuts := cuts, ret := zf43.ret Q, rets := [.tmp 0], n := 2 }

theorem zf43.callsOK {W0 : World} : CallsOK sg W0 zf43.calls := trivial

theorem zf43.e : ∀  (Q : Sl → Heap → Prop) (h : Heap), zf43  Q h = pts (zf43.E Q []) 3000 true [.code zf43.code] (frOf 0 []) h := by
  intros; kernel_rfl

theorem zf43.S {W0 : World} : FnS sg W0 345 zf43.C := by
  intro vs κ h wv hx w s
  unfold zf43.C at hx
  split at hx
  · skip
    refine postImp (ret := zf43.ret (fun r1 h => κ (.sl r1) h)) (fun v h hr => by unfold zf43.ret at hr; split at hr; exact hr; exact hr.elim) ?_
    exact calls_of_pts (E := zf43.E (fun r1 h => κ (.sl r1) h) []) (envOK seatOK zf43.callsOK noIfc_ok) seatOK.mixed zf43.fun (Nat.le_of_ble_eq_true rfl) wv (cutL_ok trivial) s (fuel := 3000) (by rw [← zf43.e]; exact hx)
  · exact hx.elim

noncomputable def zf51.code : Code := Go.Proofs.Tryz.f58.body.getD .skip

theorem zf51.fun : Fun sg.P 58 20 [.tmp 2] zf51.code := mkFun Go.Proofs.Tryz.func58 (by kernel_rfl) (by kernel_rfl) (by kernel_rfl) (by kernel_rfl)

def zf51.ret (Q : Int → Heap → Prop) (v : V) (h : Heap) : Prop :=
  match v with
  | .int .i64 r1 => Q r1 h
  | _ => False

def zf51.C (vs : List V) (κ : V → Heap → Prop) (h : Heap) : Prop :=
  match vs with
  | [.str a1] => zf51 a1 (fun r1 h => κ (.int .i64 r1) h) h
  | _ => False

noncomputable def zf51.calls : List (Nat × (List V → (V → Heap → Prop) → Heap → Prop)) := [(345, zf43.C)]

noncomputable def zf51.E (Q : Int → Heap → Prop) (cuts : List (Nat × (List Nat × (List V → Heap → Prop)))) : Env := { tis := tisT, fns := fnsT, tys := tysT, gls := [], rts := rtsT, unk := [], nxt := [], calls := zf51.calls, ifc := noIfc, cuts := cuts, ret := zf51.ret Q, rets := [.tmp 2], n := 20 }

theorem zf51.callsOK {W0 : World} : CallsOK sg W0 zf51.calls := ⟨zf43.S, trivial⟩

def zf51.k3 (I : (List UInt8) → Sl → Int → Heap → Prop) (vs : List V) (h : Heap) : Prop :=
  match vs with
  | [.str a1, .sl a2, .int .i64 a3] => I a1 a2 a3 h
  | _ => False

theorem zf51.p3 : (posC zf51.code []).filter (fun p => Nat.beq p.1 3) = [(3, atPos (posC zf51.code []) 3)] := by kernel_rfl

theorem zf51.e3 : ∀  (I3 : (List UInt8) → Sl → Int → Heap → Prop) (a1 : List UInt8) (a2 : Sl) (a3 : Int) (Q : Int → Heap → Prop) (h : Heap), zf51.b3  I3 a1 a2 a3 Q h = pts (zf51.E Q [(3, ([0, 3, 4], zf51.k3 I3))]) 3000 true (atPos (posC zf51.code []) 3) (frAt [0, 3, 4] [.str a1, .sl a2, .int .i64 a3]) h := by
  intros; kernel_rfl

theorem zf51.s3 {W0 : World} (Q : Int → Heap → Prop)   : CutOK sg W0 20 (entered 58) (Post sg W0 (zf51.ret Q)) (posC zf51.code []) 3 [0, 3, 4] (zf51.k3 (fun a1 a2 a3 h => zf51.j3  a1 a2 a3 Q h)) := by
  refine cutOK_head (fun vs h hk => ?_)
  unfold zf51.k3 at hk
  split at hk
  · rename_i a1 a2 a3
    refine hk (fun a1 a2 a3 h => Head sg W0 20 (entered 58) (Post sg W0 (zf51.ret Q)) (posC zf51.code []) 3 [0, 3, 4] [.str a1, .sl a2, .int .i64 a3] h) ?_
    intro a1 a2 a3 h hb todo hm ρ a w s f hp
    have hself : CutOK sg W0 20 (entered 58) (Post sg W0 (zf51.ret Q)) (posC zf51.code []) 3 [0, 3, 4] (zf51.k3 (fun a1 a2 a3 h => Head sg W0 20 (entered 58) (Post sg W0 (zf51.ret Q)) (posC zf51.code []) 3 [0, 3, 4] [.str a1, .sl a2, .int .i64 a3] h)) := cutOK_head (fun vs h hk => by unfold zf51.k3 at hk; split at hk; exact hk; exact hk.elim)
    exact piece (E := zf51.E Q [(3, ([0, 3, 4], zf51.k3 (fun a1 a2 a3 h => Head sg W0 20 (entered 58) (Post sg W0 (zf51.ret Q)) (posC zf51.code []) 3 [0, 3, 4] [.str a1, .sl a2, .int .i64 a3] h)))]) (vs := [.str a1, .sl a2, .int .i64 a3]) (envOK seatOK zf51.callsOK noIfc_ok) (fnOK seatOK zf51.fun) ⟨hself, trivial⟩ zf51.p3 (fuel := 3000) (by rw [← zf51.e3]; exact hb) hm s f hp
  · exact hk.elim

theorem zf51.e : ∀ (a1 : List UInt8) (Q : Int → Heap → Prop) (h : Heap), zf51 a1 Q h = pts (zf51.E Q [(3, ([0, 3, 4], zf51.k3 (fun a1 a2 a3 h => zf51.j3  a1 a2 a3 Q h)))]) 3000 true [.code zf51.code] (frOf 0 [.str a1]) h := by
  intros; kernel_rfl

theorem zf51.S {W0 : World} : FnS sg W0 369 zf51.C := by
  intro vs κ h wv hx w s
  unfold zf51.C at hx
  split at hx
  · rename_i a1
    refine postImp (ret := zf51.ret (fun r1 h => κ (.int .i64 r1) h)) (fun v h hr => by unfold zf51.ret at hr; split at hr; exact hr; exact hr.elim) ?_
    exact calls_of_pts (E := zf51.E (fun r1 h => κ (.int .i64 r1) h) [(3, ([0, 3, 4], zf51.k3 (fun a1 a2 a3 h => zf51.j3  a1 a2 a3 (fun r1 h => κ (.int .i64 r1) h) h)))]) (envOK seatOK zf51.callsOK noIfc_ok) seatOK.mixed zf51.fun (Nat.le_of_ble_eq_true rfl) wv (cutL_ok ⟨(zf51.s3 (fun r1 h => κ (.int .i64 r1) h)), trivial⟩) s (fuel := 3000) (by rw [← zf51.e]; exact hx)
  · exact hx.elim

noncomputable def zf36.code : Code := Go.Proofs.Tryz.f31.body.getD .skip

theorem zf36.fun : Fun sg.P 31 76 [.tmp 2] zf36.code := mkFun Go.Proofs.Tryz.func31 (by kernel_rfl) (by kernel_rfl) (by kernel_rfl) (by kernel_rfl)

def zf36.ret (Q : Int → Heap → Prop) (v : V) (h : Heap) : Prop :=
  match v with
  | .int .i64 r1 => Q r1 h
  | _ => False

def zf36.C (vs : List V) (κ : V → Heap → Prop) (h : Heap) : Prop :=
  match vs with
  | [.int .i64 a1] => zf36 a1 (fun r1 h => κ (.int .i64 r1) h) h
  | _ => False

noncomputable def zf36.calls : List (Nat × (List V → (V → Heap → Prop) → Heap → Prop)) := []

noncomputable def zf36.E (Q : Int → Heap → Prop) (cuts : List (Nat × (List Nat × (List V → Heap → Prop)))) : Env := { tis := tisT, fns := fnsT, tys := tysT, gls := [], rts := rtsT, unk := [], nxt := [], calls := zf36.calls, ifc := noIfc, cuts := cuts, ret := zf36.ret Q, rets := [.tmp 2], n := 76 }

theorem zf36.callsOK {W0 : World} : CallsOK sg W0 zf36.calls := trivial

def zf36.k4 (I : Heap → Prop) (vs : List V) (h : Heap) : Prop :=
  match vs with
  | [] => I  h
  | _ => False

def zf36.k9 (I : Int → Heap → Prop) (vs : List V) (h : Heap) : Prop :=
  match vs with
  | [.int .i64 a1] => I a1 h
  | _ => False

def zf36.k7 (I : Int → Heap → Prop) (vs : List V) (h : Heap) : Prop :=
  match vs with
  | [.int .i64 a1] => I a1 h
  | _ => False

def zf36.k5 (I : Int → Heap → Prop) (vs : List V) (h : Heap) : Prop :=
  match vs with
  | [.int .i64 a1] => I a1 h
  | _ => False

def zf36.k3 (I : Int → Heap → Prop) (vs : List V) (h : Heap) : Prop :=
  match vs with
  | [.int .i64 a1] => I a1 h
  | _ => False

theorem zf36.p4 : (posC zf36.code []).filter (fun p => Nat.beq p.1 4) = [(4, atPos (posC zf36.code []) 4)] := by kernel_rfl

theorem zf36.e4 : ∀   (Q : Int → Heap → Prop) (h : Heap), zf36.j4   Q h = pts (zf36.E Q []) 3000 true (atPos (posC zf36.code []) 4) (frAt [] []) h := by
  intros; kernel_rfl

theorem zf36.s4 {W0 : World} (Q : Int → Heap → Prop)   : CutOK sg W0 76 (entered 31) (Post sg W0 (zf36.ret Q)) (posC zf36.code []) 4 [] (zf36.k4 (fun  h => zf36.j4   Q h)) := by
  refine cutOK_head (fun vs h hk => ?_)
  unfold zf36.k4 at hk
  split at hk
  · skip
    intro todo hm ρ a w s f hp
    exact piece (E := zf36.E Q []) (vs := []) (envOK seatOK zf36.callsOK noIfc_ok) (fnOK seatOK zf36.fun) trivial zf36.p4 (fuel := 3000) (by rw [← zf36.e4]; exact hk) hm s f hp
  · exact hk.elim

theorem zf36.p9 : (posC zf36.code []).filter (fun p => Nat.beq p.1 9) = [(9, atPos (posC zf36.code []) 9)] := by kernel_rfl

theorem zf36.e9 : ∀  (a1 : Int) (Q : Int → Heap → Prop) (h : Heap), zf36.j9  a1 Q h = pts (zf36.E Q []) 3000 true (atPos (posC zf36.code []) 9) (frAt [0] [.int .i64 a1]) h := by
  intros; kernel_rfl

theorem zf36.s9 {W0 : World} (Q : Int → Heap → Prop)   : CutOK sg W0 76 (entered 31) (Post sg W0 (zf36.ret Q)) (posC zf36.code []) 9 [0] (zf36.k9 (fun a1 h => zf36.j9  a1 Q h)) := by
  refine cutOK_head (fun vs h hk => ?_)
  unfold zf36.k9 at hk
  split at hk
  · rename_i a1
    intro todo hm ρ a w s f hp
    exact piece (E := zf36.E Q []) (vs := [.int .i64 a1]) (envOK seatOK zf36.callsOK noIfc_ok) (fnOK seatOK zf36.fun) trivial zf36.p9 (fuel := 3000) (by rw [← zf36.e9]; exact hk) hm s f hp
  · exact hk.elim

theorem zf36.p7 : (posC zf36.code []).filter (fun p => Nat.beq p.1 7) = [(7, atPos (posC zf36.code []) 7)] := by kernel_rfl

theorem zf36.e7 : ∀  (a1 : Int) (Q : Int → Heap → Prop) (h : Heap), zf36.j7  a1 Q h = pts (zf36.E Q [(9, ([0], zf36.k9 (fun a1 h => zf36.j9  a1 Q h)))]) 3000 true (atPos (posC zf36.code []) 7) (frAt [0] [.int .i64 a1]) h := by
  intros; kernel_rfl

theorem zf36.s7 {W0 : World} (Q : Int → Heap → Prop)   : CutOK sg W0 76 (entered 31) (Post sg W0 (zf36.ret Q)) (posC zf36.code []) 7 [0] (zf36.k7 (fun a1 h => zf36.j7  a1 Q h)) := by
  refine cutOK_head (fun vs h hk => ?_)
  unfold zf36.k7 at hk
  split at hk
  · rename_i a1
    intro todo hm ρ a w s f hp
    exact piece (E := zf36.E Q [(9, ([0], zf36.k9 (fun a1 h => zf36.j9  a1 Q h)))]) (vs := [.int .i64 a1]) (envOK seatOK zf36.callsOK noIfc_ok) (fnOK seatOK zf36.fun) ⟨(zf36.s9 Q  ), trivial⟩ zf36.p7 (fuel := 3000) (by rw [← zf36.e7]; exact hk) hm s f hp
  · exact hk.elim

theorem zf36.p5 : (posC zf36.code []).filter (fun p => Nat.beq p.1 5) = [(5, atPos (posC zf36.code []) 5)] := by kernel_rfl

theorem zf36.e5 : ∀  (a1 : Int) (Q : Int → Heap → Prop) (h : Heap), zf36.j5  a1 Q h = pts (zf36.E Q [(7, ([0], zf36.k7 (fun a1 h => zf36.j7  a1 Q h)))]) 3000 true (atPos (posC zf36.code []) 5) (frAt [0] [.int .i64 a1]) h := by
  intros; kernel_rfl

theorem zf36.s5 {W0 : World} (Q : Int → Heap → Prop)   : CutOK sg W0 76 (entered 31) (Post sg W0 (zf36.ret Q)) (posC zf36.code []) 5 [0] (zf36.k5 (fun a1 h => zf36.j5  a1 Q h)) := by
  refine cutOK_head (fun vs h hk => ?_)
  unfold zf36.k5 at hk
  split at hk
  · rename_i a1
    intro todo hm ρ a w s f hp
    exact piece (E := zf36.E Q [(7, ([0], zf36.k7 (fun a1 h => zf36.j7  a1 Q h)))]) (vs := [.int .i64 a1]) (envOK seatOK zf36.callsOK noIfc_ok) (fnOK seatOK zf36.fun) ⟨(zf36.s7 Q  ), trivial⟩ zf36.p5 (fuel := 3000) (by rw [← zf36.e5]; exact hk) hm s f hp
  · exact hk.elim

theorem zf36.p3 : (posC zf36.code []).filter (fun p => Nat.beq p.1 3) = [(3, atPos (posC zf36.code []) 3)] := by kernel_rfl

theorem zf36.e3 : ∀  (a1 : Int) (Q : Int → Heap → Prop) (h : Heap), zf36.j3  a1 Q h = pts (zf36.E Q [(4, ([], zf36.k4 (fun  h => zf36.j4   Q h))), (5, ([0], zf36.k5 (fun a1 h => zf36.j5  a1 Q h)))]) 3000 true (atPos (posC zf36.code []) 3) (frAt [0] [.int .i64 a1]) h := by
  intros; kernel_rfl

theorem zf36.s3 {W0 : World} (Q : Int → Heap → Prop)   : CutOK sg W0 76 (entered 31) (Post sg W0 (zf36.ret Q)) (posC zf36.code []) 3 [0] (zf36.k3 (fun a1 h => zf36.j3  a1 Q h)) := by
  refine cutOK_head (fun vs h hk => ?_)
  unfold zf36.k3 at hk
  split at hk
  · rename_i a1
    intro todo hm ρ a w s f hp
    exact piece (E := zf36.E Q [(4, ([], zf36.k4 (fun  h => zf36.j4   Q h))), (5, ([0], zf36.k5 (fun a1 h => zf36.j5  a1 Q h)))]) (vs := [.int .i64 a1]) (envOK seatOK zf36.callsOK noIfc_ok) (fnOK seatOK zf36.fun) ⟨(zf36.s4 Q  ), (zf36.s5 Q  ), trivial⟩ zf36.p3 (fuel := 3000) (by rw [← zf36.e3]; exact hk) hm s f hp
  · exact hk.elim

theorem zf36.e : ∀ (a1 : Int) (Q : Int → Heap → Prop) (h : Heap), zf36 a1 Q h = pts (zf36.E Q [(3, ([0], zf36.k3 (fun a1 h => zf36.j3  a1 Q h)))]) 3000 true [.code zf36.code] (frOf 0 [.int .i64 a1]) h := by
  intros; kernel_rfl

theorem zf36.S {W0 : World} : FnS sg W0 222 zf36.C := by
  intro vs κ h wv hx w s
  unfold zf36.C at hx
  split at hx
  · rename_i a1
    refine postImp (ret := zf36.ret (fun r1 h => κ (.int .i64 r1) h)) (fun v h hr => by unfold zf36.ret at hr; split at hr; exact hr; exact hr.elim) ?_
    exact calls_of_pts (E := zf36.E (fun r1 h => κ (.int .i64 r1) h) [(3, ([0], zf36.k3 (fun a1 h => zf36.j3  a1 (fun r1 h => κ (.int .i64 r1) h) h)))]) (envOK seatOK zf36.callsOK noIfc_ok) seatOK.mixed zf36.fun (Nat.le_of_ble_eq_true rfl) wv (cutL_ok ⟨(zf36.s3 (fun r1 h => κ (.int .i64 r1) h)), trivial⟩) s (fuel := 3000) (by rw [← zf36.e]; exact hx)
  · exact hx.elim

noncomputable def zf45.code : Code := Go.Proofs.Tryz.f86.body.getD .skip

theorem zf45.fun : Fun sg.P 86 35 [.tmp 2] zf45.code := mkFun Go.Proofs.Tryz.func86 (by kernel_rfl) (by kernel_rfl) (by kernel_rfl) (by kernel_rfl)

def zf45.ret (Q : (List UInt8) → Heap → Prop) (v : V) (h : Heap) : Prop :=
  match v with
  | .str r1 => Q r1 h
  | _ => False

def zf45.C (vs : List V) (κ : V → Heap → Prop) (h : Heap) : Prop :=
  match vs with
  | [.int .i64 a1] => zf45 a1 (fun r1 h => κ (.str r1) h) h
  | _ => False

noncomputable def zf45.calls : List (Nat × (List V → (V → Heap → Prop) → Heap → Prop)) := [(222, zf36.C)]

noncomputable def zf45.E (Q : (List UInt8) → Heap → Prop) (cuts : List (Nat × (List Nat × (List V → Heap → Prop)))) : Env := { tis := tisT, fns := fnsT, tys := tysT, gls := [], rts := rtsT, unk := [], nxt := [], calls := zf45.calls, ifc := noIfc, cuts := cuts, ret := zf45.ret Q, rets := [.tmp 2], n := 35 }

theorem zf45.callsOK {W0 : World} : CallsOK sg W0 zf45.calls := ⟨zf36.S, trivial⟩

theorem zf45.e : ∀ (a1 : Int) (Q : (List UInt8) → Heap → Prop) (h : Heap), zf45 a1 Q h = pts (zf45.E Q []) 3000 true [.code zf45.code] (frOf 0 [.int .i64 a1]) h := by
  intros; kernel_rfl

theorem zf45.S {W0 : World} : FnS sg W0 346 zf45.C := by
  intro vs κ h wv hx w s
  unfold zf45.C at hx
  split at hx
  · rename_i a1
    refine postImp (ret := zf45.ret (fun r1 h => κ (.str r1) h)) (fun v h hr => by unfold zf45.ret at hr; split at hr; exact hr; exact hr.elim) ?_
    exact calls_of_pts (E := zf45.E (fun r1 h => κ (.str r1) h) []) (envOK seatOK zf45.callsOK noIfc_ok) seatOK.mixed zf45.fun (Nat.le_of_ble_eq_true rfl) wv (cutL_ok trivial) s (fuel := 3000) (by rw [← zf45.e]; exact hx)
  · exact hx.elim

end Go.Fn
