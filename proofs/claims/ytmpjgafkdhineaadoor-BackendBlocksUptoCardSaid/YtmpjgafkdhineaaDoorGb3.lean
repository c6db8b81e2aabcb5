/- The links of the shallow functions to the machine. PRINTED by lift.py. -/
import Derived.Test.YtmpjgafkdhineaaDoorGb2

set_option linter.unusedVariables false
set_option maxRecDepth 100000
namespace Go.Fn
open Go.Lift

noncomputable def zf61.code : Code := Go.Proofs.Tryd.f73.body.getD .skip

theorem zf61.fun : Fun sg.P 73 9 [.tmp 4] zf61.code := mkFun Go.Proofs.Tryd.func73 (by kernel_rfl) (by kernel_rfl) (by kernel_rfl) (by kernel_rfl)

def zf61.ret (Q : Bool → Heap → Prop) (v : V) (h : Heap) : Prop :=
  match v with
  | .bool r1 => Q r1 h
  | _ => False

def zf61.C (U : Ifc) (vs : List V) (κ : V → Heap → Prop) (h : Heap) : Prop :=
  match vs with
  | [.sl a1, a2] => zf61 U a1 a2 (fun r1 h => κ (.bool r1) h) h
  | _ => False

noncomputable def zf61.calls (U : Ifc) : List (Nat × (List V → (V → Heap → Prop) → Heap → Prop)) := [(72, zf64.C U)]

noncomputable def zf61.E (U : Ifc) (Q : Bool → Heap → Prop) (cuts : List (Nat × (List Nat × (List V → Heap → Prop)))) : Env := { tis := tisT, fns := fnsT, tys := tysT, gls := glsT, rts := rtsT, unk := [], nxt := [], calls := zf61.calls U, ifc := U, cuts := cuts, ret := zf61.ret Q, rets := [.tmp 4], n := 9 }

theorem zf61.callsOK {W0 : World} {U : Ifc} (hU : IfcOK sg W0 glsT U) : CallsOK sg W0 (zf61.calls U) := ⟨(zf64.S hU), trivial⟩

theorem zf61.e : ∀ (U : Ifc) (a1 : Sl) (a2 : V) (Q : Bool → Heap → Prop) (h : Heap), zf61 U a1 a2 Q h = pts (zf61.E U Q []) 3000 true [.code zf61.code] (frOf 0 [.sl a1, a2]) h := by
  intros; kernel_rfl

theorem zf61.S {W0 : World} {U : Ifc} (hU : IfcOK sg W0 glsT U) : FnS sg W0 73 (zf61.C U) := by
  intro vs κ h wv hx w s
  unfold zf61.C at hx
  split at hx
  · rename_i a1 a2
    refine postImp (ret := zf61.ret (fun r1 h => κ (.bool r1) h)) (fun v h hr => by unfold zf61.ret at hr; split at hr; exact hr; exact hr.elim) ?_
    exact calls_of_pts (E := zf61.E U (fun r1 h => κ (.bool r1) h) []) (envOK seatOK (zf61.callsOK hU) hU) seatOK.mixed zf61.fun (Nat.le_of_ble_eq_true rfl) wv (cutL_ok trivial) s (fuel := 3000) (by rw [← zf61.e]; exact hx)
  · exact hx.elim

noncomputable def zf59.code : Code := Go.Proofs.Tryd.f75.body.getD .skip

theorem zf59.fun : Fun sg.P 75 8 [.tmp 2] zf59.code := mkFun Go.Proofs.Tryd.func75 (by kernel_rfl) (by kernel_rfl) (by kernel_rfl) (by kernel_rfl)

def zf59.ret (Q : Sl → Heap → Prop) (v : V) (h : Heap) : Prop :=
  match v with
  | .sl r1 => Q r1 h
  | _ => False

def zf59.C (vs : List V) (κ : V → Heap → Prop) (h : Heap) : Prop :=
  match vs with
  | [.sl a1] => zf59 a1 (fun r1 h => κ (.sl r1) h) h
  | _ => False

noncomputable def zf59.calls : List (Nat × (List V → (V → Heap → Prop) → Heap → Prop)) := []

noncomputable def zf59.E (Q : Sl → Heap → Prop) (cuts : List (Nat × (List Nat × (List V → Heap → Prop)))) : Env := { tis := tisT, fns := fnsT, tys := tysT, gls := [], rts := rtsT, unk := [], nxt := [], calls := zf59.calls, ifc := noIfc, cuts := cuts, ret := zf59.ret Q, rets := [.tmp 2], n := 8 }

theorem zf59.callsOK {W0 : World} : CallsOK sg W0 zf59.calls := trivial

theorem zf59.e : ∀ (a1 : Sl) (Q : Sl → Heap → Prop) (h : Heap), zf59 a1 Q h = pts (zf59.E Q []) 3000 true [.code zf59.code] (frOf 0 [.sl a1]) h := by
  intros; kernel_rfl

theorem zf59.S {W0 : World} : FnS sg W0 58 zf59.C := by
  intro vs κ h wv hx w s
  unfold zf59.C at hx
  split at hx
  · rename_i a1
    refine postImp (ret := zf59.ret (fun r1 h => κ (.sl r1) h)) (fun v h hr => by unfold zf59.ret at hr; split at hr; exact hr; exact hr.elim) ?_
    exact calls_of_pts (E := zf59.E (fun r1 h => κ (.sl r1) h) []) (envOK seatOK zf59.callsOK noIfc_ok) seatOK.mixed zf59.fun (Nat.le_of_ble_eq_true rfl) wv (cutL_ok trivial) s (fuel := 3000) (by rw [← zf59.e]; exact hx)
  · exact hx.elim

noncomputable def zf15.code : Code := Go.Proofs.Tryd.f44.body.getD .skip

theorem zf15.fun : Fun sg.P 44 34 [.tmp 6] zf15.code := mkFun Go.Proofs.Tryd.func44 (by kernel_rfl) (by kernel_rfl) (by kernel_rfl) (by kernel_rfl)

def zf15.ret (Q : Int → Heap → Prop) (v : V) (h : Heap) : Prop :=
  match v with
  | .int .i64 r1 => Q r1 h
  | _ => False

def zf15.C (U : Ifc) (vs : List V) (κ : V → Heap → Prop) (h : Heap) : Prop :=
  match vs with
  | [.ptr a1, .int .i64 a2, .sl a3] => zf15 U a1 a2 a3 (fun r1 h => κ (.int .i64 r1) h) h
  | _ => False

noncomputable def zf15.calls (U : Ifc) : List (Nat × (List V → (V → Heap → Prop) → Heap → Prop)) := [(36, zf20.C), (73, zf61.C U), (58, zf59.C)]

noncomputable def zf15.E (U : Ifc) (Q : Int → Heap → Prop) (cuts : List (Nat × (List Nat × (List V → Heap → Prop)))) : Env := { tis := tisT, fns := fnsT, tys := tysT, gls := glsT, rts := rtsT, unk := [], nxt := [], calls := zf15.calls U, ifc := U, cuts := cuts, ret := zf15.ret Q, rets := [.tmp 6], n := 34 }

theorem zf15.callsOK {W0 : World} {U : Ifc} (hU : IfcOK sg W0 glsT U) : CallsOK sg W0 (zf15.calls U) := ⟨zf20.S, (zf61.S hU), zf59.S, trivial⟩

theorem zf15.e : ∀ (U : Ifc) (a1 : Option Ptr) (a2 : Int) (a3 : Sl) (Q : Int → Heap → Prop) (h : Heap), zf15 U a1 a2 a3 Q h = pts (zf15.E U Q []) 3000 true [.code zf15.code] (frOf 0 [.ptr a1, .int .i64 a2, .sl a3]) h := by
  intros; kernel_rfl

theorem zf15.S {W0 : World} {U : Ifc} (hU : IfcOK sg W0 glsT U) : FnS sg W0 86 (zf15.C U) := by
  intro vs κ h wv hx w s
  unfold zf15.C at hx
  split at hx
  · rename_i a1 a2 a3
    refine postImp (ret := zf15.ret (fun r1 h => κ (.int .i64 r1) h)) (fun v h hr => by unfold zf15.ret at hr; split at hr; exact hr; exact hr.elim) ?_
    exact calls_of_pts (E := zf15.E U (fun r1 h => κ (.int .i64 r1) h) []) (envOK seatOK (zf15.callsOK hU) hU) seatOK.mixed zf15.fun (Nat.le_of_ble_eq_true rfl) wv (cutL_ok trivial) s (fuel := 3000) (by rw [← zf15.e]; exact hx)
  · exact hx.elim

noncomputable def zf10.code : Code := Go.Proofs.Tryd.f45.body.getD .skip

theorem zf10.fun : Fun sg.P 45 24 [.tmp 4, .tmp 5] zf10.code := mkFun Go.Proofs.Tryd.func45 (by kernel_rfl) (by kernel_rfl) (by kernel_rfl) (by kernel_rfl)

def zf10.ret (Q : Sl → Int → Heap → Prop) (v : V) (h : Heap) : Prop :=
  match v with
  | .tup [.sl r1, .int .i64 r2] => Q r1 r2 h
  | _ => False

def zf10.C (vs : List V) (κ : V → Heap → Prop) (h : Heap) : Prop :=
  match vs with
  | [.ptr a1, .int .i64 a2] => zf10 a1 a2 (fun r1 r2 h => κ (.tup [.sl r1, .int .i64 r2]) h) h
  | _ => False

noncomputable def zf10.calls : List (Nat × (List V → (V → Heap → Prop) → Heap → Prop)) := [(36, zf20.C)]

noncomputable def zf10.E (Q : Sl → Int → Heap → Prop) (cuts : List (Nat × (List Nat × (List V → Heap → Prop)))) : Env := { tis := tisT, fns := fnsT, tys := tysT, gls := [], rts := rtsT, unk := [], nxt := [], calls := zf10.calls, ifc := noIfc, cuts := cuts, ret := zf10.ret Q, rets := [.tmp 4, .tmp 5], n := 24 }

theorem zf10.callsOK {W0 : World} : CallsOK sg W0 zf10.calls := ⟨zf20.S, trivial⟩

theorem zf10.e : ∀ (a1 : Option Ptr) (a2 : Int) (Q : Sl → Int → Heap → Prop) (h : Heap), zf10 a1 a2 Q h = pts (zf10.E Q []) 3000 true [.code zf10.code] (frOf 0 [.ptr a1, .int .i64 a2]) h := by
  intros; kernel_rfl

theorem zf10.S {W0 : World} : FnS sg W0 87 zf10.C := by
  intro vs κ h wv hx w s
  unfold zf10.C at hx
  split at hx
  · rename_i a1 a2
    refine postImp (ret := zf10.ret (fun r1 r2 h => κ (.tup [.sl r1, .int .i64 r2]) h)) (fun v h hr => by unfold zf10.ret at hr; split at hr; exact hr; exact hr.elim) ?_
    exact calls_of_pts (E := zf10.E (fun r1 r2 h => κ (.tup [.sl r1, .int .i64 r2]) h) []) (envOK seatOK zf10.callsOK noIfc_ok) seatOK.mixed zf10.fun (Nat.le_of_ble_eq_true rfl) wv (cutL_ok trivial) s (fuel := 3000) (by rw [← zf10.e]; exact hx)
  · exact hx.elim

noncomputable def zf12.code : Code := Go.Proofs.Tryd.f13.body.getD .skip

theorem zf12.fun : Fun sg.P 13 93 [.cell 6 57, .tmp 7] zf12.code := mkFun Go.Proofs.Tryd.func13 (by kernel_rfl) (by kernel_rfl) (by kernel_rfl) (by kernel_rfl)

def zf12.ret (Q : Int → Bool → Int → Int → Int → Heap → Prop) (v : V) (h : Heap) : Prop :=
  match v with
  | .tup [.agg [.int .i64 r1, .bool r2, .int .i64 r3, .int .i64 r4], .int .i64 r5] => Q r1 r2 r3 r4 r5 h
  | _ => False

def zf12.C (U : Ifc) (vs : List V) (κ : V → Heap → Prop) (h : Heap) : Prop :=
  match vs with
  | [.ptr a1, .ptr a2, .int .i64 a3] => zf12 U a1 a2 a3 (fun r1 r2 r3 r4 r5 h => κ (.tup [.agg [.int .i64 r1, .bool r2, .int .i64 r3, .int .i64 r4], .int .i64 r5]) h) h
  | _ => False

noncomputable def zf12.calls (U : Ifc) : List (Nat × (List V → (V → Heap → Prop) → Heap → Prop)) := [(33, zf34.C), (29, zf19.C), (55, zf32.C), (71, zf63.C U), (40, zf31.C), (86, zf15.C U), (87, zf10.C)]

noncomputable def zf12.E (U : Ifc) (Q : Int → Bool → Int → Int → Int → Heap → Prop) (cuts : List (Nat × (List Nat × (List V → Heap → Prop)))) : Env := { tis := tisT, fns := fnsT, tys := tysT, gls := glsT, rts := rtsT, unk := [], nxt := [], calls := zf12.calls U, ifc := U, cuts := cuts, ret := zf12.ret Q, rets := [.cell 6 57, .tmp 7], n := 93 }

theorem zf12.callsOK {W0 : World} {U : Ifc} (hU : IfcOK sg W0 glsT U) : CallsOK sg W0 (zf12.calls U) := ⟨zf34.S, zf19.S, zf32.S, (zf63.S hU), zf31.S, (zf15.S hU), zf10.S, trivial⟩

def zf12.k2 (I : Ptr → Heap → Prop) (vs : List V) (h : Heap) : Prop :=
  match vs with
  | [.ptr (some a1)] => I a1 h
  | _ => False

def zf12.k4 (I : Ptr → Heap → Prop) (vs : List V) (h : Heap) : Prop :=
  match vs with
  | [.ptr (some a1)] => I a1 h
  | _ => False

def zf12.k8 (I : Ptr → Ptr → Heap → Prop) (vs : List V) (h : Heap) : Prop :=
  match vs with
  | [.ptr (some a1), .ptr (some a2)] => I a1 a2 h
  | _ => False

def zf12.k10 (I : (Option Ptr) → (Option Ptr) → Ptr → Ptr → Int → Heap → Prop) (vs : List V) (h : Heap) : Prop :=
  match vs with
  | [.ptr a1, .ptr a2, .ptr (some a3), .ptr (some a4), .int .u64 a5] => I a1 a2 a3 a4 a5 h
  | _ => False

def zf12.k6 (I : (Option Ptr) → (Option Ptr) → Ptr → Ptr → Heap → Prop) (vs : List V) (h : Heap) : Prop :=
  match vs with
  | [.ptr a1, .ptr a2, .ptr (some a3), .ptr (some a4)] => I a1 a2 a3 a4 h
  | _ => False

theorem zf12.p2 : (posC zf12.code []).filter (fun p => Nat.beq p.1 2) = [(2, atPos (posC zf12.code []) 2)] := by kernel_rfl

theorem zf12.e2 : ∀ (U : Ifc)  (a1 : Ptr) (Q : Int → Bool → Int → Int → Int → Heap → Prop) (h : Heap), zf12.j2 U  a1 Q h = pts (zf12.E U Q []) 3000 true (atPos (posC zf12.code []) 2) (frAt [6] [.ptr (some a1)]) h := by
  intros; kernel_rfl

theorem zf12.s2 {W0 : World} {U : Ifc} (hU : IfcOK sg W0 glsT U) (Q : Int → Bool → Int → Int → Int → Heap → Prop)   : CutOK sg W0 93 (entered 13) (Post sg W0 (zf12.ret Q)) (posC zf12.code []) 2 [6] (zf12.k2 (fun a1 h => zf12.j2 U  a1 Q h)) := by
  refine cutOK_head (fun vs h hk => ?_)
  unfold zf12.k2 at hk
  split at hk
  · rename_i a1
    intro todo hm ρ a w s f hp
    exact piece (E := zf12.E U Q []) (vs := [.ptr (some a1)]) (envOK seatOK (zf12.callsOK hU) hU) (fnOK seatOK zf12.fun) trivial zf12.p2 (fuel := 3000) (by rw [← zf12.e2]; exact hk) hm s f hp
  · exact hk.elim

theorem zf12.p4 : (posC zf12.code []).filter (fun p => Nat.beq p.1 4) = [(4, atPos (posC zf12.code []) 4)] := by kernel_rfl

theorem zf12.e4 : ∀ (U : Ifc)  (a1 : Ptr) (Q : Int → Bool → Int → Int → Int → Heap → Prop) (h : Heap), zf12.j4 U  a1 Q h = pts (zf12.E U Q []) 3000 true (atPos (posC zf12.code []) 4) (frAt [6] [.ptr (some a1)]) h := by
  intros; kernel_rfl

theorem zf12.s4 {W0 : World} {U : Ifc} (hU : IfcOK sg W0 glsT U) (Q : Int → Bool → Int → Int → Int → Heap → Prop)   : CutOK sg W0 93 (entered 13) (Post sg W0 (zf12.ret Q)) (posC zf12.code []) 4 [6] (zf12.k4 (fun a1 h => zf12.j4 U  a1 Q h)) := by
  refine cutOK_head (fun vs h hk => ?_)
  unfold zf12.k4 at hk
  split at hk
  · rename_i a1
    intro todo hm ρ a w s f hp
    exact piece (E := zf12.E U Q []) (vs := [.ptr (some a1)]) (envOK seatOK (zf12.callsOK hU) hU) (fnOK seatOK zf12.fun) trivial zf12.p4 (fuel := 3000) (by rw [← zf12.e4]; exact hk) hm s f hp
  · exact hk.elim

theorem zf12.p8 : (posC zf12.code []).filter (fun p => Nat.beq p.1 8) = [(8, atPos (posC zf12.code []) 8)] := by kernel_rfl

theorem zf12.e8 : ∀ (U : Ifc)  (a1 : Ptr) (a2 : Ptr) (Q : Int → Bool → Int → Int → Int → Heap → Prop) (h : Heap), zf12.j8 U  a1 a2 Q h = pts (zf12.E U Q []) 3000 true (atPos (posC zf12.code []) 8) (frAt [6, 8] [.ptr (some a1), .ptr (some a2)]) h := by
  intros; kernel_rfl

theorem zf12.s8 {W0 : World} {U : Ifc} (hU : IfcOK sg W0 glsT U) (Q : Int → Bool → Int → Int → Int → Heap → Prop)   : CutOK sg W0 93 (entered 13) (Post sg W0 (zf12.ret Q)) (posC zf12.code []) 8 [6, 8] (zf12.k8 (fun a1 a2 h => zf12.j8 U  a1 a2 Q h)) := by
  refine cutOK_head (fun vs h hk => ?_)
  unfold zf12.k8 at hk
  split at hk
  · rename_i a1 a2
    intro todo hm ρ a w s f hp
    exact piece (E := zf12.E U Q []) (vs := [.ptr (some a1), .ptr (some a2)]) (envOK seatOK (zf12.callsOK hU) hU) (fnOK seatOK zf12.fun) trivial zf12.p8 (fuel := 3000) (by rw [← zf12.e8]; exact hk) hm s f hp
  · exact hk.elim

theorem zf12.p10 : (posC zf12.code []).filter (fun p => Nat.beq p.1 10) = [(10, atPos (posC zf12.code []) 10)] := by kernel_rfl

theorem zf12.e10 : ∀ (U : Ifc)  (a1 : Option Ptr) (a2 : Option Ptr) (a3 : Ptr) (a4 : Ptr) (a5 : Int) (Q : Int → Bool → Int → Int → Int → Heap → Prop) (h : Heap), zf12.j10 U  a1 a2 a3 a4 a5 Q h = pts (zf12.E U Q []) 3000 true (atPos (posC zf12.code []) 10) (frAt [0, 1, 6, 8, 9] [.ptr a1, .ptr a2, .ptr (some a3), .ptr (some a4), .int .u64 a5]) h := by
  intros; kernel_rfl

theorem zf12.s10 {W0 : World} {U : Ifc} (hU : IfcOK sg W0 glsT U) (Q : Int → Bool → Int → Int → Int → Heap → Prop)   : CutOK sg W0 93 (entered 13) (Post sg W0 (zf12.ret Q)) (posC zf12.code []) 10 [0, 1, 6, 8, 9] (zf12.k10 (fun a1 a2 a3 a4 a5 h => zf12.j10 U  a1 a2 a3 a4 a5 Q h)) := by
  refine cutOK_head (fun vs h hk => ?_)
  unfold zf12.k10 at hk
  split at hk
  · rename_i a1 a2 a3 a4 a5
    intro todo hm ρ a w s f hp
    exact piece (E := zf12.E U Q []) (vs := [.ptr a1, .ptr a2, .ptr (some a3), .ptr (some a4), .int .u64 a5]) (envOK seatOK (zf12.callsOK hU) hU) (fnOK seatOK zf12.fun) trivial zf12.p10 (fuel := 3000) (by rw [← zf12.e10]; exact hk) hm s f hp
  · exact hk.elim

theorem zf12.p6 : (posC zf12.code []).filter (fun p => Nat.beq p.1 6) = [(6, atPos (posC zf12.code []) 6)] := by kernel_rfl

theorem zf12.e6 : ∀ (U : Ifc)  (a1 : Option Ptr) (a2 : Option Ptr) (a3 : Ptr) (a4 : Ptr) (Q : Int → Bool → Int → Int → Int → Heap → Prop) (h : Heap), zf12.j6 U  a1 a2 a3 a4 Q h = pts (zf12.E U Q [(8, ([6, 8], zf12.k8 (fun a1 a2 h => zf12.j8 U  a1 a2 Q h))), (10, ([0, 1, 6, 8, 9], zf12.k10 (fun a1 a2 a3 a4 a5 h => zf12.j10 U  a1 a2 a3 a4 a5 Q h)))]) 3000 true (atPos (posC zf12.code []) 6) (frAt [0, 1, 6, 8] [.ptr a1, .ptr a2, .ptr (some a3), .ptr (some a4)]) h := by
  intros; kernel_rfl

theorem zf12.s6 {W0 : World} {U : Ifc} (hU : IfcOK sg W0 glsT U) (Q : Int → Bool → Int → Int → Int → Heap → Prop)   : CutOK sg W0 93 (entered 13) (Post sg W0 (zf12.ret Q)) (posC zf12.code []) 6 [0, 1, 6, 8] (zf12.k6 (fun a1 a2 a3 a4 h => zf12.j6 U  a1 a2 a3 a4 Q h)) := by
  refine cutOK_head (fun vs h hk => ?_)
  unfold zf12.k6 at hk
  split at hk
  · rename_i a1 a2 a3 a4
    intro todo hm ρ a w s f hp
    exact piece (E := zf12.E U Q [(8, ([6, 8], zf12.k8 (fun a1 a2 h => zf12.j8 U  a1 a2 Q h))), (10, ([0, 1, 6, 8, 9], zf12.k10 (fun a1 a2 a3 a4 a5 h => zf12.j10 U  a1 a2 a3 a4 a5 Q h)))]) (vs := [.ptr a1, .ptr a2, .ptr (some a3), .ptr (some a4)]) (envOK seatOK (zf12.callsOK hU) hU) (fnOK seatOK zf12.fun) ⟨(zf12.s8 hU Q  ), (zf12.s10 hU Q  ), trivial⟩ zf12.p6 (fuel := 3000) (by rw [← zf12.e6]; exact hk) hm s f hp
  · exact hk.elim

theorem zf12.e : ∀ (U : Ifc) (a1 : Option Ptr) (a2 : Option Ptr) (a3 : Int) (Q : Int → Bool → Int → Int → Int → Heap → Prop) (h : Heap), zf12 U a1 a2 a3 Q h = pts (zf12.E U Q [(2, ([6], zf12.k2 (fun a1 h => zf12.j2 U  a1 Q h))), (4, ([6], zf12.k4 (fun a1 h => zf12.j4 U  a1 Q h))), (6, ([0, 1, 6, 8], zf12.k6 (fun a1 a2 a3 a4 h => zf12.j6 U  a1 a2 a3 a4 Q h)))]) 3000 true [.code zf12.code] (frOf 0 [.ptr a1, .ptr a2, .int .i64 a3]) h := by
  intros; kernel_rfl

theorem zf12.S {W0 : World} {U : Ifc} (hU : IfcOK sg W0 glsT U) : FnS sg W0 88 (zf12.C U) := by
  intro vs κ h wv hx w s
  unfold zf12.C at hx
  split at hx
  · rename_i a1 a2 a3
    refine postImp (ret := zf12.ret (fun r1 r2 r3 r4 r5 h => κ (.tup [.agg [.int .i64 r1, .bool r2, .int .i64 r3, .int .i64 r4], .int .i64 r5]) h)) (fun v h hr => by unfold zf12.ret at hr; split at hr; exact hr; exact hr.elim) ?_
    exact calls_of_pts (E := zf12.E U (fun r1 r2 r3 r4 r5 h => κ (.tup [.agg [.int .i64 r1, .bool r2, .int .i64 r3, .int .i64 r4], .int .i64 r5]) h) [(2, ([6], zf12.k2 (fun a1 h => zf12.j2 U  a1 (fun r1 r2 r3 r4 r5 h => κ (.tup [.agg [.int .i64 r1, .bool r2, .int .i64 r3, .int .i64 r4], .int .i64 r5]) h) h))), (4, ([6], zf12.k4 (fun a1 h => zf12.j4 U  a1 (fun r1 r2 r3 r4 r5 h => κ (.tup [.agg [.int .i64 r1, .bool r2, .int .i64 r3, .int .i64 r4], .int .i64 r5]) h) h))), (6, ([0, 1, 6, 8], zf12.k6 (fun a1 a2 a3 a4 h => zf12.j6 U  a1 a2 a3 a4 (fun r1 r2 r3 r4 r5 h => κ (.tup [.agg [.int .i64 r1, .bool r2, .int .i64 r3, .int .i64 r4], .int .i64 r5]) h) h)))]) (envOK seatOK (zf12.callsOK hU) hU) seatOK.mixed zf12.fun (Nat.le_of_ble_eq_true rfl) wv (cutL_ok ⟨(zf12.s2 hU (fun r1 r2 r3 r4 r5 h => κ (.tup [.agg [.int .i64 r1, .bool r2, .int .i64 r3, .int .i64 r4], .int .i64 r5]) h)), (zf12.s4 hU (fun r1 r2 r3 r4 r5 h => κ (.tup [.agg [.int .i64 r1, .bool r2, .int .i64 r3, .int .i64 r4], .int .i64 r5]) h)), (zf12.s6 hU (fun r1 r2 r3 r4 r5 h => κ (.tup [.agg [.int .i64 r1, .bool r2, .int .i64 r3, .int .i64 r4], .int .i64 r5]) h)), trivial⟩) s (fuel := 3000) (by rw [← zf12.e]; exact hx)
  · exact hx.elim

noncomputable def zf0.code : Code := Go.Proofs.Tryd.f14.body.getD .skip

theorem zf0.fun : Fun sg.P 14 59 [.tmp 6, .tmp 7] zf0.code := mkFun Go.Proofs.Tryd.func14 (by kernel_rfl) (by kernel_rfl) (by kernel_rfl) (by kernel_rfl)

def zf0.ret (Q : Bool → Int → Heap → Prop) (v : V) (h : Heap) : Prop :=
  match v with
  | .tup [.bool r1, .int .i64 r2] => Q r1 r2 h
  | _ => False

def zf0.C (U : Ifc) (vs : List V) (κ : V → Heap → Prop) (h : Heap) : Prop :=
  match vs with
  | [.ptr a1, a2, .int .i64 a3] => zf0 U a1 a2 a3 (fun r1 r2 h => κ (.tup [.bool r1, .int .i64 r2]) h) h
  | _ => False

noncomputable def zf0.calls (U : Ifc) : List (Nat × (List V → (V → Heap → Prop) → Heap → Prop)) := [(266, zf4.C), (78, zf53.C U), (274, zf8.C U), (272, zf23.C)]

noncomputable def zf0.E (U : Ifc) (Q : Bool → Int → Heap → Prop) (cuts : List (Nat × (List Nat × (List V → Heap → Prop)))) : Env := { tis := tisT, fns := fnsT, tys := tysT, gls := glsT, rts := rtsT, unk := [], nxt := [], calls := zf0.calls U, ifc := U, cuts := cuts, ret := zf0.ret Q, rets := [.tmp 6, .tmp 7], n := 59 }

theorem zf0.callsOK {W0 : World} {U : Ifc} (hU : IfcOK sg W0 glsT U) : CallsOK sg W0 (zf0.calls U) := ⟨zf4.S, (zf53.S hU), (zf8.S hU), zf23.S, trivial⟩

def zf0.k7 (I : (Option Ptr) → V → Ptr → Heap → Prop) (vs : List V) (h : Heap) : Prop :=
  match vs with
  | [.ptr a1, a2, .ptr (some a3)] => I a1 a2 a3 h
  | _ => False

theorem zf0.p7 : (posC zf0.code []).filter (fun p => Nat.beq p.1 7) = [(7, atPos (posC zf0.code []) 7)] := by kernel_rfl

theorem zf0.e7 : ∀ (U : Ifc)  (a1 : Option Ptr) (a2 : V) (a3 : Ptr) (Q : Bool → Int → Heap → Prop) (h : Heap), zf0.j7 U  a1 a2 a3 Q h = pts (zf0.E U Q []) 3000 true (atPos (posC zf0.code []) 7) (frAt [0, 1, 8] [.ptr a1, a2, .ptr (some a3)]) h := by
  intros; kernel_rfl

theorem zf0.s7 {W0 : World} {U : Ifc} (hU : IfcOK sg W0 glsT U) (Q : Bool → Int → Heap → Prop)   : CutOK sg W0 59 (entered 14) (Post sg W0 (zf0.ret Q)) (posC zf0.code []) 7 [0, 1, 8] (zf0.k7 (fun a1 a2 a3 h => zf0.j7 U  a1 a2 a3 Q h)) := by
  refine cutOK_head (fun vs h hk => ?_)
  unfold zf0.k7 at hk
  split at hk
  · rename_i a1 a2 a3
    intro todo hm ρ a w s f hp
    exact piece (E := zf0.E U Q []) (vs := [.ptr a1, a2, .ptr (some a3)]) (envOK seatOK (zf0.callsOK hU) hU) (fnOK seatOK zf0.fun) trivial zf0.p7 (fuel := 3000) (by rw [← zf0.e7]; exact hk) hm s f hp
  · exact hk.elim

theorem zf0.e : ∀ (U : Ifc) (a1 : Option Ptr) (a2 : V) (a3 : Int) (Q : Bool → Int → Heap → Prop) (h : Heap), zf0 U a1 a2 a3 Q h = pts (zf0.E U Q [(7, ([0, 1, 8], zf0.k7 (fun a1 a2 a3 h => zf0.j7 U  a1 a2 a3 Q h)))]) 3000 true [.code zf0.code] (frOf 0 [.ptr a1, a2, .int .i64 a3]) h := by
  intros; kernel_rfl

theorem zf0.S {W0 : World} {U : Ifc} (hU : IfcOK sg W0 glsT U) : FnS sg W0 276 (zf0.C U) := by
  intro vs κ h wv hx w s
  unfold zf0.C at hx
  split at hx
  · rename_i a1 a2 a3
    refine postImp (ret := zf0.ret (fun r1 r2 h => κ (.tup [.bool r1, .int .i64 r2]) h)) (fun v h hr => by unfold zf0.ret at hr; split at hr; exact hr; exact hr.elim) ?_
    exact calls_of_pts (E := zf0.E U (fun r1 r2 h => κ (.tup [.bool r1, .int .i64 r2]) h) [(7, ([0, 1, 8], zf0.k7 (fun a1 a2 a3 h => zf0.j7 U  a1 a2 a3 (fun r1 r2 h => κ (.tup [.bool r1, .int .i64 r2]) h) h)))]) (envOK seatOK (zf0.callsOK hU) hU) seatOK.mixed zf0.fun (Nat.le_of_ble_eq_true rfl) wv (cutL_ok ⟨(zf0.s7 hU (fun r1 r2 h => κ (.tup [.bool r1, .int .i64 r2]) h)), trivial⟩) s (fuel := 3000) (by rw [← zf0.e]; exact hx)
  · exact hx.elim

noncomputable def zf66.code : Code := Go.Proofs.Tryd.f78.body.getD .skip

theorem zf66.fun : Fun sg.P 78 53 [.tmp 6, .tmp 7] zf66.code := mkFun Go.Proofs.Tryd.func78 (by kernel_rfl) (by kernel_rfl) (by kernel_rfl) (by kernel_rfl)

def zf66.ret (Q : Int → Bool → Heap → Prop) (v : V) (h : Heap) : Prop :=
  match v with
  | .tup [.int .u64 r1, .bool r2] => Q r1 r2 h
  | _ => False

def zf66.C (U : Ifc) (vs : List V) (κ : V → Heap → Prop) (h : Heap) : Prop :=
  match vs with
  | [.sl a1, .int .i64 a2, .int .i64 a3] => zf66 U a1 a2 a3 (fun r1 r2 h => κ (.tup [.int .u64 r1, .bool r2]) h) h
  | _ => False

noncomputable def zf66.calls (U : Ifc) : List (Nat × (List V → (V → Heap → Prop) → Heap → Prop)) := [(93, zf68.C U)]

noncomputable def zf66.E (U : Ifc) (Q : Int → Bool → Heap → Prop) (cuts : List (Nat × (List Nat × (List V → Heap → Prop)))) : Env := { tis := tisT, fns := fnsT, tys := tysT, gls := glsT, rts := rtsT, unk := [], nxt := [], calls := zf66.calls U, ifc := U, cuts := cuts, ret := zf66.ret Q, rets := [.tmp 6, .tmp 7], n := 53 }

theorem zf66.callsOK {W0 : World} {U : Ifc} (hU : IfcOK sg W0 glsT U) : CallsOK sg W0 (zf66.calls U) := ⟨(zf68.S hU), trivial⟩

def zf66.k2 (I : Heap → Prop) (vs : List V) (h : Heap) : Prop :=
  match vs with
  | [] => I  h
  | _ => False

def zf66.k5 (I : Int → Int → Sl → Int → Int → Heap → Prop) (vs : List V) (h : Heap) : Prop :=
  match vs with
  | [.int .i64 a1, .int .u64 a2, .sl a3, .int .i64 a4, .int .i64 a5] => I a1 a2 a3 a4 a5 h
  | _ => False

theorem zf66.p2 : (posC zf66.code []).filter (fun p => Nat.beq p.1 2) = [(2, atPos (posC zf66.code []) 2)] := by kernel_rfl

theorem zf66.e2 : ∀ (U : Ifc)   (Q : Int → Bool → Heap → Prop) (h : Heap), zf66.j2 U   Q h = pts (zf66.E U Q []) 3000 true (atPos (posC zf66.code []) 2) (frAt [] []) h := by
  intros; kernel_rfl

theorem zf66.s2 {W0 : World} {U : Ifc} (hU : IfcOK sg W0 glsT U) (Q : Int → Bool → Heap → Prop)   : CutOK sg W0 53 (entered 78) (Post sg W0 (zf66.ret Q)) (posC zf66.code []) 2 [] (zf66.k2 (fun  h => zf66.j2 U   Q h)) := by
  refine cutOK_head (fun vs h hk => ?_)
  unfold zf66.k2 at hk
  split at hk
  · skip
    intro todo hm ρ a w s f hp
    exact piece (E := zf66.E U Q []) (vs := []) (envOK seatOK (zf66.callsOK hU) hU) (fnOK seatOK zf66.fun) trivial zf66.p2 (fuel := 3000) (by rw [← zf66.e2]; exact hk) hm s f hp
  · exact hk.elim

theorem zf66.p5 : (posC zf66.code []).filter (fun p => Nat.beq p.1 5) = [(5, atPos (posC zf66.code []) 5)] := by kernel_rfl

theorem zf66.e5 : ∀ (U : Ifc)  (I5 : Int → Int → Sl → Int → Int → Heap → Prop) (a1 : Int) (a2 : Int) (a3 : Sl) (a4 : Int) (a5 : Int) (Q : Int → Bool → Heap → Prop) (h : Heap), zf66.b5 U  I5 a1 a2 a3 a4 a5 Q h = pts (zf66.E U Q [(5, ([2, 8, 31, 32, 33], zf66.k5 I5))]) 3000 true (atPos (posC zf66.code []) 5) (frAt [2, 8, 31, 32, 33] [.int .i64 a1, .int .u64 a2, .sl a3, .int .i64 a4, .int .i64 a5]) h := by
  intros; kernel_rfl

theorem zf66.s5 {W0 : World} {U : Ifc} (hU : IfcOK sg W0 glsT U) (Q : Int → Bool → Heap → Prop)   : CutOK sg W0 53 (entered 78) (Post sg W0 (zf66.ret Q)) (posC zf66.code []) 5 [2, 8, 31, 32, 33] (zf66.k5 (fun a1 a2 a3 a4 a5 h => zf66.j5 U  a1 a2 a3 a4 a5 Q h)) := by
  refine cutOK_head (fun vs h hk => ?_)
  unfold zf66.k5 at hk
  split at hk
  · rename_i a1 a2 a3 a4 a5
    refine hk (fun a1 a2 a3 a4 a5 h => Head sg W0 53 (entered 78) (Post sg W0 (zf66.ret Q)) (posC zf66.code []) 5 [2, 8, 31, 32, 33] [.int .i64 a1, .int .u64 a2, .sl a3, .int .i64 a4, .int .i64 a5] h) ?_
    intro a1 a2 a3 a4 a5 h hb todo hm ρ a w s f hp
    have hself : CutOK sg W0 53 (entered 78) (Post sg W0 (zf66.ret Q)) (posC zf66.code []) 5 [2, 8, 31, 32, 33] (zf66.k5 (fun a1 a2 a3 a4 a5 h => Head sg W0 53 (entered 78) (Post sg W0 (zf66.ret Q)) (posC zf66.code []) 5 [2, 8, 31, 32, 33] [.int .i64 a1, .int .u64 a2, .sl a3, .int .i64 a4, .int .i64 a5] h)) := cutOK_head (fun vs h hk => by unfold zf66.k5 at hk; split at hk; exact hk; exact hk.elim)
    exact piece (E := zf66.E U Q [(5, ([2, 8, 31, 32, 33], zf66.k5 (fun a1 a2 a3 a4 a5 h => Head sg W0 53 (entered 78) (Post sg W0 (zf66.ret Q)) (posC zf66.code []) 5 [2, 8, 31, 32, 33] [.int .i64 a1, .int .u64 a2, .sl a3, .int .i64 a4, .int .i64 a5] h)))]) (vs := [.int .i64 a1, .int .u64 a2, .sl a3, .int .i64 a4, .int .i64 a5]) (envOK seatOK (zf66.callsOK hU) hU) (fnOK seatOK zf66.fun) ⟨hself, trivial⟩ zf66.p5 (fuel := 3000) (by rw [← zf66.e5]; exact hb) hm s f hp
  · exact hk.elim

theorem zf66.e : ∀ (U : Ifc) (a1 : Sl) (a2 : Int) (a3 : Int) (Q : Int → Bool → Heap → Prop) (h : Heap), zf66 U a1 a2 a3 Q h = pts (zf66.E U Q [(2, ([], zf66.k2 (fun  h => zf66.j2 U   Q h))), (5, ([2, 8, 31, 32, 33], zf66.k5 (fun a1 a2 a3 a4 a5 h => zf66.j5 U  a1 a2 a3 a4 a5 Q h)))]) 3000 true [.code zf66.code] (frOf 0 [.sl a1, .int .i64 a2, .int .i64 a3]) h := by
  intros; kernel_rfl

theorem zf66.S {W0 : World} {U : Ifc} (hU : IfcOK sg W0 glsT U) : FnS sg W0 94 (zf66.C U) := by
  intro vs κ h wv hx w s
  unfold zf66.C at hx
  split at hx
  · rename_i a1 a2 a3
    refine postImp (ret := zf66.ret (fun r1 r2 h => κ (.tup [.int .u64 r1, .bool r2]) h)) (fun v h hr => by unfold zf66.ret at hr; split at hr; exact hr; exact hr.elim) ?_
    exact calls_of_pts (E := zf66.E U (fun r1 r2 h => κ (.tup [.int .u64 r1, .bool r2]) h) [(2, ([], zf66.k2 (fun  h => zf66.j2 U   (fun r1 r2 h => κ (.tup [.int .u64 r1, .bool r2]) h) h))), (5, ([2, 8, 31, 32, 33], zf66.k5 (fun a1 a2 a3 a4 a5 h => zf66.j5 U  a1 a2 a3 a4 a5 (fun r1 r2 h => κ (.tup [.int .u64 r1, .bool r2]) h) h)))]) (envOK seatOK (zf66.callsOK hU) hU) seatOK.mixed zf66.fun (Nat.le_of_ble_eq_true rfl) wv (cutL_ok ⟨(zf66.s2 hU (fun r1 r2 h => κ (.tup [.int .u64 r1, .bool r2]) h)), (zf66.s5 hU (fun r1 r2 h => κ (.tup [.int .u64 r1, .bool r2]) h)), trivial⟩) s (fuel := 3000) (by rw [← zf66.e]; exact hx)
  · exact hx.elim

noncomputable def zf33.code : Code := Go.Proofs.Tryd.f47.body.getD .skip

theorem zf33.fun : Fun sg.P 47 29 [.tmp 6, .tmp 7] zf33.code := mkFun Go.Proofs.Tryd.func47 (by kernel_rfl) (by kernel_rfl) (by kernel_rfl) (by kernel_rfl)

def zf33.ret (Q : Int → Int → Heap → Prop) (v : V) (h : Heap) : Prop :=
  match v with
  | .tup [.int .u64 r1, .int .i64 r2] => Q r1 r2 h
  | _ => False

def zf33.C (U : Ifc) (vs : List V) (κ : V → Heap → Prop) (h : Heap) : Prop :=
  match vs with
  | [.ptr a1, .int .u64 a2, .int .i64 a3] => zf33 U a1 a2 a3 (fun r1 r2 h => κ (.tup [.int .u64 r1, .int .i64 r2]) h) h
  | _ => False

noncomputable def zf33.calls (U : Ifc) : List (Nat × (List V → (V → Heap → Prop) → Heap → Prop)) := [(59, zf37.C), (94, zf66.C U)]

noncomputable def zf33.E (U : Ifc) (Q : Int → Int → Heap → Prop) (cuts : List (Nat × (List Nat × (List V → Heap → Prop)))) : Env := { tis := tisT, fns := fnsT, tys := tysT, gls := glsT, rts := rtsT, unk := [], nxt := [], calls := zf33.calls U, ifc := U, cuts := cuts, ret := zf33.ret Q, rets := [.tmp 6, .tmp 7], n := 29 }

theorem zf33.callsOK {W0 : World} {U : Ifc} (hU : IfcOK sg W0 glsT U) : CallsOK sg W0 (zf33.calls U) := ⟨zf37.S, (zf66.S hU), trivial⟩

theorem zf33.e : ∀ (U : Ifc) (a1 : Option Ptr) (a2 : Int) (a3 : Int) (Q : Int → Int → Heap → Prop) (h : Heap), zf33 U a1 a2 a3 Q h = pts (zf33.E U Q []) 3000 true [.code zf33.code] (frOf 0 [.ptr a1, .int .u64 a2, .int .i64 a3]) h := by
  intros; kernel_rfl

theorem zf33.S {W0 : World} {U : Ifc} (hU : IfcOK sg W0 glsT U) : FnS sg W0 95 (zf33.C U) := by
  intro vs κ h wv hx w s
  unfold zf33.C at hx
  split at hx
  · rename_i a1 a2 a3
    refine postImp (ret := zf33.ret (fun r1 r2 h => κ (.tup [.int .u64 r1, .int .i64 r2]) h)) (fun v h hr => by unfold zf33.ret at hr; split at hr; exact hr; exact hr.elim) ?_
    exact calls_of_pts (E := zf33.E U (fun r1 r2 h => κ (.tup [.int .u64 r1, .int .i64 r2]) h) []) (envOK seatOK (zf33.callsOK hU) hU) seatOK.mixed zf33.fun (Nat.le_of_ble_eq_true rfl) wv (cutL_ok trivial) s (fuel := 3000) (by rw [← zf33.e]; exact hx)
  · exact hx.elim

noncomputable def zf44.code : Code := Go.Proofs.Tryd.f15.body.getD .skip

theorem zf44.fun : Fun sg.P 15 32 [.tmp 6, .tmp 7] zf44.code := mkFun Go.Proofs.Tryd.func15 (by kernel_rfl) (by kernel_rfl) (by kernel_rfl) (by kernel_rfl)

def zf44.ret (Q : Int → Int → Heap → Prop) (v : V) (h : Heap) : Prop :=
  match v with
  | .tup [.int .u64 r1, .int .i64 r2] => Q r1 r2 h
  | _ => False

def zf44.C (U : Ifc) (vs : List V) (κ : V → Heap → Prop) (h : Heap) : Prop :=
  match vs with
  | [.ptr a1, .int .u64 a2, .int .i64 a3] => zf44 U a1 a2 a3 (fun r1 r2 h => κ (.tup [.int .u64 r1, .int .i64 r2]) h) h
  | _ => False

noncomputable def zf44.calls (U : Ifc) : List (Nat × (List V → (V → Heap → Prop) → Heap → Prop)) := [(95, zf33.C U)]

noncomputable def zf44.E (U : Ifc) (Q : Int → Int → Heap → Prop) (cuts : List (Nat × (List Nat × (List V → Heap → Prop)))) : Env := { tis := tisT, fns := fnsT, tys := tysT, gls := glsT, rts := rtsT, unk := [], nxt := [], calls := zf44.calls U, ifc := U, cuts := cuts, ret := zf44.ret Q, rets := [.tmp 6, .tmp 7], n := 32 }

theorem zf44.callsOK {W0 : World} {U : Ifc} (hU : IfcOK sg W0 glsT U) : CallsOK sg W0 (zf44.calls U) := ⟨(zf33.S hU), trivial⟩

theorem zf44.e : ∀ (U : Ifc) (a1 : Option Ptr) (a2 : Int) (a3 : Int) (Q : Int → Int → Heap → Prop) (h : Heap), zf44 U a1 a2 a3 Q h = pts (zf44.E U Q []) 3000 true [.code zf44.code] (frOf 0 [.ptr a1, .int .u64 a2, .int .i64 a3]) h := by
  intros; kernel_rfl

theorem zf44.S {W0 : World} {U : Ifc} (hU : IfcOK sg W0 glsT U) : FnS sg W0 297 (zf44.C U) := by
  intro vs κ h wv hx w s
  unfold zf44.C at hx
  split at hx
  · rename_i a1 a2 a3
    refine postImp (ret := zf44.ret (fun r1 r2 h => κ (.tup [.int .u64 r1, .int .i64 r2]) h)) (fun v h hr => by unfold zf44.ret at hr; split at hr; exact hr; exact hr.elim) ?_
    exact calls_of_pts (E := zf44.E U (fun r1 r2 h => κ (.tup [.int .u64 r1, .int .i64 r2]) h) []) (envOK seatOK (zf44.callsOK hU) hU) seatOK.mixed zf44.fun (Nat.le_of_ble_eq_true rfl) wv (cutL_ok trivial) s (fuel := 3000) (by rw [← zf44.e]; exact hx)
  · exact hx.elim

noncomputable def zf47.code : Code := Go.Proofs.Tryd.f16.body.getD .skip

theorem zf47.fun : Fun sg.P 16 28 [.tmp 2, .tmp 3] zf47.code := mkFun Go.Proofs.Tryd.func16 (by kernel_rfl) (by kernel_rfl) (by kernel_rfl) (by kernel_rfl)

def zf47.ret (Q : Int → Int → Heap → Prop) (v : V) (h : Heap) : Prop :=
  match v with
  | .tup [.int .i64 r1, .int .i64 r2] => Q r1 r2 h
  | _ => False

def zf47.C (U : Ifc) (vs : List V) (κ : V → Heap → Prop) (h : Heap) : Prop :=
  match vs with
  | [.ptr a1] => zf47 U a1 (fun r1 r2 h => κ (.tup [.int .i64 r1, .int .i64 r2]) h) h
  | _ => False

noncomputable def zf47.calls (U : Ifc) : List (Nat × (List V → (V → Heap → Prop) → Heap → Prop)) := [(297, zf44.C U)]

noncomputable def zf47.E (U : Ifc) (Q : Int → Int → Heap → Prop) (cuts : List (Nat × (List Nat × (List V → Heap → Prop)))) : Env := { tis := tisT, fns := fnsT, tys := tysT, gls := glsT, rts := rtsT, unk := [], nxt := [], calls := zf47.calls U, ifc := U, cuts := cuts, ret := zf47.ret Q, rets := [.tmp 2, .tmp 3], n := 28 }

theorem zf47.callsOK {W0 : World} {U : Ifc} (hU : IfcOK sg W0 glsT U) : CallsOK sg W0 (zf47.calls U) := ⟨(zf44.S hU), trivial⟩

theorem zf47.e : ∀ (U : Ifc) (a1 : Option Ptr) (Q : Int → Int → Heap → Prop) (h : Heap), zf47 U a1 Q h = pts (zf47.E U Q []) 3000 true [.code zf47.code] (frOf 0 [.ptr a1]) h := by
  intros; kernel_rfl

theorem zf47.S {W0 : World} {U : Ifc} (hU : IfcOK sg W0 glsT U) : FnS sg W0 302 (zf47.C U) := by
  intro vs κ h wv hx w s
  unfold zf47.C at hx
  split at hx
  · rename_i a1
    refine postImp (ret := zf47.ret (fun r1 r2 h => κ (.tup [.int .i64 r1, .int .i64 r2]) h)) (fun v h hr => by unfold zf47.ret at hr; split at hr; exact hr; exact hr.elim) ?_
    exact calls_of_pts (E := zf47.E U (fun r1 r2 h => κ (.tup [.int .i64 r1, .int .i64 r2]) h) []) (envOK seatOK (zf47.callsOK hU) hU) seatOK.mixed zf47.fun (Nat.le_of_ble_eq_true rfl) wv (cutL_ok trivial) s (fuel := 3000) (by rw [← zf47.e]; exact hx)
  · exact hx.elim

noncomputable def zf42.code : Code := Go.Proofs.Tryd.f17.body.getD .skip

theorem zf42.fun : Fun sg.P 17 49 [.tmp 6, .tmp 7] zf42.code := mkFun Go.Proofs.Tryd.func17 (by kernel_rfl) (by kernel_rfl) (by kernel_rfl) (by kernel_rfl)

def zf42.ret (Q : Sl → Int → Heap → Prop) (v : V) (h : Heap) : Prop :=
  match v with
  | .tup [.sl r1, .int .i64 r2] => Q r1 r2 h
  | _ => False

def zf42.C (vs : List V) (κ : V → Heap → Prop) (h : Heap) : Prop :=
  match vs with
  | [.ptr a1, .int .u64 a2, .int .i64 a3] => zf42 a1 a2 a3 (fun r1 r2 h => κ (.tup [.sl r1, .int .i64 r2]) h) h
  | _ => False

noncomputable def zf42.calls : List (Nat × (List V → (V → Heap → Prop) → Heap → Prop)) := [(40, zf31.C)]

noncomputable def zf42.E (Q : Sl → Int → Heap → Prop) (cuts : List (Nat × (List Nat × (List V → Heap → Prop)))) : Env := { tis := tisT, fns := fnsT, tys := tysT, gls := [], rts := rtsT, unk := [], nxt := [], calls := zf42.calls, ifc := noIfc, cuts := cuts, ret := zf42.ret Q, rets := [.tmp 6, .tmp 7], n := 49 }

theorem zf42.callsOK {W0 : World} : CallsOK sg W0 zf42.calls := ⟨zf31.S, trivial⟩

def zf42.k2 (I : Heap → Prop) (vs : List V) (h : Heap) : Prop :=
  match vs with
  | [] => I  h
  | _ => False

def zf42.k3 (I : (Option Ptr) → Int → Int → Heap → Prop) (vs : List V) (h : Heap) : Prop :=
  match vs with
  | [.ptr a1, .int .u64 a2, .int .i64 a3] => I a1 a2 a3 h
  | _ => False

theorem zf42.p2 : (posC zf42.code []).filter (fun p => Nat.beq p.1 2) = [(2, atPos (posC zf42.code []) 2)] := by kernel_rfl

theorem zf42.e2 : ∀   (Q : Sl → Int → Heap → Prop) (h : Heap), zf42.j2   Q h = pts (zf42.E Q []) 3000 true (atPos (posC zf42.code []) 2) (frAt [] []) h := by
  intros; kernel_rfl

theorem zf42.s2 {W0 : World} (Q : Sl → Int → Heap → Prop)   : CutOK sg W0 49 (entered 17) (Post sg W0 (zf42.ret Q)) (posC zf42.code []) 2 [] (zf42.k2 (fun  h => zf42.j2   Q h)) := by
  refine cutOK_head (fun vs h hk => ?_)
  unfold zf42.k2 at hk
  split at hk
  · skip
    intro todo hm ρ a w s f hp
    exact piece (E := zf42.E Q []) (vs := []) (envOK seatOK zf42.callsOK noIfc_ok) (fnOK seatOK zf42.fun) trivial zf42.p2 (fuel := 3000) (by rw [← zf42.e2]; exact hk) hm s f hp
  · exact hk.elim

theorem zf42.p3 : (posC zf42.code []).filter (fun p => Nat.beq p.1 3) = [(3, atPos (posC zf42.code []) 3)] := by kernel_rfl

theorem zf42.e3 : ∀  (a1 : Option Ptr) (a2 : Int) (a3 : Int) (Q : Sl → Int → Heap → Prop) (h : Heap), zf42.j3  a1 a2 a3 Q h = pts (zf42.E Q []) 3000 true (atPos (posC zf42.code []) 3) (frAt [0, 1, 2] [.ptr a1, .int .u64 a2, .int .i64 a3]) h := by
  intros; kernel_rfl

theorem zf42.s3 {W0 : World} (Q : Sl → Int → Heap → Prop)   : CutOK sg W0 49 (entered 17) (Post sg W0 (zf42.ret Q)) (posC zf42.code []) 3 [0, 1, 2] (zf42.k3 (fun a1 a2 a3 h => zf42.j3  a1 a2 a3 Q h)) := by
  refine cutOK_head (fun vs h hk => ?_)
  unfold zf42.k3 at hk
  split at hk
  · rename_i a1 a2 a3
    intro todo hm ρ a w s f hp
    exact piece (E := zf42.E Q []) (vs := [.ptr a1, .int .u64 a2, .int .i64 a3]) (envOK seatOK zf42.callsOK noIfc_ok) (fnOK seatOK zf42.fun) trivial zf42.p3 (fuel := 3000) (by rw [← zf42.e3]; exact hk) hm s f hp
  · exact hk.elim

theorem zf42.e : ∀ (a1 : Option Ptr) (a2 : Int) (a3 : Int) (Q : Sl → Int → Heap → Prop) (h : Heap), zf42 a1 a2 a3 Q h = pts (zf42.E Q [(2, ([], zf42.k2 (fun  h => zf42.j2   Q h))), (3, ([0, 1, 2], zf42.k3 (fun a1 a2 a3 h => zf42.j3  a1 a2 a3 Q h)))]) 3000 true [.code zf42.code] (frOf 0 [.ptr a1, .int .u64 a2, .int .i64 a3]) h := by
  intros; kernel_rfl

theorem zf42.S {W0 : World} : FnS sg W0 295 zf42.C := by
  intro vs κ h wv hx w s
  unfold zf42.C at hx
  split at hx
  · rename_i a1 a2 a3
    refine postImp (ret := zf42.ret (fun r1 r2 h => κ (.tup [.sl r1, .int .i64 r2]) h)) (fun v h hr => by unfold zf42.ret at hr; split at hr; exact hr; exact hr.elim) ?_
    exact calls_of_pts (E := zf42.E (fun r1 r2 h => κ (.tup [.sl r1, .int .i64 r2]) h) [(2, ([], zf42.k2 (fun  h => zf42.j2   (fun r1 r2 h => κ (.tup [.sl r1, .int .i64 r2]) h) h))), (3, ([0, 1, 2], zf42.k3 (fun a1 a2 a3 h => zf42.j3  a1 a2 a3 (fun r1 r2 h => κ (.tup [.sl r1, .int .i64 r2]) h) h)))]) (envOK seatOK zf42.callsOK noIfc_ok) seatOK.mixed zf42.fun (Nat.le_of_ble_eq_true rfl) wv (cutL_ok ⟨(zf42.s2 (fun r1 r2 h => κ (.tup [.sl r1, .int .i64 r2]) h)), (zf42.s3 (fun r1 r2 h => κ (.tup [.sl r1, .int .i64 r2]) h)), trivial⟩) s (fuel := 3000) (by rw [← zf42.e]; exact hx)
  · exact hx.elim

end Go.Fn
