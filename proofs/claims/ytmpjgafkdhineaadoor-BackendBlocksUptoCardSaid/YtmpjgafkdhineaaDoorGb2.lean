/- The links of the shallow functions to the machine. PRINTED by lift.py. -/
import Derived.Test.YtmpjgafkdhineaaDoorGb1

set_option linter.unusedVariables false
set_option maxRecDepth 100000
namespace Go.Fn
open Go.Lift

noncomputable def zf28.code : Code := Go.Proofs.Tryd.f76.body.getD .skip

theorem zf28.fun : Fun sg.P 76 46 [.tmp 6] zf28.code := mkFun Go.Proofs.Tryd.func76 (by kernel_rfl) (by kernel_rfl) (by kernel_rfl) (by kernel_rfl)

def zf28.ret (Q : Int → Heap → Prop) (v : V) (h : Heap) : Prop :=
  match v with
  | .int .i64 r1 => Q r1 h
  | _ => False

def zf28.C (vs : List V) (κ : V → Heap → Prop) (h : Heap) : Prop :=
  match vs with
  | [.ptr a1, .int .i64 a2, .sl a3] => zf28 a1 a2 a3 (fun r1 h => κ (.int .i64 r1) h) h
  | _ => False

noncomputable def zf28.calls : List (Nat × (List V → (V → Heap → Prop) → Heap → Prop)) := [(262, zf27.C)]

noncomputable def zf28.E (Q : Int → Heap → Prop) (cuts : List (Nat × (List Nat × (List V → Heap → Prop)))) : Env := { tis := tisT, fns := fnsT, tys := tysT, gls := [], rts := rtsT, unk := [], nxt := [], calls := zf28.calls, ifc := noIfc, cuts := cuts, ret := zf28.ret Q, rets := [.tmp 6], n := 46 }

theorem zf28.callsOK {W0 : World} : CallsOK sg W0 zf28.calls := ⟨zf27.S, trivial⟩

def zf28.k7 (I : Heap → Prop) (vs : List V) (h : Heap) : Prop :=
  match vs with
  | [] => I  h
  | _ => False

def zf28.k8 (I : Heap → Prop) (vs : List V) (h : Heap) : Prop :=
  match vs with
  | [] => I  h
  | _ => False

theorem zf28.p7 : (posC zf28.code []).filter (fun p => Nat.beq p.1 7) = [(7, atPos (posC zf28.code []) 7)] := by kernel_rfl

theorem zf28.e7 : ∀   (Q : Int → Heap → Prop) (h : Heap), zf28.j7   Q h = pts (zf28.E Q []) 3000 true (atPos (posC zf28.code []) 7) (frAt [] []) h := by
  intros; kernel_rfl

theorem zf28.s7 {W0 : World} (Q : Int → Heap → Prop)   : CutOK sg W0 46 (entered 76) (Post sg W0 (zf28.ret Q)) (posC zf28.code []) 7 [] (zf28.k7 (fun  h => zf28.j7   Q h)) := by
  refine cutOK_head (fun vs h hk => ?_)
  unfold zf28.k7 at hk
  split at hk
  · skip
    intro todo hm ρ a w s f hp
    exact piece (E := zf28.E Q []) (vs := []) (envOK seatOK zf28.callsOK noIfc_ok) (fnOK seatOK zf28.fun) trivial zf28.p7 (fuel := 3000) (by rw [← zf28.e7]; exact hk) hm s f hp
  · exact hk.elim

theorem zf28.p8 : (posC zf28.code []).filter (fun p => Nat.beq p.1 8) = [(8, atPos (posC zf28.code []) 8)] := by kernel_rfl

theorem zf28.e8 : ∀   (Q : Int → Heap → Prop) (h : Heap), zf28.j8   Q h = pts (zf28.E Q []) 3000 true (atPos (posC zf28.code []) 8) (frAt [] []) h := by
  intros; kernel_rfl

theorem zf28.s8 {W0 : World} (Q : Int → Heap → Prop)   : CutOK sg W0 46 (entered 76) (Post sg W0 (zf28.ret Q)) (posC zf28.code []) 8 [] (zf28.k8 (fun  h => zf28.j8   Q h)) := by
  refine cutOK_head (fun vs h hk => ?_)
  unfold zf28.k8 at hk
  split at hk
  · skip
    intro todo hm ρ a w s f hp
    exact piece (E := zf28.E Q []) (vs := []) (envOK seatOK zf28.callsOK noIfc_ok) (fnOK seatOK zf28.fun) trivial zf28.p8 (fuel := 3000) (by rw [← zf28.e8]; exact hk) hm s f hp
  · exact hk.elim

theorem zf28.e : ∀ (a1 : Option Ptr) (a2 : Int) (a3 : Sl) (Q : Int → Heap → Prop) (h : Heap), zf28 a1 a2 a3 Q h = pts (zf28.E Q [(7, ([], zf28.k7 (fun  h => zf28.j7   Q h))), (8, ([], zf28.k8 (fun  h => zf28.j8   Q h)))]) 3000 true [.code zf28.code] (frOf 0 [.ptr a1, .int .i64 a2, .sl a3]) h := by
  intros; kernel_rfl

theorem zf28.S {W0 : World} : FnS sg W0 270 zf28.C := by
  intro vs κ h wv hx w s
  unfold zf28.C at hx
  split at hx
  · rename_i a1 a2 a3
    refine postImp (ret := zf28.ret (fun r1 h => κ (.int .i64 r1) h)) (fun v h hr => by unfold zf28.ret at hr; split at hr; exact hr; exact hr.elim) ?_
    exact calls_of_pts (E := zf28.E (fun r1 h => κ (.int .i64 r1) h) [(7, ([], zf28.k7 (fun  h => zf28.j7   (fun r1 h => κ (.int .i64 r1) h) h))), (8, ([], zf28.k8 (fun  h => zf28.j8   (fun r1 h => κ (.int .i64 r1) h) h)))]) (envOK seatOK zf28.callsOK noIfc_ok) seatOK.mixed zf28.fun (Nat.le_of_ble_eq_true rfl) wv (cutL_ok ⟨(zf28.s7 (fun r1 h => κ (.int .i64 r1) h)), (zf28.s8 (fun r1 h => κ (.int .i64 r1) h)), trivial⟩) s (fuel := 3000) (by rw [← zf28.e]; exact hx)
  · exact hx.elim

noncomputable def zf24.code : Code := Go.Proofs.Tryd.f67.body.getD .skip

theorem zf24.fun : Fun sg.P 67 32 [.tmp 6] zf24.code := mkFun Go.Proofs.Tryd.func67 (by kernel_rfl) (by kernel_rfl) (by kernel_rfl) (by kernel_rfl)

def zf24.ret (Q : Int → Heap → Prop) (v : V) (h : Heap) : Prop :=
  match v with
  | .int .i64 r1 => Q r1 h
  | _ => False

def zf24.C (vs : List V) (κ : V → Heap → Prop) (h : Heap) : Prop :=
  match vs with
  | [.ptr a1, .int .i64 a2, .int .i64 a3] => zf24 a1 a2 a3 (fun r1 h => κ (.int .i64 r1) h) h
  | _ => False

noncomputable def zf24.calls : List (Nat × (List V → (V → Heap → Prop) → Heap → Prop)) := [(270, zf28.C)]

noncomputable def zf24.E (Q : Int → Heap → Prop) (cuts : List (Nat × (List Nat × (List V → Heap → Prop)))) : Env := { tis := tisT, fns := fnsT, tys := tysT, gls := [], rts := rtsT, unk := [], nxt := [], calls := zf24.calls, ifc := noIfc, cuts := cuts, ret := zf24.ret Q, rets := [.tmp 6], n := 32 }

theorem zf24.callsOK {W0 : World} : CallsOK sg W0 zf24.calls := ⟨zf28.S, trivial⟩

def zf24.k7 (I : Heap → Prop) (vs : List V) (h : Heap) : Prop :=
  match vs with
  | [] => I  h
  | _ => False

theorem zf24.p7 : (posC zf24.code []).filter (fun p => Nat.beq p.1 7) = [(7, atPos (posC zf24.code []) 7)] := by kernel_rfl

theorem zf24.e7 : ∀   (Q : Int → Heap → Prop) (h : Heap), zf24.j7   Q h = pts (zf24.E Q []) 3000 true (atPos (posC zf24.code []) 7) (frAt [] []) h := by
  intros; kernel_rfl

theorem zf24.s7 {W0 : World} (Q : Int → Heap → Prop)   : CutOK sg W0 32 (entered 67) (Post sg W0 (zf24.ret Q)) (posC zf24.code []) 7 [] (zf24.k7 (fun  h => zf24.j7   Q h)) := by
  refine cutOK_head (fun vs h hk => ?_)
  unfold zf24.k7 at hk
  split at hk
  · skip
    intro todo hm ρ a w s f hp
    exact piece (E := zf24.E Q []) (vs := []) (envOK seatOK zf24.callsOK noIfc_ok) (fnOK seatOK zf24.fun) trivial zf24.p7 (fuel := 3000) (by rw [← zf24.e7]; exact hk) hm s f hp
  · exact hk.elim

theorem zf24.e : ∀ (a1 : Option Ptr) (a2 : Int) (a3 : Int) (Q : Int → Heap → Prop) (h : Heap), zf24 a1 a2 a3 Q h = pts (zf24.E Q [(7, ([], zf24.k7 (fun  h => zf24.j7   Q h)))]) 3000 true [.code zf24.code] (frOf 0 [.ptr a1, .int .i64 a2, .int .i64 a3]) h := by
  intros; kernel_rfl

theorem zf24.S {W0 : World} : FnS sg W0 271 zf24.C := by
  intro vs κ h wv hx w s
  unfold zf24.C at hx
  split at hx
  · rename_i a1 a2 a3
    refine postImp (ret := zf24.ret (fun r1 h => κ (.int .i64 r1) h)) (fun v h hr => by unfold zf24.ret at hr; split at hr; exact hr; exact hr.elim) ?_
    exact calls_of_pts (E := zf24.E (fun r1 h => κ (.int .i64 r1) h) [(7, ([], zf24.k7 (fun  h => zf24.j7   (fun r1 h => κ (.int .i64 r1) h) h)))]) (envOK seatOK zf24.callsOK noIfc_ok) seatOK.mixed zf24.fun (Nat.le_of_ble_eq_true rfl) wv (cutL_ok ⟨(zf24.s7 (fun r1 h => κ (.int .i64 r1) h)), trivial⟩) s (fuel := 3000) (by rw [← zf24.e]; exact hx)
  · exact hx.elim

noncomputable def zf20.code : Code := Go.Proofs.Tryd.f72.body.getD .skip

theorem zf20.fun : Fun sg.P 72 19 [.tmp 4] zf20.code := mkFun Go.Proofs.Tryd.func72 (by kernel_rfl) (by kernel_rfl) (by kernel_rfl) (by kernel_rfl)

def zf20.ret (Q : Int → Heap → Prop) (v : V) (h : Heap) : Prop :=
  match v with
  | .int .i64 r1 => Q r1 h
  | _ => False

def zf20.C (vs : List V) (κ : V → Heap → Prop) (h : Heap) : Prop :=
  match vs with
  | [.ptr a1, .int .i64 a2] => zf20 a1 a2 (fun r1 h => κ (.int .i64 r1) h) h
  | _ => False

noncomputable def zf20.calls : List (Nat × (List V → (V → Heap → Prop) → Heap → Prop)) := [(29, zf19.C)]

noncomputable def zf20.E (Q : Int → Heap → Prop) (cuts : List (Nat × (List Nat × (List V → Heap → Prop)))) : Env := { tis := tisT, fns := fnsT, tys := tysT, gls := [], rts := rtsT, unk := [], nxt := [], calls := zf20.calls, ifc := noIfc, cuts := cuts, ret := zf20.ret Q, rets := [.tmp 4], n := 19 }

theorem zf20.callsOK {W0 : World} : CallsOK sg W0 zf20.calls := ⟨zf19.S, trivial⟩

theorem zf20.e : ∀ (a1 : Option Ptr) (a2 : Int) (Q : Int → Heap → Prop) (h : Heap), zf20 a1 a2 Q h = pts (zf20.E Q []) 3000 true [.code zf20.code] (frOf 0 [.ptr a1, .int .i64 a2]) h := by
  intros; kernel_rfl

theorem zf20.S {W0 : World} : FnS sg W0 36 zf20.C := by
  intro vs κ h wv hx w s
  unfold zf20.C at hx
  split at hx
  · rename_i a1 a2
    refine postImp (ret := zf20.ret (fun r1 h => κ (.int .i64 r1) h)) (fun v h hr => by unfold zf20.ret at hr; split at hr; exact hr; exact hr.elim) ?_
    exact calls_of_pts (E := zf20.E (fun r1 h => κ (.int .i64 r1) h) []) (envOK seatOK zf20.callsOK noIfc_ok) seatOK.mixed zf20.fun (Nat.le_of_ble_eq_true rfl) wv (cutL_ok trivial) s (fuel := 3000) (by rw [← zf20.e]; exact hx)
  · exact hx.elim

noncomputable def zf65.code : Code := Go.Proofs.Tryd.f70.body.getD .skip

theorem zf65.fun : Fun sg.P 70 19 [.tmp 4] zf65.code := mkFun Go.Proofs.Tryd.func70 (by kernel_rfl) (by kernel_rfl) (by kernel_rfl) (by kernel_rfl)

def zf65.ret (Q : Int → Heap → Prop) (v : V) (h : Heap) : Prop :=
  match v with
  | .int .i64 r1 => Q r1 h
  | _ => False

def zf65.C (U : Ifc) (vs : List V) (κ : V → Heap → Prop) (h : Heap) : Prop :=
  match vs with
  | [.sl a1, a2] => zf65 U a1 a2 (fun r1 h => κ (.int .i64 r1) h) h
  | _ => False

noncomputable def zf65.calls (U : Ifc) : List (Nat × (List V → (V → Heap → Prop) → Heap → Prop)) := []

noncomputable def zf65.E (U : Ifc) (Q : Int → Heap → Prop) (cuts : List (Nat × (List Nat × (List V → Heap → Prop)))) : Env := { tis := tisT, fns := fnsT, tys := tysT, gls := glsT, rts := rtsT, unk := [11], nxt := [], calls := zf65.calls U, ifc := U, cuts := cuts, ret := zf65.ret Q, rets := [.tmp 4], n := 19 }

theorem zf65.callsOK {W0 : World} {U : Ifc} (hU : IfcOK sg W0 glsT U) : CallsOK sg W0 (zf65.calls U) := trivial

def zf65.k2 (I : Sl → V → Int → Int → Heap → Prop) (vs : List V) (h : Heap) : Prop :=
  match vs with
  | [.sl a1, a2, .int .i64 a3, .int .i64 a4] => I a1 a2 a3 a4 h
  | _ => False

theorem zf65.p2 : (posC zf65.code []).filter (fun p => Nat.beq p.1 2) = [(2, atPos (posC zf65.code []) 2)] := by kernel_rfl

theorem zf65.e2 : ∀ (U : Ifc)  (I2 : Sl → V → Int → Int → Heap → Prop) (a1 : Sl) (a2 : V) (a3 : Int) (a4 : Int) (Q : Int → Heap → Prop) (h : Heap), zf65.b2 U  I2 a1 a2 a3 a4 Q h = pts (zf65.E U Q [(2, ([0, 1, 7, 8], zf65.k2 I2))]) 3000 true (atPos (posC zf65.code []) 2) (frAt [0, 1, 7, 8] [.sl a1, a2, .int .i64 a3, .int .i64 a4]) h := by
  intros; kernel_rfl

theorem zf65.s2 {W0 : World} {U : Ifc} (hU : IfcOK sg W0 glsT U) (Q : Int → Heap → Prop)   : CutOK sg W0 19 (entered 70) (Post sg W0 (zf65.ret Q)) (posC zf65.code []) 2 [0, 1, 7, 8] (zf65.k2 (fun a1 a2 a3 a4 h => zf65.j2 U  a1 a2 a3 a4 Q h)) := by
  refine cutOK_head (fun vs h hk => ?_)
  unfold zf65.k2 at hk
  split at hk
  · rename_i a1 a2 a3 a4
    refine hk (fun a1 a2 a3 a4 h => Head sg W0 19 (entered 70) (Post sg W0 (zf65.ret Q)) (posC zf65.code []) 2 [0, 1, 7, 8] [.sl a1, a2, .int .i64 a3, .int .i64 a4] h) ?_
    intro a1 a2 a3 a4 h hb todo hm ρ a w s f hp
    have hself : CutOK sg W0 19 (entered 70) (Post sg W0 (zf65.ret Q)) (posC zf65.code []) 2 [0, 1, 7, 8] (zf65.k2 (fun a1 a2 a3 a4 h => Head sg W0 19 (entered 70) (Post sg W0 (zf65.ret Q)) (posC zf65.code []) 2 [0, 1, 7, 8] [.sl a1, a2, .int .i64 a3, .int .i64 a4] h)) := cutOK_head (fun vs h hk => by unfold zf65.k2 at hk; split at hk; exact hk; exact hk.elim)
    exact piece (E := zf65.E U Q [(2, ([0, 1, 7, 8], zf65.k2 (fun a1 a2 a3 a4 h => Head sg W0 19 (entered 70) (Post sg W0 (zf65.ret Q)) (posC zf65.code []) 2 [0, 1, 7, 8] [.sl a1, a2, .int .i64 a3, .int .i64 a4] h)))]) (vs := [.sl a1, a2, .int .i64 a3, .int .i64 a4]) (envOK seatOK (zf65.callsOK hU) hU) (fnOK seatOK zf65.fun) ⟨hself, trivial⟩ zf65.p2 (fuel := 3000) (by rw [← zf65.e2]; exact hb) hm s f hp
  · exact hk.elim

theorem zf65.e : ∀ (U : Ifc) (a1 : Sl) (a2 : V) (Q : Int → Heap → Prop) (h : Heap), zf65 U a1 a2 Q h = pts (zf65.E U Q [(2, ([0, 1, 7, 8], zf65.k2 (fun a1 a2 a3 a4 h => zf65.j2 U  a1 a2 a3 a4 Q h)))]) 3000 true [.code zf65.code] (frOf 0 [.sl a1, a2]) h := by
  intros; kernel_rfl

theorem zf65.S {W0 : World} {U : Ifc} (hU : IfcOK sg W0 glsT U) : FnS sg W0 70 (zf65.C U) := by
  intro vs κ h wv hx w s
  unfold zf65.C at hx
  split at hx
  · rename_i a1 a2
    refine postImp (ret := zf65.ret (fun r1 h => κ (.int .i64 r1) h)) (fun v h hr => by unfold zf65.ret at hr; split at hr; exact hr; exact hr.elim) ?_
    exact calls_of_pts (E := zf65.E U (fun r1 h => κ (.int .i64 r1) h) [(2, ([0, 1, 7, 8], zf65.k2 (fun a1 a2 a3 a4 h => zf65.j2 U  a1 a2 a3 a4 (fun r1 h => κ (.int .i64 r1) h) h)))]) (envOK seatOK (zf65.callsOK hU) hU) seatOK.mixed zf65.fun (Nat.le_of_ble_eq_true rfl) wv (cutL_ok ⟨(zf65.s2 hU (fun r1 h => κ (.int .i64 r1) h)), trivial⟩) s (fuel := 3000) (by rw [← zf65.e]; exact hx)
  · exact hx.elim

noncomputable def zf62.code : Code := Go.Proofs.Tryd.f85.body.getD .skip

theorem zf62.fun : Fun sg.P 85 9 [.tmp 4] zf62.code := mkFun Go.Proofs.Tryd.func85 (by kernel_rfl) (by kernel_rfl) (by kernel_rfl) (by kernel_rfl)

def zf62.ret (Q : Bool → Heap → Prop) (v : V) (h : Heap) : Prop :=
  match v with
  | .bool r1 => Q r1 h
  | _ => False

def zf62.C (U : Ifc) (vs : List V) (κ : V → Heap → Prop) (h : Heap) : Prop :=
  match vs with
  | [.sl a1, a2] => zf62 U a1 a2 (fun r1 h => κ (.bool r1) h) h
  | _ => False

noncomputable def zf62.calls (U : Ifc) : List (Nat × (List V → (V → Heap → Prop) → Heap → Prop)) := [(70, zf65.C U)]

noncomputable def zf62.E (U : Ifc) (Q : Bool → Heap → Prop) (cuts : List (Nat × (List Nat × (List V → Heap → Prop)))) : Env := { tis := tisT, fns := fnsT, tys := tysT, gls := glsT, rts := rtsT, unk := [], nxt := [], calls := zf62.calls U, ifc := U, cuts := cuts, ret := zf62.ret Q, rets := [.tmp 4], n := 9 }

theorem zf62.callsOK {W0 : World} {U : Ifc} (hU : IfcOK sg W0 glsT U) : CallsOK sg W0 (zf62.calls U) := ⟨(zf65.S hU), trivial⟩

theorem zf62.e : ∀ (U : Ifc) (a1 : Sl) (a2 : V) (Q : Bool → Heap → Prop) (h : Heap), zf62 U a1 a2 Q h = pts (zf62.E U Q []) 3000 true [.code zf62.code] (frOf 0 [.sl a1, a2]) h := by
  intros; kernel_rfl

theorem zf62.S {W0 : World} {U : Ifc} (hU : IfcOK sg W0 glsT U) : FnS sg W0 81 (zf62.C U) := by
  intro vs κ h wv hx w s
  unfold zf62.C at hx
  split at hx
  · rename_i a1 a2
    refine postImp (ret := zf62.ret (fun r1 h => κ (.bool r1) h)) (fun v h hr => by unfold zf62.ret at hr; split at hr; exact hr; exact hr.elim) ?_
    exact calls_of_pts (E := zf62.E U (fun r1 h => κ (.bool r1) h) []) (envOK seatOK (zf62.callsOK hU) hU) seatOK.mixed zf62.fun (Nat.le_of_ble_eq_true rfl) wv (cutL_ok trivial) s (fuel := 3000) (by rw [← zf62.e]; exact hx)
  · exact hx.elim

noncomputable def zf17.code : Code := Go.Proofs.Tryd.f68.body.getD .skip

theorem zf17.fun : Fun sg.P 68 38 [.tmp 4] zf17.code := mkFun Go.Proofs.Tryd.func68 (by kernel_rfl) (by kernel_rfl) (by kernel_rfl) (by kernel_rfl)

def zf17.ret (Q : Int → Heap → Prop) (v : V) (h : Heap) : Prop :=
  match v with
  | .int .i64 r1 => Q r1 h
  | _ => False

def zf17.C (U : Ifc) (vs : List V) (κ : V → Heap → Prop) (h : Heap) : Prop :=
  match vs with
  | [.ptr a1, .agg [.int .i64 a2, .bool a3, .int .i64 a4, .int .i64 a5]] => zf17 U a1 a2 a3 a4 a5 (fun r1 h => κ (.int .i64 r1) h) h
  | _ => False

noncomputable def zf17.calls (U : Ifc) : List (Nat × (List V → (V → Heap → Prop) → Heap → Prop)) := [(36, zf20.C), (81, zf62.C U)]

noncomputable def zf17.E (U : Ifc) (Q : Int → Heap → Prop) (cuts : List (Nat × (List Nat × (List V → Heap → Prop)))) : Env := { tis := tisT, fns := fnsT, tys := tysT, gls := glsT, rts := rtsT, unk := [], nxt := [], calls := zf17.calls U, ifc := U, cuts := cuts, ret := zf17.ret Q, rets := [.tmp 4], n := 38 }

theorem zf17.callsOK {W0 : World} {U : Ifc} (hU : IfcOK sg W0 glsT U) : CallsOK sg W0 (zf17.calls U) := ⟨zf20.S, (zf62.S hU), trivial⟩

def zf17.k9 (I : Heap → Prop) (vs : List V) (h : Heap) : Prop :=
  match vs with
  | [] => I  h
  | _ => False

theorem zf17.p9 : (posC zf17.code []).filter (fun p => Nat.beq p.1 9) = [(9, atPos (posC zf17.code []) 9)] := by kernel_rfl

theorem zf17.e9 : ∀ (U : Ifc)   (Q : Int → Heap → Prop) (h : Heap), zf17.j9 U   Q h = pts (zf17.E U Q []) 3000 true (atPos (posC zf17.code []) 9) (frAt [] []) h := by
  intros; kernel_rfl

theorem zf17.s9 {W0 : World} {U : Ifc} (hU : IfcOK sg W0 glsT U) (Q : Int → Heap → Prop)   : CutOK sg W0 38 (entered 68) (Post sg W0 (zf17.ret Q)) (posC zf17.code []) 9 [] (zf17.k9 (fun  h => zf17.j9 U   Q h)) := by
  refine cutOK_head (fun vs h hk => ?_)
  unfold zf17.k9 at hk
  split at hk
  · skip
    intro todo hm ρ a w s f hp
    exact piece (E := zf17.E U Q []) (vs := []) (envOK seatOK (zf17.callsOK hU) hU) (fnOK seatOK zf17.fun) trivial zf17.p9 (fuel := 3000) (by rw [← zf17.e9]; exact hk) hm s f hp
  · exact hk.elim

theorem zf17.e : ∀ (U : Ifc) (a1 : Option Ptr) (a2 : Int) (a3 : Bool) (a4 : Int) (a5 : Int) (Q : Int → Heap → Prop) (h : Heap), zf17 U a1 a2 a3 a4 a5 Q h = pts (zf17.E U Q [(9, ([], zf17.k9 (fun  h => zf17.j9 U   Q h)))]) 3000 true [.code zf17.code] (frOf 0 [.ptr a1, .agg [.int .i64 a2, .bool a3, .int .i64 a4, .int .i64 a5]]) h := by
  intros; kernel_rfl

theorem zf17.S {W0 : World} {U : Ifc} (hU : IfcOK sg W0 glsT U) : FnS sg W0 82 (zf17.C U) := by
  intro vs κ h wv hx w s
  unfold zf17.C at hx
  split at hx
  · rename_i a1 a2 a3 a4 a5
    refine postImp (ret := zf17.ret (fun r1 h => κ (.int .i64 r1) h)) (fun v h hr => by unfold zf17.ret at hr; split at hr; exact hr; exact hr.elim) ?_
    exact calls_of_pts (E := zf17.E U (fun r1 h => κ (.int .i64 r1) h) [(9, ([], zf17.k9 (fun  h => zf17.j9 U   (fun r1 h => κ (.int .i64 r1) h) h)))]) (envOK seatOK (zf17.callsOK hU) hU) seatOK.mixed zf17.fun (Nat.le_of_ble_eq_true rfl) wv (cutL_ok ⟨(zf17.s9 hU (fun r1 h => κ (.int .i64 r1) h)), trivial⟩) s (fuel := 3000) (by rw [← zf17.e]; exact hx)
  · exact hx.elim

noncomputable def zf23.code : Code := Go.Proofs.Tryd.f46.body.getD .skip

theorem zf23.fun : Fun sg.P 46 68 [.tmp 6, .tmp 7] zf23.code := mkFun Go.Proofs.Tryd.func46 (by kernel_rfl) (by kernel_rfl) (by kernel_rfl) (by kernel_rfl)

def zf23.ret (Q : Bool → Int → Heap → Prop) (v : V) (h : Heap) : Prop :=
  match v with
  | .tup [.bool r1, .int .i64 r2] => Q r1 r2 h
  | _ => False

def zf23.C (vs : List V) (κ : V → Heap → Prop) (h : Heap) : Prop :=
  match vs with
  | [.ptr a1, .int .i64 a2, .int .i64 a3] => zf23 a1 a2 a3 (fun r1 r2 h => κ (.tup [.bool r1, .int .i64 r2]) h) h
  | _ => False

noncomputable def zf23.calls : List (Nat × (List V → (V → Heap → Prop) → Heap → Prop)) := [(270, zf28.C)]

noncomputable def zf23.E (Q : Bool → Int → Heap → Prop) (cuts : List (Nat × (List Nat × (List V → Heap → Prop)))) : Env := { tis := tisT, fns := fnsT, tys := tysT, gls := [], rts := rtsT, unk := [], nxt := [], calls := zf23.calls, ifc := noIfc, cuts := cuts, ret := zf23.ret Q, rets := [.tmp 6, .tmp 7], n := 68 }

theorem zf23.callsOK {W0 : World} : CallsOK sg W0 zf23.calls := ⟨zf28.S, trivial⟩

def zf23.k12 (I : (Option Ptr) → Int → Heap → Prop) (vs : List V) (h : Heap) : Prop :=
  match vs with
  | [.ptr a1, .int .i64 a2] => I a1 a2 h
  | _ => False

def zf23.k7 (I : (Option Ptr) → Int → Int → Heap → Prop) (vs : List V) (h : Heap) : Prop :=
  match vs with
  | [.ptr a1, .int .i64 a2, .int .i64 a3] => I a1 a2 a3 h
  | _ => False

theorem zf23.p12 : (posC zf23.code []).filter (fun p => Nat.beq p.1 12) = [(12, atPos (posC zf23.code []) 12)] := by kernel_rfl

theorem zf23.e12 : ∀  (a1 : Option Ptr) (a2 : Int) (Q : Bool → Int → Heap → Prop) (h : Heap), zf23.j12  a1 a2 Q h = pts (zf23.E Q []) 3000 true (atPos (posC zf23.code []) 12) (frAt [0, 1] [.ptr a1, .int .i64 a2]) h := by
  intros; kernel_rfl

theorem zf23.s12 {W0 : World} (Q : Bool → Int → Heap → Prop)   : CutOK sg W0 68 (entered 46) (Post sg W0 (zf23.ret Q)) (posC zf23.code []) 12 [0, 1] (zf23.k12 (fun a1 a2 h => zf23.j12  a1 a2 Q h)) := by
  refine cutOK_head (fun vs h hk => ?_)
  unfold zf23.k12 at hk
  split at hk
  · rename_i a1 a2
    intro todo hm ρ a w s f hp
    exact piece (E := zf23.E Q []) (vs := [.ptr a1, .int .i64 a2]) (envOK seatOK zf23.callsOK noIfc_ok) (fnOK seatOK zf23.fun) trivial zf23.p12 (fuel := 3000) (by rw [← zf23.e12]; exact hk) hm s f hp
  · exact hk.elim

theorem zf23.p7 : (posC zf23.code []).filter (fun p => Nat.beq p.1 7) = [(7, atPos (posC zf23.code []) 7)] := by kernel_rfl

theorem zf23.e7 : ∀  (a1 : Option Ptr) (a2 : Int) (a3 : Int) (Q : Bool → Int → Heap → Prop) (h : Heap), zf23.j7  a1 a2 a3 Q h = pts (zf23.E Q [(12, ([0, 1], zf23.k12 (fun a1 a2 h => zf23.j12  a1 a2 Q h)))]) 3000 true (atPos (posC zf23.code []) 7) (frAt [0, 1, 2] [.ptr a1, .int .i64 a2, .int .i64 a3]) h := by
  intros; kernel_rfl

theorem zf23.s7 {W0 : World} (Q : Bool → Int → Heap → Prop)   : CutOK sg W0 68 (entered 46) (Post sg W0 (zf23.ret Q)) (posC zf23.code []) 7 [0, 1, 2] (zf23.k7 (fun a1 a2 a3 h => zf23.j7  a1 a2 a3 Q h)) := by
  refine cutOK_head (fun vs h hk => ?_)
  unfold zf23.k7 at hk
  split at hk
  · rename_i a1 a2 a3
    intro todo hm ρ a w s f hp
    exact piece (E := zf23.E Q [(12, ([0, 1], zf23.k12 (fun a1 a2 h => zf23.j12  a1 a2 Q h)))]) (vs := [.ptr a1, .int .i64 a2, .int .i64 a3]) (envOK seatOK zf23.callsOK noIfc_ok) (fnOK seatOK zf23.fun) ⟨(zf23.s12 Q  ), trivial⟩ zf23.p7 (fuel := 3000) (by rw [← zf23.e7]; exact hk) hm s f hp
  · exact hk.elim

theorem zf23.e : ∀ (a1 : Option Ptr) (a2 : Int) (a3 : Int) (Q : Bool → Int → Heap → Prop) (h : Heap), zf23 a1 a2 a3 Q h = pts (zf23.E Q [(7, ([0, 1, 2], zf23.k7 (fun a1 a2 a3 h => zf23.j7  a1 a2 a3 Q h)))]) 3000 true [.code zf23.code] (frOf 0 [.ptr a1, .int .i64 a2, .int .i64 a3]) h := by
  intros; kernel_rfl

theorem zf23.S {W0 : World} : FnS sg W0 272 zf23.C := by
  intro vs κ h wv hx w s
  unfold zf23.C at hx
  split at hx
  · rename_i a1 a2 a3
    refine postImp (ret := zf23.ret (fun r1 r2 h => κ (.tup [.bool r1, .int .i64 r2]) h)) (fun v h hr => by unfold zf23.ret at hr; split at hr; exact hr; exact hr.elim) ?_
    exact calls_of_pts (E := zf23.E (fun r1 r2 h => κ (.tup [.bool r1, .int .i64 r2]) h) [(7, ([0, 1, 2], zf23.k7 (fun a1 a2 a3 h => zf23.j7  a1 a2 a3 (fun r1 r2 h => κ (.tup [.bool r1, .int .i64 r2]) h) h)))]) (envOK seatOK zf23.callsOK noIfc_ok) seatOK.mixed zf23.fun (Nat.le_of_ble_eq_true rfl) wv (cutL_ok ⟨(zf23.s7 (fun r1 r2 h => κ (.tup [.bool r1, .int .i64 r2]) h)), trivial⟩) s (fuel := 3000) (by rw [← zf23.e]; exact hx)
  · exact hx.elim

noncomputable def zf5.code : Code := Go.Proofs.Tryd.f34.body.getD .skip

theorem zf5.fun : Fun sg.P 34 57 [.tmp 6] zf5.code := mkFun Go.Proofs.Tryd.func34 (by kernel_rfl) (by kernel_rfl) (by kernel_rfl) (by kernel_rfl)

def zf5.ret (Q : Int → Heap → Prop) (v : V) (h : Heap) : Prop :=
  match v with
  | .int .u8 r1 => Q r1 h
  | _ => False

def zf5.C (U : Ifc) (vs : List V) (κ : V → Heap → Prop) (h : Heap) : Prop :=
  match vs with
  | [.ptr a1, .agg [.int .i64 a2, .sl a3], .agg [.int .i64 a4, .bool a5, .int .i64 a6, .int .i64 a7]] => zf5 U a1 a2 a3 a4 a5 a6 a7 (fun r1 h => κ (.int .u8 r1) h) h
  | _ => False

noncomputable def zf5.calls (U : Ifc) : List (Nat × (List V → (V → Heap → Prop) → Heap → Prop)) := [(272, zf23.C), (271, zf24.C), (82, zf17.C U)]

noncomputable def zf5.E (U : Ifc) (Q : Int → Heap → Prop) (cuts : List (Nat × (List Nat × (List V → Heap → Prop)))) : Env := { tis := tisT, fns := fnsT, tys := tysT, gls := glsT, rts := rtsT, unk := [], nxt := [], calls := zf5.calls U, ifc := U, cuts := cuts, ret := zf5.ret Q, rets := [.tmp 6], n := 57 }

theorem zf5.callsOK {W0 : World} {U : Ifc} (hU : IfcOK sg W0 glsT U) : CallsOK sg W0 (zf5.calls U) := ⟨zf23.S, zf24.S, (zf17.S hU), trivial⟩

def zf5.k5 (I : Heap → Prop) (vs : List V) (h : Heap) : Prop :=
  match vs with
  | [] => I  h
  | _ => False

def zf5.k7 (I : (Option Ptr) → Heap → Prop) (vs : List V) (h : Heap) : Prop :=
  match vs with
  | [.ptr a1] => I a1 h
  | _ => False

theorem zf5.p5 : (posC zf5.code []).filter (fun p => Nat.beq p.1 5) = [(5, atPos (posC zf5.code []) 5)] := by kernel_rfl

theorem zf5.e5 : ∀ (U : Ifc)   (Q : Int → Heap → Prop) (h : Heap), zf5.j5 U   Q h = pts (zf5.E U Q []) 3000 true (atPos (posC zf5.code []) 5) (frAt [] []) h := by
  intros; kernel_rfl

theorem zf5.s5 {W0 : World} {U : Ifc} (hU : IfcOK sg W0 glsT U) (Q : Int → Heap → Prop)   : CutOK sg W0 57 (entered 34) (Post sg W0 (zf5.ret Q)) (posC zf5.code []) 5 [] (zf5.k5 (fun  h => zf5.j5 U   Q h)) := by
  refine cutOK_head (fun vs h hk => ?_)
  unfold zf5.k5 at hk
  split at hk
  · skip
    intro todo hm ρ a w s f hp
    exact piece (E := zf5.E U Q []) (vs := []) (envOK seatOK (zf5.callsOK hU) hU) (fnOK seatOK zf5.fun) trivial zf5.p5 (fuel := 3000) (by rw [← zf5.e5]; exact hk) hm s f hp
  · exact hk.elim

theorem zf5.p7 : (posC zf5.code []).filter (fun p => Nat.beq p.1 7) = [(7, atPos (posC zf5.code []) 7)] := by kernel_rfl

theorem zf5.e7 : ∀ (U : Ifc)  (a1 : Option Ptr) (Q : Int → Heap → Prop) (h : Heap), zf5.j7 U  a1 Q h = pts (zf5.E U Q []) 3000 true (atPos (posC zf5.code []) 7) (frAt [0] [.ptr a1]) h := by
  intros; kernel_rfl

theorem zf5.s7 {W0 : World} {U : Ifc} (hU : IfcOK sg W0 glsT U) (Q : Int → Heap → Prop)   : CutOK sg W0 57 (entered 34) (Post sg W0 (zf5.ret Q)) (posC zf5.code []) 7 [0] (zf5.k7 (fun a1 h => zf5.j7 U  a1 Q h)) := by
  refine cutOK_head (fun vs h hk => ?_)
  unfold zf5.k7 at hk
  split at hk
  · rename_i a1
    intro todo hm ρ a w s f hp
    exact piece (E := zf5.E U Q []) (vs := [.ptr a1]) (envOK seatOK (zf5.callsOK hU) hU) (fnOK seatOK zf5.fun) trivial zf5.p7 (fuel := 3000) (by rw [← zf5.e7]; exact hk) hm s f hp
  · exact hk.elim

theorem zf5.e : ∀ (U : Ifc) (a1 : Option Ptr) (a2 : Int) (a3 : Sl) (a4 : Int) (a5 : Bool) (a6 : Int) (a7 : Int) (Q : Int → Heap → Prop) (h : Heap), zf5 U a1 a2 a3 a4 a5 a6 a7 Q h = pts (zf5.E U Q [(5, ([], zf5.k5 (fun  h => zf5.j5 U   Q h))), (7, ([0], zf5.k7 (fun a1 h => zf5.j7 U  a1 Q h)))]) 3000 true [.code zf5.code] (frOf 0 [.ptr a1, .agg [.int .i64 a2, .sl a3], .agg [.int .i64 a4, .bool a5, .int .i64 a6, .int .i64 a7]]) h := by
  intros; kernel_rfl

theorem zf5.S {W0 : World} {U : Ifc} (hU : IfcOK sg W0 glsT U) : FnS sg W0 273 (zf5.C U) := by
  intro vs κ h wv hx w s
  unfold zf5.C at hx
  split at hx
  · rename_i a1 a2 a3 a4 a5 a6 a7
    refine postImp (ret := zf5.ret (fun r1 h => κ (.int .u8 r1) h)) (fun v h hr => by unfold zf5.ret at hr; split at hr; exact hr; exact hr.elim) ?_
    exact calls_of_pts (E := zf5.E U (fun r1 h => κ (.int .u8 r1) h) [(5, ([], zf5.k5 (fun  h => zf5.j5 U   (fun r1 h => κ (.int .u8 r1) h) h))), (7, ([0], zf5.k7 (fun a1 h => zf5.j7 U  a1 (fun r1 h => κ (.int .u8 r1) h) h)))]) (envOK seatOK (zf5.callsOK hU) hU) seatOK.mixed zf5.fun (Nat.le_of_ble_eq_true rfl) wv (cutL_ok ⟨(zf5.s5 hU (fun r1 h => κ (.int .u8 r1) h)), (zf5.s7 hU (fun r1 h => κ (.int .u8 r1) h)), trivial⟩) s (fuel := 3000) (by rw [← zf5.e]; exact hx)
  · exact hx.elim

noncomputable def zf8.code : Code := Go.Proofs.Tryd.f36.body.getD .skip

theorem zf8.fun : Fun sg.P 36 27 [.tmp 6] zf8.code := mkFun Go.Proofs.Tryd.func36 (by kernel_rfl) (by kernel_rfl) (by kernel_rfl) (by kernel_rfl)

def zf8.ret (Q : Int → Heap → Prop) (v : V) (h : Heap) : Prop :=
  match v with
  | .int .i64 r1 => Q r1 h
  | _ => False

def zf8.C (U : Ifc) (vs : List V) (κ : V → Heap → Prop) (h : Heap) : Prop :=
  match vs with
  | [a1, .agg [.int .i64 a2, .sl a3], .int .u8 a4] => zf8 U a1 a2 a3 a4 (fun r1 h => κ (.int .i64 r1) h) h
  | _ => False

noncomputable def zf8.calls (U : Ifc) : List (Nat × (List V → (V → Heap → Prop) → Heap → Prop)) := []

noncomputable def zf8.E (U : Ifc) (Q : Int → Heap → Prop) (cuts : List (Nat × (List Nat × (List V → Heap → Prop)))) : Env := { tis := tisT, fns := fnsT, tys := tysT, gls := glsT, rts := rtsT, unk := [], nxt := [], calls := zf8.calls U, ifc := U, cuts := cuts, ret := zf8.ret Q, rets := [.tmp 6], n := 27 }

theorem zf8.callsOK {W0 : World} {U : Ifc} (hU : IfcOK sg W0 glsT U) : CallsOK sg W0 (zf8.calls U) := trivial

theorem zf8.e : ∀ (U : Ifc) (a1 : V) (a2 : Int) (a3 : Sl) (a4 : Int) (Q : Int → Heap → Prop) (h : Heap), zf8 U a1 a2 a3 a4 Q h = pts (zf8.E U Q []) 3000 true [.code zf8.code] (frOf 0 [a1, .agg [.int .i64 a2, .sl a3], .int .u8 a4]) h := by
  intros; kernel_rfl

theorem zf8.S {W0 : World} {U : Ifc} (hU : IfcOK sg W0 glsT U) : FnS sg W0 274 (zf8.C U) := by
  intro vs κ h wv hx w s
  unfold zf8.C at hx
  split at hx
  · rename_i a1 a2 a3 a4
    refine postImp (ret := zf8.ret (fun r1 h => κ (.int .i64 r1) h)) (fun v h hr => by unfold zf8.ret at hr; split at hr; exact hr; exact hr.elim) ?_
    exact calls_of_pts (E := zf8.E U (fun r1 h => κ (.int .i64 r1) h) []) (envOK seatOK (zf8.callsOK hU) hU) seatOK.mixed zf8.fun (Nat.le_of_ble_eq_true rfl) wv (cutL_ok trivial) s (fuel := 3000) (by rw [← zf8.e]; exact hx)
  · exact hx.elim

noncomputable def zf53.code : Code := Go.Proofs.Tryd.f35.body.getD .skip

theorem zf53.fun : Fun sg.P 35 111 [.tmp 8] zf53.code := mkFun Go.Proofs.Tryd.func35 (by kernel_rfl) (by kernel_rfl) (by kernel_rfl) (by kernel_rfl)

def zf53.ret (Q : Int → Heap → Prop) (v : V) (h : Heap) : Prop :=
  match v with
  | .int .i64 r1 => Q r1 h
  | _ => False

def zf53.C (U : Ifc) (vs : List V) (κ : V → Heap → Prop) (h : Heap) : Prop :=
  match vs with
  | [.ptr a1, a2, .int .i64 a3, .int .i64 a4] => zf53 U a1 a2 a3 a4 (fun r1 h => κ (.int .i64 r1) h) h
  | _ => False

noncomputable def zf53.calls (U : Ifc) : List (Nat × (List V → (V → Heap → Prop) → Heap → Prop)) := [(30, zf55.C)]

noncomputable def zf53.E (U : Ifc) (Q : Int → Heap → Prop) (cuts : List (Nat × (List Nat × (List V → Heap → Prop)))) : Env := { tis := tisT, fns := fnsT, tys := tysT, gls := glsT, rts := rtsT, unk := [], nxt := [], calls := zf53.calls U, ifc := U, cuts := cuts, ret := zf53.ret Q, rets := [.tmp 8], n := 111 }

theorem zf53.callsOK {W0 : World} {U : Ifc} (hU : IfcOK sg W0 glsT U) : CallsOK sg W0 (zf53.calls U) := ⟨zf55.S, trivial⟩

def zf53.k5 (I : Heap → Prop) (vs : List V) (h : Heap) : Prop :=
  match vs with
  | [] => I  h
  | _ => False

def zf53.k7 (I : Heap → Prop) (vs : List V) (h : Heap) : Prop :=
  match vs with
  | [] => I  h
  | _ => False

def zf53.k11 (I : (Option Ptr) → V → Sl → Int → Int → Heap → Prop) (vs : List V) (h : Heap) : Prop :=
  match vs with
  | [.ptr a1, a2, .sl a3, .int .i64 a4, .int .i64 a5] => I a1 a2 a3 a4 a5 h
  | _ => False

def zf53.k10 (I : (Option Ptr) → V → Int → Int → Int → Int → Heap → Prop) (vs : List V) (h : Heap) : Prop :=
  match vs with
  | [.ptr a1, a2, .int .i64 a3, .int .i64 a4, .int .u64 a5, .int .u64 a6] => I a1 a2 a3 a4 a5 a6 h
  | _ => False

def zf53.k8 (I : (Option Ptr) → V → Int → Int → Heap → Prop) (vs : List V) (h : Heap) : Prop :=
  match vs with
  | [.ptr a1, a2, .int .i64 a3, .int .i64 a4] => I a1 a2 a3 a4 h
  | _ => False

theorem zf53.p5 : (posC zf53.code []).filter (fun p => Nat.beq p.1 5) = [(5, atPos (posC zf53.code []) 5)] := by kernel_rfl

theorem zf53.e5 : ∀ (U : Ifc)   (Q : Int → Heap → Prop) (h : Heap), zf53.j5 U   Q h = pts (zf53.E U Q []) 3000 true (atPos (posC zf53.code []) 5) (frAt [] []) h := by
  intros; kernel_rfl

theorem zf53.s5 {W0 : World} {U : Ifc} (hU : IfcOK sg W0 glsT U) (Q : Int → Heap → Prop)   : CutOK sg W0 111 (entered 35) (Post sg W0 (zf53.ret Q)) (posC zf53.code []) 5 [] (zf53.k5 (fun  h => zf53.j5 U   Q h)) := by
  refine cutOK_head (fun vs h hk => ?_)
  unfold zf53.k5 at hk
  split at hk
  · skip
    intro todo hm ρ a w s f hp
    exact piece (E := zf53.E U Q []) (vs := []) (envOK seatOK (zf53.callsOK hU) hU) (fnOK seatOK zf53.fun) trivial zf53.p5 (fuel := 3000) (by rw [← zf53.e5]; exact hk) hm s f hp
  · exact hk.elim

theorem zf53.p7 : (posC zf53.code []).filter (fun p => Nat.beq p.1 7) = [(7, atPos (posC zf53.code []) 7)] := by kernel_rfl

theorem zf53.e7 : ∀ (U : Ifc)   (Q : Int → Heap → Prop) (h : Heap), zf53.j7 U   Q h = pts (zf53.E U Q []) 3000 true (atPos (posC zf53.code []) 7) (frAt [] []) h := by
  intros; kernel_rfl

theorem zf53.s7 {W0 : World} {U : Ifc} (hU : IfcOK sg W0 glsT U) (Q : Int → Heap → Prop)   : CutOK sg W0 111 (entered 35) (Post sg W0 (zf53.ret Q)) (posC zf53.code []) 7 [] (zf53.k7 (fun  h => zf53.j7 U   Q h)) := by
  refine cutOK_head (fun vs h hk => ?_)
  unfold zf53.k7 at hk
  split at hk
  · skip
    intro todo hm ρ a w s f hp
    exact piece (E := zf53.E U Q []) (vs := []) (envOK seatOK (zf53.callsOK hU) hU) (fnOK seatOK zf53.fun) trivial zf53.p7 (fuel := 3000) (by rw [← zf53.e7]; exact hk) hm s f hp
  · exact hk.elim

theorem zf53.p11 : (posC zf53.code []).filter (fun p => Nat.beq p.1 11) = [(11, atPos (posC zf53.code []) 11)] := by kernel_rfl

theorem zf53.e11 : ∀ (U : Ifc)  (I11 : (Option Ptr) → V → Sl → Int → Int → Heap → Prop) (a1 : Option Ptr) (a2 : V) (a3 : Sl) (a4 : Int) (a5 : Int) (Q : Int → Heap → Prop) (h : Heap), zf53.b11 U  I11 a1 a2 a3 a4 a5 Q h = pts (zf53.E U Q [(11, ([0, 1, 87, 88, 89], zf53.k11 I11))]) 3000 true (atPos (posC zf53.code []) 11) (frAt [0, 1, 87, 88, 89] [.ptr a1, a2, .sl a3, .int .i64 a4, .int .i64 a5]) h := by
  intros; kernel_rfl

theorem zf53.s11 {W0 : World} {U : Ifc} (hU : IfcOK sg W0 glsT U) (Q : Int → Heap → Prop)   : CutOK sg W0 111 (entered 35) (Post sg W0 (zf53.ret Q)) (posC zf53.code []) 11 [0, 1, 87, 88, 89] (zf53.k11 (fun a1 a2 a3 a4 a5 h => zf53.j11 U  a1 a2 a3 a4 a5 Q h)) := by
  refine cutOK_head (fun vs h hk => ?_)
  unfold zf53.k11 at hk
  split at hk
  · rename_i a1 a2 a3 a4 a5
    refine hk (fun a1 a2 a3 a4 a5 h => Head sg W0 111 (entered 35) (Post sg W0 (zf53.ret Q)) (posC zf53.code []) 11 [0, 1, 87, 88, 89] [.ptr a1, a2, .sl a3, .int .i64 a4, .int .i64 a5] h) ?_
    intro a1 a2 a3 a4 a5 h hb todo hm ρ a w s f hp
    have hself : CutOK sg W0 111 (entered 35) (Post sg W0 (zf53.ret Q)) (posC zf53.code []) 11 [0, 1, 87, 88, 89] (zf53.k11 (fun a1 a2 a3 a4 a5 h => Head sg W0 111 (entered 35) (Post sg W0 (zf53.ret Q)) (posC zf53.code []) 11 [0, 1, 87, 88, 89] [.ptr a1, a2, .sl a3, .int .i64 a4, .int .i64 a5] h)) := cutOK_head (fun vs h hk => by unfold zf53.k11 at hk; split at hk; exact hk; exact hk.elim)
    exact piece (E := zf53.E U Q [(11, ([0, 1, 87, 88, 89], zf53.k11 (fun a1 a2 a3 a4 a5 h => Head sg W0 111 (entered 35) (Post sg W0 (zf53.ret Q)) (posC zf53.code []) 11 [0, 1, 87, 88, 89] [.ptr a1, a2, .sl a3, .int .i64 a4, .int .i64 a5] h)))]) (vs := [.ptr a1, a2, .sl a3, .int .i64 a4, .int .i64 a5]) (envOK seatOK (zf53.callsOK hU) hU) (fnOK seatOK zf53.fun) ⟨hself, trivial⟩ zf53.p11 (fuel := 3000) (by rw [← zf53.e11]; exact hb) hm s f hp
  · exact hk.elim

theorem zf53.p10 : (posC zf53.code []).filter (fun p => Nat.beq p.1 10) = [(10, atPos (posC zf53.code []) 10)] := by kernel_rfl

theorem zf53.e10 : ∀ (U : Ifc)  (a1 : Option Ptr) (a2 : V) (a3 : Int) (a4 : Int) (a5 : Int) (a6 : Int) (Q : Int → Heap → Prop) (h : Heap), zf53.j10 U  a1 a2 a3 a4 a5 a6 Q h = pts (zf53.E U Q [(11, ([0, 1, 87, 88, 89], zf53.k11 (fun a1 a2 a3 a4 a5 h => zf53.j11 U  a1 a2 a3 a4 a5 Q h)))]) 3000 true (atPos (posC zf53.code []) 10) (frAt [0, 1, 2, 3, 10, 11] [.ptr a1, a2, .int .i64 a3, .int .i64 a4, .int .u64 a5, .int .u64 a6]) h := by
  intros; kernel_rfl

theorem zf53.s10 {W0 : World} {U : Ifc} (hU : IfcOK sg W0 glsT U) (Q : Int → Heap → Prop)   : CutOK sg W0 111 (entered 35) (Post sg W0 (zf53.ret Q)) (posC zf53.code []) 10 [0, 1, 2, 3, 10, 11] (zf53.k10 (fun a1 a2 a3 a4 a5 a6 h => zf53.j10 U  a1 a2 a3 a4 a5 a6 Q h)) := by
  refine cutOK_head (fun vs h hk => ?_)
  unfold zf53.k10 at hk
  split at hk
  · rename_i a1 a2 a3 a4 a5 a6
    intro todo hm ρ a w s f hp
    exact piece (E := zf53.E U Q [(11, ([0, 1, 87, 88, 89], zf53.k11 (fun a1 a2 a3 a4 a5 h => zf53.j11 U  a1 a2 a3 a4 a5 Q h)))]) (vs := [.ptr a1, a2, .int .i64 a3, .int .i64 a4, .int .u64 a5, .int .u64 a6]) (envOK seatOK (zf53.callsOK hU) hU) (fnOK seatOK zf53.fun) ⟨(zf53.s11 hU Q  ), trivial⟩ zf53.p10 (fuel := 3000) (by rw [← zf53.e10]; exact hk) hm s f hp
  · exact hk.elim

theorem zf53.p8 : (posC zf53.code []).filter (fun p => Nat.beq p.1 8) = [(8, atPos (posC zf53.code []) 8)] := by kernel_rfl

theorem zf53.e8 : ∀ (U : Ifc)  (a1 : Option Ptr) (a2 : V) (a3 : Int) (a4 : Int) (Q : Int → Heap → Prop) (h : Heap), zf53.j8 U  a1 a2 a3 a4 Q h = pts (zf53.E U Q [(10, ([0, 1, 2, 3, 10, 11], zf53.k10 (fun a1 a2 a3 a4 a5 a6 h => zf53.j10 U  a1 a2 a3 a4 a5 a6 Q h)))]) 3000 true (atPos (posC zf53.code []) 8) (frAt [0, 1, 2, 3] [.ptr a1, a2, .int .i64 a3, .int .i64 a4]) h := by
  intros; kernel_rfl

theorem zf53.s8 {W0 : World} {U : Ifc} (hU : IfcOK sg W0 glsT U) (Q : Int → Heap → Prop)   : CutOK sg W0 111 (entered 35) (Post sg W0 (zf53.ret Q)) (posC zf53.code []) 8 [0, 1, 2, 3] (zf53.k8 (fun a1 a2 a3 a4 h => zf53.j8 U  a1 a2 a3 a4 Q h)) := by
  refine cutOK_head (fun vs h hk => ?_)
  unfold zf53.k8 at hk
  split at hk
  · rename_i a1 a2 a3 a4
    intro todo hm ρ a w s f hp
    exact piece (E := zf53.E U Q [(10, ([0, 1, 2, 3, 10, 11], zf53.k10 (fun a1 a2 a3 a4 a5 a6 h => zf53.j10 U  a1 a2 a3 a4 a5 a6 Q h)))]) (vs := [.ptr a1, a2, .int .i64 a3, .int .i64 a4]) (envOK seatOK (zf53.callsOK hU) hU) (fnOK seatOK zf53.fun) ⟨(zf53.s10 hU Q  ), trivial⟩ zf53.p8 (fuel := 3000) (by rw [← zf53.e8]; exact hk) hm s f hp
  · exact hk.elim

theorem zf53.e : ∀ (U : Ifc) (a1 : Option Ptr) (a2 : V) (a3 : Int) (a4 : Int) (Q : Int → Heap → Prop) (h : Heap), zf53 U a1 a2 a3 a4 Q h = pts (zf53.E U Q [(5, ([], zf53.k5 (fun  h => zf53.j5 U   Q h))), (7, ([], zf53.k7 (fun  h => zf53.j7 U   Q h))), (8, ([0, 1, 2, 3], zf53.k8 (fun a1 a2 a3 a4 h => zf53.j8 U  a1 a2 a3 a4 Q h)))]) 3000 true [.code zf53.code] (frOf 0 [.ptr a1, a2, .int .i64 a3, .int .i64 a4]) h := by
  intros; kernel_rfl

theorem zf53.S {W0 : World} {U : Ifc} (hU : IfcOK sg W0 glsT U) : FnS sg W0 78 (zf53.C U) := by
  intro vs κ h wv hx w s
  unfold zf53.C at hx
  split at hx
  · rename_i a1 a2 a3 a4
    refine postImp (ret := zf53.ret (fun r1 h => κ (.int .i64 r1) h)) (fun v h hr => by unfold zf53.ret at hr; split at hr; exact hr; exact hr.elim) ?_
    exact calls_of_pts (E := zf53.E U (fun r1 h => κ (.int .i64 r1) h) [(5, ([], zf53.k5 (fun  h => zf53.j5 U   (fun r1 h => κ (.int .i64 r1) h) h))), (7, ([], zf53.k7 (fun  h => zf53.j7 U   (fun r1 h => κ (.int .i64 r1) h) h))), (8, ([0, 1, 2, 3], zf53.k8 (fun a1 a2 a3 a4 h => zf53.j8 U  a1 a2 a3 a4 (fun r1 h => κ (.int .i64 r1) h) h)))]) (envOK seatOK (zf53.callsOK hU) hU) seatOK.mixed zf53.fun (Nat.le_of_ble_eq_true rfl) wv (cutL_ok ⟨(zf53.s5 hU (fun r1 h => κ (.int .i64 r1) h)), (zf53.s7 hU (fun r1 h => κ (.int .i64 r1) h)), (zf53.s8 hU (fun r1 h => κ (.int .i64 r1) h)), trivial⟩) s (fuel := 3000) (by rw [← zf53.e]; exact hx)
  · exact hx.elim

noncomputable def zf1.code : Code := Go.Proofs.Tryd.f9.body.getD .skip

theorem zf1.fun : Fun sg.P 9 74 [.tmp 4, .tmp 5] zf1.code := mkFun Go.Proofs.Tryd.func9 (by kernel_rfl) (by kernel_rfl) (by kernel_rfl) (by kernel_rfl)

def zf1.ret (Q : Int → Int → Heap → Prop) (v : V) (h : Heap) : Prop :=
  match v with
  | .tup [.int .i64 r1, .int .i64 r2] => Q r1 r2 h
  | _ => False

def zf1.C (U : Ifc) (vs : List V) (κ : V → Heap → Prop) (h : Heap) : Prop :=
  match vs with
  | [.ptr a1, a2] => zf1 U a1 a2 (fun r1 r2 h => κ (.tup [.int .i64 r1, .int .i64 r2]) h) h
  | _ => False

noncomputable def zf1.calls (U : Ifc) : List (Nat × (List V → (V → Heap → Prop) → Heap → Prop)) := [(266, zf4.C), (77, zf52.C U), (269, zf3.C U), (273, zf5.C U), (78, zf53.C U), (274, zf8.C U)]

noncomputable def zf1.E (U : Ifc) (Q : Int → Int → Heap → Prop) (cuts : List (Nat × (List Nat × (List V → Heap → Prop)))) : Env := { tis := tisT, fns := fnsT, tys := tysT, gls := glsT, rts := rtsT, unk := [], nxt := [], calls := zf1.calls U, ifc := U, cuts := cuts, ret := zf1.ret Q, rets := [.tmp 4, .tmp 5], n := 74 }

theorem zf1.callsOK {W0 : World} {U : Ifc} (hU : IfcOK sg W0 glsT U) : CallsOK sg W0 (zf1.calls U) := ⟨zf4.S, (zf52.S hU), (zf3.S hU), (zf5.S hU), (zf53.S hU), (zf8.S hU), trivial⟩

def zf1.k7 (I : Int → Int → Heap → Prop) (vs : List V) (h : Heap) : Prop :=
  match vs with
  | [.int .i64 a1, .int .i64 a2] => I a1 a2 h
  | _ => False

def zf1.k11 (I : (Option Ptr) → V → Int → Ptr → Int → Heap → Prop) (vs : List V) (h : Heap) : Prop :=
  match vs with
  | [.ptr a1, a2, .int .i64 a3, .ptr (some a4), .int .u8 a5] => I a1 a2 a3 a4 a5 h
  | _ => False

def zf1.k8 (I : (Option Ptr) → V → Int → Ptr → Heap → Prop) (vs : List V) (h : Heap) : Prop :=
  match vs with
  | [.ptr a1, a2, .int .i64 a3, .ptr (some a4)] => I a1 a2 a3 a4 h
  | _ => False

def zf1.k4 (I : (Option Ptr) → V → Int → Heap → Prop) (vs : List V) (h : Heap) : Prop :=
  match vs with
  | [.ptr a1, a2, .int .i64 a3] => I a1 a2 a3 h
  | _ => False

theorem zf1.p7 : (posC zf1.code []).filter (fun p => Nat.beq p.1 7) = [(7, atPos (posC zf1.code []) 7)] := by kernel_rfl

theorem zf1.e7 : ∀ (U : Ifc) (I4 : (Option Ptr) → V → Int → Heap → Prop) (a1 : Int) (a2 : Int) (Q : Int → Int → Heap → Prop) (h : Heap), zf1.j7 U I4 a1 a2 Q h = pts (zf1.E U Q []) 3000 true (atPos (posC zf1.code []) 7) (frAt [6, 9] [.int .i64 a1, .int .i64 a2]) h := by
  intros; kernel_rfl

theorem zf1.s7 {W0 : World} {U : Ifc} (hU : IfcOK sg W0 glsT U) (Q : Int → Int → Heap → Prop) (I4 : (Option Ptr) → V → Int → Heap → Prop) (h4 : CutOK sg W0 74 (entered 9) (Post sg W0 (zf1.ret Q)) (posC zf1.code []) 4 [0, 1, 6] (zf1.k4 I4)) : CutOK sg W0 74 (entered 9) (Post sg W0 (zf1.ret Q)) (posC zf1.code []) 7 [6, 9] (zf1.k7 (fun a1 a2 h => zf1.j7 U I4 a1 a2 Q h)) := by
  refine cutOK_head (fun vs h hk => ?_)
  unfold zf1.k7 at hk
  split at hk
  · rename_i a1 a2
    intro todo hm ρ a w s f hp
    exact piece (E := zf1.E U Q []) (vs := [.int .i64 a1, .int .i64 a2]) (envOK seatOK (zf1.callsOK hU) hU) (fnOK seatOK zf1.fun) trivial zf1.p7 (fuel := 3000) (by rw [← zf1.e7]; exact hk) hm s f hp
  · exact hk.elim

theorem zf1.p11 : (posC zf1.code []).filter (fun p => Nat.beq p.1 11) = [(11, atPos (posC zf1.code []) 11)] := by kernel_rfl

theorem zf1.e11 : ∀ (U : Ifc) (I4 : (Option Ptr) → V → Int → Heap → Prop) (a1 : Option Ptr) (a2 : V) (a3 : Int) (a4 : Ptr) (a5 : Int) (Q : Int → Int → Heap → Prop) (h : Heap), zf1.j11 U I4 a1 a2 a3 a4 a5 Q h = pts (zf1.E U Q [(4, ([0, 1, 6], zf1.k4 I4))]) 3000 true (atPos (posC zf1.code []) 11) (frAt [0, 1, 6, 7, 11] [.ptr a1, a2, .int .i64 a3, .ptr (some a4), .int .u8 a5]) h := by
  intros; kernel_rfl

theorem zf1.s11 {W0 : World} {U : Ifc} (hU : IfcOK sg W0 glsT U) (Q : Int → Int → Heap → Prop) (I4 : (Option Ptr) → V → Int → Heap → Prop) (h4 : CutOK sg W0 74 (entered 9) (Post sg W0 (zf1.ret Q)) (posC zf1.code []) 4 [0, 1, 6] (zf1.k4 I4)) : CutOK sg W0 74 (entered 9) (Post sg W0 (zf1.ret Q)) (posC zf1.code []) 11 [0, 1, 6, 7, 11] (zf1.k11 (fun a1 a2 a3 a4 a5 h => zf1.j11 U I4 a1 a2 a3 a4 a5 Q h)) := by
  refine cutOK_head (fun vs h hk => ?_)
  unfold zf1.k11 at hk
  split at hk
  · rename_i a1 a2 a3 a4 a5
    intro todo hm ρ a w s f hp
    exact piece (E := zf1.E U Q [(4, ([0, 1, 6], zf1.k4 I4))]) (vs := [.ptr a1, a2, .int .i64 a3, .ptr (some a4), .int .u8 a5]) (envOK seatOK (zf1.callsOK hU) hU) (fnOK seatOK zf1.fun) ⟨h4, trivial⟩ zf1.p11 (fuel := 3000) (by rw [← zf1.e11]; exact hk) hm s f hp
  · exact hk.elim

theorem zf1.p8 : (posC zf1.code []).filter (fun p => Nat.beq p.1 8) = [(8, atPos (posC zf1.code []) 8)] := by kernel_rfl

theorem zf1.e8 : ∀ (U : Ifc) (I4 : (Option Ptr) → V → Int → Heap → Prop) (a1 : Option Ptr) (a2 : V) (a3 : Int) (a4 : Ptr) (Q : Int → Int → Heap → Prop) (h : Heap), zf1.j8 U I4 a1 a2 a3 a4 Q h = pts (zf1.E U Q [(11, ([0, 1, 6, 7, 11], zf1.k11 (fun a1 a2 a3 a4 a5 h => zf1.j11 U I4 a1 a2 a3 a4 a5 Q h)))]) 3000 true (atPos (posC zf1.code []) 8) (frAt [0, 1, 6, 7] [.ptr a1, a2, .int .i64 a3, .ptr (some a4)]) h := by
  intros; kernel_rfl

theorem zf1.s8 {W0 : World} {U : Ifc} (hU : IfcOK sg W0 glsT U) (Q : Int → Int → Heap → Prop) (I4 : (Option Ptr) → V → Int → Heap → Prop) (h4 : CutOK sg W0 74 (entered 9) (Post sg W0 (zf1.ret Q)) (posC zf1.code []) 4 [0, 1, 6] (zf1.k4 I4)) : CutOK sg W0 74 (entered 9) (Post sg W0 (zf1.ret Q)) (posC zf1.code []) 8 [0, 1, 6, 7] (zf1.k8 (fun a1 a2 a3 a4 h => zf1.j8 U I4 a1 a2 a3 a4 Q h)) := by
  refine cutOK_head (fun vs h hk => ?_)
  unfold zf1.k8 at hk
  split at hk
  · rename_i a1 a2 a3 a4
    intro todo hm ρ a w s f hp
    exact piece (E := zf1.E U Q [(11, ([0, 1, 6, 7, 11], zf1.k11 (fun a1 a2 a3 a4 a5 h => zf1.j11 U I4 a1 a2 a3 a4 a5 Q h)))]) (vs := [.ptr a1, a2, .int .i64 a3, .ptr (some a4)]) (envOK seatOK (zf1.callsOK hU) hU) (fnOK seatOK zf1.fun) ⟨(zf1.s11 hU Q I4 h4), trivial⟩ zf1.p8 (fuel := 3000) (by rw [← zf1.e8]; exact hk) hm s f hp
  · exact hk.elim

theorem zf1.p4 : (posC zf1.code []).filter (fun p => Nat.beq p.1 4) = [(4, atPos (posC zf1.code []) 4)] := by kernel_rfl

theorem zf1.e4 : ∀ (U : Ifc)  (I4 : (Option Ptr) → V → Int → Heap → Prop) (a1 : Option Ptr) (a2 : V) (a3 : Int) (Q : Int → Int → Heap → Prop) (h : Heap), zf1.b4 U  I4 a1 a2 a3 Q h = pts (zf1.E U Q [(7, ([6, 9], zf1.k7 (fun a1 a2 h => zf1.j7 U I4 a1 a2 Q h))), (8, ([0, 1, 6, 7], zf1.k8 (fun a1 a2 a3 a4 h => zf1.j8 U I4 a1 a2 a3 a4 Q h)))]) 3000 true (atPos (posC zf1.code []) 4) (frAt [0, 1, 6] [.ptr a1, a2, .int .i64 a3]) h := by
  intros; kernel_rfl

theorem zf1.s4 {W0 : World} {U : Ifc} (hU : IfcOK sg W0 glsT U) (Q : Int → Int → Heap → Prop)   : CutOK sg W0 74 (entered 9) (Post sg W0 (zf1.ret Q)) (posC zf1.code []) 4 [0, 1, 6] (zf1.k4 (fun a1 a2 a3 h => zf1.j4 U  a1 a2 a3 Q h)) := by
  refine cutOK_head (fun vs h hk => ?_)
  unfold zf1.k4 at hk
  split at hk
  · rename_i a1 a2 a3
    refine hk (fun a1 a2 a3 h => Head sg W0 74 (entered 9) (Post sg W0 (zf1.ret Q)) (posC zf1.code []) 4 [0, 1, 6] [.ptr a1, a2, .int .i64 a3] h) ?_
    intro a1 a2 a3 h hb todo hm ρ a w s f hp
    have hself : CutOK sg W0 74 (entered 9) (Post sg W0 (zf1.ret Q)) (posC zf1.code []) 4 [0, 1, 6] (zf1.k4 (fun a1 a2 a3 h => Head sg W0 74 (entered 9) (Post sg W0 (zf1.ret Q)) (posC zf1.code []) 4 [0, 1, 6] [.ptr a1, a2, .int .i64 a3] h)) := cutOK_head (fun vs h hk => by unfold zf1.k4 at hk; split at hk; exact hk; exact hk.elim)
    exact piece (E := zf1.E U Q [(7, ([6, 9], zf1.k7 (fun a1 a2 h => zf1.j7 U (fun a1 a2 a3 h => Head sg W0 74 (entered 9) (Post sg W0 (zf1.ret Q)) (posC zf1.code []) 4 [0, 1, 6] [.ptr a1, a2, .int .i64 a3] h) a1 a2 Q h))), (8, ([0, 1, 6, 7], zf1.k8 (fun a1 a2 a3 a4 h => zf1.j8 U (fun a1 a2 a3 h => Head sg W0 74 (entered 9) (Post sg W0 (zf1.ret Q)) (posC zf1.code []) 4 [0, 1, 6] [.ptr a1, a2, .int .i64 a3] h) a1 a2 a3 a4 Q h)))]) (vs := [.ptr a1, a2, .int .i64 a3]) (envOK seatOK (zf1.callsOK hU) hU) (fnOK seatOK zf1.fun) ⟨(zf1.s7 hU Q (fun a1 a2 a3 h => Head sg W0 74 (entered 9) (Post sg W0 (zf1.ret Q)) (posC zf1.code []) 4 [0, 1, 6] [.ptr a1, a2, .int .i64 a3] h) hself), (zf1.s8 hU Q (fun a1 a2 a3 h => Head sg W0 74 (entered 9) (Post sg W0 (zf1.ret Q)) (posC zf1.code []) 4 [0, 1, 6] [.ptr a1, a2, .int .i64 a3] h) hself), trivial⟩ zf1.p4 (fuel := 3000) (by rw [← zf1.e4]; exact hb) hm s f hp
  · exact hk.elim

theorem zf1.e : ∀ (U : Ifc) (a1 : Option Ptr) (a2 : V) (Q : Int → Int → Heap → Prop) (h : Heap), zf1 U a1 a2 Q h = pts (zf1.E U Q [(4, ([0, 1, 6], zf1.k4 (fun a1 a2 a3 h => zf1.j4 U  a1 a2 a3 Q h)))]) 3000 true [.code zf1.code] (frOf 0 [.ptr a1, a2]) h := by
  intros; kernel_rfl

theorem zf1.S {W0 : World} {U : Ifc} (hU : IfcOK sg W0 glsT U) : FnS sg W0 275 (zf1.C U) := by
  intro vs κ h wv hx w s
  unfold zf1.C at hx
  split at hx
  · rename_i a1 a2
    refine postImp (ret := zf1.ret (fun r1 r2 h => κ (.tup [.int .i64 r1, .int .i64 r2]) h)) (fun v h hr => by unfold zf1.ret at hr; split at hr; exact hr; exact hr.elim) ?_
    exact calls_of_pts (E := zf1.E U (fun r1 r2 h => κ (.tup [.int .i64 r1, .int .i64 r2]) h) [(4, ([0, 1, 6], zf1.k4 (fun a1 a2 a3 h => zf1.j4 U  a1 a2 a3 (fun r1 r2 h => κ (.tup [.int .i64 r1, .int .i64 r2]) h) h)))]) (envOK seatOK (zf1.callsOK hU) hU) seatOK.mixed zf1.fun (Nat.le_of_ble_eq_true rfl) wv (cutL_ok ⟨(zf1.s4 hU (fun r1 r2 h => κ (.tup [.int .i64 r1, .int .i64 r2]) h)), trivial⟩) s (fuel := 3000) (by rw [← zf1.e]; exact hx)
  · exact hx.elim

noncomputable def zf60.code : Code := Go.Proofs.Tryd.f38.body.getD .skip

theorem zf60.fun : Fun sg.P 38 8 [.tmp 2] zf60.code := mkFun Go.Proofs.Tryd.func38 (by kernel_rfl) (by kernel_rfl) (by kernel_rfl) (by kernel_rfl)

def zf60.ret (Q : Sl → Heap → Prop) (v : V) (h : Heap) : Prop :=
  match v with
  | .sl r1 => Q r1 h
  | _ => False

def zf60.C (vs : List V) (κ : V → Heap → Prop) (h : Heap) : Prop :=
  match vs with
  | [.sl a1] => zf60 a1 (fun r1 h => κ (.sl r1) h) h
  | _ => False

noncomputable def zf60.calls : List (Nat × (List V → (V → Heap → Prop) → Heap → Prop)) := []

noncomputable def zf60.E (Q : Sl → Heap → Prop) (cuts : List (Nat × (List Nat × (List V → Heap → Prop)))) : Env := { tis := tisT, fns := fnsT, tys := tysT, gls := [], rts := rtsT, unk := [], nxt := [], calls := zf60.calls, ifc := noIfc, cuts := cuts, ret := zf60.ret Q, rets := [.tmp 2], n := 8 }

theorem zf60.callsOK {W0 : World} : CallsOK sg W0 zf60.calls := trivial

theorem zf60.e : ∀ (a1 : Sl) (Q : Sl → Heap → Prop) (h : Heap), zf60 a1 Q h = pts (zf60.E Q []) 3000 true [.code zf60.code] (frOf 0 [.sl a1]) h := by
  intros; kernel_rfl

theorem zf60.S {W0 : World} : FnS sg W0 37 zf60.C := by
  intro vs κ h wv hx w s
  unfold zf60.C at hx
  split at hx
  · rename_i a1
    refine postImp (ret := zf60.ret (fun r1 h => κ (.sl r1) h)) (fun v h hr => by unfold zf60.ret at hr; split at hr; exact hr; exact hr.elim) ?_
    exact calls_of_pts (E := zf60.E (fun r1 h => κ (.sl r1) h) []) (envOK seatOK zf60.callsOK noIfc_ok) seatOK.mixed zf60.fun (Nat.le_of_ble_eq_true rfl) wv (cutL_ok trivial) s (fuel := 3000) (by rw [← zf60.e]; exact hx)
  · exact hx.elim

noncomputable def zf14.code : Code := Go.Proofs.Tryd.f10.body.getD .skip

theorem zf14.fun : Fun sg.P 10 10 [.tmp 2] zf14.code := mkFun Go.Proofs.Tryd.func10 (by kernel_rfl) (by kernel_rfl) (by kernel_rfl) (by kernel_rfl)

def zf14.ret (Q : Sl → Heap → Prop) (v : V) (h : Heap) : Prop :=
  match v with
  | .sl r1 => Q r1 h
  | _ => False

def zf14.C (vs : List V) (κ : V → Heap → Prop) (h : Heap) : Prop :=
  match vs with
  | [.ptr a1] => zf14 a1 (fun r1 h => κ (.sl r1) h) h
  | _ => False

noncomputable def zf14.calls : List (Nat × (List V → (V → Heap → Prop) → Heap → Prop)) := [(29, zf19.C), (37, zf60.C)]

noncomputable def zf14.E (Q : Sl → Heap → Prop) (cuts : List (Nat × (List Nat × (List V → Heap → Prop)))) : Env := { tis := tisT, fns := fnsT, tys := tysT, gls := [], rts := rtsT, unk := [], nxt := [], calls := zf14.calls, ifc := noIfc, cuts := cuts, ret := zf14.ret Q, rets := [.tmp 2], n := 10 }

theorem zf14.callsOK {W0 : World} : CallsOK sg W0 zf14.calls := ⟨zf19.S, zf60.S, trivial⟩

theorem zf14.e : ∀ (a1 : Option Ptr) (Q : Sl → Heap → Prop) (h : Heap), zf14 a1 Q h = pts (zf14.E Q []) 3000 true [.code zf14.code] (frOf 0 [.ptr a1]) h := by
  intros; kernel_rfl

theorem zf14.S {W0 : World} : FnS sg W0 38 zf14.C := by
  intro vs κ h wv hx w s
  unfold zf14.C at hx
  split at hx
  · rename_i a1
    refine postImp (ret := zf14.ret (fun r1 h => κ (.sl r1) h)) (fun v h hr => by unfold zf14.ret at hr; split at hr; exact hr; exact hr.elim) ?_
    exact calls_of_pts (E := zf14.E (fun r1 h => κ (.sl r1) h) []) (envOK seatOK zf14.callsOK noIfc_ok) seatOK.mixed zf14.fun (Nat.le_of_ble_eq_true rfl) wv (cutL_ok trivial) s (fuel := 3000) (by rw [← zf14.e]; exact hx)
  · exact hx.elim

noncomputable def zf2.code : Code := Go.Proofs.Tryd.f12.body.getD .skip

theorem zf2.fun : Fun sg.P 12 10 [.tmp 2] zf2.code := mkFun Go.Proofs.Tryd.func12 (by kernel_rfl) (by kernel_rfl) (by kernel_rfl) (by kernel_rfl)

def zf2.ret (Q : Int → Heap → Prop) (v : V) (h : Heap) : Prop :=
  match v with
  | .int .i64 r1 => Q r1 h
  | _ => False

def zf2.C (vs : List V) (κ : V → Heap → Prop) (h : Heap) : Prop :=
  match vs with
  | [.ptr a1] => zf2 a1 (fun r1 h => κ (.int .i64 r1) h) h
  | _ => False

noncomputable def zf2.calls : List (Nat × (List V → (V → Heap → Prop) → Heap → Prop)) := []

noncomputable def zf2.E (Q : Int → Heap → Prop) (cuts : List (Nat × (List Nat × (List V → Heap → Prop)))) : Env := { tis := tisT, fns := fnsT, tys := tysT, gls := [], rts := rtsT, unk := [], nxt := [], calls := zf2.calls, ifc := noIfc, cuts := cuts, ret := zf2.ret Q, rets := [.tmp 2], n := 10 }

theorem zf2.callsOK {W0 : World} : CallsOK sg W0 zf2.calls := trivial

theorem zf2.e : ∀ (a1 : Option Ptr) (Q : Int → Heap → Prop) (h : Heap), zf2 a1 Q h = pts (zf2.E Q []) 3000 true [.code zf2.code] (frOf 0 [.ptr a1]) h := by
  intros; kernel_rfl

theorem zf2.S {W0 : World} : FnS sg W0 278 zf2.C := by
  intro vs κ h wv hx w s
  unfold zf2.C at hx
  split at hx
  · rename_i a1
    refine postImp (ret := zf2.ret (fun r1 h => κ (.int .i64 r1) h)) (fun v h hr => by unfold zf2.ret at hr; split at hr; exact hr; exact hr.elim) ?_
    exact calls_of_pts (E := zf2.E (fun r1 h => κ (.int .i64 r1) h) []) (envOK seatOK zf2.callsOK noIfc_ok) seatOK.mixed zf2.fun (Nat.le_of_ble_eq_true rfl) wv (cutL_ok trivial) s (fuel := 3000) (by rw [← zf2.e]; exact hx)
  · exact hx.elim

noncomputable def zf32.code : Code := Go.Proofs.Tryd.f40.body.getD .skip

theorem zf32.fun : Fun sg.P 40 11 [.tmp 2] zf32.code := mkFun Go.Proofs.Tryd.func40 (by kernel_rfl) (by kernel_rfl) (by kernel_rfl) (by kernel_rfl)

def zf32.ret (Q : Int → Heap → Prop) (v : V) (h : Heap) : Prop :=
  match v with
  | .int .i64 r1 => Q r1 h
  | _ => False

def zf32.C (vs : List V) (κ : V → Heap → Prop) (h : Heap) : Prop :=
  match vs with
  | [.ptr a1] => zf32 a1 (fun r1 h => κ (.int .i64 r1) h) h
  | _ => False

noncomputable def zf32.calls : List (Nat × (List V → (V → Heap → Prop) → Heap → Prop)) := [(31, zf36.C)]

noncomputable def zf32.E (Q : Int → Heap → Prop) (cuts : List (Nat × (List Nat × (List V → Heap → Prop)))) : Env := { tis := tisT, fns := fnsT, tys := tysT, gls := [], rts := rtsT, unk := [], nxt := [], calls := zf32.calls, ifc := noIfc, cuts := cuts, ret := zf32.ret Q, rets := [.tmp 2], n := 11 }

theorem zf32.callsOK {W0 : World} : CallsOK sg W0 zf32.calls := ⟨zf36.S, trivial⟩

theorem zf32.e : ∀ (a1 : Option Ptr) (Q : Int → Heap → Prop) (h : Heap), zf32 a1 Q h = pts (zf32.E Q []) 3000 true [.code zf32.code] (frOf 0 [.ptr a1]) h := by
  intros; kernel_rfl

theorem zf32.S {W0 : World} : FnS sg W0 55 zf32.C := by
  intro vs κ h wv hx w s
  unfold zf32.C at hx
  split at hx
  · rename_i a1
    refine postImp (ret := zf32.ret (fun r1 h => κ (.int .i64 r1) h)) (fun v h hr => by unfold zf32.ret at hr; split at hr; exact hr; exact hr.elim) ?_
    exact calls_of_pts (E := zf32.E (fun r1 h => κ (.int .i64 r1) h) []) (envOK seatOK zf32.callsOK noIfc_ok) seatOK.mixed zf32.fun (Nat.le_of_ble_eq_true rfl) wv (cutL_ok trivial) s (fuel := 3000) (by rw [← zf32.e]; exact hx)
  · exact hx.elim

noncomputable def zf63.code : Code := Go.Proofs.Tryd.f41.body.getD .skip

theorem zf63.fun : Fun sg.P 41 42 [.tmp 4] zf63.code := mkFun Go.Proofs.Tryd.func41 (by kernel_rfl) (by kernel_rfl) (by kernel_rfl) (by kernel_rfl)

def zf63.ret (Q : Sl → Heap → Prop) (v : V) (h : Heap) : Prop :=
  match v with
  | .sl r1 => Q r1 h
  | _ => False

def zf63.C (U : Ifc) (vs : List V) (κ : V → Heap → Prop) (h : Heap) : Prop :=
  match vs with
  | [.sl a1, a2] => zf63 U a1 a2 (fun r1 h => κ (.sl r1) h) h
  | _ => False

noncomputable def zf63.calls (U : Ifc) : List (Nat × (List V → (V → Heap → Prop) → Heap → Prop)) := [(70, zf65.C U)]

noncomputable def zf63.E (U : Ifc) (Q : Sl → Heap → Prop) (cuts : List (Nat × (List Nat × (List V → Heap → Prop)))) : Env := { tis := tisT, fns := fnsT, tys := tysT, gls := glsT, rts := rtsT, unk := [26], nxt := [], calls := zf63.calls U, ifc := U, cuts := cuts, ret := zf63.ret Q, rets := [.tmp 4], n := 42 }

theorem zf63.callsOK {W0 : World} {U : Ifc} (hU : IfcOK sg W0 glsT U) : CallsOK sg W0 (zf63.calls U) := ⟨(zf65.S hU), trivial⟩

def zf63.k6 (I : Sl → V → Int → Int → Heap → Prop) (vs : List V) (h : Heap) : Prop :=
  match vs with
  | [.sl a1, a2, .int .i64 a3, .int .i64 a4] => I a1 a2 a3 a4 h
  | _ => False

def zf63.k5 (I : Sl → V → Int → Int → Heap → Prop) (vs : List V) (h : Heap) : Prop :=
  match vs with
  | [.sl a1, a2, .int .i64 a3, .int .i64 a4] => I a1 a2 a3 a4 h
  | _ => False

theorem zf63.p6 : (posC zf63.code []).filter (fun p => Nat.beq p.1 6) = [(6, atPos (posC zf63.code []) 6)] := by kernel_rfl

theorem zf63.e6 : ∀ (U : Ifc) (I5 : Sl → V → Int → Int → Heap → Prop) (a1 : Sl) (a2 : V) (a3 : Int) (a4 : Int) (Q : Sl → Heap → Prop) (h : Heap), zf63.j6 U I5 a1 a2 a3 a4 Q h = pts (zf63.E U Q [(5, ([0, 1, 5, 6], zf63.k5 I5))]) 3000 true (atPos (posC zf63.code []) 6) (frAt [0, 1, 5, 6] [.sl a1, a2, .int .i64 a3, .int .i64 a4]) h := by
  intros; kernel_rfl

theorem zf63.s6 {W0 : World} {U : Ifc} (hU : IfcOK sg W0 glsT U) (Q : Sl → Heap → Prop) (I5 : Sl → V → Int → Int → Heap → Prop) (h5 : CutOK sg W0 42 (entered 41) (Post sg W0 (zf63.ret Q)) (posC zf63.code []) 5 [0, 1, 5, 6] (zf63.k5 I5)) : CutOK sg W0 42 (entered 41) (Post sg W0 (zf63.ret Q)) (posC zf63.code []) 6 [0, 1, 5, 6] (zf63.k6 (fun a1 a2 a3 a4 h => zf63.j6 U I5 a1 a2 a3 a4 Q h)) := by
  refine cutOK_head (fun vs h hk => ?_)
  unfold zf63.k6 at hk
  split at hk
  · rename_i a1 a2 a3 a4
    intro todo hm ρ a w s f hp
    exact piece (E := zf63.E U Q [(5, ([0, 1, 5, 6], zf63.k5 I5))]) (vs := [.sl a1, a2, .int .i64 a3, .int .i64 a4]) (envOK seatOK (zf63.callsOK hU) hU) (fnOK seatOK zf63.fun) ⟨h5, trivial⟩ zf63.p6 (fuel := 3000) (by rw [← zf63.e6]; exact hk) hm s f hp
  · exact hk.elim

theorem zf63.p5 : (posC zf63.code []).filter (fun p => Nat.beq p.1 5) = [(5, atPos (posC zf63.code []) 5)] := by kernel_rfl

theorem zf63.e5 : ∀ (U : Ifc)  (I5 : Sl → V → Int → Int → Heap → Prop) (a1 : Sl) (a2 : V) (a3 : Int) (a4 : Int) (Q : Sl → Heap → Prop) (h : Heap), zf63.b5 U  I5 a1 a2 a3 a4 Q h = pts (zf63.E U Q [(6, ([0, 1, 5, 6], zf63.k6 (fun a1 a2 a3 a4 h => zf63.j6 U I5 a1 a2 a3 a4 Q h)))]) 3000 true (atPos (posC zf63.code []) 5) (frAt [0, 1, 5, 6] [.sl a1, a2, .int .i64 a3, .int .i64 a4]) h := by
  intros; kernel_rfl

theorem zf63.s5 {W0 : World} {U : Ifc} (hU : IfcOK sg W0 glsT U) (Q : Sl → Heap → Prop)   : CutOK sg W0 42 (entered 41) (Post sg W0 (zf63.ret Q)) (posC zf63.code []) 5 [0, 1, 5, 6] (zf63.k5 (fun a1 a2 a3 a4 h => zf63.j5 U  a1 a2 a3 a4 Q h)) := by
  refine cutOK_head (fun vs h hk => ?_)
  unfold zf63.k5 at hk
  split at hk
  · rename_i a1 a2 a3 a4
    refine hk (fun a1 a2 a3 a4 h => Head sg W0 42 (entered 41) (Post sg W0 (zf63.ret Q)) (posC zf63.code []) 5 [0, 1, 5, 6] [.sl a1, a2, .int .i64 a3, .int .i64 a4] h) ?_
    intro a1 a2 a3 a4 h hb todo hm ρ a w s f hp
    have hself : CutOK sg W0 42 (entered 41) (Post sg W0 (zf63.ret Q)) (posC zf63.code []) 5 [0, 1, 5, 6] (zf63.k5 (fun a1 a2 a3 a4 h => Head sg W0 42 (entered 41) (Post sg W0 (zf63.ret Q)) (posC zf63.code []) 5 [0, 1, 5, 6] [.sl a1, a2, .int .i64 a3, .int .i64 a4] h)) := cutOK_head (fun vs h hk => by unfold zf63.k5 at hk; split at hk; exact hk; exact hk.elim)
    exact piece (E := zf63.E U Q [(6, ([0, 1, 5, 6], zf63.k6 (fun a1 a2 a3 a4 h => zf63.j6 U (fun a1 a2 a3 a4 h => Head sg W0 42 (entered 41) (Post sg W0 (zf63.ret Q)) (posC zf63.code []) 5 [0, 1, 5, 6] [.sl a1, a2, .int .i64 a3, .int .i64 a4] h) a1 a2 a3 a4 Q h)))]) (vs := [.sl a1, a2, .int .i64 a3, .int .i64 a4]) (envOK seatOK (zf63.callsOK hU) hU) (fnOK seatOK zf63.fun) ⟨(zf63.s6 hU Q (fun a1 a2 a3 a4 h => Head sg W0 42 (entered 41) (Post sg W0 (zf63.ret Q)) (posC zf63.code []) 5 [0, 1, 5, 6] [.sl a1, a2, .int .i64 a3, .int .i64 a4] h) hself), trivial⟩ zf63.p5 (fuel := 3000) (by rw [← zf63.e5]; exact hb) hm s f hp
  · exact hk.elim

theorem zf63.e : ∀ (U : Ifc) (a1 : Sl) (a2 : V) (Q : Sl → Heap → Prop) (h : Heap), zf63 U a1 a2 Q h = pts (zf63.E U Q [(5, ([0, 1, 5, 6], zf63.k5 (fun a1 a2 a3 a4 h => zf63.j5 U  a1 a2 a3 a4 Q h)))]) 3000 true [.code zf63.code] (frOf 0 [.sl a1, a2]) h := by
  intros; kernel_rfl

theorem zf63.S {W0 : World} {U : Ifc} (hU : IfcOK sg W0 glsT U) : FnS sg W0 71 (zf63.C U) := by
  intro vs κ h wv hx w s
  unfold zf63.C at hx
  split at hx
  · rename_i a1 a2
    refine postImp (ret := zf63.ret (fun r1 h => κ (.sl r1) h)) (fun v h hr => by unfold zf63.ret at hr; split at hr; exact hr; exact hr.elim) ?_
    exact calls_of_pts (E := zf63.E U (fun r1 h => κ (.sl r1) h) [(5, ([0, 1, 5, 6], zf63.k5 (fun a1 a2 a3 a4 h => zf63.j5 U  a1 a2 a3 a4 (fun r1 h => κ (.sl r1) h) h)))]) (envOK seatOK (zf63.callsOK hU) hU) seatOK.mixed zf63.fun (Nat.le_of_ble_eq_true rfl) wv (cutL_ok ⟨(zf63.s5 hU (fun r1 h => κ (.sl r1) h)), trivial⟩) s (fuel := 3000) (by rw [← zf63.e]; exact hx)
  · exact hx.elim

noncomputable def zf9.code : Code := Go.Proofs.Tryd.f71.body.getD .skip

theorem zf9.fun : Fun sg.P 71 8 [.tmp 2] zf9.code := mkFun Go.Proofs.Tryd.func71 (by kernel_rfl) (by kernel_rfl) (by kernel_rfl) (by kernel_rfl)

def zf9.ret (Q : Sl → Heap → Prop) (v : V) (h : Heap) : Prop :=
  match v with
  | .sl r1 => Q r1 h
  | _ => False

def zf9.C (vs : List V) (κ : V → Heap → Prop) (h : Heap) : Prop :=
  match vs with
  | [.sl a1] => zf9 a1 (fun r1 h => κ (.sl r1) h) h
  | _ => False

noncomputable def zf9.calls : List (Nat × (List V → (V → Heap → Prop) → Heap → Prop)) := []

noncomputable def zf9.E (Q : Sl → Heap → Prop) (cuts : List (Nat × (List Nat × (List V → Heap → Prop)))) : Env := { tis := tisT, fns := fnsT, tys := tysT, gls := [], rts := rtsT, unk := [], nxt := [], calls := zf9.calls, ifc := noIfc, cuts := cuts, ret := zf9.ret Q, rets := [.tmp 2], n := 8 }

theorem zf9.callsOK {W0 : World} : CallsOK sg W0 zf9.calls := trivial

theorem zf9.e : ∀ (a1 : Sl) (Q : Sl → Heap → Prop) (h : Heap), zf9 a1 Q h = pts (zf9.E Q []) 3000 true [.code zf9.code] (frOf 0 [.sl a1]) h := by
  intros; kernel_rfl

theorem zf9.S {W0 : World} : FnS sg W0 39 zf9.C := by
  intro vs κ h wv hx w s
  unfold zf9.C at hx
  split at hx
  · rename_i a1
    refine postImp (ret := zf9.ret (fun r1 h => κ (.sl r1) h)) (fun v h hr => by unfold zf9.ret at hr; split at hr; exact hr; exact hr.elim) ?_
    exact calls_of_pts (E := zf9.E (fun r1 h => κ (.sl r1) h) []) (envOK seatOK zf9.callsOK noIfc_ok) seatOK.mixed zf9.fun (Nat.le_of_ble_eq_true rfl) wv (cutL_ok trivial) s (fuel := 3000) (by rw [← zf9.e]; exact hx)
  · exact hx.elim

noncomputable def zf31.code : Code := Go.Proofs.Tryd.f43.body.getD .skip

theorem zf31.fun : Fun sg.P 43 20 [.tmp 6, .tmp 7] zf31.code := mkFun Go.Proofs.Tryd.func43 (by kernel_rfl) (by kernel_rfl) (by kernel_rfl) (by kernel_rfl)

def zf31.ret (Q : Sl → Int → Heap → Prop) (v : V) (h : Heap) : Prop :=
  match v with
  | .tup [.sl r1, .int .i64 r2] => Q r1 r2 h
  | _ => False

def zf31.C (vs : List V) (κ : V → Heap → Prop) (h : Heap) : Prop :=
  match vs with
  | [.ptr a1, .int .u64 a2, .int .i64 a3] => zf31 a1 a2 a3 (fun r1 r2 h => κ (.tup [.sl r1, .int .i64 r2]) h) h
  | _ => False

noncomputable def zf31.calls : List (Nat × (List V → (V → Heap → Prop) → Heap → Prop)) := [(32, zf38.C), (39, zf9.C)]

noncomputable def zf31.E (Q : Sl → Int → Heap → Prop) (cuts : List (Nat × (List Nat × (List V → Heap → Prop)))) : Env := { tis := tisT, fns := fnsT, tys := tysT, gls := [], rts := rtsT, unk := [], nxt := [], calls := zf31.calls, ifc := noIfc, cuts := cuts, ret := zf31.ret Q, rets := [.tmp 6, .tmp 7], n := 20 }

theorem zf31.callsOK {W0 : World} : CallsOK sg W0 zf31.calls := ⟨zf38.S, zf9.S, trivial⟩

theorem zf31.e : ∀ (a1 : Option Ptr) (a2 : Int) (a3 : Int) (Q : Sl → Int → Heap → Prop) (h : Heap), zf31 a1 a2 a3 Q h = pts (zf31.E Q []) 3000 true [.code zf31.code] (frOf 0 [.ptr a1, .int .u64 a2, .int .i64 a3]) h := by
  intros; kernel_rfl

theorem zf31.S {W0 : World} : FnS sg W0 40 zf31.C := by
  intro vs κ h wv hx w s
  unfold zf31.C at hx
  split at hx
  · rename_i a1 a2 a3
    refine postImp (ret := zf31.ret (fun r1 r2 h => κ (.tup [.sl r1, .int .i64 r2]) h)) (fun v h hr => by unfold zf31.ret at hr; split at hr; exact hr; exact hr.elim) ?_
    exact calls_of_pts (E := zf31.E (fun r1 r2 h => κ (.tup [.sl r1, .int .i64 r2]) h) []) (envOK seatOK zf31.callsOK noIfc_ok) seatOK.mixed zf31.fun (Nat.le_of_ble_eq_true rfl) wv (cutL_ok trivial) s (fuel := 3000) (by rw [← zf31.e]; exact hx)
  · exact hx.elim

noncomputable def zf64.code : Code := Go.Proofs.Tryd.f87.body.getD .skip

theorem zf64.fun : Fun sg.P 87 19 [.tmp 4] zf64.code := mkFun Go.Proofs.Tryd.func87 (by kernel_rfl) (by kernel_rfl) (by kernel_rfl) (by kernel_rfl)

def zf64.ret (Q : Int → Heap → Prop) (v : V) (h : Heap) : Prop :=
  match v with
  | .int .i64 r1 => Q r1 h
  | _ => False

def zf64.C (U : Ifc) (vs : List V) (κ : V → Heap → Prop) (h : Heap) : Prop :=
  match vs with
  | [.sl a1, a2] => zf64 U a1 a2 (fun r1 h => κ (.int .i64 r1) h) h
  | _ => False

noncomputable def zf64.calls (U : Ifc) : List (Nat × (List V → (V → Heap → Prop) → Heap → Prop)) := []

noncomputable def zf64.E (U : Ifc) (Q : Int → Heap → Prop) (cuts : List (Nat × (List Nat × (List V → Heap → Prop)))) : Env := { tis := tisT, fns := fnsT, tys := tysT, gls := glsT, rts := rtsT, unk := [11], nxt := [], calls := zf64.calls U, ifc := U, cuts := cuts, ret := zf64.ret Q, rets := [.tmp 4], n := 19 }

theorem zf64.callsOK {W0 : World} {U : Ifc} (hU : IfcOK sg W0 glsT U) : CallsOK sg W0 (zf64.calls U) := trivial

def zf64.k2 (I : Sl → V → Int → Int → Heap → Prop) (vs : List V) (h : Heap) : Prop :=
  match vs with
  | [.sl a1, a2, .int .i64 a3, .int .i64 a4] => I a1 a2 a3 a4 h
  | _ => False

theorem zf64.p2 : (posC zf64.code []).filter (fun p => Nat.beq p.1 2) = [(2, atPos (posC zf64.code []) 2)] := by kernel_rfl

theorem zf64.e2 : ∀ (U : Ifc)  (I2 : Sl → V → Int → Int → Heap → Prop) (a1 : Sl) (a2 : V) (a3 : Int) (a4 : Int) (Q : Int → Heap → Prop) (h : Heap), zf64.b2 U  I2 a1 a2 a3 a4 Q h = pts (zf64.E U Q [(2, ([0, 1, 7, 8], zf64.k2 I2))]) 3000 true (atPos (posC zf64.code []) 2) (frAt [0, 1, 7, 8] [.sl a1, a2, .int .i64 a3, .int .i64 a4]) h := by
  intros; kernel_rfl

theorem zf64.s2 {W0 : World} {U : Ifc} (hU : IfcOK sg W0 glsT U) (Q : Int → Heap → Prop)   : CutOK sg W0 19 (entered 87) (Post sg W0 (zf64.ret Q)) (posC zf64.code []) 2 [0, 1, 7, 8] (zf64.k2 (fun a1 a2 a3 a4 h => zf64.j2 U  a1 a2 a3 a4 Q h)) := by
  refine cutOK_head (fun vs h hk => ?_)
  unfold zf64.k2 at hk
  split at hk
  · rename_i a1 a2 a3 a4
    refine hk (fun a1 a2 a3 a4 h => Head sg W0 19 (entered 87) (Post sg W0 (zf64.ret Q)) (posC zf64.code []) 2 [0, 1, 7, 8] [.sl a1, a2, .int .i64 a3, .int .i64 a4] h) ?_
    intro a1 a2 a3 a4 h hb todo hm ρ a w s f hp
    have hself : CutOK sg W0 19 (entered 87) (Post sg W0 (zf64.ret Q)) (posC zf64.code []) 2 [0, 1, 7, 8] (zf64.k2 (fun a1 a2 a3 a4 h => Head sg W0 19 (entered 87) (Post sg W0 (zf64.ret Q)) (posC zf64.code []) 2 [0, 1, 7, 8] [.sl a1, a2, .int .i64 a3, .int .i64 a4] h)) := cutOK_head (fun vs h hk => by unfold zf64.k2 at hk; split at hk; exact hk; exact hk.elim)
    exact piece (E := zf64.E U Q [(2, ([0, 1, 7, 8], zf64.k2 (fun a1 a2 a3 a4 h => Head sg W0 19 (entered 87) (Post sg W0 (zf64.ret Q)) (posC zf64.code []) 2 [0, 1, 7, 8] [.sl a1, a2, .int .i64 a3, .int .i64 a4] h)))]) (vs := [.sl a1, a2, .int .i64 a3, .int .i64 a4]) (envOK seatOK (zf64.callsOK hU) hU) (fnOK seatOK zf64.fun) ⟨hself, trivial⟩ zf64.p2 (fuel := 3000) (by rw [← zf64.e2]; exact hb) hm s f hp
  · exact hk.elim

theorem zf64.e : ∀ (U : Ifc) (a1 : Sl) (a2 : V) (Q : Int → Heap → Prop) (h : Heap), zf64 U a1 a2 Q h = pts (zf64.E U Q [(2, ([0, 1, 7, 8], zf64.k2 (fun a1 a2 a3 a4 h => zf64.j2 U  a1 a2 a3 a4 Q h)))]) 3000 true [.code zf64.code] (frOf 0 [.sl a1, a2]) h := by
  intros; kernel_rfl

theorem zf64.S {W0 : World} {U : Ifc} (hU : IfcOK sg W0 glsT U) : FnS sg W0 72 (zf64.C U) := by
  intro vs κ h wv hx w s
  unfold zf64.C at hx
  split at hx
  · rename_i a1 a2
    refine postImp (ret := zf64.ret (fun r1 h => κ (.int .i64 r1) h)) (fun v h hr => by unfold zf64.ret at hr; split at hr; exact hr; exact hr.elim) ?_
    exact calls_of_pts (E := zf64.E U (fun r1 h => κ (.int .i64 r1) h) [(2, ([0, 1, 7, 8], zf64.k2 (fun a1 a2 a3 a4 h => zf64.j2 U  a1 a2 a3 a4 (fun r1 h => κ (.int .i64 r1) h) h)))]) (envOK seatOK (zf64.callsOK hU) hU) seatOK.mixed zf64.fun (Nat.le_of_ble_eq_true rfl) wv (cutL_ok ⟨(zf64.s2 hU (fun r1 h => κ (.int .i64 r1) h)), trivial⟩) s (fuel := 3000) (by rw [← zf64.e]; exact hx)
  · exact hx.elim

end Go.Fn
