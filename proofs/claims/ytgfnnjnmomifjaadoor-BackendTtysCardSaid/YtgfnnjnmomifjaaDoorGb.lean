/- The links of the shallow functions to the machine. PRINTED by lift.py. -/
import Derived.Test.YtgfnnjnmomifjaaDoorGb2
set_option linter.unusedVariables false
set_option maxRecDepth 100000
namespace Go.Fn
open Go.Lift

noncomputable def console_Console_Read.code : Code := Go.Proofs.Tryd.f50.body.getD .skip

theorem console_Console_Read.fun : Fun sg.P 50 47 [.tmp 4] console_Console_Read.code := mkFun Go.Proofs.Tryd.func50 (by kernel_rfl) (by kernel_rfl) (by kernel_rfl) (by kernel_rfl)

def console_Console_Read.ret (Q : Sl → Heap → Prop) (v : V) (h : Heap) : Prop :=
  match v with
  | .sl r1 => Q r1 h
  | _ => False

def console_Console_Read.C (vs : List V) (κ : V → Heap → Prop) (h : Heap) : Prop :=
  match vs with
  | [.ptr a1, .int .i64 a2] => console_Console_Read a1 a2 (fun r1 h => κ (.sl r1) h) h
  | _ => False

noncomputable def console_Console_Read.calls : List (Nat × (List V → (V → Heap → Prop) → Heap → Prop)) := [(291, console_Console_none.C), (293, slices_Delete_byte_byte.C)]

noncomputable def console_Console_Read.E (Q : Sl → Heap → Prop) (cuts : List (Nat × (List Nat × (List V → Heap → Prop)))) : Env := { tis := tisT, fns := fnsT, tys := tysT, gls := [], rts := rtsT, unk := [], nxt := [], calls := console_Console_Read.calls, ifc := noIfc, cuts := cuts, ret := console_Console_Read.ret Q, rets := [.tmp 4], n := 47 }

theorem console_Console_Read.callsOK {W0 : World} : CallsOK sg W0 console_Console_Read.calls := ⟨console_Console_none.S, slices_Delete_byte_byte.S, trivial⟩

def console_Console_Read.k2 (I : Heap → Prop) (vs : List V) (h : Heap) : Prop :=
  match vs with
  | [] => I  h
  | _ => False

def console_Console_Read.k6 (I : (Option Ptr) → Sl → Int → Heap → Prop) (vs : List V) (h : Heap) : Prop :=
  match vs with
  | [.ptr a1, .sl a2, .int .i64 a3] => I a1 a2 a3 h
  | _ => False

theorem console_Console_Read.p2 : (posC console_Console_Read.code []).filter (fun p => Nat.beq p.1 2) = [(2, atPos (posC console_Console_Read.code []) 2)] := by kernel_rfl

theorem console_Console_Read.e2 : ∀   (Q : Sl → Heap → Prop) (h : Heap), console_Console_Read.j2   Q h = pts (console_Console_Read.E Q []) 3000 true (atPos (posC console_Console_Read.code []) 2) (frAt [] []) h := by
  intros; kernel_rfl

theorem console_Console_Read.s2 {W0 : World} (Q : Sl → Heap → Prop)   : CutOK sg W0 47 (entered 50) (Post sg W0 (console_Console_Read.ret Q)) (posC console_Console_Read.code []) 2 [] (console_Console_Read.k2 (fun  h => console_Console_Read.j2   Q h)) := by
  refine cutOK_head (fun vs h hk => ?_)
  unfold console_Console_Read.k2 at hk
  split at hk
  · skip
    intro todo hm ρ a w s f hp
    exact piece (E := console_Console_Read.E Q []) (vs := []) (envOK seatOK console_Console_Read.callsOK noIfc_ok) (fnOK seatOK console_Console_Read.fun) trivial console_Console_Read.p2 (fuel := 3000) (by rw [← console_Console_Read.e2]; exact hk) hm s f hp
  · exact hk.elim

theorem console_Console_Read.p6 : (posC console_Console_Read.code []).filter (fun p => Nat.beq p.1 6) = [(6, atPos (posC console_Console_Read.code []) 6)] := by kernel_rfl

theorem console_Console_Read.e6 : ∀  (a1 : Option Ptr) (a2 : Sl) (a3 : Int) (Q : Sl → Heap → Prop) (h : Heap), console_Console_Read.j6  a1 a2 a3 Q h = pts (console_Console_Read.E Q []) 3000 true (atPos (posC console_Console_Read.code []) 6) (frAt [0, 5, 6] [.ptr a1, .sl a2, .int .i64 a3]) h := by
  intros; kernel_rfl

theorem console_Console_Read.s6 {W0 : World} (Q : Sl → Heap → Prop)   : CutOK sg W0 47 (entered 50) (Post sg W0 (console_Console_Read.ret Q)) (posC console_Console_Read.code []) 6 [0, 5, 6] (console_Console_Read.k6 (fun a1 a2 a3 h => console_Console_Read.j6  a1 a2 a3 Q h)) := by
  refine cutOK_head (fun vs h hk => ?_)
  unfold console_Console_Read.k6 at hk
  split at hk
  · rename_i a1 a2 a3
    intro todo hm ρ a w s f hp
    exact piece (E := console_Console_Read.E Q []) (vs := [.ptr a1, .sl a2, .int .i64 a3]) (envOK seatOK console_Console_Read.callsOK noIfc_ok) (fnOK seatOK console_Console_Read.fun) trivial console_Console_Read.p6 (fuel := 3000) (by rw [← console_Console_Read.e6]; exact hk) hm s f hp
  · exact hk.elim

theorem console_Console_Read.e : ∀ (a1 : Option Ptr) (a2 : Int) (Q : Sl → Heap → Prop) (h : Heap), console_Console_Read a1 a2 Q h = pts (console_Console_Read.E Q [(2, ([], console_Console_Read.k2 (fun  h => console_Console_Read.j2   Q h))), (6, ([0, 5, 6], console_Console_Read.k6 (fun a1 a2 a3 h => console_Console_Read.j6  a1 a2 a3 Q h)))]) 3000 true [.code console_Console_Read.code] (frOf 0 [.ptr a1, .int .i64 a2]) h := by
  intros; kernel_rfl

theorem console_Console_Read.S {W0 : World} : FnS sg W0 294 console_Console_Read.C := by
  intro vs κ h wv hx w s
  unfold console_Console_Read.C at hx
  split at hx
  · rename_i a1 a2
    refine postImp (ret := console_Console_Read.ret (fun r1 h => κ (.sl r1) h)) (fun v h hr => by unfold console_Console_Read.ret at hr; split at hr; exact hr; exact hr.elim) ?_
    exact calls_of_pts (E := console_Console_Read.E (fun r1 h => κ (.sl r1) h) [(2, ([], console_Console_Read.k2 (fun  h => console_Console_Read.j2   (fun r1 h => κ (.sl r1) h) h))), (6, ([0, 5, 6], console_Console_Read.k6 (fun a1 a2 a3 h => console_Console_Read.j6  a1 a2 a3 (fun r1 h => κ (.sl r1) h) h)))]) (envOK seatOK console_Console_Read.callsOK noIfc_ok) seatOK.mixed console_Console_Read.fun (Nat.le_of_ble_eq_true rfl) wv (cutL_ok ⟨(console_Console_Read.s2 (fun r1 h => κ (.sl r1) h)), (console_Console_Read.s6 (fun r1 h => κ (.sl r1) h)), trivial⟩) s (fuel := 3000) (by rw [← console_Console_Read.e]; exact hx)
  · exact hx.elim

noncomputable def backend_spread.code : Code := Go.Proofs.Tryd.f49.body.getD .skip

theorem backend_spread.fun : Fun sg.P 49 49 [.tmp 6] backend_spread.code := mkFun Go.Proofs.Tryd.func49 (by kernel_rfl) (by kernel_rfl) (by kernel_rfl) (by kernel_rfl)

def backend_spread.ret (Q : Int → Heap → Prop) (v : V) (h : Heap) : Prop :=
  match v with
  | .int .i64 r1 => Q r1 h
  | _ => False

def backend_spread.C (U : Ifc) (vs : List V) (κ : V → Heap → Prop) (h : Heap) : Prop :=
  match vs with
  | [a1, .agg [.int .i64 a2, .sl a3], .sl a4] => backend_spread U a1 a2 a3 a4 (fun r1 h => κ (.int .i64 r1) h) h
  | _ => False

noncomputable def backend_spread.calls (U : Ifc) : List (Nat × (List V → (V → Heap → Prop) → Heap → Prop)) := []

noncomputable def backend_spread.E (U : Ifc) (Q : Int → Heap → Prop) (cuts : List (Nat × (List Nat × (List V → Heap → Prop)))) : Env := { tis := tisT, fns := fnsT, tys := tysT, gls := glsT, rts := rtsT, unk := [], nxt := [], calls := backend_spread.calls U, ifc := U, cuts := cuts, ret := backend_spread.ret Q, rets := [.tmp 6], n := 49 }

theorem backend_spread.callsOK {W0 : World} {U : Ifc} (hU : IfcOK sg W0 glsT U) : CallsOK sg W0 (backend_spread.calls U) := trivial

def backend_spread.k10 (I : V → Sl → Int → Sl → Int → Int → Heap → Prop) (vs : List V) (h : Heap) : Prop :=
  match vs with
  | [a1, .sl a2, .int .i64 a3, .sl a4, .int .i64 a5, .int .i64 a6] => I a1 a2 a3 a4 a5 a6 h
  | _ => False

def backend_spread.k11 (I : Int → Heap → Prop) (vs : List V) (h : Heap) : Prop :=
  match vs with
  | [.int .i64 a1] => I a1 h
  | _ => False

def backend_spread.k8 (I : V → Sl → Int → Int → Sl → Int → Int → Heap → Prop) (vs : List V) (h : Heap) : Prop :=
  match vs with
  | [a1, .sl a2, .int .i64 a3, .int .i64 a4, .sl a5, .int .i64 a6, .int .i64 a7] => I a1 a2 a3 a4 a5 a6 a7 h
  | _ => False

def backend_spread.k3 (I : V → Sl → Int → Sl → Int → Int → Heap → Prop) (vs : List V) (h : Heap) : Prop :=
  match vs with
  | [a1, .sl a2, .int .i64 a3, .sl a4, .int .i64 a5, .int .i64 a6] => I a1 a2 a3 a4 a5 a6 h
  | _ => False

theorem backend_spread.p10 : (posC backend_spread.code []).filter (fun p => Nat.beq p.1 10) = [(10, atPos (posC backend_spread.code []) 10)] := by kernel_rfl

theorem backend_spread.e10 : ∀ (U : Ifc) (I3 : V → Sl → Int → Sl → Int → Int → Heap → Prop) (a1 : V) (a2 : Sl) (a3 : Int) (a4 : Sl) (a5 : Int) (a6 : Int) (Q : Int → Heap → Prop) (h : Heap), backend_spread.j10 U I3 a1 a2 a3 a4 a5 a6 Q h = pts (backend_spread.E U Q [(3, ([0, 2, 7, 12, 13, 14], backend_spread.k3 I3))]) 3000 true (atPos (posC backend_spread.code []) 10) (frAt [0, 2, 7, 12, 13, 14] [a1, .sl a2, .int .i64 a3, .sl a4, .int .i64 a5, .int .i64 a6]) h := by
  intros; kernel_rfl

theorem backend_spread.s10 {W0 : World} {U : Ifc} (hU : IfcOK sg W0 glsT U) (Q : Int → Heap → Prop) (I3 : V → Sl → Int → Sl → Int → Int → Heap → Prop) (h3 : CutOK sg W0 49 (entered 49) (Post sg W0 (backend_spread.ret Q)) (posC backend_spread.code []) 3 [0, 2, 7, 12, 13, 14] (backend_spread.k3 I3)) : CutOK sg W0 49 (entered 49) (Post sg W0 (backend_spread.ret Q)) (posC backend_spread.code []) 10 [0, 2, 7, 12, 13, 14] (backend_spread.k10 (fun a1 a2 a3 a4 a5 a6 h => backend_spread.j10 U I3 a1 a2 a3 a4 a5 a6 Q h)) := by
  refine cutOK_head (fun vs h hk => ?_)
  unfold backend_spread.k10 at hk
  split at hk
  · rename_i a1 a2 a3 a4 a5 a6
    intro todo hm ρ a w s f hp
    exact piece (E := backend_spread.E U Q [(3, ([0, 2, 7, 12, 13, 14], backend_spread.k3 I3))]) (vs := [a1, .sl a2, .int .i64 a3, .sl a4, .int .i64 a5, .int .i64 a6]) (envOK seatOK (backend_spread.callsOK hU) hU) (fnOK seatOK backend_spread.fun) ⟨h3, trivial⟩ backend_spread.p10 (fuel := 3000) (by rw [← backend_spread.e10]; exact hk) hm s f hp
  · exact hk.elim

theorem backend_spread.p11 : (posC backend_spread.code []).filter (fun p => Nat.beq p.1 11) = [(11, atPos (posC backend_spread.code []) 11)] := by kernel_rfl

theorem backend_spread.e11 : ∀ (U : Ifc)  (a1 : Int) (Q : Int → Heap → Prop) (h : Heap), backend_spread.j11 U  a1 Q h = pts (backend_spread.E U Q []) 3000 true (atPos (posC backend_spread.code []) 11) (frAt [7] [.int .i64 a1]) h := by
  intros; kernel_rfl

theorem backend_spread.s11 {W0 : World} {U : Ifc} (hU : IfcOK sg W0 glsT U) (Q : Int → Heap → Prop)   : CutOK sg W0 49 (entered 49) (Post sg W0 (backend_spread.ret Q)) (posC backend_spread.code []) 11 [7] (backend_spread.k11 (fun a1 h => backend_spread.j11 U  a1 Q h)) := by
  refine cutOK_head (fun vs h hk => ?_)
  unfold backend_spread.k11 at hk
  split at hk
  · rename_i a1
    intro todo hm ρ a w s f hp
    exact piece (E := backend_spread.E U Q []) (vs := [.int .i64 a1]) (envOK seatOK (backend_spread.callsOK hU) hU) (fnOK seatOK backend_spread.fun) trivial backend_spread.p11 (fuel := 3000) (by rw [← backend_spread.e11]; exact hk) hm s f hp
  · exact hk.elim

theorem backend_spread.p8 : (posC backend_spread.code []).filter (fun p => Nat.beq p.1 8) = [(8, atPos (posC backend_spread.code []) 8)] := by kernel_rfl

theorem backend_spread.e8 : ∀ (U : Ifc) (I3 : V → Sl → Int → Sl → Int → Int → Heap → Prop) (a1 : V) (a2 : Sl) (a3 : Int) (a4 : Int) (a5 : Sl) (a6 : Int) (a7 : Int) (Q : Int → Heap → Prop) (h : Heap), backend_spread.j8 U I3 a1 a2 a3 a4 a5 a6 a7 Q h = pts (backend_spread.E U Q [(10, ([0, 2, 7, 12, 13, 14], backend_spread.k10 (fun a1 a2 a3 a4 a5 a6 h => backend_spread.j10 U I3 a1 a2 a3 a4 a5 a6 Q h)))]) 3000 true (atPos (posC backend_spread.code []) 8) (frAt [0, 2, 7, 10, 12, 13, 14] [a1, .sl a2, .int .i64 a3, .int .i64 a4, .sl a5, .int .i64 a6, .int .i64 a7]) h := by
  intros; kernel_rfl

theorem backend_spread.s8 {W0 : World} {U : Ifc} (hU : IfcOK sg W0 glsT U) (Q : Int → Heap → Prop) (I3 : V → Sl → Int → Sl → Int → Int → Heap → Prop) (h3 : CutOK sg W0 49 (entered 49) (Post sg W0 (backend_spread.ret Q)) (posC backend_spread.code []) 3 [0, 2, 7, 12, 13, 14] (backend_spread.k3 I3)) : CutOK sg W0 49 (entered 49) (Post sg W0 (backend_spread.ret Q)) (posC backend_spread.code []) 8 [0, 2, 7, 10, 12, 13, 14] (backend_spread.k8 (fun a1 a2 a3 a4 a5 a6 a7 h => backend_spread.j8 U I3 a1 a2 a3 a4 a5 a6 a7 Q h)) := by
  refine cutOK_head (fun vs h hk => ?_)
  unfold backend_spread.k8 at hk
  split at hk
  · rename_i a1 a2 a3 a4 a5 a6 a7
    intro todo hm ρ a w s f hp
    exact piece (E := backend_spread.E U Q [(10, ([0, 2, 7, 12, 13, 14], backend_spread.k10 (fun a1 a2 a3 a4 a5 a6 h => backend_spread.j10 U I3 a1 a2 a3 a4 a5 a6 Q h)))]) (vs := [a1, .sl a2, .int .i64 a3, .int .i64 a4, .sl a5, .int .i64 a6, .int .i64 a7]) (envOK seatOK (backend_spread.callsOK hU) hU) (fnOK seatOK backend_spread.fun) ⟨(backend_spread.s10 hU Q I3 h3), trivial⟩ backend_spread.p8 (fuel := 3000) (by rw [← backend_spread.e8]; exact hk) hm s f hp
  · exact hk.elim

theorem backend_spread.p3 : (posC backend_spread.code []).filter (fun p => Nat.beq p.1 3) = [(3, atPos (posC backend_spread.code []) 3)] := by kernel_rfl

theorem backend_spread.e3 : ∀ (U : Ifc)  (I3 : V → Sl → Int → Sl → Int → Int → Heap → Prop) (a1 : V) (a2 : Sl) (a3 : Int) (a4 : Sl) (a5 : Int) (a6 : Int) (Q : Int → Heap → Prop) (h : Heap), backend_spread.b3 U  I3 a1 a2 a3 a4 a5 a6 Q h = pts (backend_spread.E U Q [(10, ([0, 2, 7, 12, 13, 14], backend_spread.k10 (fun a1 a2 a3 a4 a5 a6 h => backend_spread.j10 U I3 a1 a2 a3 a4 a5 a6 Q h))), (11, ([7], backend_spread.k11 (fun a1 h => backend_spread.j11 U  a1 Q h))), (8, ([0, 2, 7, 10, 12, 13, 14], backend_spread.k8 (fun a1 a2 a3 a4 a5 a6 a7 h => backend_spread.j8 U I3 a1 a2 a3 a4 a5 a6 a7 Q h)))]) 3000 true (atPos (posC backend_spread.code []) 3) (frAt [0, 2, 7, 12, 13, 14] [a1, .sl a2, .int .i64 a3, .sl a4, .int .i64 a5, .int .i64 a6]) h := by
  intros; kernel_rfl

theorem backend_spread.s3 {W0 : World} {U : Ifc} (hU : IfcOK sg W0 glsT U) (Q : Int → Heap → Prop)   : CutOK sg W0 49 (entered 49) (Post sg W0 (backend_spread.ret Q)) (posC backend_spread.code []) 3 [0, 2, 7, 12, 13, 14] (backend_spread.k3 (fun a1 a2 a3 a4 a5 a6 h => backend_spread.j3 U  a1 a2 a3 a4 a5 a6 Q h)) := by
  refine cutOK_head (fun vs h hk => ?_)
  unfold backend_spread.k3 at hk
  split at hk
  · rename_i a1 a2 a3 a4 a5 a6
    refine hk (fun a1 a2 a3 a4 a5 a6 h => Head sg W0 49 (entered 49) (Post sg W0 (backend_spread.ret Q)) (posC backend_spread.code []) 3 [0, 2, 7, 12, 13, 14] [a1, .sl a2, .int .i64 a3, .sl a4, .int .i64 a5, .int .i64 a6] h) ?_
    intro a1 a2 a3 a4 a5 a6 h hb todo hm ρ a w s f hp
    have hself : CutOK sg W0 49 (entered 49) (Post sg W0 (backend_spread.ret Q)) (posC backend_spread.code []) 3 [0, 2, 7, 12, 13, 14] (backend_spread.k3 (fun a1 a2 a3 a4 a5 a6 h => Head sg W0 49 (entered 49) (Post sg W0 (backend_spread.ret Q)) (posC backend_spread.code []) 3 [0, 2, 7, 12, 13, 14] [a1, .sl a2, .int .i64 a3, .sl a4, .int .i64 a5, .int .i64 a6] h)) := cutOK_head (fun vs h hk => by unfold backend_spread.k3 at hk; split at hk; exact hk; exact hk.elim)
    exact piece (E := backend_spread.E U Q [(10, ([0, 2, 7, 12, 13, 14], backend_spread.k10 (fun a1 a2 a3 a4 a5 a6 h => backend_spread.j10 U (fun a1 a2 a3 a4 a5 a6 h => Head sg W0 49 (entered 49) (Post sg W0 (backend_spread.ret Q)) (posC backend_spread.code []) 3 [0, 2, 7, 12, 13, 14] [a1, .sl a2, .int .i64 a3, .sl a4, .int .i64 a5, .int .i64 a6] h) a1 a2 a3 a4 a5 a6 Q h))), (11, ([7], backend_spread.k11 (fun a1 h => backend_spread.j11 U  a1 Q h))), (8, ([0, 2, 7, 10, 12, 13, 14], backend_spread.k8 (fun a1 a2 a3 a4 a5 a6 a7 h => backend_spread.j8 U (fun a1 a2 a3 a4 a5 a6 h => Head sg W0 49 (entered 49) (Post sg W0 (backend_spread.ret Q)) (posC backend_spread.code []) 3 [0, 2, 7, 12, 13, 14] [a1, .sl a2, .int .i64 a3, .sl a4, .int .i64 a5, .int .i64 a6] h) a1 a2 a3 a4 a5 a6 a7 Q h)))]) (vs := [a1, .sl a2, .int .i64 a3, .sl a4, .int .i64 a5, .int .i64 a6]) (envOK seatOK (backend_spread.callsOK hU) hU) (fnOK seatOK backend_spread.fun) ⟨(backend_spread.s10 hU Q (fun a1 a2 a3 a4 a5 a6 h => Head sg W0 49 (entered 49) (Post sg W0 (backend_spread.ret Q)) (posC backend_spread.code []) 3 [0, 2, 7, 12, 13, 14] [a1, .sl a2, .int .i64 a3, .sl a4, .int .i64 a5, .int .i64 a6] h) hself), (backend_spread.s11 hU Q  ), (backend_spread.s8 hU Q (fun a1 a2 a3 a4 a5 a6 h => Head sg W0 49 (entered 49) (Post sg W0 (backend_spread.ret Q)) (posC backend_spread.code []) 3 [0, 2, 7, 12, 13, 14] [a1, .sl a2, .int .i64 a3, .sl a4, .int .i64 a5, .int .i64 a6] h) hself), trivial⟩ backend_spread.p3 (fuel := 3000) (by rw [← backend_spread.e3]; exact hb) hm s f hp
  · exact hk.elim

theorem backend_spread.e : ∀ (U : Ifc) (a1 : V) (a2 : Int) (a3 : Sl) (a4 : Sl) (Q : Int → Heap → Prop) (h : Heap), backend_spread U a1 a2 a3 a4 Q h = pts (backend_spread.E U Q [(3, ([0, 2, 7, 12, 13, 14], backend_spread.k3 (fun a1 a2 a3 a4 a5 a6 h => backend_spread.j3 U  a1 a2 a3 a4 a5 a6 Q h)))]) 3000 true [.code backend_spread.code] (frOf 0 [a1, .agg [.int .i64 a2, .sl a3], .sl a4]) h := by
  intros; kernel_rfl

theorem backend_spread.S {W0 : World} {U : Ifc} (hU : IfcOK sg W0 glsT U) : FnS sg W0 312 (backend_spread.C U) := by
  intro vs κ h wv hx w s
  unfold backend_spread.C at hx
  split at hx
  · rename_i a1 a2 a3 a4
    refine postImp (ret := backend_spread.ret (fun r1 h => κ (.int .i64 r1) h)) (fun v h hr => by unfold backend_spread.ret at hr; split at hr; exact hr; exact hr.elim) ?_
    exact calls_of_pts (E := backend_spread.E U (fun r1 h => κ (.int .i64 r1) h) [(3, ([0, 2, 7, 12, 13, 14], backend_spread.k3 (fun a1 a2 a3 a4 a5 a6 h => backend_spread.j3 U  a1 a2 a3 a4 a5 a6 (fun r1 h => κ (.int .i64 r1) h) h)))]) (envOK seatOK (backend_spread.callsOK hU) hU) seatOK.mixed backend_spread.fun (Nat.le_of_ble_eq_true rfl) wv (cutL_ok ⟨(backend_spread.s3 hU (fun r1 h => κ (.int .i64 r1) h)), trivial⟩) s (fuel := 3000) (by rw [← backend_spread.e]; exact hx)
  · exact hx.elim

noncomputable def backend_Tty_Kick_c1.code : Code := Go.Proofs.Tryd.f46.body.getD .skip

theorem backend_Tty_Kick_c1.fun : Fun sg.P 46 48 [.tmp 4] backend_Tty_Kick_c1.code := mkFun Go.Proofs.Tryd.func46 (by kernel_rfl) (by kernel_rfl) (by kernel_rfl) (by kernel_rfl)

def backend_Tty_Kick_c1.ret (Q : Int → Heap → Prop) (v : V) (h : Heap) : Prop :=
  match v with
  | .int .i64 r1 => Q r1 h
  | _ => False

def backend_Tty_Kick_c1.C (U : Ifc) (vs : List V) (κ : V → Heap → Prop) (h : Heap) : Prop :=
  match vs with
  | [.agg [.int .i64 a1, .sl a2], .ptr (some a3), .ptr (some a4)] => backend_Tty_Kick_c1 U a1 a2 a3 a4 (fun r1 h => κ (.int .i64 r1) h) h
  | _ => False

noncomputable def backend_Tty_Kick_c1.calls (U : Ifc) : List (Nat × (List V → (V → Heap → Prop) → Heap → Prop)) := [(287, backend_gather.C U), (292, console_Console_Write.C), (312, backend_spread.C U), (294, console_Console_Read.C)]

noncomputable def backend_Tty_Kick_c1.E (U : Ifc) (Q : Int → Heap → Prop) (cuts : List (Nat × (List Nat × (List V → Heap → Prop)))) : Env := { tis := tisT, fns := fnsT, tys := tysT, gls := glsT, rts := rtsT, unk := [], nxt := [], calls := backend_Tty_Kick_c1.calls U, ifc := U, cuts := cuts, ret := backend_Tty_Kick_c1.ret Q, rets := [.tmp 4], n := 48 }

theorem backend_Tty_Kick_c1.callsOK {W0 : World} {U : Ifc} (hU : IfcOK sg W0 glsT U) : CallsOK sg W0 (backend_Tty_Kick_c1.calls U) := ⟨(backend_gather.S hU), console_Console_Write.S, (backend_spread.S hU), console_Console_Read.S, trivial⟩

def backend_Tty_Kick_c1.k10 (I : Ptr → Ptr → Int → Sl → Int → Int → Heap → Prop) (vs : List V) (h : Heap) : Prop :=
  match vs with
  | [.ptr (some a1), .ptr (some a2), .int .i64 a3, .sl a4, .int .i64 a5, .int .i64 a6] => I a1 a2 a3 a4 a5 a6 h
  | _ => False

def backend_Tty_Kick_c1.k6 (I : Ptr → Ptr → Int → Sl → Int → Int → Heap → Prop) (vs : List V) (h : Heap) : Prop :=
  match vs with
  | [.ptr (some a1), .ptr (some a2), .int .i64 a3, .sl a4, .int .i64 a5, .int .i64 a6] => I a1 a2 a3 a4 a5 a6 h
  | _ => False

def backend_Tty_Kick_c1.k4 (I : Ptr → Ptr → Ptr → Heap → Prop) (vs : List V) (h : Heap) : Prop :=
  match vs with
  | [.ptr (some a1), .ptr (some a2), .ptr (some a3)] => I a1 a2 a3 h
  | _ => False

theorem backend_Tty_Kick_c1.p10 : (posC backend_Tty_Kick_c1.code []).filter (fun p => Nat.beq p.1 10) = [(10, atPos (posC backend_Tty_Kick_c1.code []) 10)] := by kernel_rfl

theorem backend_Tty_Kick_c1.e10 : ∀ (U : Ifc) (I6 : Ptr → Ptr → Int → Sl → Int → Int → Heap → Prop) (a1 : Ptr) (a2 : Ptr) (a3 : Int) (a4 : Sl) (a5 : Int) (a6 : Int) (Q : Int → Heap → Prop) (h : Heap), backend_Tty_Kick_c1.j10 U I6 a1 a2 a3 a4 a5 a6 Q h = pts (backend_Tty_Kick_c1.E U Q [(6, ([1, 2, 7, 24, 25, 26], backend_Tty_Kick_c1.k6 I6))]) 3000 true (atPos (posC backend_Tty_Kick_c1.code []) 10) (frAt [1, 2, 7, 24, 25, 26] [.ptr (some a1), .ptr (some a2), .int .i64 a3, .sl a4, .int .i64 a5, .int .i64 a6]) h := by
  intros; kernel_rfl

theorem backend_Tty_Kick_c1.s10 {W0 : World} {U : Ifc} (hU : IfcOK sg W0 glsT U) (Q : Int → Heap → Prop) (I6 : Ptr → Ptr → Int → Sl → Int → Int → Heap → Prop) (h6 : CutOK sg W0 48 (entered 46) (Post sg W0 (backend_Tty_Kick_c1.ret Q)) (posC backend_Tty_Kick_c1.code []) 6 [1, 2, 7, 24, 25, 26] (backend_Tty_Kick_c1.k6 I6)) : CutOK sg W0 48 (entered 46) (Post sg W0 (backend_Tty_Kick_c1.ret Q)) (posC backend_Tty_Kick_c1.code []) 10 [1, 2, 7, 24, 25, 26] (backend_Tty_Kick_c1.k10 (fun a1 a2 a3 a4 a5 a6 h => backend_Tty_Kick_c1.j10 U I6 a1 a2 a3 a4 a5 a6 Q h)) := by
  refine cutOK_head (fun vs h hk => ?_)
  unfold backend_Tty_Kick_c1.k10 at hk
  split at hk
  · rename_i a1 a2 a3 a4 a5 a6
    intro todo hm ρ a w s f hp
    exact piece (E := backend_Tty_Kick_c1.E U Q [(6, ([1, 2, 7, 24, 25, 26], backend_Tty_Kick_c1.k6 I6))]) (vs := [.ptr (some a1), .ptr (some a2), .int .i64 a3, .sl a4, .int .i64 a5, .int .i64 a6]) (envOK seatOK (backend_Tty_Kick_c1.callsOK hU) hU) (fnOK seatOK backend_Tty_Kick_c1.fun) ⟨h6, trivial⟩ backend_Tty_Kick_c1.p10 (fuel := 3000) (by rw [← backend_Tty_Kick_c1.e10]; exact hk) hm s f hp
  · exact hk.elim

theorem backend_Tty_Kick_c1.p6 : (posC backend_Tty_Kick_c1.code []).filter (fun p => Nat.beq p.1 6) = [(6, atPos (posC backend_Tty_Kick_c1.code []) 6)] := by kernel_rfl

theorem backend_Tty_Kick_c1.e6 : ∀ (U : Ifc)  (I6 : Ptr → Ptr → Int → Sl → Int → Int → Heap → Prop) (a1 : Ptr) (a2 : Ptr) (a3 : Int) (a4 : Sl) (a5 : Int) (a6 : Int) (Q : Int → Heap → Prop) (h : Heap), backend_Tty_Kick_c1.b6 U  I6 a1 a2 a3 a4 a5 a6 Q h = pts (backend_Tty_Kick_c1.E U Q [(10, ([1, 2, 7, 24, 25, 26], backend_Tty_Kick_c1.k10 (fun a1 a2 a3 a4 a5 a6 h => backend_Tty_Kick_c1.j10 U I6 a1 a2 a3 a4 a5 a6 Q h)))]) 3000 true (atPos (posC backend_Tty_Kick_c1.code []) 6) (frAt [1, 2, 7, 24, 25, 26] [.ptr (some a1), .ptr (some a2), .int .i64 a3, .sl a4, .int .i64 a5, .int .i64 a6]) h := by
  intros; kernel_rfl

theorem backend_Tty_Kick_c1.s6 {W0 : World} {U : Ifc} (hU : IfcOK sg W0 glsT U) (Q : Int → Heap → Prop)   : CutOK sg W0 48 (entered 46) (Post sg W0 (backend_Tty_Kick_c1.ret Q)) (posC backend_Tty_Kick_c1.code []) 6 [1, 2, 7, 24, 25, 26] (backend_Tty_Kick_c1.k6 (fun a1 a2 a3 a4 a5 a6 h => backend_Tty_Kick_c1.j6 U  a1 a2 a3 a4 a5 a6 Q h)) := by
  refine cutOK_head (fun vs h hk => ?_)
  unfold backend_Tty_Kick_c1.k6 at hk
  split at hk
  · rename_i a1 a2 a3 a4 a5 a6
    refine hk (fun a1 a2 a3 a4 a5 a6 h => Head sg W0 48 (entered 46) (Post sg W0 (backend_Tty_Kick_c1.ret Q)) (posC backend_Tty_Kick_c1.code []) 6 [1, 2, 7, 24, 25, 26] [.ptr (some a1), .ptr (some a2), .int .i64 a3, .sl a4, .int .i64 a5, .int .i64 a6] h) ?_
    intro a1 a2 a3 a4 a5 a6 h hb todo hm ρ a w s f hp
    have hself : CutOK sg W0 48 (entered 46) (Post sg W0 (backend_Tty_Kick_c1.ret Q)) (posC backend_Tty_Kick_c1.code []) 6 [1, 2, 7, 24, 25, 26] (backend_Tty_Kick_c1.k6 (fun a1 a2 a3 a4 a5 a6 h => Head sg W0 48 (entered 46) (Post sg W0 (backend_Tty_Kick_c1.ret Q)) (posC backend_Tty_Kick_c1.code []) 6 [1, 2, 7, 24, 25, 26] [.ptr (some a1), .ptr (some a2), .int .i64 a3, .sl a4, .int .i64 a5, .int .i64 a6] h)) := cutOK_head (fun vs h hk => by unfold backend_Tty_Kick_c1.k6 at hk; split at hk; exact hk; exact hk.elim)
    exact piece (E := backend_Tty_Kick_c1.E U Q [(10, ([1, 2, 7, 24, 25, 26], backend_Tty_Kick_c1.k10 (fun a1 a2 a3 a4 a5 a6 h => backend_Tty_Kick_c1.j10 U (fun a1 a2 a3 a4 a5 a6 h => Head sg W0 48 (entered 46) (Post sg W0 (backend_Tty_Kick_c1.ret Q)) (posC backend_Tty_Kick_c1.code []) 6 [1, 2, 7, 24, 25, 26] [.ptr (some a1), .ptr (some a2), .int .i64 a3, .sl a4, .int .i64 a5, .int .i64 a6] h) a1 a2 a3 a4 a5 a6 Q h)))]) (vs := [.ptr (some a1), .ptr (some a2), .int .i64 a3, .sl a4, .int .i64 a5, .int .i64 a6]) (envOK seatOK (backend_Tty_Kick_c1.callsOK hU) hU) (fnOK seatOK backend_Tty_Kick_c1.fun) ⟨(backend_Tty_Kick_c1.s10 hU Q (fun a1 a2 a3 a4 a5 a6 h => Head sg W0 48 (entered 46) (Post sg W0 (backend_Tty_Kick_c1.ret Q)) (posC backend_Tty_Kick_c1.code []) 6 [1, 2, 7, 24, 25, 26] [.ptr (some a1), .ptr (some a2), .int .i64 a3, .sl a4, .int .i64 a5, .int .i64 a6] h) hself), trivial⟩ backend_Tty_Kick_c1.p6 (fuel := 3000) (by rw [← backend_Tty_Kick_c1.e6]; exact hb) hm s f hp
  · exact hk.elim

theorem backend_Tty_Kick_c1.p4 : (posC backend_Tty_Kick_c1.code []).filter (fun p => Nat.beq p.1 4) = [(4, atPos (posC backend_Tty_Kick_c1.code []) 4)] := by kernel_rfl

theorem backend_Tty_Kick_c1.e4 : ∀ (U : Ifc)  (a1 : Ptr) (a2 : Ptr) (a3 : Ptr) (Q : Int → Heap → Prop) (h : Heap), backend_Tty_Kick_c1.j4 U  a1 a2 a3 Q h = pts (backend_Tty_Kick_c1.E U Q [(6, ([1, 2, 7, 24, 25, 26], backend_Tty_Kick_c1.k6 (fun a1 a2 a3 a4 a5 a6 h => backend_Tty_Kick_c1.j6 U  a1 a2 a3 a4 a5 a6 Q h)))]) 3000 true (atPos (posC backend_Tty_Kick_c1.code []) 4) (frAt [1, 2, 3] [.ptr (some a1), .ptr (some a2), .ptr (some a3)]) h := by
  intros; kernel_rfl

theorem backend_Tty_Kick_c1.s4 {W0 : World} {U : Ifc} (hU : IfcOK sg W0 glsT U) (Q : Int → Heap → Prop)   : CutOK sg W0 48 (entered 46) (Post sg W0 (backend_Tty_Kick_c1.ret Q)) (posC backend_Tty_Kick_c1.code []) 4 [1, 2, 3] (backend_Tty_Kick_c1.k4 (fun a1 a2 a3 h => backend_Tty_Kick_c1.j4 U  a1 a2 a3 Q h)) := by
  refine cutOK_head (fun vs h hk => ?_)
  unfold backend_Tty_Kick_c1.k4 at hk
  split at hk
  · rename_i a1 a2 a3
    intro todo hm ρ a w s f hp
    exact piece (E := backend_Tty_Kick_c1.E U Q [(6, ([1, 2, 7, 24, 25, 26], backend_Tty_Kick_c1.k6 (fun a1 a2 a3 a4 a5 a6 h => backend_Tty_Kick_c1.j6 U  a1 a2 a3 a4 a5 a6 Q h)))]) (vs := [.ptr (some a1), .ptr (some a2), .ptr (some a3)]) (envOK seatOK (backend_Tty_Kick_c1.callsOK hU) hU) (fnOK seatOK backend_Tty_Kick_c1.fun) ⟨(backend_Tty_Kick_c1.s6 hU Q  ), trivial⟩ backend_Tty_Kick_c1.p4 (fuel := 3000) (by rw [← backend_Tty_Kick_c1.e4]; exact hk) hm s f hp
  · exact hk.elim

theorem backend_Tty_Kick_c1.e : ∀ (U : Ifc) (a1 : Int) (a2 : Sl) (a3 : Ptr) (a4 : Ptr) (Q : Int → Heap → Prop) (h : Heap), backend_Tty_Kick_c1 U a1 a2 a3 a4 Q h = pts (backend_Tty_Kick_c1.E U Q [(4, ([1, 2, 3], backend_Tty_Kick_c1.k4 (fun a1 a2 a3 h => backend_Tty_Kick_c1.j4 U  a1 a2 a3 Q h)))]) 3000 true [.code backend_Tty_Kick_c1.code] (frOf 0 [.agg [.int .i64 a1, .sl a2], .ptr (some a3), .ptr (some a4)]) h := by
  intros; kernel_rfl

theorem backend_Tty_Kick_c1.S {W0 : World} {U : Ifc} (hU : IfcOK sg W0 glsT U) : FnS sg W0 258 (backend_Tty_Kick_c1.C U) := by
  intro vs κ h wv hx w s
  unfold backend_Tty_Kick_c1.C at hx
  split at hx
  · rename_i a1 a2 a3 a4
    refine postImp (ret := backend_Tty_Kick_c1.ret (fun r1 h => κ (.int .i64 r1) h)) (fun v h hr => by unfold backend_Tty_Kick_c1.ret at hr; split at hr; exact hr; exact hr.elim) ?_
    exact calls_of_pts (E := backend_Tty_Kick_c1.E U (fun r1 h => κ (.int .i64 r1) h) [(4, ([1, 2, 3], backend_Tty_Kick_c1.k4 (fun a1 a2 a3 h => backend_Tty_Kick_c1.j4 U  a1 a2 a3 (fun r1 h => κ (.int .i64 r1) h) h)))]) (envOK seatOK (backend_Tty_Kick_c1.callsOK hU) hU) seatOK.mixed backend_Tty_Kick_c1.fun (Nat.le_of_ble_eq_true rfl) wv (cutL_ok ⟨(backend_Tty_Kick_c1.s4 hU (fun r1 h => κ (.int .i64 r1) h)), trivial⟩) s (fuel := 3000) (by rw [← backend_Tty_Kick_c1.e]; exact hx)
  · exact hx.elim

end Go.Fn
