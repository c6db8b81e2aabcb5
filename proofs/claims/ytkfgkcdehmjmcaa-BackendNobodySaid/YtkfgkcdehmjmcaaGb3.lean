/- The links of the shallow functions to the machine. PRINTED by lift.py. -/
import Derived.Test.YtkfgkcdehmjmcaaGb2
set_option linter.unusedVariables false
set_option maxRecDepth 100000
namespace Go.Fn
open Go.Lift

noncomputable def backend_gather.code : Code := Go.Proofs.Try.f29.body.getD .skip

theorem backend_gather.fun : Fun sg.P 29 47 [.tmp 6, .tmp 7] backend_gather.code := mkFun Go.Proofs.Try.func29 (by kernel_rfl) (by kernel_rfl) (by kernel_rfl) (by kernel_rfl)

def backend_gather.ret (Q : Sl → Bool → Heap → Prop) (v : V) (h : Heap) : Prop :=
  match v with
  | .tup [.sl r1, .bool r2] => Q r1 r2 h
  | _ => False

def backend_gather.C (U : Ifc) (vs : List V) (κ : V → Heap → Prop) (h : Heap) : Prop :=
  match vs with
  | [a1, .agg [.int .i64 a2, .sl a3], .int .i64 a4] => backend_gather U a1 a2 a3 a4 (fun r1 r2 h => κ (.tup [.sl r1, .bool r2]) h) h
  | _ => False

noncomputable def backend_gather.calls (U : Ifc) : List (Nat × (List V → (V → Heap → Prop) → Heap → Prop)) := []

noncomputable def backend_gather.E (U : Ifc) (Q : Sl → Bool → Heap → Prop) (cuts : List (Nat × (List Nat × (List V → Heap → Prop)))) : Env := { tis := tisT, fns := fnsT, tys := tysT, gls := glsT, rts := rtsT, unk := [], nxt := [], calls := backend_gather.calls U, ifc := U, cuts := cuts, ret := backend_gather.ret Q, rets := [.tmp 6, .tmp 7], n := 47 }

theorem backend_gather.callsOK {W0 : World} {U : Ifc} (hU : IfcOK sg W0 glsT U) : CallsOK sg W0 (backend_gather.calls U) := trivial

def backend_gather.k8 (I : Heap → Prop) (vs : List V) (h : Heap) : Prop :=
  match vs with
  | [] => I  h
  | _ => False

def backend_gather.k9 (I : V → Int → Sl → Sl → Sl → Int → Int → Heap → Prop) (vs : List V) (h : Heap) : Prop :=
  match vs with
  | [a1, .int .i64 a2, .sl a3, .sl a4, .sl a5, .int .i64 a6, .int .i64 a7] => I a1 a2 a3 a4 a5 a6 a7 h
  | _ => False

def backend_gather.k3 (I : V → Int → Sl → Sl → Int → Int → Heap → Prop) (vs : List V) (h : Heap) : Prop :=
  match vs with
  | [a1, .int .i64 a2, .sl a3, .sl a4, .int .i64 a5, .int .i64 a6] => I a1 a2 a3 a4 a5 a6 h
  | _ => False

theorem backend_gather.p8 : (posC backend_gather.code []).filter (fun p => Nat.beq p.1 8) = [(8, atPos (posC backend_gather.code []) 8)] := by kernel_rfl

theorem backend_gather.e8 : ∀ (U : Ifc) (I3 : V → Int → Sl → Sl → Int → Int → Heap → Prop)  (Q : Sl → Bool → Heap → Prop) (h : Heap), backend_gather.j8 U I3  Q h = pts (backend_gather.E U Q []) 3000 true (atPos (posC backend_gather.code []) 8) (frAt [] []) h := by
  intros; kernel_rfl

theorem backend_gather.s8 {W0 : World} {U : Ifc} (hU : IfcOK sg W0 glsT U) (Q : Sl → Bool → Heap → Prop) (I3 : V → Int → Sl → Sl → Int → Int → Heap → Prop) (h3 : CutOK sg W0 47 (entered 29) (Post sg W0 (backend_gather.ret Q)) (posC backend_gather.code []) 3 [0, 2, 8, 14, 15, 16] (backend_gather.k3 I3)) : CutOK sg W0 47 (entered 29) (Post sg W0 (backend_gather.ret Q)) (posC backend_gather.code []) 8 [] (backend_gather.k8 (fun  h => backend_gather.j8 U I3  Q h)) := by
  refine cutOK_head (fun vs h hk => ?_)
  unfold backend_gather.k8 at hk
  split at hk
  · skip
    intro todo hm ρ a w s f hp
    exact piece (E := backend_gather.E U Q []) (vs := []) (envOK seatOK (backend_gather.callsOK hU) hU) (fnOK seatOK backend_gather.fun) trivial backend_gather.p8 (fuel := 3000) (by rw [← backend_gather.e8]; exact hk) hm s f hp
  · exact hk.elim

theorem backend_gather.p9 : (posC backend_gather.code []).filter (fun p => Nat.beq p.1 9) = [(9, atPos (posC backend_gather.code []) 9)] := by kernel_rfl

theorem backend_gather.e9 : ∀ (U : Ifc) (I3 : V → Int → Sl → Sl → Int → Int → Heap → Prop) (a1 : V) (a2 : Int) (a3 : Sl) (a4 : Sl) (a5 : Sl) (a6 : Int) (a7 : Int) (Q : Sl → Bool → Heap → Prop) (h : Heap), backend_gather.j9 U I3 a1 a2 a3 a4 a5 a6 a7 Q h = pts (backend_gather.E U Q [(3, ([0, 2, 8, 14, 15, 16], backend_gather.k3 I3))]) 3000 true (atPos (posC backend_gather.code []) 9) (frAt [0, 2, 8, 11, 14, 15, 16] [a1, .int .i64 a2, .sl a3, .sl a4, .sl a5, .int .i64 a6, .int .i64 a7]) h := by
  intros; kernel_rfl

theorem backend_gather.s9 {W0 : World} {U : Ifc} (hU : IfcOK sg W0 glsT U) (Q : Sl → Bool → Heap → Prop) (I3 : V → Int → Sl → Sl → Int → Int → Heap → Prop) (h3 : CutOK sg W0 47 (entered 29) (Post sg W0 (backend_gather.ret Q)) (posC backend_gather.code []) 3 [0, 2, 8, 14, 15, 16] (backend_gather.k3 I3)) : CutOK sg W0 47 (entered 29) (Post sg W0 (backend_gather.ret Q)) (posC backend_gather.code []) 9 [0, 2, 8, 11, 14, 15, 16] (backend_gather.k9 (fun a1 a2 a3 a4 a5 a6 a7 h => backend_gather.j9 U I3 a1 a2 a3 a4 a5 a6 a7 Q h)) := by
  refine cutOK_head (fun vs h hk => ?_)
  unfold backend_gather.k9 at hk
  split at hk
  · rename_i a1 a2 a3 a4 a5 a6 a7
    intro todo hm ρ a w s f hp
    exact piece (E := backend_gather.E U Q [(3, ([0, 2, 8, 14, 15, 16], backend_gather.k3 I3))]) (vs := [a1, .int .i64 a2, .sl a3, .sl a4, .sl a5, .int .i64 a6, .int .i64 a7]) (envOK seatOK (backend_gather.callsOK hU) hU) (fnOK seatOK backend_gather.fun) ⟨h3, trivial⟩ backend_gather.p9 (fuel := 3000) (by rw [← backend_gather.e9]; exact hk) hm s f hp
  · exact hk.elim

theorem backend_gather.p3 : (posC backend_gather.code []).filter (fun p => Nat.beq p.1 3) = [(3, atPos (posC backend_gather.code []) 3)] := by kernel_rfl

theorem backend_gather.e3 : ∀ (U : Ifc)  (I3 : V → Int → Sl → Sl → Int → Int → Heap → Prop) (a1 : V) (a2 : Int) (a3 : Sl) (a4 : Sl) (a5 : Int) (a6 : Int) (Q : Sl → Bool → Heap → Prop) (h : Heap), backend_gather.b3 U  I3 a1 a2 a3 a4 a5 a6 Q h = pts (backend_gather.E U Q [(3, ([0, 2, 8, 14, 15, 16], backend_gather.k3 I3)), (8, ([], backend_gather.k8 (fun  h => backend_gather.j8 U I3  Q h))), (9, ([0, 2, 8, 11, 14, 15, 16], backend_gather.k9 (fun a1 a2 a3 a4 a5 a6 a7 h => backend_gather.j9 U I3 a1 a2 a3 a4 a5 a6 a7 Q h)))]) 3000 true (atPos (posC backend_gather.code []) 3) (frAt [0, 2, 8, 14, 15, 16] [a1, .int .i64 a2, .sl a3, .sl a4, .int .i64 a5, .int .i64 a6]) h := by
  intros; kernel_rfl

theorem backend_gather.s3 {W0 : World} {U : Ifc} (hU : IfcOK sg W0 glsT U) (Q : Sl → Bool → Heap → Prop)   : CutOK sg W0 47 (entered 29) (Post sg W0 (backend_gather.ret Q)) (posC backend_gather.code []) 3 [0, 2, 8, 14, 15, 16] (backend_gather.k3 (fun a1 a2 a3 a4 a5 a6 h => backend_gather.j3 U  a1 a2 a3 a4 a5 a6 Q h)) := by
  refine cutOK_head (fun vs h hk => ?_)
  unfold backend_gather.k3 at hk
  split at hk
  · rename_i a1 a2 a3 a4 a5 a6
    refine hk (fun a1 a2 a3 a4 a5 a6 h => Head sg W0 47 (entered 29) (Post sg W0 (backend_gather.ret Q)) (posC backend_gather.code []) 3 [0, 2, 8, 14, 15, 16] [a1, .int .i64 a2, .sl a3, .sl a4, .int .i64 a5, .int .i64 a6] h) ?_
    intro a1 a2 a3 a4 a5 a6 h hb todo hm ρ a w s f hp
    have hself : CutOK sg W0 47 (entered 29) (Post sg W0 (backend_gather.ret Q)) (posC backend_gather.code []) 3 [0, 2, 8, 14, 15, 16] (backend_gather.k3 (fun a1 a2 a3 a4 a5 a6 h => Head sg W0 47 (entered 29) (Post sg W0 (backend_gather.ret Q)) (posC backend_gather.code []) 3 [0, 2, 8, 14, 15, 16] [a1, .int .i64 a2, .sl a3, .sl a4, .int .i64 a5, .int .i64 a6] h)) := cutOK_head (fun vs h hk => by unfold backend_gather.k3 at hk; split at hk; exact hk; exact hk.elim)
    exact piece (E := backend_gather.E U Q [(3, ([0, 2, 8, 14, 15, 16], backend_gather.k3 (fun a1 a2 a3 a4 a5 a6 h => Head sg W0 47 (entered 29) (Post sg W0 (backend_gather.ret Q)) (posC backend_gather.code []) 3 [0, 2, 8, 14, 15, 16] [a1, .int .i64 a2, .sl a3, .sl a4, .int .i64 a5, .int .i64 a6] h))), (8, ([], backend_gather.k8 (fun  h => backend_gather.j8 U (fun a1 a2 a3 a4 a5 a6 h => Head sg W0 47 (entered 29) (Post sg W0 (backend_gather.ret Q)) (posC backend_gather.code []) 3 [0, 2, 8, 14, 15, 16] [a1, .int .i64 a2, .sl a3, .sl a4, .int .i64 a5, .int .i64 a6] h)  Q h))), (9, ([0, 2, 8, 11, 14, 15, 16], backend_gather.k9 (fun a1 a2 a3 a4 a5 a6 a7 h => backend_gather.j9 U (fun a1 a2 a3 a4 a5 a6 h => Head sg W0 47 (entered 29) (Post sg W0 (backend_gather.ret Q)) (posC backend_gather.code []) 3 [0, 2, 8, 14, 15, 16] [a1, .int .i64 a2, .sl a3, .sl a4, .int .i64 a5, .int .i64 a6] h) a1 a2 a3 a4 a5 a6 a7 Q h)))]) (vs := [a1, .int .i64 a2, .sl a3, .sl a4, .int .i64 a5, .int .i64 a6]) (envOK seatOK (backend_gather.callsOK hU) hU) (fnOK seatOK backend_gather.fun) ⟨hself, (backend_gather.s8 hU Q (fun a1 a2 a3 a4 a5 a6 h => Head sg W0 47 (entered 29) (Post sg W0 (backend_gather.ret Q)) (posC backend_gather.code []) 3 [0, 2, 8, 14, 15, 16] [a1, .int .i64 a2, .sl a3, .sl a4, .int .i64 a5, .int .i64 a6] h) hself), (backend_gather.s9 hU Q (fun a1 a2 a3 a4 a5 a6 h => Head sg W0 47 (entered 29) (Post sg W0 (backend_gather.ret Q)) (posC backend_gather.code []) 3 [0, 2, 8, 14, 15, 16] [a1, .int .i64 a2, .sl a3, .sl a4, .int .i64 a5, .int .i64 a6] h) hself), trivial⟩ backend_gather.p3 (fuel := 3000) (by rw [← backend_gather.e3]; exact hb) hm s f hp
  · exact hk.elim

theorem backend_gather.e : ∀ (U : Ifc) (a1 : V) (a2 : Int) (a3 : Sl) (a4 : Int) (Q : Sl → Bool → Heap → Prop) (h : Heap), backend_gather U a1 a2 a3 a4 Q h = pts (backend_gather.E U Q [(3, ([0, 2, 8, 14, 15, 16], backend_gather.k3 (fun a1 a2 a3 a4 a5 a6 h => backend_gather.j3 U  a1 a2 a3 a4 a5 a6 Q h)))]) 3000 true [.code backend_gather.code] (frOf 0 [a1, .agg [.int .i64 a2, .sl a3], .int .i64 a4]) h := by
  intros; kernel_rfl

theorem backend_gather.S {W0 : World} {U : Ifc} (hU : IfcOK sg W0 glsT U) : FnS sg W0 287 (backend_gather.C U) := by
  intro vs κ h wv hx w s
  unfold backend_gather.C at hx
  split at hx
  · rename_i a1 a2 a3 a4
    refine postImp (ret := backend_gather.ret (fun r1 r2 h => κ (.tup [.sl r1, .bool r2]) h)) (fun v h hr => by unfold backend_gather.ret at hr; split at hr; exact hr; exact hr.elim) ?_
    exact calls_of_pts (E := backend_gather.E U (fun r1 r2 h => κ (.tup [.sl r1, .bool r2]) h) [(3, ([0, 2, 8, 14, 15, 16], backend_gather.k3 (fun a1 a2 a3 a4 a5 a6 h => backend_gather.j3 U  a1 a2 a3 a4 a5 a6 (fun r1 r2 h => κ (.tup [.sl r1, .bool r2]) h) h)))]) (envOK seatOK (backend_gather.callsOK hU) hU) seatOK.mixed backend_gather.fun (Nat.le_of_ble_eq_true rfl) wv (cutL_ok ⟨(backend_gather.s3 hU (fun r1 r2 h => κ (.tup [.sl r1, .bool r2]) h)), trivial⟩) s (fuel := 3000) (by rw [← backend_gather.e]; exact hx)
  · exact hx.elim

noncomputable def slices_Clone_byte_byte.code : Code := Go.Proofs.Try.f61.body.getD .skip

theorem slices_Clone_byte_byte.fun : Fun sg.P 61 8 [.tmp 2] slices_Clone_byte_byte.code := mkFun Go.Proofs.Try.func61 (by kernel_rfl) (by kernel_rfl) (by kernel_rfl) (by kernel_rfl)

def slices_Clone_byte_byte.ret (Q : Sl → Heap → Prop) (v : V) (h : Heap) : Prop :=
  match v with
  | .sl r1 => Q r1 h
  | _ => False

def slices_Clone_byte_byte.C (vs : List V) (κ : V → Heap → Prop) (h : Heap) : Prop :=
  match vs with
  | [.sl a1] => slices_Clone_byte_byte a1 (fun r1 h => κ (.sl r1) h) h
  | _ => False

noncomputable def slices_Clone_byte_byte.calls : List (Nat × (List V → (V → Heap → Prop) → Heap → Prop)) := []

noncomputable def slices_Clone_byte_byte.E (Q : Sl → Heap → Prop) (cuts : List (Nat × (List Nat × (List V → Heap → Prop)))) : Env := { tis := tisT, fns := fnsT, tys := tysT, gls := [], rts := rtsT, unk := [], nxt := [], calls := slices_Clone_byte_byte.calls, ifc := noIfc, cuts := cuts, ret := slices_Clone_byte_byte.ret Q, rets := [.tmp 2], n := 8 }

theorem slices_Clone_byte_byte.callsOK {W0 : World} : CallsOK sg W0 slices_Clone_byte_byte.calls := trivial

theorem slices_Clone_byte_byte.e : ∀ (a1 : Sl) (Q : Sl → Heap → Prop) (h : Heap), slices_Clone_byte_byte a1 Q h = pts (slices_Clone_byte_byte.E Q []) 3000 true [.code slices_Clone_byte_byte.code] (frOf 0 [.sl a1]) h := by
  intros; kernel_rfl

theorem slices_Clone_byte_byte.S {W0 : World} : FnS sg W0 58 slices_Clone_byte_byte.C := by
  intro vs κ h wv hx w s
  unfold slices_Clone_byte_byte.C at hx
  split at hx
  · rename_i a1
    refine postImp (ret := slices_Clone_byte_byte.ret (fun r1 h => κ (.sl r1) h)) (fun v h hr => by unfold slices_Clone_byte_byte.ret at hr; split at hr; exact hr; exact hr.elim) ?_
    exact calls_of_pts (E := slices_Clone_byte_byte.E (fun r1 h => κ (.sl r1) h) []) (envOK seatOK slices_Clone_byte_byte.callsOK noIfc_ok) seatOK.mixed slices_Clone_byte_byte.fun (Nat.le_of_ble_eq_true rfl) wv (cutL_ok trivial) s (fuel := 3000) (by rw [← slices_Clone_byte_byte.e]; exact hx)
  · exact hx.elim

noncomputable def wire_Wire_put.code : Code := Go.Proofs.Try.f51.body.getD .skip

theorem wire_Wire_put.fun : Fun sg.P 51 23 [.tmp 8] wire_Wire_put.code := mkFun Go.Proofs.Try.func51 (by kernel_rfl) (by kernel_rfl) (by kernel_rfl) (by kernel_rfl)

def wire_Wire_put.ret (Q : Bool → Heap → Prop) (v : V) (h : Heap) : Prop :=
  match v with
  | .bool r1 => Q r1 h
  | _ => False

def wire_Wire_put.C (vs : List V) (κ : V → Heap → Prop) (h : Heap) : Prop :=
  match vs with
  | [.ptr a1, .int .i64 a2, .int .i64 a3, .sl a4] => wire_Wire_put a1 a2 a3 a4 (fun r1 h => κ (.bool r1) h) h
  | _ => False

noncomputable def wire_Wire_put.calls : List (Nat × (List V → (V → Heap → Prop) → Heap → Prop)) := [(58, slices_Clone_byte_byte.C)]

noncomputable def wire_Wire_put.E (Q : Bool → Heap → Prop) (cuts : List (Nat × (List Nat × (List V → Heap → Prop)))) : Env := { tis := tisT, fns := fnsT, tys := tysT, gls := [], rts := rtsT, unk := [], nxt := [], calls := wire_Wire_put.calls, ifc := noIfc, cuts := cuts, ret := wire_Wire_put.ret Q, rets := [.tmp 8], n := 23 }

theorem wire_Wire_put.callsOK {W0 : World} : CallsOK sg W0 wire_Wire_put.calls := ⟨slices_Clone_byte_byte.S, trivial⟩

theorem wire_Wire_put.e : ∀ (a1 : Option Ptr) (a2 : Int) (a3 : Int) (a4 : Sl) (Q : Bool → Heap → Prop) (h : Heap), wire_Wire_put a1 a2 a3 a4 Q h = pts (wire_Wire_put.E Q []) 3000 true [.code wire_Wire_put.code] (frOf 0 [.ptr a1, .int .i64 a2, .int .i64 a3, .sl a4]) h := by
  intros; kernel_rfl

theorem wire_Wire_put.S {W0 : World} : FnS sg W0 288 wire_Wire_put.C := by
  intro vs κ h wv hx w s
  unfold wire_Wire_put.C at hx
  split at hx
  · rename_i a1 a2 a3 a4
    refine postImp (ret := wire_Wire_put.ret (fun r1 h => κ (.bool r1) h)) (fun v h hr => by unfold wire_Wire_put.ret at hr; split at hr; exact hr; exact hr.elim) ?_
    exact calls_of_pts (E := wire_Wire_put.E (fun r1 h => κ (.bool r1) h) []) (envOK seatOK wire_Wire_put.callsOK noIfc_ok) seatOK.mixed wire_Wire_put.fun (Nat.le_of_ble_eq_true rfl) wv (cutL_ok trivial) s (fuel := 3000) (by rw [← wire_Wire_put.e]; exact hx)
  · exact hx.elim

noncomputable def wire_Wire_all.code : Code := Go.Proofs.Try.f50.body.getD .skip

theorem wire_Wire_all.fun : Fun sg.P 50 48 [.tmp 6] wire_Wire_all.code := mkFun Go.Proofs.Try.func50 (by kernel_rfl) (by kernel_rfl) (by kernel_rfl) (by kernel_rfl)

def wire_Wire_all.ret (Q : Int → Heap → Prop) (v : V) (h : Heap) : Prop :=
  match v with
  | .int .i64 r1 => Q r1 h
  | _ => False

def wire_Wire_all.C (vs : List V) (κ : V → Heap → Prop) (h : Heap) : Prop :=
  match vs with
  | [.ptr a1, .int .i64 a2, .sl a3] => wire_Wire_all a1 a2 a3 (fun r1 h => κ (.int .i64 r1) h) h
  | _ => False

noncomputable def wire_Wire_all.calls : List (Nat × (List V → (V → Heap → Prop) → Heap → Prop)) := [(288, wire_Wire_put.C)]

noncomputable def wire_Wire_all.E (Q : Int → Heap → Prop) (cuts : List (Nat × (List Nat × (List V → Heap → Prop)))) : Env := { tis := tisT, fns := fnsT, tys := tysT, gls := [], rts := rtsT, unk := [], nxt := [], calls := wire_Wire_all.calls, ifc := noIfc, cuts := cuts, ret := wire_Wire_all.ret Q, rets := [.tmp 6], n := 48 }

theorem wire_Wire_all.callsOK {W0 : World} : CallsOK sg W0 wire_Wire_all.calls := ⟨wire_Wire_put.S, trivial⟩

def wire_Wire_all.k7 (I : (Option Ptr) → Int → Sl → Int → Int → Int → Heap → Prop) (vs : List V) (h : Heap) : Prop :=
  match vs with
  | [.ptr a1, .int .i64 a2, .sl a3, .int .i64 a4, .int .i64 a5, .int .i64 a6] => I a1 a2 a3 a4 a5 a6 h
  | _ => False

def wire_Wire_all.k6 (I : (Option Ptr) → Int → Sl → Int → Int → Int → Heap → Prop) (vs : List V) (h : Heap) : Prop :=
  match vs with
  | [.ptr a1, .int .i64 a2, .sl a3, .int .i64 a4, .int .i64 a5, .int .i64 a6] => I a1 a2 a3 a4 a5 a6 h
  | _ => False

def wire_Wire_all.k3 (I : (Option Ptr) → Int → Sl → Int → Int → Int → Heap → Prop) (vs : List V) (h : Heap) : Prop :=
  match vs with
  | [.ptr a1, .int .i64 a2, .sl a3, .int .i64 a4, .int .i64 a5, .int .i64 a6] => I a1 a2 a3 a4 a5 a6 h
  | _ => False

theorem wire_Wire_all.p7 : (posC wire_Wire_all.code []).filter (fun p => Nat.beq p.1 7) = [(7, atPos (posC wire_Wire_all.code []) 7)] := by kernel_rfl

theorem wire_Wire_all.e7 : ∀ (I3 : (Option Ptr) → Int → Sl → Int → Int → Int → Heap → Prop) (a1 : Option Ptr) (a2 : Int) (a3 : Sl) (a4 : Int) (a5 : Int) (a6 : Int) (Q : Int → Heap → Prop) (h : Heap), wire_Wire_all.j7 I3 a1 a2 a3 a4 a5 a6 Q h = pts (wire_Wire_all.E Q [(3, ([0, 1, 2, 7, 13, 14], wire_Wire_all.k3 I3))]) 3000 true (atPos (posC wire_Wire_all.code []) 7) (frAt [0, 1, 2, 7, 13, 14] [.ptr a1, .int .i64 a2, .sl a3, .int .i64 a4, .int .i64 a5, .int .i64 a6]) h := by
  intros; kernel_rfl

theorem wire_Wire_all.s7 {W0 : World} (Q : Int → Heap → Prop) (I3 : (Option Ptr) → Int → Sl → Int → Int → Int → Heap → Prop) (h3 : CutOK sg W0 48 (entered 50) (Post sg W0 (wire_Wire_all.ret Q)) (posC wire_Wire_all.code []) 3 [0, 1, 2, 7, 13, 14] (wire_Wire_all.k3 I3)) : CutOK sg W0 48 (entered 50) (Post sg W0 (wire_Wire_all.ret Q)) (posC wire_Wire_all.code []) 7 [0, 1, 2, 7, 13, 14] (wire_Wire_all.k7 (fun a1 a2 a3 a4 a5 a6 h => wire_Wire_all.j7 I3 a1 a2 a3 a4 a5 a6 Q h)) := by
  refine cutOK_head (fun vs h hk => ?_)
  unfold wire_Wire_all.k7 at hk
  split at hk
  · rename_i a1 a2 a3 a4 a5 a6
    intro todo hm ρ a w s f hp
    exact piece (E := wire_Wire_all.E Q [(3, ([0, 1, 2, 7, 13, 14], wire_Wire_all.k3 I3))]) (vs := [.ptr a1, .int .i64 a2, .sl a3, .int .i64 a4, .int .i64 a5, .int .i64 a6]) (envOK seatOK wire_Wire_all.callsOK noIfc_ok) (fnOK seatOK wire_Wire_all.fun) ⟨h3, trivial⟩ wire_Wire_all.p7 (fuel := 3000) (by rw [← wire_Wire_all.e7]; exact hk) hm s f hp
  · exact hk.elim

theorem wire_Wire_all.p6 : (posC wire_Wire_all.code []).filter (fun p => Nat.beq p.1 6) = [(6, atPos (posC wire_Wire_all.code []) 6)] := by kernel_rfl

theorem wire_Wire_all.e6 : ∀ (I3 : (Option Ptr) → Int → Sl → Int → Int → Int → Heap → Prop) (a1 : Option Ptr) (a2 : Int) (a3 : Sl) (a4 : Int) (a5 : Int) (a6 : Int) (Q : Int → Heap → Prop) (h : Heap), wire_Wire_all.j6 I3 a1 a2 a3 a4 a5 a6 Q h = pts (wire_Wire_all.E Q [(7, ([0, 1, 2, 7, 13, 14], wire_Wire_all.k7 (fun a1 a2 a3 a4 a5 a6 h => wire_Wire_all.j7 I3 a1 a2 a3 a4 a5 a6 Q h)))]) 3000 true (atPos (posC wire_Wire_all.code []) 6) (frAt [0, 1, 2, 7, 13, 14] [.ptr a1, .int .i64 a2, .sl a3, .int .i64 a4, .int .i64 a5, .int .i64 a6]) h := by
  intros; kernel_rfl

theorem wire_Wire_all.s6 {W0 : World} (Q : Int → Heap → Prop) (I3 : (Option Ptr) → Int → Sl → Int → Int → Int → Heap → Prop) (h3 : CutOK sg W0 48 (entered 50) (Post sg W0 (wire_Wire_all.ret Q)) (posC wire_Wire_all.code []) 3 [0, 1, 2, 7, 13, 14] (wire_Wire_all.k3 I3)) : CutOK sg W0 48 (entered 50) (Post sg W0 (wire_Wire_all.ret Q)) (posC wire_Wire_all.code []) 6 [0, 1, 2, 7, 13, 14] (wire_Wire_all.k6 (fun a1 a2 a3 a4 a5 a6 h => wire_Wire_all.j6 I3 a1 a2 a3 a4 a5 a6 Q h)) := by
  refine cutOK_head (fun vs h hk => ?_)
  unfold wire_Wire_all.k6 at hk
  split at hk
  · rename_i a1 a2 a3 a4 a5 a6
    intro todo hm ρ a w s f hp
    exact piece (E := wire_Wire_all.E Q [(7, ([0, 1, 2, 7, 13, 14], wire_Wire_all.k7 (fun a1 a2 a3 a4 a5 a6 h => wire_Wire_all.j7 I3 a1 a2 a3 a4 a5 a6 Q h)))]) (vs := [.ptr a1, .int .i64 a2, .sl a3, .int .i64 a4, .int .i64 a5, .int .i64 a6]) (envOK seatOK wire_Wire_all.callsOK noIfc_ok) (fnOK seatOK wire_Wire_all.fun) ⟨(wire_Wire_all.s7 Q I3 h3), trivial⟩ wire_Wire_all.p6 (fuel := 3000) (by rw [← wire_Wire_all.e6]; exact hk) hm s f hp
  · exact hk.elim

theorem wire_Wire_all.p3 : (posC wire_Wire_all.code []).filter (fun p => Nat.beq p.1 3) = [(3, atPos (posC wire_Wire_all.code []) 3)] := by kernel_rfl

theorem wire_Wire_all.e3 : ∀  (I3 : (Option Ptr) → Int → Sl → Int → Int → Int → Heap → Prop) (a1 : Option Ptr) (a2 : Int) (a3 : Sl) (a4 : Int) (a5 : Int) (a6 : Int) (Q : Int → Heap → Prop) (h : Heap), wire_Wire_all.b3  I3 a1 a2 a3 a4 a5 a6 Q h = pts (wire_Wire_all.E Q [(6, ([0, 1, 2, 7, 13, 14], wire_Wire_all.k6 (fun a1 a2 a3 a4 a5 a6 h => wire_Wire_all.j6 I3 a1 a2 a3 a4 a5 a6 Q h))), (7, ([0, 1, 2, 7, 13, 14], wire_Wire_all.k7 (fun a1 a2 a3 a4 a5 a6 h => wire_Wire_all.j7 I3 a1 a2 a3 a4 a5 a6 Q h)))]) 3000 true (atPos (posC wire_Wire_all.code []) 3) (frAt [0, 1, 2, 7, 13, 14] [.ptr a1, .int .i64 a2, .sl a3, .int .i64 a4, .int .i64 a5, .int .i64 a6]) h := by
  intros; kernel_rfl

theorem wire_Wire_all.s3 {W0 : World} (Q : Int → Heap → Prop)   : CutOK sg W0 48 (entered 50) (Post sg W0 (wire_Wire_all.ret Q)) (posC wire_Wire_all.code []) 3 [0, 1, 2, 7, 13, 14] (wire_Wire_all.k3 (fun a1 a2 a3 a4 a5 a6 h => wire_Wire_all.j3  a1 a2 a3 a4 a5 a6 Q h)) := by
  refine cutOK_head (fun vs h hk => ?_)
  unfold wire_Wire_all.k3 at hk
  split at hk
  · rename_i a1 a2 a3 a4 a5 a6
    refine hk (fun a1 a2 a3 a4 a5 a6 h => Head sg W0 48 (entered 50) (Post sg W0 (wire_Wire_all.ret Q)) (posC wire_Wire_all.code []) 3 [0, 1, 2, 7, 13, 14] [.ptr a1, .int .i64 a2, .sl a3, .int .i64 a4, .int .i64 a5, .int .i64 a6] h) ?_
    intro a1 a2 a3 a4 a5 a6 h hb todo hm ρ a w s f hp
    have hself : CutOK sg W0 48 (entered 50) (Post sg W0 (wire_Wire_all.ret Q)) (posC wire_Wire_all.code []) 3 [0, 1, 2, 7, 13, 14] (wire_Wire_all.k3 (fun a1 a2 a3 a4 a5 a6 h => Head sg W0 48 (entered 50) (Post sg W0 (wire_Wire_all.ret Q)) (posC wire_Wire_all.code []) 3 [0, 1, 2, 7, 13, 14] [.ptr a1, .int .i64 a2, .sl a3, .int .i64 a4, .int .i64 a5, .int .i64 a6] h)) := cutOK_head (fun vs h hk => by unfold wire_Wire_all.k3 at hk; split at hk; exact hk; exact hk.elim)
    exact piece (E := wire_Wire_all.E Q [(6, ([0, 1, 2, 7, 13, 14], wire_Wire_all.k6 (fun a1 a2 a3 a4 a5 a6 h => wire_Wire_all.j6 (fun a1 a2 a3 a4 a5 a6 h => Head sg W0 48 (entered 50) (Post sg W0 (wire_Wire_all.ret Q)) (posC wire_Wire_all.code []) 3 [0, 1, 2, 7, 13, 14] [.ptr a1, .int .i64 a2, .sl a3, .int .i64 a4, .int .i64 a5, .int .i64 a6] h) a1 a2 a3 a4 a5 a6 Q h))), (7, ([0, 1, 2, 7, 13, 14], wire_Wire_all.k7 (fun a1 a2 a3 a4 a5 a6 h => wire_Wire_all.j7 (fun a1 a2 a3 a4 a5 a6 h => Head sg W0 48 (entered 50) (Post sg W0 (wire_Wire_all.ret Q)) (posC wire_Wire_all.code []) 3 [0, 1, 2, 7, 13, 14] [.ptr a1, .int .i64 a2, .sl a3, .int .i64 a4, .int .i64 a5, .int .i64 a6] h) a1 a2 a3 a4 a5 a6 Q h)))]) (vs := [.ptr a1, .int .i64 a2, .sl a3, .int .i64 a4, .int .i64 a5, .int .i64 a6]) (envOK seatOK wire_Wire_all.callsOK noIfc_ok) (fnOK seatOK wire_Wire_all.fun) ⟨(wire_Wire_all.s6 Q (fun a1 a2 a3 a4 a5 a6 h => Head sg W0 48 (entered 50) (Post sg W0 (wire_Wire_all.ret Q)) (posC wire_Wire_all.code []) 3 [0, 1, 2, 7, 13, 14] [.ptr a1, .int .i64 a2, .sl a3, .int .i64 a4, .int .i64 a5, .int .i64 a6] h) hself), (wire_Wire_all.s7 Q (fun a1 a2 a3 a4 a5 a6 h => Head sg W0 48 (entered 50) (Post sg W0 (wire_Wire_all.ret Q)) (posC wire_Wire_all.code []) 3 [0, 1, 2, 7, 13, 14] [.ptr a1, .int .i64 a2, .sl a3, .int .i64 a4, .int .i64 a5, .int .i64 a6] h) hself), trivial⟩ wire_Wire_all.p3 (fuel := 3000) (by rw [← wire_Wire_all.e3]; exact hb) hm s f hp
  · exact hk.elim

theorem wire_Wire_all.e : ∀ (a1 : Option Ptr) (a2 : Int) (a3 : Sl) (Q : Int → Heap → Prop) (h : Heap), wire_Wire_all a1 a2 a3 Q h = pts (wire_Wire_all.E Q [(3, ([0, 1, 2, 7, 13, 14], wire_Wire_all.k3 (fun a1 a2 a3 a4 a5 a6 h => wire_Wire_all.j3  a1 a2 a3 a4 a5 a6 Q h)))]) 3000 true [.code wire_Wire_all.code] (frOf 0 [.ptr a1, .int .i64 a2, .sl a3]) h := by
  intros; kernel_rfl

theorem wire_Wire_all.S {W0 : World} : FnS sg W0 289 wire_Wire_all.C := by
  intro vs κ h wv hx w s
  unfold wire_Wire_all.C at hx
  split at hx
  · rename_i a1 a2 a3
    refine postImp (ret := wire_Wire_all.ret (fun r1 h => κ (.int .i64 r1) h)) (fun v h hr => by unfold wire_Wire_all.ret at hr; split at hr; exact hr; exact hr.elim) ?_
    exact calls_of_pts (E := wire_Wire_all.E (fun r1 h => κ (.int .i64 r1) h) [(3, ([0, 1, 2, 7, 13, 14], wire_Wire_all.k3 (fun a1 a2 a3 a4 a5 a6 h => wire_Wire_all.j3  a1 a2 a3 a4 a5 a6 (fun r1 h => κ (.int .i64 r1) h) h)))]) (envOK seatOK wire_Wire_all.callsOK noIfc_ok) seatOK.mixed wire_Wire_all.fun (Nat.le_of_ble_eq_true rfl) wv (cutL_ok ⟨(wire_Wire_all.s3 (fun r1 h => κ (.int .i64 r1) h)), trivial⟩) s (fuel := 3000) (by rw [← wire_Wire_all.e]; exact hx)
  · exact hx.elim

noncomputable def wire_Wire_Send.code : Code := Go.Proofs.Try.f30.body.getD .skip

theorem wire_Wire_Send.fun : Fun sg.P 30 74 [.tmp 8, .tmp 9] wire_Wire_Send.code := mkFun Go.Proofs.Try.func30 (by kernel_rfl) (by kernel_rfl) (by kernel_rfl) (by kernel_rfl)

def wire_Wire_Send.ret (Q : Int → Int → Heap → Prop) (v : V) (h : Heap) : Prop :=
  match v with
  | .tup [.int .i64 r1, .int .i64 r2] => Q r1 r2 h
  | _ => False

def wire_Wire_Send.C (vs : List V) (κ : V → Heap → Prop) (h : Heap) : Prop :=
  match vs with
  | [.ptr a1, .int .i64 a2, .int .i64 a3, .sl a4] => wire_Wire_Send a1 a2 a3 a4 (fun r1 r2 h => κ (.tup [.int .i64 r1, .int .i64 r2]) h) h
  | _ => False

noncomputable def wire_Wire_Send.calls : List (Nat × (List V → (V → Heap → Prop) → Heap → Prop)) := [(282, wire_Wire_wrong.C), (289, wire_Wire_all.C), (288, wire_Wire_put.C)]

noncomputable def wire_Wire_Send.E (Q : Int → Int → Heap → Prop) (cuts : List (Nat × (List Nat × (List V → Heap → Prop)))) : Env := { tis := tisT, fns := fnsT, tys := tysT, gls := [], rts := rtsT, unk := [], nxt := [], calls := wire_Wire_Send.calls, ifc := noIfc, cuts := cuts, ret := wire_Wire_Send.ret Q, rets := [.tmp 8, .tmp 9], n := 74 }

theorem wire_Wire_Send.callsOK {W0 : World} : CallsOK sg W0 wire_Wire_Send.calls := ⟨wire_Wire_wrong.S, wire_Wire_all.S, wire_Wire_put.S, trivial⟩

def wire_Wire_Send.k9 (I : Heap → Prop) (vs : List V) (h : Heap) : Prop :=
  match vs with
  | [] => I  h
  | _ => False

def wire_Wire_Send.k15 (I : Heap → Prop) (vs : List V) (h : Heap) : Prop :=
  match vs with
  | [] => I  h
  | _ => False

def wire_Wire_Send.k16 (I : Heap → Prop) (vs : List V) (h : Heap) : Prop :=
  match vs with
  | [] => I  h
  | _ => False

def wire_Wire_Send.k10 (I : (Option Ptr) → Int → Int → Sl → Heap → Prop) (vs : List V) (h : Heap) : Prop :=
  match vs with
  | [.ptr a1, .int .i64 a2, .int .i64 a3, .sl a4] => I a1 a2 a3 a4 h
  | _ => False

theorem wire_Wire_Send.p9 : (posC wire_Wire_Send.code []).filter (fun p => Nat.beq p.1 9) = [(9, atPos (posC wire_Wire_Send.code []) 9)] := by kernel_rfl

theorem wire_Wire_Send.e9 : ∀   (Q : Int → Int → Heap → Prop) (h : Heap), wire_Wire_Send.j9   Q h = pts (wire_Wire_Send.E Q []) 3000 true (atPos (posC wire_Wire_Send.code []) 9) (frAt [] []) h := by
  intros; kernel_rfl

theorem wire_Wire_Send.s9 {W0 : World} (Q : Int → Int → Heap → Prop)   : CutOK sg W0 74 (entered 30) (Post sg W0 (wire_Wire_Send.ret Q)) (posC wire_Wire_Send.code []) 9 [] (wire_Wire_Send.k9 (fun  h => wire_Wire_Send.j9   Q h)) := by
  refine cutOK_head (fun vs h hk => ?_)
  unfold wire_Wire_Send.k9 at hk
  split at hk
  · skip
    intro todo hm ρ a w s f hp
    exact piece (E := wire_Wire_Send.E Q []) (vs := []) (envOK seatOK wire_Wire_Send.callsOK noIfc_ok) (fnOK seatOK wire_Wire_Send.fun) trivial wire_Wire_Send.p9 (fuel := 3000) (by rw [← wire_Wire_Send.e9]; exact hk) hm s f hp
  · exact hk.elim

theorem wire_Wire_Send.p15 : (posC wire_Wire_Send.code []).filter (fun p => Nat.beq p.1 15) = [(15, atPos (posC wire_Wire_Send.code []) 15)] := by kernel_rfl

theorem wire_Wire_Send.e15 : ∀   (Q : Int → Int → Heap → Prop) (h : Heap), wire_Wire_Send.j15   Q h = pts (wire_Wire_Send.E Q []) 3000 true (atPos (posC wire_Wire_Send.code []) 15) (frAt [] []) h := by
  intros; kernel_rfl

theorem wire_Wire_Send.s15 {W0 : World} (Q : Int → Int → Heap → Prop)   : CutOK sg W0 74 (entered 30) (Post sg W0 (wire_Wire_Send.ret Q)) (posC wire_Wire_Send.code []) 15 [] (wire_Wire_Send.k15 (fun  h => wire_Wire_Send.j15   Q h)) := by
  refine cutOK_head (fun vs h hk => ?_)
  unfold wire_Wire_Send.k15 at hk
  split at hk
  · skip
    intro todo hm ρ a w s f hp
    exact piece (E := wire_Wire_Send.E Q []) (vs := []) (envOK seatOK wire_Wire_Send.callsOK noIfc_ok) (fnOK seatOK wire_Wire_Send.fun) trivial wire_Wire_Send.p15 (fuel := 3000) (by rw [← wire_Wire_Send.e15]; exact hk) hm s f hp
  · exact hk.elim

theorem wire_Wire_Send.p16 : (posC wire_Wire_Send.code []).filter (fun p => Nat.beq p.1 16) = [(16, atPos (posC wire_Wire_Send.code []) 16)] := by kernel_rfl

theorem wire_Wire_Send.e16 : ∀   (Q : Int → Int → Heap → Prop) (h : Heap), wire_Wire_Send.j16   Q h = pts (wire_Wire_Send.E Q []) 3000 true (atPos (posC wire_Wire_Send.code []) 16) (frAt [] []) h := by
  intros; kernel_rfl

theorem wire_Wire_Send.s16 {W0 : World} (Q : Int → Int → Heap → Prop)   : CutOK sg W0 74 (entered 30) (Post sg W0 (wire_Wire_Send.ret Q)) (posC wire_Wire_Send.code []) 16 [] (wire_Wire_Send.k16 (fun  h => wire_Wire_Send.j16   Q h)) := by
  refine cutOK_head (fun vs h hk => ?_)
  unfold wire_Wire_Send.k16 at hk
  split at hk
  · skip
    intro todo hm ρ a w s f hp
    exact piece (E := wire_Wire_Send.E Q []) (vs := []) (envOK seatOK wire_Wire_Send.callsOK noIfc_ok) (fnOK seatOK wire_Wire_Send.fun) trivial wire_Wire_Send.p16 (fuel := 3000) (by rw [← wire_Wire_Send.e16]; exact hk) hm s f hp
  · exact hk.elim

theorem wire_Wire_Send.p10 : (posC wire_Wire_Send.code []).filter (fun p => Nat.beq p.1 10) = [(10, atPos (posC wire_Wire_Send.code []) 10)] := by kernel_rfl

theorem wire_Wire_Send.e10 : ∀  (a1 : Option Ptr) (a2 : Int) (a3 : Int) (a4 : Sl) (Q : Int → Int → Heap → Prop) (h : Heap), wire_Wire_Send.j10  a1 a2 a3 a4 Q h = pts (wire_Wire_Send.E Q [(15, ([], wire_Wire_Send.k15 (fun  h => wire_Wire_Send.j15   Q h))), (16, ([], wire_Wire_Send.k16 (fun  h => wire_Wire_Send.j16   Q h)))]) 3000 true (atPos (posC wire_Wire_Send.code []) 10) (frAt [0, 1, 2, 3] [.ptr a1, .int .i64 a2, .int .i64 a3, .sl a4]) h := by
  intros; kernel_rfl

theorem wire_Wire_Send.s10 {W0 : World} (Q : Int → Int → Heap → Prop)   : CutOK sg W0 74 (entered 30) (Post sg W0 (wire_Wire_Send.ret Q)) (posC wire_Wire_Send.code []) 10 [0, 1, 2, 3] (wire_Wire_Send.k10 (fun a1 a2 a3 a4 h => wire_Wire_Send.j10  a1 a2 a3 a4 Q h)) := by
  refine cutOK_head (fun vs h hk => ?_)
  unfold wire_Wire_Send.k10 at hk
  split at hk
  · rename_i a1 a2 a3 a4
    intro todo hm ρ a w s f hp
    exact piece (E := wire_Wire_Send.E Q [(15, ([], wire_Wire_Send.k15 (fun  h => wire_Wire_Send.j15   Q h))), (16, ([], wire_Wire_Send.k16 (fun  h => wire_Wire_Send.j16   Q h)))]) (vs := [.ptr a1, .int .i64 a2, .int .i64 a3, .sl a4]) (envOK seatOK wire_Wire_Send.callsOK noIfc_ok) (fnOK seatOK wire_Wire_Send.fun) ⟨(wire_Wire_Send.s15 Q  ), (wire_Wire_Send.s16 Q  ), trivial⟩ wire_Wire_Send.p10 (fuel := 3000) (by rw [← wire_Wire_Send.e10]; exact hk) hm s f hp
  · exact hk.elim

theorem wire_Wire_Send.e : ∀ (a1 : Option Ptr) (a2 : Int) (a3 : Int) (a4 : Sl) (Q : Int → Int → Heap → Prop) (h : Heap), wire_Wire_Send a1 a2 a3 a4 Q h = pts (wire_Wire_Send.E Q [(9, ([], wire_Wire_Send.k9 (fun  h => wire_Wire_Send.j9   Q h))), (10, ([0, 1, 2, 3], wire_Wire_Send.k10 (fun a1 a2 a3 a4 h => wire_Wire_Send.j10  a1 a2 a3 a4 Q h)))]) 3000 true [.code wire_Wire_Send.code] (frOf 0 [.ptr a1, .int .i64 a2, .int .i64 a3, .sl a4]) h := by
  intros; kernel_rfl

theorem wire_Wire_Send.S {W0 : World} : FnS sg W0 290 wire_Wire_Send.C := by
  intro vs κ h wv hx w s
  unfold wire_Wire_Send.C at hx
  split at hx
  · rename_i a1 a2 a3 a4
    refine postImp (ret := wire_Wire_Send.ret (fun r1 r2 h => κ (.tup [.int .i64 r1, .int .i64 r2]) h)) (fun v h hr => by unfold wire_Wire_Send.ret at hr; split at hr; exact hr; exact hr.elim) ?_
    exact calls_of_pts (E := wire_Wire_Send.E (fun r1 r2 h => κ (.tup [.int .i64 r1, .int .i64 r2]) h) [(9, ([], wire_Wire_Send.k9 (fun  h => wire_Wire_Send.j9   (fun r1 r2 h => κ (.tup [.int .i64 r1, .int .i64 r2]) h) h))), (10, ([0, 1, 2, 3], wire_Wire_Send.k10 (fun a1 a2 a3 a4 h => wire_Wire_Send.j10  a1 a2 a3 a4 (fun r1 r2 h => κ (.tup [.int .i64 r1, .int .i64 r2]) h) h)))]) (envOK seatOK wire_Wire_Send.callsOK noIfc_ok) seatOK.mixed wire_Wire_Send.fun (Nat.le_of_ble_eq_true rfl) wv (cutL_ok ⟨(wire_Wire_Send.s9 (fun r1 r2 h => κ (.tup [.int .i64 r1, .int .i64 r2]) h)), (wire_Wire_Send.s10 (fun r1 r2 h => κ (.tup [.int .i64 r1, .int .i64 r2]) h)), trivial⟩) s (fuel := 3000) (by rw [← wire_Wire_Send.e]; exact hx)
  · exact hx.elim

noncomputable def backend_Net_Kick_c1.code : Code := Go.Proofs.Try.f28.body.getD .skip

theorem backend_Net_Kick_c1.fun : Fun sg.P 28 33 [.tmp 4] backend_Net_Kick_c1.code := mkFun Go.Proofs.Try.func28 (by kernel_rfl) (by kernel_rfl) (by kernel_rfl) (by kernel_rfl)

def backend_Net_Kick_c1.ret (Q : Int → Heap → Prop) (v : V) (h : Heap) : Prop :=
  match v with
  | .int .i64 r1 => Q r1 h
  | _ => False

def backend_Net_Kick_c1.C (U : Ifc) (vs : List V) (κ : V → Heap → Prop) (h : Heap) : Prop :=
  match vs with
  | [.agg [.int .i64 a1, .sl a2], .ptr (some a3), .ptr (some a4)] => backend_Net_Kick_c1 U a1 a2 a3 a4 (fun r1 h => κ (.int .i64 r1) h) h
  | _ => False

noncomputable def backend_Net_Kick_c1.calls (U : Ifc) : List (Nat × (List V → (V → Heap → Prop) → Heap → Prop)) := [(287, backend_gather.C U), (290, wire_Wire_Send.C), (267, backend_number.C)]

noncomputable def backend_Net_Kick_c1.E (U : Ifc) (Q : Int → Heap → Prop) (cuts : List (Nat × (List Nat × (List V → Heap → Prop)))) : Env := { tis := tisT, fns := fnsT, tys := tysT, gls := glsT, rts := rtsT, unk := [], nxt := [], calls := backend_Net_Kick_c1.calls U, ifc := U, cuts := cuts, ret := backend_Net_Kick_c1.ret Q, rets := [.tmp 4], n := 33 }

theorem backend_Net_Kick_c1.callsOK {W0 : World} {U : Ifc} (hU : IfcOK sg W0 glsT U) : CallsOK sg W0 (backend_Net_Kick_c1.calls U) := ⟨(backend_gather.S hU), wire_Wire_Send.S, backend_number.S, trivial⟩

def backend_Net_Kick_c1.k4 (I : Heap → Prop) (vs : List V) (h : Heap) : Prop :=
  match vs with
  | [] => I  h
  | _ => False

theorem backend_Net_Kick_c1.p4 : (posC backend_Net_Kick_c1.code []).filter (fun p => Nat.beq p.1 4) = [(4, atPos (posC backend_Net_Kick_c1.code []) 4)] := by kernel_rfl

theorem backend_Net_Kick_c1.e4 : ∀ (U : Ifc)   (Q : Int → Heap → Prop) (h : Heap), backend_Net_Kick_c1.j4 U   Q h = pts (backend_Net_Kick_c1.E U Q []) 3000 true (atPos (posC backend_Net_Kick_c1.code []) 4) (frAt [] []) h := by
  intros; kernel_rfl

theorem backend_Net_Kick_c1.s4 {W0 : World} {U : Ifc} (hU : IfcOK sg W0 glsT U) (Q : Int → Heap → Prop)   : CutOK sg W0 33 (entered 28) (Post sg W0 (backend_Net_Kick_c1.ret Q)) (posC backend_Net_Kick_c1.code []) 4 [] (backend_Net_Kick_c1.k4 (fun  h => backend_Net_Kick_c1.j4 U   Q h)) := by
  refine cutOK_head (fun vs h hk => ?_)
  unfold backend_Net_Kick_c1.k4 at hk
  split at hk
  · skip
    intro todo hm ρ a w s f hp
    exact piece (E := backend_Net_Kick_c1.E U Q []) (vs := []) (envOK seatOK (backend_Net_Kick_c1.callsOK hU) hU) (fnOK seatOK backend_Net_Kick_c1.fun) trivial backend_Net_Kick_c1.p4 (fuel := 3000) (by rw [← backend_Net_Kick_c1.e4]; exact hk) hm s f hp
  · exact hk.elim

theorem backend_Net_Kick_c1.e : ∀ (U : Ifc) (a1 : Int) (a2 : Sl) (a3 : Ptr) (a4 : Ptr) (Q : Int → Heap → Prop) (h : Heap), backend_Net_Kick_c1 U a1 a2 a3 a4 Q h = pts (backend_Net_Kick_c1.E U Q [(4, ([], backend_Net_Kick_c1.k4 (fun  h => backend_Net_Kick_c1.j4 U   Q h)))]) 3000 true [.code backend_Net_Kick_c1.code] (frOf 0 [.agg [.int .i64 a1, .sl a2], .ptr (some a3), .ptr (some a4)]) h := by
  intros; kernel_rfl

theorem backend_Net_Kick_c1.S {W0 : World} {U : Ifc} (hU : IfcOK sg W0 glsT U) : FnS sg W0 257 (backend_Net_Kick_c1.C U) := by
  intro vs κ h wv hx w s
  unfold backend_Net_Kick_c1.C at hx
  split at hx
  · rename_i a1 a2 a3 a4
    refine postImp (ret := backend_Net_Kick_c1.ret (fun r1 h => κ (.int .i64 r1) h)) (fun v h hr => by unfold backend_Net_Kick_c1.ret at hr; split at hr; exact hr; exact hr.elim) ?_
    exact calls_of_pts (E := backend_Net_Kick_c1.E U (fun r1 h => κ (.int .i64 r1) h) [(4, ([], backend_Net_Kick_c1.k4 (fun  h => backend_Net_Kick_c1.j4 U   (fun r1 h => κ (.int .i64 r1) h) h)))]) (envOK seatOK (backend_Net_Kick_c1.callsOK hU) hU) seatOK.mixed backend_Net_Kick_c1.fun (Nat.le_of_ble_eq_true rfl) wv (cutL_ok ⟨(backend_Net_Kick_c1.s4 hU (fun r1 h => κ (.int .i64 r1) h)), trivial⟩) s (fuel := 3000) (by rw [← backend_Net_Kick_c1.e]; exact hx)
  · exact hx.elim

noncomputable def console_Console_none.code : Code := Go.Proofs.Try.f52.body.getD .skip

theorem console_Console_none.fun : Fun sg.P 52 12 [.tmp 2] console_Console_none.code := mkFun Go.Proofs.Try.func52 (by kernel_rfl) (by kernel_rfl) (by kernel_rfl) (by kernel_rfl)

def console_Console_none.ret (Q : Bool → Heap → Prop) (v : V) (h : Heap) : Prop :=
  match v with
  | .bool r1 => Q r1 h
  | _ => False

def console_Console_none.C (vs : List V) (κ : V → Heap → Prop) (h : Heap) : Prop :=
  match vs with
  | [.ptr a1] => console_Console_none a1 (fun r1 h => κ (.bool r1) h) h
  | _ => False

noncomputable def console_Console_none.calls : List (Nat × (List V → (V → Heap → Prop) → Heap → Prop)) := []

noncomputable def console_Console_none.E (Q : Bool → Heap → Prop) (cuts : List (Nat × (List Nat × (List V → Heap → Prop)))) : Env := { tis := tisT, fns := fnsT, tys := tysT, gls := [], rts := rtsT, unk := [], nxt := [], calls := console_Console_none.calls, ifc := noIfc, cuts := cuts, ret := console_Console_none.ret Q, rets := [.tmp 2], n := 12 }

theorem console_Console_none.callsOK {W0 : World} : CallsOK sg W0 console_Console_none.calls := trivial

theorem console_Console_none.e : ∀ (a1 : Option Ptr) (Q : Bool → Heap → Prop) (h : Heap), console_Console_none a1 Q h = pts (console_Console_none.E Q []) 3000 true [.code console_Console_none.code] (frOf 0 [.ptr a1]) h := by
  intros; kernel_rfl

theorem console_Console_none.S {W0 : World} : FnS sg W0 291 console_Console_none.C := by
  intro vs κ h wv hx w s
  unfold console_Console_none.C at hx
  split at hx
  · rename_i a1
    refine postImp (ret := console_Console_none.ret (fun r1 h => κ (.bool r1) h)) (fun v h hr => by unfold console_Console_none.ret at hr; split at hr; exact hr; exact hr.elim) ?_
    exact calls_of_pts (E := console_Console_none.E (fun r1 h => κ (.bool r1) h) []) (envOK seatOK console_Console_none.callsOK noIfc_ok) seatOK.mixed console_Console_none.fun (Nat.le_of_ble_eq_true rfl) wv (cutL_ok trivial) s (fuel := 3000) (by rw [← console_Console_none.e]; exact hx)
  · exact hx.elim

noncomputable def console_Console_Write.code : Code := Go.Proofs.Try.f37.body.getD .skip

theorem console_Console_Write.fun : Fun sg.P 37 40 [.tmp 4, .tmp 5] console_Console_Write.code := mkFun Go.Proofs.Try.func37 (by kernel_rfl) (by kernel_rfl) (by kernel_rfl) (by kernel_rfl)

def console_Console_Write.ret (Q : Int → Int → Heap → Prop) (v : V) (h : Heap) : Prop :=
  match v with
  | .tup [.int .i64 r1, .int .i64 r2] => Q r1 r2 h
  | _ => False

def console_Console_Write.C (vs : List V) (κ : V → Heap → Prop) (h : Heap) : Prop :=
  match vs with
  | [.ptr a1, .sl a2] => console_Console_Write a1 a2 (fun r1 r2 h => κ (.tup [.int .i64 r1, .int .i64 r2]) h) h
  | _ => False

noncomputable def console_Console_Write.calls : List (Nat × (List V → (V → Heap → Prop) → Heap → Prop)) := [(291, console_Console_none.C)]

noncomputable def console_Console_Write.E (Q : Int → Int → Heap → Prop) (cuts : List (Nat × (List Nat × (List V → Heap → Prop)))) : Env := { tis := tisT, fns := fnsT, tys := tysT, gls := [], rts := rtsT, unk := [], nxt := [], calls := console_Console_Write.calls, ifc := noIfc, cuts := cuts, ret := console_Console_Write.ret Q, rets := [.tmp 4, .tmp 5], n := 40 }

theorem console_Console_Write.callsOK {W0 : World} : CallsOK sg W0 console_Console_Write.calls := ⟨console_Console_none.S, trivial⟩

def console_Console_Write.k5 (I : (Option Ptr) → Int → Heap → Prop) (vs : List V) (h : Heap) : Prop :=
  match vs with
  | [.ptr a1, .int .i64 a2] => I a1 a2 h
  | _ => False

theorem console_Console_Write.p5 : (posC console_Console_Write.code []).filter (fun p => Nat.beq p.1 5) = [(5, atPos (posC console_Console_Write.code []) 5)] := by kernel_rfl

theorem console_Console_Write.e5 : ∀  (a1 : Option Ptr) (a2 : Int) (Q : Int → Int → Heap → Prop) (h : Heap), console_Console_Write.j5  a1 a2 Q h = pts (console_Console_Write.E Q []) 3000 true (atPos (posC console_Console_Write.code []) 5) (frAt [0, 6] [.ptr a1, .int .i64 a2]) h := by
  intros; kernel_rfl

theorem console_Console_Write.s5 {W0 : World} (Q : Int → Int → Heap → Prop)   : CutOK sg W0 40 (entered 37) (Post sg W0 (console_Console_Write.ret Q)) (posC console_Console_Write.code []) 5 [0, 6] (console_Console_Write.k5 (fun a1 a2 h => console_Console_Write.j5  a1 a2 Q h)) := by
  refine cutOK_head (fun vs h hk => ?_)
  unfold console_Console_Write.k5 at hk
  split at hk
  · rename_i a1 a2
    intro todo hm ρ a w s f hp
    exact piece (E := console_Console_Write.E Q []) (vs := [.ptr a1, .int .i64 a2]) (envOK seatOK console_Console_Write.callsOK noIfc_ok) (fnOK seatOK console_Console_Write.fun) trivial console_Console_Write.p5 (fuel := 3000) (by rw [← console_Console_Write.e5]; exact hk) hm s f hp
  · exact hk.elim

theorem console_Console_Write.e : ∀ (a1 : Option Ptr) (a2 : Sl) (Q : Int → Int → Heap → Prop) (h : Heap), console_Console_Write a1 a2 Q h = pts (console_Console_Write.E Q [(5, ([0, 6], console_Console_Write.k5 (fun a1 a2 h => console_Console_Write.j5  a1 a2 Q h)))]) 3000 true [.code console_Console_Write.code] (frOf 0 [.ptr a1, .sl a2]) h := by
  intros; kernel_rfl

theorem console_Console_Write.S {W0 : World} : FnS sg W0 292 console_Console_Write.C := by
  intro vs κ h wv hx w s
  unfold console_Console_Write.C at hx
  split at hx
  · rename_i a1 a2
    refine postImp (ret := console_Console_Write.ret (fun r1 r2 h => κ (.tup [.int .i64 r1, .int .i64 r2]) h)) (fun v h hr => by unfold console_Console_Write.ret at hr; split at hr; exact hr; exact hr.elim) ?_
    exact calls_of_pts (E := console_Console_Write.E (fun r1 r2 h => κ (.tup [.int .i64 r1, .int .i64 r2]) h) [(5, ([0, 6], console_Console_Write.k5 (fun a1 a2 h => console_Console_Write.j5  a1 a2 (fun r1 r2 h => κ (.tup [.int .i64 r1, .int .i64 r2]) h) h)))]) (envOK seatOK console_Console_Write.callsOK noIfc_ok) seatOK.mixed console_Console_Write.fun (Nat.le_of_ble_eq_true rfl) wv (cutL_ok ⟨(console_Console_Write.s5 (fun r1 r2 h => κ (.tup [.int .i64 r1, .int .i64 r2]) h)), trivial⟩) s (fuel := 3000) (by rw [← console_Console_Write.e]; exact hx)
  · exact hx.elim

noncomputable def slices_Delete_byte_byte.code : Code := Go.Proofs.Try.f53.body.getD .skip

theorem slices_Delete_byte_byte.fun : Fun sg.P 53 33 [.tmp 6] slices_Delete_byte_byte.code := mkFun Go.Proofs.Try.func53 (by kernel_rfl) (by kernel_rfl) (by kernel_rfl) (by kernel_rfl)

def slices_Delete_byte_byte.ret (Q : Sl → Heap → Prop) (v : V) (h : Heap) : Prop :=
  match v with
  | .sl r1 => Q r1 h
  | _ => False

def slices_Delete_byte_byte.C (vs : List V) (κ : V → Heap → Prop) (h : Heap) : Prop :=
  match vs with
  | [.sl a1, .int .i64 a2, .int .i64 a3] => slices_Delete_byte_byte a1 a2 a3 (fun r1 h => κ (.sl r1) h) h
  | _ => False

noncomputable def slices_Delete_byte_byte.calls : List (Nat × (List V → (V → Heap → Prop) → Heap → Prop)) := []

noncomputable def slices_Delete_byte_byte.E (Q : Sl → Heap → Prop) (cuts : List (Nat × (List Nat × (List V → Heap → Prop)))) : Env := { tis := tisT, fns := fnsT, tys := tysT, gls := [], rts := rtsT, unk := [], nxt := [], calls := slices_Delete_byte_byte.calls, ifc := noIfc, cuts := cuts, ret := slices_Delete_byte_byte.ret Q, rets := [.tmp 6], n := 33 }

theorem slices_Delete_byte_byte.callsOK {W0 : World} : CallsOK sg W0 slices_Delete_byte_byte.calls := trivial

def slices_Delete_byte_byte.k7 (I : Sl → Heap → Prop) (vs : List V) (h : Heap) : Prop :=
  match vs with
  | [.sl a1] => I a1 h
  | _ => False

theorem slices_Delete_byte_byte.p7 : (posC slices_Delete_byte_byte.code []).filter (fun p => Nat.beq p.1 7) = [(7, atPos (posC slices_Delete_byte_byte.code []) 7)] := by kernel_rfl

theorem slices_Delete_byte_byte.e7 : ∀  (a1 : Sl) (Q : Sl → Heap → Prop) (h : Heap), slices_Delete_byte_byte.j7  a1 Q h = pts (slices_Delete_byte_byte.E Q []) 3000 true (atPos (posC slices_Delete_byte_byte.code []) 7) (frAt [0] [.sl a1]) h := by
  intros; kernel_rfl

theorem slices_Delete_byte_byte.s7 {W0 : World} (Q : Sl → Heap → Prop)   : CutOK sg W0 33 (entered 53) (Post sg W0 (slices_Delete_byte_byte.ret Q)) (posC slices_Delete_byte_byte.code []) 7 [0] (slices_Delete_byte_byte.k7 (fun a1 h => slices_Delete_byte_byte.j7  a1 Q h)) := by
  refine cutOK_head (fun vs h hk => ?_)
  unfold slices_Delete_byte_byte.k7 at hk
  split at hk
  · rename_i a1
    intro todo hm ρ a w s f hp
    exact piece (E := slices_Delete_byte_byte.E Q []) (vs := [.sl a1]) (envOK seatOK slices_Delete_byte_byte.callsOK noIfc_ok) (fnOK seatOK slices_Delete_byte_byte.fun) trivial slices_Delete_byte_byte.p7 (fuel := 3000) (by rw [← slices_Delete_byte_byte.e7]; exact hk) hm s f hp
  · exact hk.elim

theorem slices_Delete_byte_byte.e : ∀ (a1 : Sl) (a2 : Int) (a3 : Int) (Q : Sl → Heap → Prop) (h : Heap), slices_Delete_byte_byte a1 a2 a3 Q h = pts (slices_Delete_byte_byte.E Q [(7, ([0], slices_Delete_byte_byte.k7 (fun a1 h => slices_Delete_byte_byte.j7  a1 Q h)))]) 3000 true [.code slices_Delete_byte_byte.code] (frOf 0 [.sl a1, .int .i64 a2, .int .i64 a3]) h := by
  intros; kernel_rfl

theorem slices_Delete_byte_byte.S {W0 : World} : FnS sg W0 293 slices_Delete_byte_byte.C := by
  intro vs κ h wv hx w s
  unfold slices_Delete_byte_byte.C at hx
  split at hx
  · rename_i a1 a2 a3
    refine postImp (ret := slices_Delete_byte_byte.ret (fun r1 h => κ (.sl r1) h)) (fun v h hr => by unfold slices_Delete_byte_byte.ret at hr; split at hr; exact hr; exact hr.elim) ?_
    exact calls_of_pts (E := slices_Delete_byte_byte.E (fun r1 h => κ (.sl r1) h) [(7, ([0], slices_Delete_byte_byte.k7 (fun a1 h => slices_Delete_byte_byte.j7  a1 (fun r1 h => κ (.sl r1) h) h)))]) (envOK seatOK slices_Delete_byte_byte.callsOK noIfc_ok) seatOK.mixed slices_Delete_byte_byte.fun (Nat.le_of_ble_eq_true rfl) wv (cutL_ok ⟨(slices_Delete_byte_byte.s7 (fun r1 h => κ (.sl r1) h)), trivial⟩) s (fuel := 3000) (by rw [← slices_Delete_byte_byte.e]; exact hx)
  · exact hx.elim

noncomputable def console_Console_Read.code : Code := Go.Proofs.Try.f38.body.getD .skip

theorem console_Console_Read.fun : Fun sg.P 38 47 [.tmp 4] console_Console_Read.code := mkFun Go.Proofs.Try.func38 (by kernel_rfl) (by kernel_rfl) (by kernel_rfl) (by kernel_rfl)

def console_Console_Read.ret (Q : Sl → Heap → Prop) (v : V) (h : Heap) : Prop :=
  match v with
  | .sl r1 => Q r1 h
  | _ => False

def console_Console_Read.C (vs : List V) (κ : V → Heap → Prop) (h : Heap) : Prop :=
  match vs with
  | [.ptr a1, .int .i64 a2] => console_Console_Read a1 a2 (fun r1 h => κ (.sl r1) h) h
  | _ => False

noncomputable def console_Console_Read.calls : List (Nat × (List V → (V → Heap → Prop) → Heap → Prop)) := [(291, console_Console_none.C), (293, slices_Delete_byte_byte.C)]

noncomputable def console_Console_Read.E (Q : Sl → Heap → Prop) (cuts : List (Nat × (List Nat × (List V → Heap → Prop)))) : Env := { tis := tisT, fns := fnsT, tys := tysT, gls := [], rts := rtsT, unk := [], nxt := [], calls := console_Console_Read.calls, ifc := noIfc, cuts := cuts, ret := console_Console_Read.ret Q, rets := [.tmp 4], n := 47 }

theorem console_Console_Read.callsOK {W0 : World} : CallsOK sg W0 console_Console_Read.calls := ⟨console_Console_none.S, slices_Delete_byte_byte.S, trivial⟩

def console_Console_Read.k2 (I : Heap → Prop) (vs : List V) (h : Heap) : Prop :=
  match vs with
  | [] => I  h
  | _ => False

def console_Console_Read.k6 (I : (Option Ptr) → Sl → Int → Heap → Prop) (vs : List V) (h : Heap) : Prop :=
  match vs with
  | [.ptr a1, .sl a2, .int .i64 a3] => I a1 a2 a3 h
  | _ => False

theorem console_Console_Read.p2 : (posC console_Console_Read.code []).filter (fun p => Nat.beq p.1 2) = [(2, atPos (posC console_Console_Read.code []) 2)] := by kernel_rfl

theorem console_Console_Read.e2 : ∀   (Q : Sl → Heap → Prop) (h : Heap), console_Console_Read.j2   Q h = pts (console_Console_Read.E Q []) 3000 true (atPos (posC console_Console_Read.code []) 2) (frAt [] []) h := by
  intros; kernel_rfl

theorem console_Console_Read.s2 {W0 : World} (Q : Sl → Heap → Prop)   : CutOK sg W0 47 (entered 38) (Post sg W0 (console_Console_Read.ret Q)) (posC console_Console_Read.code []) 2 [] (console_Console_Read.k2 (fun  h => console_Console_Read.j2   Q h)) := by
  refine cutOK_head (fun vs h hk => ?_)
  unfold console_Console_Read.k2 at hk
  split at hk
  · skip
    intro todo hm ρ a w s f hp
    exact piece (E := console_Console_Read.E Q []) (vs := []) (envOK seatOK console_Console_Read.callsOK noIfc_ok) (fnOK seatOK console_Console_Read.fun) trivial console_Console_Read.p2 (fuel := 3000) (by rw [← console_Console_Read.e2]; exact hk) hm s f hp
  · exact hk.elim

theorem console_Console_Read.p6 : (posC console_Console_Read.code []).filter (fun p => Nat.beq p.1 6) = [(6, atPos (posC console_Console_Read.code []) 6)] := by kernel_rfl

theorem console_Console_Read.e6 : ∀  (a1 : Option Ptr) (a2 : Sl) (a3 : Int) (Q : Sl → Heap → Prop) (h : Heap), console_Console_Read.j6  a1 a2 a3 Q h = pts (console_Console_Read.E Q []) 3000 true (atPos (posC console_Console_Read.code []) 6) (frAt [0, 5, 6] [.ptr a1, .sl a2, .int .i64 a3]) h := by
  intros; kernel_rfl

theorem console_Console_Read.s6 {W0 : World} (Q : Sl → Heap → Prop)   : CutOK sg W0 47 (entered 38) (Post sg W0 (console_Console_Read.ret Q)) (posC console_Console_Read.code []) 6 [0, 5, 6] (console_Console_Read.k6 (fun a1 a2 a3 h => console_Console_Read.j6  a1 a2 a3 Q h)) := by
  refine cutOK_head (fun vs h hk => ?_)
  unfold console_Console_Read.k6 at hk
  split at hk
  · rename_i a1 a2 a3
    intro todo hm ρ a w s f hp
    exact piece (E := console_Console_Read.E Q []) (vs := [.ptr a1, .sl a2, .int .i64 a3]) (envOK seatOK console_Console_Read.callsOK noIfc_ok) (fnOK seatOK console_Console_Read.fun) trivial console_Console_Read.p6 (fuel := 3000) (by rw [← console_Console_Read.e6]; exact hk) hm s f hp
  · exact hk.elim

theorem console_Console_Read.e : ∀ (a1 : Option Ptr) (a2 : Int) (Q : Sl → Heap → Prop) (h : Heap), console_Console_Read a1 a2 Q h = pts (console_Console_Read.E Q [(2, ([], console_Console_Read.k2 (fun  h => console_Console_Read.j2   Q h))), (6, ([0, 5, 6], console_Console_Read.k6 (fun a1 a2 a3 h => console_Console_Read.j6  a1 a2 a3 Q h)))]) 3000 true [.code console_Console_Read.code] (frOf 0 [.ptr a1, .int .i64 a2]) h := by
  intros; kernel_rfl

theorem console_Console_Read.S {W0 : World} : FnS sg W0 294 console_Console_Read.C := by
  intro vs κ h wv hx w s
  unfold console_Console_Read.C at hx
  split at hx
  · rename_i a1 a2
    refine postImp (ret := console_Console_Read.ret (fun r1 h => κ (.sl r1) h)) (fun v h hr => by unfold console_Console_Read.ret at hr; split at hr; exact hr; exact hr.elim) ?_
    exact calls_of_pts (E := console_Console_Read.E (fun r1 h => κ (.sl r1) h) [(2, ([], console_Console_Read.k2 (fun  h => console_Console_Read.j2   (fun r1 h => κ (.sl r1) h) h))), (6, ([0, 5, 6], console_Console_Read.k6 (fun a1 a2 a3 h => console_Console_Read.j6  a1 a2 a3 (fun r1 h => κ (.sl r1) h) h)))]) (envOK seatOK console_Console_Read.callsOK noIfc_ok) seatOK.mixed console_Console_Read.fun (Nat.le_of_ble_eq_true rfl) wv (cutL_ok ⟨(console_Console_Read.s2 (fun r1 h => κ (.sl r1) h)), (console_Console_Read.s6 (fun r1 h => κ (.sl r1) h)), trivial⟩) s (fuel := 3000) (by rw [← console_Console_Read.e]; exact hx)
  · exact hx.elim

noncomputable def backend_Tty_Kick_c1.code : Code := Go.Proofs.Try.f36.body.getD .skip

theorem backend_Tty_Kick_c1.fun : Fun sg.P 36 48 [.tmp 4] backend_Tty_Kick_c1.code := mkFun Go.Proofs.Try.func36 (by kernel_rfl) (by kernel_rfl) (by kernel_rfl) (by kernel_rfl)

def backend_Tty_Kick_c1.ret (Q : Int → Heap → Prop) (v : V) (h : Heap) : Prop :=
  match v with
  | .int .i64 r1 => Q r1 h
  | _ => False

def backend_Tty_Kick_c1.C (U : Ifc) (vs : List V) (κ : V → Heap → Prop) (h : Heap) : Prop :=
  match vs with
  | [.agg [.int .i64 a1, .sl a2], .ptr (some a3), .ptr (some a4)] => backend_Tty_Kick_c1 U a1 a2 a3 a4 (fun r1 h => κ (.int .i64 r1) h) h
  | _ => False

noncomputable def backend_Tty_Kick_c1.calls (U : Ifc) : List (Nat × (List V → (V → Heap → Prop) → Heap → Prop)) := [(287, backend_gather.C U), (292, console_Console_Write.C), (294, console_Console_Read.C)]

noncomputable def backend_Tty_Kick_c1.E (U : Ifc) (Q : Int → Heap → Prop) (cuts : List (Nat × (List Nat × (List V → Heap → Prop)))) : Env := { tis := tisT, fns := fnsT, tys := tysT, gls := glsT, rts := rtsT, unk := [], nxt := [], calls := backend_Tty_Kick_c1.calls U, ifc := U, cuts := cuts, ret := backend_Tty_Kick_c1.ret Q, rets := [.tmp 4], n := 48 }

theorem backend_Tty_Kick_c1.callsOK {W0 : World} {U : Ifc} (hU : IfcOK sg W0 glsT U) : CallsOK sg W0 (backend_Tty_Kick_c1.calls U) := ⟨(backend_gather.S hU), console_Console_Write.S, console_Console_Read.S, trivial⟩

def backend_Tty_Kick_c1.k6 (I : Ptr → Ptr → Int → Sl → Int → Int → Heap → Prop) (vs : List V) (h : Heap) : Prop :=
  match vs with
  | [.ptr (some a1), .ptr (some a2), .int .i64 a3, .sl a4, .int .i64 a5, .int .i64 a6] => I a1 a2 a3 a4 a5 a6 h
  | _ => False

def backend_Tty_Kick_c1.k4 (I : Ptr → Ptr → Ptr → Heap → Prop) (vs : List V) (h : Heap) : Prop :=
  match vs with
  | [.ptr (some a1), .ptr (some a2), .ptr (some a3)] => I a1 a2 a3 h
  | _ => False

theorem backend_Tty_Kick_c1.p6 : (posC backend_Tty_Kick_c1.code []).filter (fun p => Nat.beq p.1 6) = [(6, atPos (posC backend_Tty_Kick_c1.code []) 6)] := by kernel_rfl

theorem backend_Tty_Kick_c1.e6 : ∀ (U : Ifc)  (I6 : Ptr → Ptr → Int → Sl → Int → Int → Heap → Prop) (a1 : Ptr) (a2 : Ptr) (a3 : Int) (a4 : Sl) (a5 : Int) (a6 : Int) (Q : Int → Heap → Prop) (h : Heap), backend_Tty_Kick_c1.b6 U  I6 a1 a2 a3 a4 a5 a6 Q h = pts (backend_Tty_Kick_c1.E U Q [(6, ([1, 2, 7, 24, 25, 26], backend_Tty_Kick_c1.k6 I6))]) 3000 true (atPos (posC backend_Tty_Kick_c1.code []) 6) (frAt [1, 2, 7, 24, 25, 26] [.ptr (some a1), .ptr (some a2), .int .i64 a3, .sl a4, .int .i64 a5, .int .i64 a6]) h := by
  intros; kernel_rfl

theorem backend_Tty_Kick_c1.s6 {W0 : World} {U : Ifc} (hU : IfcOK sg W0 glsT U) (Q : Int → Heap → Prop)   : CutOK sg W0 48 (entered 36) (Post sg W0 (backend_Tty_Kick_c1.ret Q)) (posC backend_Tty_Kick_c1.code []) 6 [1, 2, 7, 24, 25, 26] (backend_Tty_Kick_c1.k6 (fun a1 a2 a3 a4 a5 a6 h => backend_Tty_Kick_c1.j6 U  a1 a2 a3 a4 a5 a6 Q h)) := by
  refine cutOK_head (fun vs h hk => ?_)
  unfold backend_Tty_Kick_c1.k6 at hk
  split at hk
  · rename_i a1 a2 a3 a4 a5 a6
    refine hk (fun a1 a2 a3 a4 a5 a6 h => Head sg W0 48 (entered 36) (Post sg W0 (backend_Tty_Kick_c1.ret Q)) (posC backend_Tty_Kick_c1.code []) 6 [1, 2, 7, 24, 25, 26] [.ptr (some a1), .ptr (some a2), .int .i64 a3, .sl a4, .int .i64 a5, .int .i64 a6] h) ?_
    intro a1 a2 a3 a4 a5 a6 h hb todo hm ρ a w s f hp
    have hself : CutOK sg W0 48 (entered 36) (Post sg W0 (backend_Tty_Kick_c1.ret Q)) (posC backend_Tty_Kick_c1.code []) 6 [1, 2, 7, 24, 25, 26] (backend_Tty_Kick_c1.k6 (fun a1 a2 a3 a4 a5 a6 h => Head sg W0 48 (entered 36) (Post sg W0 (backend_Tty_Kick_c1.ret Q)) (posC backend_Tty_Kick_c1.code []) 6 [1, 2, 7, 24, 25, 26] [.ptr (some a1), .ptr (some a2), .int .i64 a3, .sl a4, .int .i64 a5, .int .i64 a6] h)) := cutOK_head (fun vs h hk => by unfold backend_Tty_Kick_c1.k6 at hk; split at hk; exact hk; exact hk.elim)
    exact piece (E := backend_Tty_Kick_c1.E U Q [(6, ([1, 2, 7, 24, 25, 26], backend_Tty_Kick_c1.k6 (fun a1 a2 a3 a4 a5 a6 h => Head sg W0 48 (entered 36) (Post sg W0 (backend_Tty_Kick_c1.ret Q)) (posC backend_Tty_Kick_c1.code []) 6 [1, 2, 7, 24, 25, 26] [.ptr (some a1), .ptr (some a2), .int .i64 a3, .sl a4, .int .i64 a5, .int .i64 a6] h)))]) (vs := [.ptr (some a1), .ptr (some a2), .int .i64 a3, .sl a4, .int .i64 a5, .int .i64 a6]) (envOK seatOK (backend_Tty_Kick_c1.callsOK hU) hU) (fnOK seatOK backend_Tty_Kick_c1.fun) ⟨hself, trivial⟩ backend_Tty_Kick_c1.p6 (fuel := 3000) (by rw [← backend_Tty_Kick_c1.e6]; exact hb) hm s f hp
  · exact hk.elim

theorem backend_Tty_Kick_c1.p4 : (posC backend_Tty_Kick_c1.code []).filter (fun p => Nat.beq p.1 4) = [(4, atPos (posC backend_Tty_Kick_c1.code []) 4)] := by kernel_rfl

theorem backend_Tty_Kick_c1.e4 : ∀ (U : Ifc)  (a1 : Ptr) (a2 : Ptr) (a3 : Ptr) (Q : Int → Heap → Prop) (h : Heap), backend_Tty_Kick_c1.j4 U  a1 a2 a3 Q h = pts (backend_Tty_Kick_c1.E U Q [(6, ([1, 2, 7, 24, 25, 26], backend_Tty_Kick_c1.k6 (fun a1 a2 a3 a4 a5 a6 h => backend_Tty_Kick_c1.j6 U  a1 a2 a3 a4 a5 a6 Q h)))]) 3000 true (atPos (posC backend_Tty_Kick_c1.code []) 4) (frAt [1, 2, 3] [.ptr (some a1), .ptr (some a2), .ptr (some a3)]) h := by
  intros; kernel_rfl

theorem backend_Tty_Kick_c1.s4 {W0 : World} {U : Ifc} (hU : IfcOK sg W0 glsT U) (Q : Int → Heap → Prop)   : CutOK sg W0 48 (entered 36) (Post sg W0 (backend_Tty_Kick_c1.ret Q)) (posC backend_Tty_Kick_c1.code []) 4 [1, 2, 3] (backend_Tty_Kick_c1.k4 (fun a1 a2 a3 h => backend_Tty_Kick_c1.j4 U  a1 a2 a3 Q h)) := by
  refine cutOK_head (fun vs h hk => ?_)
  unfold backend_Tty_Kick_c1.k4 at hk
  split at hk
  · rename_i a1 a2 a3
    intro todo hm ρ a w s f hp
    exact piece (E := backend_Tty_Kick_c1.E U Q [(6, ([1, 2, 7, 24, 25, 26], backend_Tty_Kick_c1.k6 (fun a1 a2 a3 a4 a5 a6 h => backend_Tty_Kick_c1.j6 U  a1 a2 a3 a4 a5 a6 Q h)))]) (vs := [.ptr (some a1), .ptr (some a2), .ptr (some a3)]) (envOK seatOK (backend_Tty_Kick_c1.callsOK hU) hU) (fnOK seatOK backend_Tty_Kick_c1.fun) ⟨(backend_Tty_Kick_c1.s6 hU Q  ), trivial⟩ backend_Tty_Kick_c1.p4 (fuel := 3000) (by rw [← backend_Tty_Kick_c1.e4]; exact hk) hm s f hp
  · exact hk.elim

theorem backend_Tty_Kick_c1.e : ∀ (U : Ifc) (a1 : Int) (a2 : Sl) (a3 : Ptr) (a4 : Ptr) (Q : Int → Heap → Prop) (h : Heap), backend_Tty_Kick_c1 U a1 a2 a3 a4 Q h = pts (backend_Tty_Kick_c1.E U Q [(4, ([1, 2, 3], backend_Tty_Kick_c1.k4 (fun a1 a2 a3 h => backend_Tty_Kick_c1.j4 U  a1 a2 a3 Q h)))]) 3000 true [.code backend_Tty_Kick_c1.code] (frOf 0 [.agg [.int .i64 a1, .sl a2], .ptr (some a3), .ptr (some a4)]) h := by
  intros; kernel_rfl

theorem backend_Tty_Kick_c1.S {W0 : World} {U : Ifc} (hU : IfcOK sg W0 glsT U) : FnS sg W0 258 (backend_Tty_Kick_c1.C U) := by
  intro vs κ h wv hx w s
  unfold backend_Tty_Kick_c1.C at hx
  split at hx
  · rename_i a1 a2 a3 a4
    refine postImp (ret := backend_Tty_Kick_c1.ret (fun r1 h => κ (.int .i64 r1) h)) (fun v h hr => by unfold backend_Tty_Kick_c1.ret at hr; split at hr; exact hr; exact hr.elim) ?_
    exact calls_of_pts (E := backend_Tty_Kick_c1.E U (fun r1 h => κ (.int .i64 r1) h) [(4, ([1, 2, 3], backend_Tty_Kick_c1.k4 (fun a1 a2 a3 h => backend_Tty_Kick_c1.j4 U  a1 a2 a3 (fun r1 h => κ (.int .i64 r1) h) h)))]) (envOK seatOK (backend_Tty_Kick_c1.callsOK hU) hU) seatOK.mixed backend_Tty_Kick_c1.fun (Nat.le_of_ble_eq_true rfl) wv (cutL_ok ⟨(backend_Tty_Kick_c1.s4 hU (fun r1 h => κ (.int .i64 r1) h)), trivial⟩) s (fuel := 3000) (by rw [← backend_Tty_Kick_c1.e]; exact hx)
  · exact hx.elim

noncomputable def disk_Disk_Submit_c1.code : Code := Go.Proofs.Try.f60.body.getD .skip

theorem disk_Disk_Submit_c1.fun : Fun sg.P 60 9 [.tmp 3] disk_Disk_Submit_c1.code := mkFun Go.Proofs.Try.func60 (by kernel_rfl) (by kernel_rfl) (by kernel_rfl) (by kernel_rfl)

def disk_Disk_Submit_c1.ret (Q : Bool → Heap → Prop) (v : V) (h : Heap) : Prop :=
  match v with
  | .bool r1 => Q r1 h
  | _ => False

def disk_Disk_Submit_c1.C (vs : List V) (κ : V → Heap → Prop) (h : Heap) : Prop :=
  match vs with
  | [.agg [.int .i64 a1, .bool a2, .int .i64 a3, .int .i64 a4], .ptr (some a5)] => disk_Disk_Submit_c1 a1 a2 a3 a4 a5 (fun r1 h => κ (.bool r1) h) h
  | _ => False

noncomputable def disk_Disk_Submit_c1.calls : List (Nat × (List V → (V → Heap → Prop) → Heap → Prop)) := []

noncomputable def disk_Disk_Submit_c1.E (Q : Bool → Heap → Prop) (cuts : List (Nat × (List Nat × (List V → Heap → Prop)))) : Env := { tis := tisT, fns := fnsT, tys := tysT, gls := [], rts := rtsT, unk := [], nxt := [], calls := disk_Disk_Submit_c1.calls, ifc := noIfc, cuts := cuts, ret := disk_Disk_Submit_c1.ret Q, rets := [.tmp 3], n := 9 }

theorem disk_Disk_Submit_c1.callsOK {W0 : World} : CallsOK sg W0 disk_Disk_Submit_c1.calls := trivial

theorem disk_Disk_Submit_c1.e : ∀ (a1 : Int) (a2 : Bool) (a3 : Int) (a4 : Int) (a5 : Ptr) (Q : Bool → Heap → Prop) (h : Heap), disk_Disk_Submit_c1 a1 a2 a3 a4 a5 Q h = pts (disk_Disk_Submit_c1.E Q []) 3000 true [.code disk_Disk_Submit_c1.code] (frOf 0 [.agg [.int .i64 a1, .bool a2, .int .i64 a3, .int .i64 a4], .ptr (some a5)]) h := by
  intros; kernel_rfl

theorem disk_Disk_Submit_c1.S {W0 : World} : FnS sg W0 3 disk_Disk_Submit_c1.C := by
  intro vs κ h wv hx w s
  unfold disk_Disk_Submit_c1.C at hx
  split at hx
  · rename_i a1 a2 a3 a4 a5
    refine postImp (ret := disk_Disk_Submit_c1.ret (fun r1 h => κ (.bool r1) h)) (fun v h hr => by unfold disk_Disk_Submit_c1.ret at hr; split at hr; exact hr; exact hr.elim) ?_
    exact calls_of_pts (E := disk_Disk_Submit_c1.E (fun r1 h => κ (.bool r1) h) []) (envOK seatOK disk_Disk_Submit_c1.callsOK noIfc_ok) seatOK.mixed disk_Disk_Submit_c1.fun (Nat.le_of_ble_eq_true rfl) wv (cutL_ok trivial) s (fuel := 3000) (by rw [← disk_Disk_Submit_c1.e]; exact hx)
  · exact hx.elim

noncomputable def mem_Memory_none.code : Code := Go.Proofs.Try.f100.body.getD .skip

theorem mem_Memory_none.fun : Fun sg.P 100 12 [.tmp 2] mem_Memory_none.code := mkFun Go.Proofs.Try.func100 (by kernel_rfl) (by kernel_rfl) (by kernel_rfl) (by kernel_rfl)

def mem_Memory_none.ret (Q : Bool → Heap → Prop) (v : V) (h : Heap) : Prop :=
  match v with
  | .bool r1 => Q r1 h
  | _ => False

def mem_Memory_none.C (vs : List V) (κ : V → Heap → Prop) (h : Heap) : Prop :=
  match vs with
  | [.ptr a1] => mem_Memory_none a1 (fun r1 h => κ (.bool r1) h) h
  | _ => False

noncomputable def mem_Memory_none.calls : List (Nat × (List V → (V → Heap → Prop) → Heap → Prop)) := []

noncomputable def mem_Memory_none.E (Q : Bool → Heap → Prop) (cuts : List (Nat × (List Nat × (List V → Heap → Prop)))) : Env := { tis := tisT, fns := fnsT, tys := tysT, gls := [], rts := rtsT, unk := [], nxt := [], calls := mem_Memory_none.calls, ifc := noIfc, cuts := cuts, ret := mem_Memory_none.ret Q, rets := [.tmp 2], n := 12 }

theorem mem_Memory_none.callsOK {W0 : World} : CallsOK sg W0 mem_Memory_none.calls := trivial

theorem mem_Memory_none.e : ∀ (a1 : Option Ptr) (Q : Bool → Heap → Prop) (h : Heap), mem_Memory_none a1 Q h = pts (mem_Memory_none.E Q []) 3000 true [.code mem_Memory_none.code] (frOf 0 [.ptr a1]) h := by
  intros; kernel_rfl

theorem mem_Memory_none.S {W0 : World} : FnS sg W0 31 mem_Memory_none.C := by
  intro vs κ h wv hx w s
  unfold mem_Memory_none.C at hx
  split at hx
  · rename_i a1
    refine postImp (ret := mem_Memory_none.ret (fun r1 h => κ (.bool r1) h)) (fun v h hr => by unfold mem_Memory_none.ret at hr; split at hr; exact hr; exact hr.elim) ?_
    exact calls_of_pts (E := mem_Memory_none.E (fun r1 h => κ (.bool r1) h) []) (envOK seatOK mem_Memory_none.callsOK noIfc_ok) seatOK.mixed mem_Memory_none.fun (Nat.le_of_ble_eq_true rfl) wv (cutL_ok trivial) s (fuel := 3000) (by rw [← mem_Memory_none.e]; exact hx)
  · exact hx.elim

noncomputable def mem_Memory_part_c1.code : Code := Go.Proofs.Try.f99.body.getD .skip

theorem mem_Memory_part_c1.fun : Fun sg.P 99 23 [.tmp 3] mem_Memory_part_c1.code := mkFun Go.Proofs.Try.func99 (by kernel_rfl) (by kernel_rfl) (by kernel_rfl) (by kernel_rfl)

def mem_Memory_part_c1.ret (Q : Bool → Heap → Prop) (v : V) (h : Heap) : Prop :=
  match v with
  | .bool r1 => Q r1 h
  | _ => False

def mem_Memory_part_c1.C (vs : List V) (κ : V → Heap → Prop) (h : Heap) : Prop :=
  match vs with
  | [.ptr (some a1), .ptr (some a2), .ptr (some a3)] => mem_Memory_part_c1 a1 a2 a3 (fun r1 h => κ (.bool r1) h) h
  | _ => False

noncomputable def mem_Memory_part_c1.calls : List (Nat × (List V → (V → Heap → Prop) → Heap → Prop)) := []

noncomputable def mem_Memory_part_c1.E (Q : Bool → Heap → Prop) (cuts : List (Nat × (List Nat × (List V → Heap → Prop)))) : Env := { tis := tisT, fns := fnsT, tys := tysT, gls := [], rts := rtsT, unk := [], nxt := [], calls := mem_Memory_part_c1.calls, ifc := noIfc, cuts := cuts, ret := mem_Memory_part_c1.ret Q, rets := [.tmp 3], n := 23 }

theorem mem_Memory_part_c1.callsOK {W0 : World} : CallsOK sg W0 mem_Memory_part_c1.calls := trivial

theorem mem_Memory_part_c1.e : ∀ (a1 : Ptr) (a2 : Ptr) (a3 : Ptr) (Q : Bool → Heap → Prop) (h : Heap), mem_Memory_part_c1 a1 a2 a3 Q h = pts (mem_Memory_part_c1.E Q []) 3000 true [.code mem_Memory_part_c1.code] (frOf 0 [.ptr (some a1), .ptr (some a2), .ptr (some a3)]) h := by
  intros; kernel_rfl

theorem mem_Memory_part_c1.S {W0 : World} : FnS sg W0 2 mem_Memory_part_c1.C := by
  intro vs κ h wv hx w s
  unfold mem_Memory_part_c1.C at hx
  split at hx
  · rename_i a1 a2 a3
    refine postImp (ret := mem_Memory_part_c1.ret (fun r1 h => κ (.bool r1) h)) (fun v h hr => by unfold mem_Memory_part_c1.ret at hr; split at hr; exact hr; exact hr.elim) ?_
    exact calls_of_pts (E := mem_Memory_part_c1.E (fun r1 h => κ (.bool r1) h) []) (envOK seatOK mem_Memory_part_c1.callsOK noIfc_ok) seatOK.mixed mem_Memory_part_c1.fun (Nat.le_of_ble_eq_true rfl) wv (cutL_ok trivial) s (fuel := 3000) (by rw [← mem_Memory_part_c1.e]; exact hx)
  · exact hx.elim

noncomputable def mem_Memory_part.code : Code := Go.Proofs.Try.f94.body.getD .skip

theorem mem_Memory_part.fun : Fun sg.P 94 33 [.tmp 6, .tmp 7] mem_Memory_part.code := mkFun Go.Proofs.Try.func94 (by kernel_rfl) (by kernel_rfl) (by kernel_rfl) (by kernel_rfl)

def mem_Memory_part.ret (Q : Sl → Int → Heap → Prop) (v : V) (h : Heap) : Prop :=
  match v with
  | .tup [.sl r1, .int .i64 r2] => Q r1 r2 h
  | _ => False

def mem_Memory_part.C (vs : List V) (κ : V → Heap → Prop) (h : Heap) : Prop :=
  match vs with
  | [.ptr a1, .int .u64 a2, .int .i64 a3] => mem_Memory_part a1 a2 a3 (fun r1 r2 h => κ (.tup [.sl r1, .int .i64 r2]) h) h
  | _ => False

noncomputable def mem_Memory_part.calls : List (Nat × (List V → (V → Heap → Prop) → Heap → Prop)) := [(2, mem_Memory_part_c1.C), (31, mem_Memory_none.C)]

noncomputable def mem_Memory_part.E (Q : Sl → Int → Heap → Prop) (cuts : List (Nat × (List Nat × (List V → Heap → Prop)))) : Env := { tis := tisT, fns := fnsT, tys := tysT, gls := [], rts := rtsT, unk := [], nxt := [], calls := mem_Memory_part.calls, ifc := noIfc, cuts := cuts, ret := mem_Memory_part.ret Q, rets := [.tmp 6, .tmp 7], n := 33 }

theorem mem_Memory_part.callsOK {W0 : World} : CallsOK sg W0 mem_Memory_part.calls := ⟨mem_Memory_part_c1.S, mem_Memory_none.S, trivial⟩

theorem mem_Memory_part.e : ∀ (a1 : Option Ptr) (a2 : Int) (a3 : Int) (Q : Sl → Int → Heap → Prop) (h : Heap), mem_Memory_part a1 a2 a3 Q h = pts (mem_Memory_part.E Q []) 3000 true [.code mem_Memory_part.code] (frOf 0 [.ptr a1, .int .u64 a2, .int .i64 a3]) h := by
  intros; kernel_rfl

theorem mem_Memory_part.S {W0 : World} : FnS sg W0 32 mem_Memory_part.C := by
  intro vs κ h wv hx w s
  unfold mem_Memory_part.C at hx
  split at hx
  · rename_i a1 a2 a3
    refine postImp (ret := mem_Memory_part.ret (fun r1 r2 h => κ (.tup [.sl r1, .int .i64 r2]) h)) (fun v h hr => by unfold mem_Memory_part.ret at hr; split at hr; exact hr; exact hr.elim) ?_
    exact calls_of_pts (E := mem_Memory_part.E (fun r1 r2 h => κ (.tup [.sl r1, .int .i64 r2]) h) []) (envOK seatOK mem_Memory_part.callsOK noIfc_ok) seatOK.mixed mem_Memory_part.fun (Nat.le_of_ble_eq_true rfl) wv (cutL_ok trivial) s (fuel := 3000) (by rw [← mem_Memory_part.e]; exact hx)
  · exact hx.elim

noncomputable def bytes_Clone.code : Code := Go.Proofs.Try.f95.body.getD .skip

theorem bytes_Clone.fun : Fun sg.P 95 8 [.tmp 2] bytes_Clone.code := mkFun Go.Proofs.Try.func95 (by kernel_rfl) (by kernel_rfl) (by kernel_rfl) (by kernel_rfl)

def bytes_Clone.ret (Q : Sl → Heap → Prop) (v : V) (h : Heap) : Prop :=
  match v with
  | .sl r1 => Q r1 h
  | _ => False

def bytes_Clone.C (vs : List V) (κ : V → Heap → Prop) (h : Heap) : Prop :=
  match vs with
  | [.sl a1] => bytes_Clone a1 (fun r1 h => κ (.sl r1) h) h
  | _ => False

noncomputable def bytes_Clone.calls : List (Nat × (List V → (V → Heap → Prop) → Heap → Prop)) := []

noncomputable def bytes_Clone.E (Q : Sl → Heap → Prop) (cuts : List (Nat × (List Nat × (List V → Heap → Prop)))) : Env := { tis := tisT, fns := fnsT, tys := tysT, gls := [], rts := rtsT, unk := [], nxt := [], calls := bytes_Clone.calls, ifc := noIfc, cuts := cuts, ret := bytes_Clone.ret Q, rets := [.tmp 2], n := 8 }

theorem bytes_Clone.callsOK {W0 : World} : CallsOK sg W0 bytes_Clone.calls := trivial

theorem bytes_Clone.e : ∀ (a1 : Sl) (Q : Sl → Heap → Prop) (h : Heap), bytes_Clone a1 Q h = pts (bytes_Clone.E Q []) 3000 true [.code bytes_Clone.code] (frOf 0 [.sl a1]) h := by
  intros; kernel_rfl

theorem bytes_Clone.S {W0 : World} : FnS sg W0 39 bytes_Clone.C := by
  intro vs κ h wv hx w s
  unfold bytes_Clone.C at hx
  split at hx
  · rename_i a1
    refine postImp (ret := bytes_Clone.ret (fun r1 h => κ (.sl r1) h)) (fun v h hr => by unfold bytes_Clone.ret at hr; split at hr; exact hr; exact hr.elim) ?_
    exact calls_of_pts (E := bytes_Clone.E (fun r1 h => κ (.sl r1) h) []) (envOK seatOK bytes_Clone.callsOK noIfc_ok) seatOK.mixed bytes_Clone.fun (Nat.le_of_ble_eq_true rfl) wv (cutL_ok trivial) s (fuel := 3000) (by rw [← bytes_Clone.e]; exact hx)
  · exact hx.elim

noncomputable def mem_Memory_Bytes.code : Code := Go.Proofs.Try.f90.body.getD .skip

theorem mem_Memory_Bytes.fun : Fun sg.P 90 20 [.tmp 6, .tmp 7] mem_Memory_Bytes.code := mkFun Go.Proofs.Try.func90 (by kernel_rfl) (by kernel_rfl) (by kernel_rfl) (by kernel_rfl)

def mem_Memory_Bytes.ret (Q : Sl → Int → Heap → Prop) (v : V) (h : Heap) : Prop :=
  match v with
  | .tup [.sl r1, .int .i64 r2] => Q r1 r2 h
  | _ => False

def mem_Memory_Bytes.C (vs : List V) (κ : V → Heap → Prop) (h : Heap) : Prop :=
  match vs with
  | [.ptr a1, .int .u64 a2, .int .i64 a3] => mem_Memory_Bytes a1 a2 a3 (fun r1 r2 h => κ (.tup [.sl r1, .int .i64 r2]) h) h
  | _ => False

noncomputable def mem_Memory_Bytes.calls : List (Nat × (List V → (V → Heap → Prop) → Heap → Prop)) := [(32, mem_Memory_part.C), (39, bytes_Clone.C)]

noncomputable def mem_Memory_Bytes.E (Q : Sl → Int → Heap → Prop) (cuts : List (Nat × (List Nat × (List V → Heap → Prop)))) : Env := { tis := tisT, fns := fnsT, tys := tysT, gls := [], rts := rtsT, unk := [], nxt := [], calls := mem_Memory_Bytes.calls, ifc := noIfc, cuts := cuts, ret := mem_Memory_Bytes.ret Q, rets := [.tmp 6, .tmp 7], n := 20 }

theorem mem_Memory_Bytes.callsOK {W0 : World} : CallsOK sg W0 mem_Memory_Bytes.calls := ⟨mem_Memory_part.S, bytes_Clone.S, trivial⟩

theorem mem_Memory_Bytes.e : ∀ (a1 : Option Ptr) (a2 : Int) (a3 : Int) (Q : Sl → Int → Heap → Prop) (h : Heap), mem_Memory_Bytes a1 a2 a3 Q h = pts (mem_Memory_Bytes.E Q []) 3000 true [.code mem_Memory_Bytes.code] (frOf 0 [.ptr a1, .int .u64 a2, .int .i64 a3]) h := by
  intros; kernel_rfl

theorem mem_Memory_Bytes.S {W0 : World} : FnS sg W0 40 mem_Memory_Bytes.C := by
  intro vs κ h wv hx w s
  unfold mem_Memory_Bytes.C at hx
  split at hx
  · rename_i a1 a2 a3
    refine postImp (ret := mem_Memory_Bytes.ret (fun r1 r2 h => κ (.tup [.sl r1, .int .i64 r2]) h)) (fun v h hr => by unfold mem_Memory_Bytes.ret at hr; split at hr; exact hr; exact hr.elim) ?_
    exact calls_of_pts (E := mem_Memory_Bytes.E (fun r1 r2 h => κ (.tup [.sl r1, .int .i64 r2]) h) []) (envOK seatOK mem_Memory_Bytes.callsOK noIfc_ok) seatOK.mixed mem_Memory_Bytes.fun (Nat.le_of_ble_eq_true rfl) wv (cutL_ok trivial) s (fuel := 3000) (by rw [← mem_Memory_Bytes.e]; exact hx)
  · exact hx.elim

noncomputable def palisadelaw24_Flat_Bytes.code : Code := Go.Proofs.Try.f85.body.getD .skip

theorem palisadelaw24_Flat_Bytes.fun : Fun sg.P 85 49 [.tmp 6, .tmp 7] palisadelaw24_Flat_Bytes.code := mkFun Go.Proofs.Try.func85 (by kernel_rfl) (by kernel_rfl) (by kernel_rfl) (by kernel_rfl)

def palisadelaw24_Flat_Bytes.ret (Q : Sl → Int → Heap → Prop) (v : V) (h : Heap) : Prop :=
  match v with
  | .tup [.sl r1, .int .i64 r2] => Q r1 r2 h
  | _ => False

def palisadelaw24_Flat_Bytes.C (vs : List V) (κ : V → Heap → Prop) (h : Heap) : Prop :=
  match vs with
  | [.ptr a1, .int .u64 a2, .int .i64 a3] => palisadelaw24_Flat_Bytes a1 a2 a3 (fun r1 r2 h => κ (.tup [.sl r1, .int .i64 r2]) h) h
  | _ => False

noncomputable def palisadelaw24_Flat_Bytes.calls : List (Nat × (List V → (V → Heap → Prop) → Heap → Prop)) := [(40, mem_Memory_Bytes.C)]

noncomputable def palisadelaw24_Flat_Bytes.E (Q : Sl → Int → Heap → Prop) (cuts : List (Nat × (List Nat × (List V → Heap → Prop)))) : Env := { tis := tisT, fns := fnsT, tys := tysT, gls := [], rts := rtsT, unk := [], nxt := [], calls := palisadelaw24_Flat_Bytes.calls, ifc := noIfc, cuts := cuts, ret := palisadelaw24_Flat_Bytes.ret Q, rets := [.tmp 6, .tmp 7], n := 49 }

theorem palisadelaw24_Flat_Bytes.callsOK {W0 : World} : CallsOK sg W0 palisadelaw24_Flat_Bytes.calls := ⟨mem_Memory_Bytes.S, trivial⟩

def palisadelaw24_Flat_Bytes.k2 (I : Heap → Prop) (vs : List V) (h : Heap) : Prop :=
  match vs with
  | [] => I  h
  | _ => False

def palisadelaw24_Flat_Bytes.k3 (I : (Option Ptr) → Int → Int → Heap → Prop) (vs : List V) (h : Heap) : Prop :=
  match vs with
  | [.ptr a1, .int .u64 a2, .int .i64 a3] => I a1 a2 a3 h
  | _ => False

theorem palisadelaw24_Flat_Bytes.p2 : (posC palisadelaw24_Flat_Bytes.code []).filter (fun p => Nat.beq p.1 2) = [(2, atPos (posC palisadelaw24_Flat_Bytes.code []) 2)] := by kernel_rfl

theorem palisadelaw24_Flat_Bytes.e2 : ∀   (Q : Sl → Int → Heap → Prop) (h : Heap), palisadelaw24_Flat_Bytes.j2   Q h = pts (palisadelaw24_Flat_Bytes.E Q []) 3000 true (atPos (posC palisadelaw24_Flat_Bytes.code []) 2) (frAt [] []) h := by
  intros; kernel_rfl

theorem palisadelaw24_Flat_Bytes.s2 {W0 : World} (Q : Sl → Int → Heap → Prop)   : CutOK sg W0 49 (entered 85) (Post sg W0 (palisadelaw24_Flat_Bytes.ret Q)) (posC palisadelaw24_Flat_Bytes.code []) 2 [] (palisadelaw24_Flat_Bytes.k2 (fun  h => palisadelaw24_Flat_Bytes.j2   Q h)) := by
  refine cutOK_head (fun vs h hk => ?_)
  unfold palisadelaw24_Flat_Bytes.k2 at hk
  split at hk
  · skip
    intro todo hm ρ a w s f hp
    exact piece (E := palisadelaw24_Flat_Bytes.E Q []) (vs := []) (envOK seatOK palisadelaw24_Flat_Bytes.callsOK noIfc_ok) (fnOK seatOK palisadelaw24_Flat_Bytes.fun) trivial palisadelaw24_Flat_Bytes.p2 (fuel := 3000) (by rw [← palisadelaw24_Flat_Bytes.e2]; exact hk) hm s f hp
  · exact hk.elim

theorem palisadelaw24_Flat_Bytes.p3 : (posC palisadelaw24_Flat_Bytes.code []).filter (fun p => Nat.beq p.1 3) = [(3, atPos (posC palisadelaw24_Flat_Bytes.code []) 3)] := by kernel_rfl

theorem palisadelaw24_Flat_Bytes.e3 : ∀  (a1 : Option Ptr) (a2 : Int) (a3 : Int) (Q : Sl → Int → Heap → Prop) (h : Heap), palisadelaw24_Flat_Bytes.j3  a1 a2 a3 Q h = pts (palisadelaw24_Flat_Bytes.E Q []) 3000 true (atPos (posC palisadelaw24_Flat_Bytes.code []) 3) (frAt [0, 1, 2] [.ptr a1, .int .u64 a2, .int .i64 a3]) h := by
  intros; kernel_rfl

theorem palisadelaw24_Flat_Bytes.s3 {W0 : World} (Q : Sl → Int → Heap → Prop)   : CutOK sg W0 49 (entered 85) (Post sg W0 (palisadelaw24_Flat_Bytes.ret Q)) (posC palisadelaw24_Flat_Bytes.code []) 3 [0, 1, 2] (palisadelaw24_Flat_Bytes.k3 (fun a1 a2 a3 h => palisadelaw24_Flat_Bytes.j3  a1 a2 a3 Q h)) := by
  refine cutOK_head (fun vs h hk => ?_)
  unfold palisadelaw24_Flat_Bytes.k3 at hk
  split at hk
  · rename_i a1 a2 a3
    intro todo hm ρ a w s f hp
    exact piece (E := palisadelaw24_Flat_Bytes.E Q []) (vs := [.ptr a1, .int .u64 a2, .int .i64 a3]) (envOK seatOK palisadelaw24_Flat_Bytes.callsOK noIfc_ok) (fnOK seatOK palisadelaw24_Flat_Bytes.fun) trivial palisadelaw24_Flat_Bytes.p3 (fuel := 3000) (by rw [← palisadelaw24_Flat_Bytes.e3]; exact hk) hm s f hp
  · exact hk.elim

theorem palisadelaw24_Flat_Bytes.e : ∀ (a1 : Option Ptr) (a2 : Int) (a3 : Int) (Q : Sl → Int → Heap → Prop) (h : Heap), palisadelaw24_Flat_Bytes a1 a2 a3 Q h = pts (palisadelaw24_Flat_Bytes.E Q [(2, ([], palisadelaw24_Flat_Bytes.k2 (fun  h => palisadelaw24_Flat_Bytes.j2   Q h))), (3, ([0, 1, 2], palisadelaw24_Flat_Bytes.k3 (fun a1 a2 a3 h => palisadelaw24_Flat_Bytes.j3  a1 a2 a3 Q h)))]) 3000 true [.code palisadelaw24_Flat_Bytes.code] (frOf 0 [.ptr a1, .int .u64 a2, .int .i64 a3]) h := by
  intros; kernel_rfl

theorem palisadelaw24_Flat_Bytes.S {W0 : World} : FnS sg W0 295 palisadelaw24_Flat_Bytes.C := by
  intro vs κ h wv hx w s
  unfold palisadelaw24_Flat_Bytes.C at hx
  split at hx
  · rename_i a1 a2 a3
    refine postImp (ret := palisadelaw24_Flat_Bytes.ret (fun r1 r2 h => κ (.tup [.sl r1, .int .i64 r2]) h)) (fun v h hr => by unfold palisadelaw24_Flat_Bytes.ret at hr; split at hr; exact hr; exact hr.elim) ?_
    exact calls_of_pts (E := palisadelaw24_Flat_Bytes.E (fun r1 r2 h => κ (.tup [.sl r1, .int .i64 r2]) h) [(2, ([], palisadelaw24_Flat_Bytes.k2 (fun  h => palisadelaw24_Flat_Bytes.j2   (fun r1 r2 h => κ (.tup [.sl r1, .int .i64 r2]) h) h))), (3, ([0, 1, 2], palisadelaw24_Flat_Bytes.k3 (fun a1 a2 a3 h => palisadelaw24_Flat_Bytes.j3  a1 a2 a3 (fun r1 r2 h => κ (.tup [.sl r1, .int .i64 r2]) h) h)))]) (envOK seatOK palisadelaw24_Flat_Bytes.callsOK noIfc_ok) seatOK.mixed palisadelaw24_Flat_Bytes.fun (Nat.le_of_ble_eq_true rfl) wv (cutL_ok ⟨(palisadelaw24_Flat_Bytes.s2 (fun r1 r2 h => κ (.tup [.sl r1, .int .i64 r2]) h)), (palisadelaw24_Flat_Bytes.s3 (fun r1 r2 h => κ (.tup [.sl r1, .int .i64 r2]) h)), trivial⟩) s (fuel := 3000) (by rw [← palisadelaw24_Flat_Bytes.e]; exact hx)
  · exact hx.elim

noncomputable def palisadelaw24_Flat_Frame.code : Code := Go.Proofs.Try.f86.body.getD .skip

theorem palisadelaw24_Flat_Frame.fun : Fun sg.P 86 24 [.tmp 6, .tmp 7] palisadelaw24_Flat_Frame.code := mkFun Go.Proofs.Try.func86 (by kernel_rfl) (by kernel_rfl) (by kernel_rfl) (by kernel_rfl)

def palisadelaw24_Flat_Frame.ret (Q : Int → Bool → Heap → Prop) (v : V) (h : Heap) : Prop :=
  match v with
  | .tup [.int .i64 r1, .bool r2] => Q r1 r2 h
  | _ => False

def palisadelaw24_Flat_Frame.C (vs : List V) (κ : V → Heap → Prop) (h : Heap) : Prop :=
  match vs with
  | [.ptr a1, .int .i64 a2, .bool a3] => palisadelaw24_Flat_Frame a1 a2 a3 (fun r1 r2 h => κ (.tup [.int .i64 r1, .bool r2]) h) h
  | _ => False

noncomputable def palisadelaw24_Flat_Frame.calls : List (Nat × (List V → (V → Heap → Prop) → Heap → Prop)) := []

noncomputable def palisadelaw24_Flat_Frame.E (Q : Int → Bool → Heap → Prop) (cuts : List (Nat × (List Nat × (List V → Heap → Prop)))) : Env := { tis := tisT, fns := fnsT, tys := tysT, gls := [], rts := rtsT, unk := [], nxt := [], calls := palisadelaw24_Flat_Frame.calls, ifc := noIfc, cuts := cuts, ret := palisadelaw24_Flat_Frame.ret Q, rets := [.tmp 6, .tmp 7], n := 24 }

theorem palisadelaw24_Flat_Frame.callsOK {W0 : World} : CallsOK sg W0 palisadelaw24_Flat_Frame.calls := trivial

theorem palisadelaw24_Flat_Frame.e : ∀ (a1 : Option Ptr) (a2 : Int) (a3 : Bool) (Q : Int → Bool → Heap → Prop) (h : Heap), palisadelaw24_Flat_Frame a1 a2 a3 Q h = pts (palisadelaw24_Flat_Frame.E Q []) 3000 true [.code palisadelaw24_Flat_Frame.code] (frOf 0 [.ptr a1, .int .i64 a2, .bool a3]) h := by
  intros; kernel_rfl

theorem palisadelaw24_Flat_Frame.S {W0 : World} : FnS sg W0 296 palisadelaw24_Flat_Frame.C := by
  intro vs κ h wv hx w s
  unfold palisadelaw24_Flat_Frame.C at hx
  split at hx
  · rename_i a1 a2 a3
    refine postImp (ret := palisadelaw24_Flat_Frame.ret (fun r1 r2 h => κ (.tup [.int .i64 r1, .bool r2]) h)) (fun v h hr => by unfold palisadelaw24_Flat_Frame.ret at hr; split at hr; exact hr; exact hr.elim) ?_
    exact calls_of_pts (E := palisadelaw24_Flat_Frame.E (fun r1 r2 h => κ (.tup [.int .i64 r1, .bool r2]) h) []) (envOK seatOK palisadelaw24_Flat_Frame.callsOK noIfc_ok) seatOK.mixed palisadelaw24_Flat_Frame.fun (Nat.le_of_ble_eq_true rfl) wv (cutL_ok trivial) s (fuel := 3000) (by rw [← palisadelaw24_Flat_Frame.e]; exact hx)
  · exact hx.elim

noncomputable def mem_Memory_number.code : Code := Go.Proofs.Try.f96.body.getD .skip

theorem mem_Memory_number.fun : Fun sg.P 96 34 [.tmp 6, .tmp 7] mem_Memory_number.code := mkFun Go.Proofs.Try.func96 (by kernel_rfl) (by kernel_rfl) (by kernel_rfl) (by kernel_rfl)

def mem_Memory_number.ret (Q : Sl → Int → Heap → Prop) (v : V) (h : Heap) : Prop :=
  match v with
  | .tup [.sl r1, .int .i64 r2] => Q r1 r2 h
  | _ => False

def mem_Memory_number.C (vs : List V) (κ : V → Heap → Prop) (h : Heap) : Prop :=
  match vs with
  | [.ptr a1, .int .u64 a2, .int .i64 a3] => mem_Memory_number a1 a2 a3 (fun r1 r2 h => κ (.tup [.sl r1, .int .i64 r2]) h) h
  | _ => False

noncomputable def mem_Memory_number.calls : List (Nat × (List V → (V → Heap → Prop) → Heap → Prop)) := [(32, mem_Memory_part.C), (31, mem_Memory_none.C)]

noncomputable def mem_Memory_number.E (Q : Sl → Int → Heap → Prop) (cuts : List (Nat × (List Nat × (List V → Heap → Prop)))) : Env := { tis := tisT, fns := fnsT, tys := tysT, gls := [], rts := rtsT, unk := [], nxt := [], calls := mem_Memory_number.calls, ifc := noIfc, cuts := cuts, ret := mem_Memory_number.ret Q, rets := [.tmp 6, .tmp 7], n := 34 }

theorem mem_Memory_number.callsOK {W0 : World} : CallsOK sg W0 mem_Memory_number.calls := ⟨mem_Memory_part.S, mem_Memory_none.S, trivial⟩

def mem_Memory_number.k5 (I : (Option Ptr) → Int → Int → Heap → Prop) (vs : List V) (h : Heap) : Prop :=
  match vs with
  | [.ptr a1, .int .u64 a2, .int .i64 a3] => I a1 a2 a3 h
  | _ => False

theorem mem_Memory_number.p5 : (posC mem_Memory_number.code []).filter (fun p => Nat.beq p.1 5) = [(5, atPos (posC mem_Memory_number.code []) 5)] := by kernel_rfl

theorem mem_Memory_number.e5 : ∀  (a1 : Option Ptr) (a2 : Int) (a3 : Int) (Q : Sl → Int → Heap → Prop) (h : Heap), mem_Memory_number.j5  a1 a2 a3 Q h = pts (mem_Memory_number.E Q []) 3000 true (atPos (posC mem_Memory_number.code []) 5) (frAt [0, 1, 2] [.ptr a1, .int .u64 a2, .int .i64 a3]) h := by
  intros; kernel_rfl

theorem mem_Memory_number.s5 {W0 : World} (Q : Sl → Int → Heap → Prop)   : CutOK sg W0 34 (entered 96) (Post sg W0 (mem_Memory_number.ret Q)) (posC mem_Memory_number.code []) 5 [0, 1, 2] (mem_Memory_number.k5 (fun a1 a2 a3 h => mem_Memory_number.j5  a1 a2 a3 Q h)) := by
  refine cutOK_head (fun vs h hk => ?_)
  unfold mem_Memory_number.k5 at hk
  split at hk
  · rename_i a1 a2 a3
    intro todo hm ρ a w s f hp
    exact piece (E := mem_Memory_number.E Q []) (vs := [.ptr a1, .int .u64 a2, .int .i64 a3]) (envOK seatOK mem_Memory_number.callsOK noIfc_ok) (fnOK seatOK mem_Memory_number.fun) trivial mem_Memory_number.p5 (fuel := 3000) (by rw [← mem_Memory_number.e5]; exact hk) hm s f hp
  · exact hk.elim

theorem mem_Memory_number.e : ∀ (a1 : Option Ptr) (a2 : Int) (a3 : Int) (Q : Sl → Int → Heap → Prop) (h : Heap), mem_Memory_number a1 a2 a3 Q h = pts (mem_Memory_number.E Q [(5, ([0, 1, 2], mem_Memory_number.k5 (fun a1 a2 a3 h => mem_Memory_number.j5  a1 a2 a3 Q h)))]) 3000 true [.code mem_Memory_number.code] (frOf 0 [.ptr a1, .int .u64 a2, .int .i64 a3]) h := by
  intros; kernel_rfl

theorem mem_Memory_number.S {W0 : World} : FnS sg W0 59 mem_Memory_number.C := by
  intro vs κ h wv hx w s
  unfold mem_Memory_number.C at hx
  split at hx
  · rename_i a1 a2 a3
    refine postImp (ret := mem_Memory_number.ret (fun r1 r2 h => κ (.tup [.sl r1, .int .i64 r2]) h)) (fun v h hr => by unfold mem_Memory_number.ret at hr; split at hr; exact hr; exact hr.elim) ?_
    exact calls_of_pts (E := mem_Memory_number.E (fun r1 r2 h => κ (.tup [.sl r1, .int .i64 r2]) h) [(5, ([0, 1, 2], mem_Memory_number.k5 (fun a1 a2 a3 h => mem_Memory_number.j5  a1 a2 a3 (fun r1 r2 h => κ (.tup [.sl r1, .int .i64 r2]) h) h)))]) (envOK seatOK mem_Memory_number.callsOK noIfc_ok) seatOK.mixed mem_Memory_number.fun (Nat.le_of_ble_eq_true rfl) wv (cutL_ok ⟨(mem_Memory_number.s5 (fun r1 r2 h => κ (.tup [.sl r1, .int .i64 r2]) h)), trivial⟩) s (fuel := 3000) (by rw [← mem_Memory_number.e]; exact hx)
  · exact hx.elim

end Go.Fn
