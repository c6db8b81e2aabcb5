/- The links of the shallow functions to the machine. PRINTED by lift.py. -/
import Derived.Test.YtmpjgafkdhineaaDoorGb1

set_option linter.unusedVariables false
set_option maxRecDepth 100000
namespace Go.Fn
open Go.Lift

noncomputable def zf7.code : Code := Go.Proofs.Tryd.f52.body.getD .skip

theorem zf7.fun : Fun sg.P 52 49 [.tmp 6, .tmp 7] zf7.code := mkFun Go.Proofs.Tryd.func52 (by kernel_rfl) (by kernel_rfl) (by kernel_rfl) (by kernel_rfl)

def zf7.ret (Q : Int → Int → Heap → Prop) (v : V) (h : Heap) : Prop :=
  match v with
  | .tup [.int .i64 r1, .int .i64 r2] => Q r1 r2 h
  | _ => False

def zf7.C (U : Ifc) (vs : List V) (κ : V → Heap → Prop) (h : Heap) : Prop :=
  match vs with
  | [a1, .ptr a2, a3] => zf7 U a1 a2 a3 (fun r1 r2 h => κ (.tup [.int .i64 r1, .int .i64 r2]) h) h
  | _ => False

noncomputable def zf7.calls (U : Ifc) : List (Nat × (List V → (V → Heap → Prop) → Heap → Prop)) := [(77, zf41.C U), (78, zf42.C U)]

noncomputable def zf7.E (U : Ifc) (Q : Int → Int → Heap → Prop) (cuts : List (Nat × (List Nat × (List V → Heap → Prop)))) : Env := { tis := tisT, fns := fnsT, tys := tysT, gls := glsT, rts := rtsT, unk := [33], nxt := [], calls := zf7.calls U, ifc := U, cuts := cuts, ret := zf7.ret Q, rets := [.tmp 6, .tmp 7], n := 49 }

theorem zf7.callsOK {W0 : World} {U : Ifc} (hU : IfcOK sg W0 glsT U) : CallsOK sg W0 (zf7.calls U) := ⟨(zf41.S hU), (zf42.S hU), trivial⟩

def zf7.k5 (I : Int → Int → Heap → Prop) (vs : List V) (h : Heap) : Prop :=
  match vs with
  | [.int .i64 a1, .int .i64 a2] => I a1 a2 h
  | _ => False

def zf7.k2 (I : V → (Option Ptr) → V → Int → Heap → Prop) (vs : List V) (h : Heap) : Prop :=
  match vs with
  | [a1, .ptr a2, a3, .int .i64 a4] => I a1 a2 a3 a4 h
  | _ => False

def zf7.k8 (I : V → (Option Ptr) → V → Int → Ptr → Heap → Prop) (vs : List V) (h : Heap) : Prop :=
  match vs with
  | [a1, .ptr a2, a3, .int .i64 a4, .ptr (some a5)] => I a1 a2 a3 a4 a5 h
  | _ => False

def zf7.k3 (I : V → (Option Ptr) → V → Int → Heap → Prop) (vs : List V) (h : Heap) : Prop :=
  match vs with
  | [a1, .ptr a2, a3, .int .i64 a4] => I a1 a2 a3 a4 h
  | _ => False

theorem zf7.p5 : (posC zf7.code []).filter (fun p => Nat.beq p.1 5) = [(5, atPos (posC zf7.code []) 5)] := by kernel_rfl

theorem zf7.e5 : ∀ (U : Ifc) (I3 : V → (Option Ptr) → V → Int → Heap → Prop) (a1 : Int) (a2 : Int) (Q : Int → Int → Heap → Prop) (h : Heap), zf7.j5 U I3 a1 a2 Q h = pts (zf7.E U Q []) 3000 true (atPos (posC zf7.code []) 5) (frAt [8, 11] [.int .i64 a1, .int .i64 a2]) h := by
  intros; kernel_rfl

theorem zf7.s5 {W0 : World} {U : Ifc} (hU : IfcOK sg W0 glsT U) (Q : Int → Int → Heap → Prop) (I3 : V → (Option Ptr) → V → Int → Heap → Prop) (h3 : CutOK sg W0 49 (entered 52) (Post sg W0 (zf7.ret Q)) (posC zf7.code []) 3 [0, 1, 2, 8] (zf7.k3 I3)) : CutOK sg W0 49 (entered 52) (Post sg W0 (zf7.ret Q)) (posC zf7.code []) 5 [8, 11] (zf7.k5 (fun a1 a2 h => zf7.j5 U I3 a1 a2 Q h)) := by
  refine cutOK_head (fun vs h hk => ?_)
  unfold zf7.k5 at hk
  split at hk
  · rename_i a1 a2
    intro todo hm ρ a w s f hp
    exact piece (E := zf7.E U Q []) (vs := [.int .i64 a1, .int .i64 a2]) (envOK seatOK (zf7.callsOK hU) hU) (fnOK seatOK zf7.fun) trivial zf7.p5 (fuel := 3000) (by rw [← zf7.e5]; exact hk) hm s f hp
  · exact hk.elim

theorem zf7.p2 : (posC zf7.code []).filter (fun p => Nat.beq p.1 2) = [(2, atPos (posC zf7.code []) 2)] := by kernel_rfl

theorem zf7.e2 : ∀ (U : Ifc) (I3 : V → (Option Ptr) → V → Int → Heap → Prop) (a1 : V) (a2 : Option Ptr) (a3 : V) (a4 : Int) (Q : Int → Int → Heap → Prop) (h : Heap), zf7.j2 U I3 a1 a2 a3 a4 Q h = pts (zf7.E U Q [(3, ([0, 1, 2, 8], zf7.k3 I3))]) 3000 true (atPos (posC zf7.code []) 2) (frAt [0, 1, 2, 8] [a1, .ptr a2, a3, .int .i64 a4]) h := by
  intros; kernel_rfl

theorem zf7.s2 {W0 : World} {U : Ifc} (hU : IfcOK sg W0 glsT U) (Q : Int → Int → Heap → Prop) (I3 : V → (Option Ptr) → V → Int → Heap → Prop) (h3 : CutOK sg W0 49 (entered 52) (Post sg W0 (zf7.ret Q)) (posC zf7.code []) 3 [0, 1, 2, 8] (zf7.k3 I3)) : CutOK sg W0 49 (entered 52) (Post sg W0 (zf7.ret Q)) (posC zf7.code []) 2 [0, 1, 2, 8] (zf7.k2 (fun a1 a2 a3 a4 h => zf7.j2 U I3 a1 a2 a3 a4 Q h)) := by
  refine cutOK_head (fun vs h hk => ?_)
  unfold zf7.k2 at hk
  split at hk
  · rename_i a1 a2 a3 a4
    intro todo hm ρ a w s f hp
    exact piece (E := zf7.E U Q [(3, ([0, 1, 2, 8], zf7.k3 I3))]) (vs := [a1, .ptr a2, a3, .int .i64 a4]) (envOK seatOK (zf7.callsOK hU) hU) (fnOK seatOK zf7.fun) ⟨h3, trivial⟩ zf7.p2 (fuel := 3000) (by rw [← zf7.e2]; exact hk) hm s f hp
  · exact hk.elim

theorem zf7.p8 : (posC zf7.code []).filter (fun p => Nat.beq p.1 8) = [(8, atPos (posC zf7.code []) 8)] := by kernel_rfl

theorem zf7.e8 : ∀ (U : Ifc) (I3 : V → (Option Ptr) → V → Int → Heap → Prop) (a1 : V) (a2 : Option Ptr) (a3 : V) (a4 : Int) (a5 : Ptr) (Q : Int → Int → Heap → Prop) (h : Heap), zf7.j8 U I3 a1 a2 a3 a4 a5 Q h = pts (zf7.E U Q [(2, ([0, 1, 2, 8], zf7.k2 (fun a1 a2 a3 a4 h => zf7.j2 U I3 a1 a2 a3 a4 Q h)))]) 3000 true (atPos (posC zf7.code []) 8) (frAt [0, 1, 2, 8, 12] [a1, .ptr a2, a3, .int .i64 a4, .ptr (some a5)]) h := by
  intros; kernel_rfl

theorem zf7.s8 {W0 : World} {U : Ifc} (hU : IfcOK sg W0 glsT U) (Q : Int → Int → Heap → Prop) (I3 : V → (Option Ptr) → V → Int → Heap → Prop) (h3 : CutOK sg W0 49 (entered 52) (Post sg W0 (zf7.ret Q)) (posC zf7.code []) 3 [0, 1, 2, 8] (zf7.k3 I3)) : CutOK sg W0 49 (entered 52) (Post sg W0 (zf7.ret Q)) (posC zf7.code []) 8 [0, 1, 2, 8, 12] (zf7.k8 (fun a1 a2 a3 a4 a5 h => zf7.j8 U I3 a1 a2 a3 a4 a5 Q h)) := by
  refine cutOK_head (fun vs h hk => ?_)
  unfold zf7.k8 at hk
  split at hk
  · rename_i a1 a2 a3 a4 a5
    intro todo hm ρ a w s f hp
    exact piece (E := zf7.E U Q [(2, ([0, 1, 2, 8], zf7.k2 (fun a1 a2 a3 a4 h => zf7.j2 U I3 a1 a2 a3 a4 Q h)))]) (vs := [a1, .ptr a2, a3, .int .i64 a4, .ptr (some a5)]) (envOK seatOK (zf7.callsOK hU) hU) (fnOK seatOK zf7.fun) ⟨(zf7.s2 hU Q I3 h3), trivial⟩ zf7.p8 (fuel := 3000) (by rw [← zf7.e8]; exact hk) hm s f hp
  · exact hk.elim

theorem zf7.p3 : (posC zf7.code []).filter (fun p => Nat.beq p.1 3) = [(3, atPos (posC zf7.code []) 3)] := by kernel_rfl

theorem zf7.e3 : ∀ (U : Ifc)  (I3 : V → (Option Ptr) → V → Int → Heap → Prop) (a1 : V) (a2 : Option Ptr) (a3 : V) (a4 : Int) (Q : Int → Int → Heap → Prop) (h : Heap), zf7.b3 U  I3 a1 a2 a3 a4 Q h = pts (zf7.E U Q [(5, ([8, 11], zf7.k5 (fun a1 a2 h => zf7.j5 U I3 a1 a2 Q h))), (8, ([0, 1, 2, 8, 12], zf7.k8 (fun a1 a2 a3 a4 a5 h => zf7.j8 U I3 a1 a2 a3 a4 a5 Q h)))]) 3000 true (atPos (posC zf7.code []) 3) (frAt [0, 1, 2, 8] [a1, .ptr a2, a3, .int .i64 a4]) h := by
  intros; kernel_rfl

theorem zf7.s3 {W0 : World} {U : Ifc} (hU : IfcOK sg W0 glsT U) (Q : Int → Int → Heap → Prop)   : CutOK sg W0 49 (entered 52) (Post sg W0 (zf7.ret Q)) (posC zf7.code []) 3 [0, 1, 2, 8] (zf7.k3 (fun a1 a2 a3 a4 h => zf7.j3 U  a1 a2 a3 a4 Q h)) := by
  refine cutOK_head (fun vs h hk => ?_)
  unfold zf7.k3 at hk
  split at hk
  · rename_i a1 a2 a3 a4
    refine hk (fun a1 a2 a3 a4 h => Head sg W0 49 (entered 52) (Post sg W0 (zf7.ret Q)) (posC zf7.code []) 3 [0, 1, 2, 8] [a1, .ptr a2, a3, .int .i64 a4] h) ?_
    intro a1 a2 a3 a4 h hb todo hm ρ a w s f hp
    have hself : CutOK sg W0 49 (entered 52) (Post sg W0 (zf7.ret Q)) (posC zf7.code []) 3 [0, 1, 2, 8] (zf7.k3 (fun a1 a2 a3 a4 h => Head sg W0 49 (entered 52) (Post sg W0 (zf7.ret Q)) (posC zf7.code []) 3 [0, 1, 2, 8] [a1, .ptr a2, a3, .int .i64 a4] h)) := cutOK_head (fun vs h hk => by unfold zf7.k3 at hk; split at hk; exact hk; exact hk.elim)
    exact piece (E := zf7.E U Q [(5, ([8, 11], zf7.k5 (fun a1 a2 h => zf7.j5 U (fun a1 a2 a3 a4 h => Head sg W0 49 (entered 52) (Post sg W0 (zf7.ret Q)) (posC zf7.code []) 3 [0, 1, 2, 8] [a1, .ptr a2, a3, .int .i64 a4] h) a1 a2 Q h))), (8, ([0, 1, 2, 8, 12], zf7.k8 (fun a1 a2 a3 a4 a5 h => zf7.j8 U (fun a1 a2 a3 a4 h => Head sg W0 49 (entered 52) (Post sg W0 (zf7.ret Q)) (posC zf7.code []) 3 [0, 1, 2, 8] [a1, .ptr a2, a3, .int .i64 a4] h) a1 a2 a3 a4 a5 Q h)))]) (vs := [a1, .ptr a2, a3, .int .i64 a4]) (envOK seatOK (zf7.callsOK hU) hU) (fnOK seatOK zf7.fun) ⟨(zf7.s5 hU Q (fun a1 a2 a3 a4 h => Head sg W0 49 (entered 52) (Post sg W0 (zf7.ret Q)) (posC zf7.code []) 3 [0, 1, 2, 8] [a1, .ptr a2, a3, .int .i64 a4] h) hself), (zf7.s8 hU Q (fun a1 a2 a3 a4 h => Head sg W0 49 (entered 52) (Post sg W0 (zf7.ret Q)) (posC zf7.code []) 3 [0, 1, 2, 8] [a1, .ptr a2, a3, .int .i64 a4] h) hself), trivial⟩ zf7.p3 (fuel := 3000) (by rw [← zf7.e3]; exact hb) hm s f hp
  · exact hk.elim

theorem zf7.e : ∀ (U : Ifc) (a1 : V) (a2 : Option Ptr) (a3 : V) (Q : Int → Int → Heap → Prop) (h : Heap), zf7 U a1 a2 a3 Q h = pts (zf7.E U Q [(3, ([0, 1, 2, 8], zf7.k3 (fun a1 a2 a3 a4 h => zf7.j3 U  a1 a2 a3 a4 Q h)))]) 3000 true [.code zf7.code] (frOf 0 [a1, .ptr a2, a3]) h := by
  intros; kernel_rfl

theorem zf7.S {W0 : World} {U : Ifc} (hU : IfcOK sg W0 glsT U) : FnS sg W0 280 (zf7.C U) := by
  intro vs κ h wv hx w s
  unfold zf7.C at hx
  split at hx
  · rename_i a1 a2 a3
    refine postImp (ret := zf7.ret (fun r1 r2 h => κ (.tup [.int .i64 r1, .int .i64 r2]) h)) (fun v h hr => by unfold zf7.ret at hr; split at hr; exact hr; exact hr.elim) ?_
    exact calls_of_pts (E := zf7.E U (fun r1 r2 h => κ (.tup [.int .i64 r1, .int .i64 r2]) h) [(3, ([0, 1, 2, 8], zf7.k3 (fun a1 a2 a3 a4 h => zf7.j3 U  a1 a2 a3 a4 (fun r1 r2 h => κ (.tup [.int .i64 r1, .int .i64 r2]) h) h)))]) (envOK seatOK (zf7.callsOK hU) hU) seatOK.mixed zf7.fun (Nat.le_of_ble_eq_true rfl) wv (cutL_ok ⟨(zf7.s3 hU (fun r1 r2 h => κ (.tup [.int .i64 r1, .int .i64 r2]) h)), trivial⟩) s (fuel := 3000) (by rw [← zf7.e]; exact hx)
  · exact hx.elim

noncomputable def zf0.code : Code := Go.Proofs.Tryd.f22.body.getD .skip

theorem zf0.fun : Fun sg.P 22 18 [.tmp 4, .tmp 5] zf0.code := mkFun Go.Proofs.Tryd.func22 (by kernel_rfl) (by kernel_rfl) (by kernel_rfl) (by kernel_rfl)

def zf0.ret (Q : Int → Int → Heap → Prop) (v : V) (h : Heap) : Prop :=
  match v with
  | .tup [.int .i64 r1, .int .i64 r2] => Q r1 r2 h
  | _ => False

def zf0.C (U : Ifc) (vs : List V) (κ : V → Heap → Prop) (h : Heap) : Prop :=
  match vs with
  | [.ptr a1, a2] => zf0 U a1 a2 (fun r1 r2 h => κ (.tup [.int .i64 r1, .int .i64 r2]) h) h
  | _ => False

noncomputable def zf0.calls (U : Ifc) : List (Nat × (List V → (V → Heap → Prop) → Heap → Prop)) := [(279, zf3.C), (280, zf7.C U)]

noncomputable def zf0.E (U : Ifc) (Q : Int → Int → Heap → Prop) (cuts : List (Nat × (List Nat × (List V → Heap → Prop)))) : Env := { tis := tisT, fns := fnsT, tys := tysT, gls := glsT, rts := rtsT, unk := [], nxt := [], calls := zf0.calls U, ifc := U, cuts := cuts, ret := zf0.ret Q, rets := [.tmp 4, .tmp 5], n := 18 }

theorem zf0.callsOK {W0 : World} {U : Ifc} (hU : IfcOK sg W0 glsT U) : CallsOK sg W0 (zf0.calls U) := ⟨zf3.S, (zf7.S hU), trivial⟩

theorem zf0.e : ∀ (U : Ifc) (a1 : Option Ptr) (a2 : V) (Q : Int → Int → Heap → Prop) (h : Heap), zf0 U a1 a2 Q h = pts (zf0.E U Q []) 3000 true [.code zf0.code] (frOf 0 [.ptr a1, a2]) h := by
  intros; kernel_rfl

theorem zf0.S {W0 : World} {U : Ifc} (hU : IfcOK sg W0 glsT U) : FnS sg W0 281 (zf0.C U) := by
  intro vs κ h wv hx w s
  unfold zf0.C at hx
  split at hx
  · rename_i a1 a2
    refine postImp (ret := zf0.ret (fun r1 r2 h => κ (.tup [.int .i64 r1, .int .i64 r2]) h)) (fun v h hr => by unfold zf0.ret at hr; split at hr; exact hr; exact hr.elim) ?_
    exact calls_of_pts (E := zf0.E U (fun r1 r2 h => κ (.tup [.int .i64 r1, .int .i64 r2]) h) []) (envOK seatOK (zf0.callsOK hU) hU) seatOK.mixed zf0.fun (Nat.le_of_ble_eq_true rfl) wv (cutL_ok trivial) s (fuel := 3000) (by rw [← zf0.e]; exact hx)
  · exact hx.elim

noncomputable def zf56.code : Code := Go.Proofs.Tryd.f57.body.getD .skip

theorem zf56.fun : Fun sg.P 57 27 [.tmp 4] zf56.code := mkFun Go.Proofs.Tryd.func57 (by kernel_rfl) (by kernel_rfl) (by kernel_rfl) (by kernel_rfl)

def zf56.ret (Q : Int → Heap → Prop) (v : V) (h : Heap) : Prop :=
  match v with
  | .int .i64 r1 => Q r1 h
  | _ => False

def zf56.C (vs : List V) (κ : V → Heap → Prop) (h : Heap) : Prop :=
  match vs with
  | [.ptr a1, .int .i64 a2] => zf56 a1 a2 (fun r1 h => κ (.int .i64 r1) h) h
  | _ => False

noncomputable def zf56.calls : List (Nat × (List V → (V → Heap → Prop) → Heap → Prop)) := []

noncomputable def zf56.E (Q : Int → Heap → Prop) (cuts : List (Nat × (List Nat × (List V → Heap → Prop)))) : Env := { tis := tisT, fns := fnsT, tys := tysT, gls := [], rts := rtsT, unk := [], nxt := [], calls := zf56.calls, ifc := noIfc, cuts := cuts, ret := zf56.ret Q, rets := [.tmp 4], n := 27 }

theorem zf56.callsOK {W0 : World} : CallsOK sg W0 zf56.calls := trivial

theorem zf56.e : ∀ (a1 : Option Ptr) (a2 : Int) (Q : Int → Heap → Prop) (h : Heap), zf56 a1 a2 Q h = pts (zf56.E Q []) 3000 true [.code zf56.code] (frOf 0 [.ptr a1, .int .i64 a2]) h := by
  intros; kernel_rfl

theorem zf56.S {W0 : World} : FnS sg W0 282 zf56.C := by
  intro vs κ h wv hx w s
  unfold zf56.C at hx
  split at hx
  · rename_i a1 a2
    refine postImp (ret := zf56.ret (fun r1 h => κ (.int .i64 r1) h)) (fun v h hr => by unfold zf56.ret at hr; split at hr; exact hr; exact hr.elim) ?_
    exact calls_of_pts (E := zf56.E (fun r1 h => κ (.int .i64 r1) h) []) (envOK seatOK zf56.callsOK noIfc_ok) seatOK.mixed zf56.fun (Nat.le_of_ble_eq_true rfl) wv (cutL_ok trivial) s (fuel := 3000) (by rw [← zf56.e]; exact hx)
  · exact hx.elim

noncomputable def zf53.code : Code := Go.Proofs.Tryd.f23.body.getD .skip

theorem zf53.fun : Fun sg.P 23 17 [.tmp 4] zf53.code := mkFun Go.Proofs.Tryd.func23 (by kernel_rfl) (by kernel_rfl) (by kernel_rfl) (by kernel_rfl)

def zf53.ret (Q : Int → Heap → Prop) (v : V) (h : Heap) : Prop :=
  match v with
  | .int .i64 r1 => Q r1 h
  | _ => False

def zf53.C (vs : List V) (κ : V → Heap → Prop) (h : Heap) : Prop :=
  match vs with
  | [.ptr a1, .int .i64 a2] => zf53 a1 a2 (fun r1 h => κ (.int .i64 r1) h) h
  | _ => False

noncomputable def zf53.calls : List (Nat × (List V → (V → Heap → Prop) → Heap → Prop)) := [(282, zf56.C)]

noncomputable def zf53.E (Q : Int → Heap → Prop) (cuts : List (Nat × (List Nat × (List V → Heap → Prop)))) : Env := { tis := tisT, fns := fnsT, tys := tysT, gls := [], rts := rtsT, unk := [], nxt := [], calls := zf53.calls, ifc := noIfc, cuts := cuts, ret := zf53.ret Q, rets := [.tmp 4], n := 17 }

theorem zf53.callsOK {W0 : World} : CallsOK sg W0 zf53.calls := ⟨zf56.S, trivial⟩

theorem zf53.e : ∀ (a1 : Option Ptr) (a2 : Int) (Q : Int → Heap → Prop) (h : Heap), zf53 a1 a2 Q h = pts (zf53.E Q []) 3000 true [.code zf53.code] (frOf 0 [.ptr a1, .int .i64 a2]) h := by
  intros; kernel_rfl

theorem zf53.S {W0 : World} : FnS sg W0 353 zf53.C := by
  intro vs κ h wv hx w s
  unfold zf53.C at hx
  split at hx
  · rename_i a1 a2
    refine postImp (ret := zf53.ret (fun r1 h => κ (.int .i64 r1) h)) (fun v h hr => by unfold zf53.ret at hr; split at hr; exact hr; exact hr.elim) ?_
    exact calls_of_pts (E := zf53.E (fun r1 h => κ (.int .i64 r1) h) []) (envOK seatOK zf53.callsOK noIfc_ok) seatOK.mixed zf53.fun (Nat.le_of_ble_eq_true rfl) wv (cutL_ok trivial) s (fuel := 3000) (by rw [← zf53.e]; exact hx)
  · exact hx.elim

noncomputable def zf51.code : Code := Go.Proofs.Tryd.f58.body.getD .skip

theorem zf51.fun : Fun sg.P 58 25 [.cell 4 142, .tmp 5] zf51.code := mkFun Go.Proofs.Tryd.func58 (by kernel_rfl) (by kernel_rfl) (by kernel_rfl) (by kernel_rfl)

def zf51.ret (Q : Int → Sl → Bool → Heap → Prop) (v : V) (h : Heap) : Prop :=
  match v with
  | .tup [.agg [.int .i64 r1, .sl r2], .bool r3] => Q r1 r2 r3 h
  | _ => False

def zf51.C (vs : List V) (κ : V → Heap → Prop) (h : Heap) : Prop :=
  match vs with
  | [.ptr a1, .int .i64 a2] => zf51 a1 a2 (fun r1 r2 r3 h => κ (.tup [.agg [.int .i64 r1, .sl r2], .bool r3]) h) h
  | _ => False

noncomputable def zf51.calls : List (Nat × (List V → (V → Heap → Prop) → Heap → Prop)) := [(282, zf56.C)]

noncomputable def zf51.E (Q : Int → Sl → Bool → Heap → Prop) (cuts : List (Nat × (List Nat × (List V → Heap → Prop)))) : Env := { tis := tisT, fns := fnsT, tys := tysT, gls := [], rts := rtsT, unk := [], nxt := [], calls := zf51.calls, ifc := noIfc, cuts := cuts, ret := zf51.ret Q, rets := [.cell 4 142, .tmp 5], n := 25 }

theorem zf51.callsOK {W0 : World} : CallsOK sg W0 zf51.calls := ⟨zf56.S, trivial⟩

theorem zf51.e : ∀ (a1 : Option Ptr) (a2 : Int) (Q : Int → Sl → Bool → Heap → Prop) (h : Heap), zf51 a1 a2 Q h = pts (zf51.E Q []) 3000 true [.code zf51.code] (frOf 0 [.ptr a1, .int .i64 a2]) h := by
  intros; kernel_rfl

theorem zf51.S {W0 : World} : FnS sg W0 354 zf51.C := by
  intro vs κ h wv hx w s
  unfold zf51.C at hx
  split at hx
  · rename_i a1 a2
    refine postImp (ret := zf51.ret (fun r1 r2 r3 h => κ (.tup [.agg [.int .i64 r1, .sl r2], .bool r3]) h)) (fun v h hr => by unfold zf51.ret at hr; split at hr; exact hr; exact hr.elim) ?_
    exact calls_of_pts (E := zf51.E (fun r1 r2 r3 h => κ (.tup [.agg [.int .i64 r1, .sl r2], .bool r3]) h) []) (envOK seatOK zf51.callsOK noIfc_ok) seatOK.mixed zf51.fun (Nat.le_of_ble_eq_true rfl) wv (cutL_ok trivial) s (fuel := 3000) (by rw [← zf51.e]; exact hx)
  · exact hx.elim

noncomputable def zf6.code : Code := Go.Proofs.Tryd.f60.body.getD .skip

theorem zf6.fun : Fun sg.P 60 21 [.tmp 2] zf6.code := mkFun Go.Proofs.Tryd.func60 (by kernel_rfl) (by kernel_rfl) (by kernel_rfl) (by kernel_rfl)

def zf6.ret (Q : Sl → Heap → Prop) (v : V) (h : Heap) : Prop :=
  match v with
  | .sl r1 => Q r1 h
  | _ => False

def zf6.C (vs : List V) (κ : V → Heap → Prop) (h : Heap) : Prop :=
  match vs with
  | [.int .u64 a1] => zf6 a1 (fun r1 h => κ (.sl r1) h) h
  | _ => False

noncomputable def zf6.calls : List (Nat × (List V → (V → Heap → Prop) → Heap → Prop)) := []

noncomputable def zf6.E (Q : Sl → Heap → Prop) (cuts : List (Nat × (List Nat × (List V → Heap → Prop)))) : Env := { tis := tisT, fns := fnsT, tys := tysT, gls := [], rts := rtsT, unk := [], nxt := [], calls := zf6.calls, ifc := noIfc, cuts := cuts, ret := zf6.ret Q, rets := [.tmp 2], n := 21 }

theorem zf6.callsOK {W0 : World} : CallsOK sg W0 zf6.calls := trivial

def zf6.k3 (I : Int → Sl → Int → Int → Heap → Prop) (vs : List V) (h : Heap) : Prop :=
  match vs with
  | [.int .u64 a1, .sl a2, .int .i64 a3, .int .i64 a4] => I a1 a2 a3 a4 h
  | _ => False

theorem zf6.p3 : (posC zf6.code []).filter (fun p => Nat.beq p.1 3) = [(3, atPos (posC zf6.code []) 3)] := by kernel_rfl

theorem zf6.e3 : ∀  (I3 : Int → Sl → Int → Int → Heap → Prop) (a1 : Int) (a2 : Sl) (a3 : Int) (a4 : Int) (Q : Sl → Heap → Prop) (h : Heap), zf6.b3  I3 a1 a2 a3 a4 Q h = pts (zf6.E Q [(3, ([0, 3, 7, 8], zf6.k3 I3))]) 3000 true (atPos (posC zf6.code []) 3) (frAt [0, 3, 7, 8] [.int .u64 a1, .sl a2, .int .i64 a3, .int .i64 a4]) h := by
  intros; kernel_rfl

theorem zf6.s3 {W0 : World} (Q : Sl → Heap → Prop)   : CutOK sg W0 21 (entered 60) (Post sg W0 (zf6.ret Q)) (posC zf6.code []) 3 [0, 3, 7, 8] (zf6.k3 (fun a1 a2 a3 a4 h => zf6.j3  a1 a2 a3 a4 Q h)) := by
  refine cutOK_head (fun vs h hk => ?_)
  unfold zf6.k3 at hk
  split at hk
  · rename_i a1 a2 a3 a4
    refine hk (fun a1 a2 a3 a4 h => Head sg W0 21 (entered 60) (Post sg W0 (zf6.ret Q)) (posC zf6.code []) 3 [0, 3, 7, 8] [.int .u64 a1, .sl a2, .int .i64 a3, .int .i64 a4] h) ?_
    intro a1 a2 a3 a4 h hb todo hm ρ a w s f hp
    have hself : CutOK sg W0 21 (entered 60) (Post sg W0 (zf6.ret Q)) (posC zf6.code []) 3 [0, 3, 7, 8] (zf6.k3 (fun a1 a2 a3 a4 h => Head sg W0 21 (entered 60) (Post sg W0 (zf6.ret Q)) (posC zf6.code []) 3 [0, 3, 7, 8] [.int .u64 a1, .sl a2, .int .i64 a3, .int .i64 a4] h)) := cutOK_head (fun vs h hk => by unfold zf6.k3 at hk; split at hk; exact hk; exact hk.elim)
    exact piece (E := zf6.E Q [(3, ([0, 3, 7, 8], zf6.k3 (fun a1 a2 a3 a4 h => Head sg W0 21 (entered 60) (Post sg W0 (zf6.ret Q)) (posC zf6.code []) 3 [0, 3, 7, 8] [.int .u64 a1, .sl a2, .int .i64 a3, .int .i64 a4] h)))]) (vs := [.int .u64 a1, .sl a2, .int .i64 a3, .int .i64 a4]) (envOK seatOK zf6.callsOK noIfc_ok) (fnOK seatOK zf6.fun) ⟨hself, trivial⟩ zf6.p3 (fuel := 3000) (by rw [← zf6.e3]; exact hb) hm s f hp
  · exact hk.elim

theorem zf6.e : ∀ (a1 : Int) (Q : Sl → Heap → Prop) (h : Heap), zf6 a1 Q h = pts (zf6.E Q [(3, ([0, 3, 7, 8], zf6.k3 (fun a1 a2 a3 a4 h => zf6.j3  a1 a2 a3 a4 Q h)))]) 3000 true [.code zf6.code] (frOf 0 [.int .u64 a1]) h := by
  intros; kernel_rfl

theorem zf6.S {W0 : World} : FnS sg W0 355 zf6.C := by
  intro vs κ h wv hx w s
  unfold zf6.C at hx
  split at hx
  · rename_i a1
    refine postImp (ret := zf6.ret (fun r1 h => κ (.sl r1) h)) (fun v h hr => by unfold zf6.ret at hr; split at hr; exact hr; exact hr.elim) ?_
    exact calls_of_pts (E := zf6.E (fun r1 h => κ (.sl r1) h) [(3, ([0, 3, 7, 8], zf6.k3 (fun a1 a2 a3 a4 h => zf6.j3  a1 a2 a3 a4 (fun r1 h => κ (.sl r1) h) h)))]) (envOK seatOK zf6.callsOK noIfc_ok) seatOK.mixed zf6.fun (Nat.le_of_ble_eq_true rfl) wv (cutL_ok ⟨(zf6.s3 (fun r1 h => κ (.sl r1) h)), trivial⟩) s (fuel := 3000) (by rw [← zf6.e]; exact hx)
  · exact hx.elim

noncomputable def zf10.code : Code := Go.Proofs.Tryd.f59.body.getD .skip

theorem zf10.fun : Fun sg.P 59 49 [.tmp 6] zf10.code := mkFun Go.Proofs.Tryd.func59 (by kernel_rfl) (by kernel_rfl) (by kernel_rfl) (by kernel_rfl)

def zf10.ret (Q : Int → Heap → Prop) (v : V) (h : Heap) : Prop :=
  match v with
  | .int .i64 r1 => Q r1 h
  | _ => False

def zf10.C (U : Ifc) (vs : List V) (κ : V → Heap → Prop) (h : Heap) : Prop :=
  match vs with
  | [a1, .agg [.int .i64 a2, .sl a3], .sl a4] => zf10 U a1 a2 a3 a4 (fun r1 h => κ (.int .i64 r1) h) h
  | _ => False

noncomputable def zf10.calls (U : Ifc) : List (Nat × (List V → (V → Heap → Prop) → Heap → Prop)) := []

noncomputable def zf10.E (U : Ifc) (Q : Int → Heap → Prop) (cuts : List (Nat × (List Nat × (List V → Heap → Prop)))) : Env := { tis := tisT, fns := fnsT, tys := tysT, gls := glsT, rts := rtsT, unk := [], nxt := [], calls := zf10.calls U, ifc := U, cuts := cuts, ret := zf10.ret Q, rets := [.tmp 6], n := 49 }

theorem zf10.callsOK {W0 : World} {U : Ifc} (hU : IfcOK sg W0 glsT U) : CallsOK sg W0 (zf10.calls U) := trivial

def zf10.k10 (I : V → Sl → Int → Sl → Int → Int → Heap → Prop) (vs : List V) (h : Heap) : Prop :=
  match vs with
  | [a1, .sl a2, .int .i64 a3, .sl a4, .int .i64 a5, .int .i64 a6] => I a1 a2 a3 a4 a5 a6 h
  | _ => False

def zf10.k11 (I : Int → Heap → Prop) (vs : List V) (h : Heap) : Prop :=
  match vs with
  | [.int .i64 a1] => I a1 h
  | _ => False

def zf10.k8 (I : V → Sl → Int → Int → Sl → Int → Int → Heap → Prop) (vs : List V) (h : Heap) : Prop :=
  match vs with
  | [a1, .sl a2, .int .i64 a3, .int .i64 a4, .sl a5, .int .i64 a6, .int .i64 a7] => I a1 a2 a3 a4 a5 a6 a7 h
  | _ => False

def zf10.k3 (I : V → Sl → Int → Sl → Int → Int → Heap → Prop) (vs : List V) (h : Heap) : Prop :=
  match vs with
  | [a1, .sl a2, .int .i64 a3, .sl a4, .int .i64 a5, .int .i64 a6] => I a1 a2 a3 a4 a5 a6 h
  | _ => False

theorem zf10.p10 : (posC zf10.code []).filter (fun p => Nat.beq p.1 10) = [(10, atPos (posC zf10.code []) 10)] := by kernel_rfl

theorem zf10.e10 : ∀ (U : Ifc) (I3 : V → Sl → Int → Sl → Int → Int → Heap → Prop) (a1 : V) (a2 : Sl) (a3 : Int) (a4 : Sl) (a5 : Int) (a6 : Int) (Q : Int → Heap → Prop) (h : Heap), zf10.j10 U I3 a1 a2 a3 a4 a5 a6 Q h = pts (zf10.E U Q [(3, ([0, 2, 7, 12, 13, 14], zf10.k3 I3))]) 3000 true (atPos (posC zf10.code []) 10) (frAt [0, 2, 7, 12, 13, 14] [a1, .sl a2, .int .i64 a3, .sl a4, .int .i64 a5, .int .i64 a6]) h := by
  intros; kernel_rfl

theorem zf10.s10 {W0 : World} {U : Ifc} (hU : IfcOK sg W0 glsT U) (Q : Int → Heap → Prop) (I3 : V → Sl → Int → Sl → Int → Int → Heap → Prop) (h3 : CutOK sg W0 49 (entered 59) (Post sg W0 (zf10.ret Q)) (posC zf10.code []) 3 [0, 2, 7, 12, 13, 14] (zf10.k3 I3)) : CutOK sg W0 49 (entered 59) (Post sg W0 (zf10.ret Q)) (posC zf10.code []) 10 [0, 2, 7, 12, 13, 14] (zf10.k10 (fun a1 a2 a3 a4 a5 a6 h => zf10.j10 U I3 a1 a2 a3 a4 a5 a6 Q h)) := by
  refine cutOK_head (fun vs h hk => ?_)
  unfold zf10.k10 at hk
  split at hk
  · rename_i a1 a2 a3 a4 a5 a6
    intro todo hm ρ a w s f hp
    exact piece (E := zf10.E U Q [(3, ([0, 2, 7, 12, 13, 14], zf10.k3 I3))]) (vs := [a1, .sl a2, .int .i64 a3, .sl a4, .int .i64 a5, .int .i64 a6]) (envOK seatOK (zf10.callsOK hU) hU) (fnOK seatOK zf10.fun) ⟨h3, trivial⟩ zf10.p10 (fuel := 3000) (by rw [← zf10.e10]; exact hk) hm s f hp
  · exact hk.elim

theorem zf10.p11 : (posC zf10.code []).filter (fun p => Nat.beq p.1 11) = [(11, atPos (posC zf10.code []) 11)] := by kernel_rfl

theorem zf10.e11 : ∀ (U : Ifc)  (a1 : Int) (Q : Int → Heap → Prop) (h : Heap), zf10.j11 U  a1 Q h = pts (zf10.E U Q []) 3000 true (atPos (posC zf10.code []) 11) (frAt [7] [.int .i64 a1]) h := by
  intros; kernel_rfl

theorem zf10.s11 {W0 : World} {U : Ifc} (hU : IfcOK sg W0 glsT U) (Q : Int → Heap → Prop)   : CutOK sg W0 49 (entered 59) (Post sg W0 (zf10.ret Q)) (posC zf10.code []) 11 [7] (zf10.k11 (fun a1 h => zf10.j11 U  a1 Q h)) := by
  refine cutOK_head (fun vs h hk => ?_)
  unfold zf10.k11 at hk
  split at hk
  · rename_i a1
    intro todo hm ρ a w s f hp
    exact piece (E := zf10.E U Q []) (vs := [.int .i64 a1]) (envOK seatOK (zf10.callsOK hU) hU) (fnOK seatOK zf10.fun) trivial zf10.p11 (fuel := 3000) (by rw [← zf10.e11]; exact hk) hm s f hp
  · exact hk.elim

theorem zf10.p8 : (posC zf10.code []).filter (fun p => Nat.beq p.1 8) = [(8, atPos (posC zf10.code []) 8)] := by kernel_rfl

theorem zf10.e8 : ∀ (U : Ifc) (I3 : V → Sl → Int → Sl → Int → Int → Heap → Prop) (a1 : V) (a2 : Sl) (a3 : Int) (a4 : Int) (a5 : Sl) (a6 : Int) (a7 : Int) (Q : Int → Heap → Prop) (h : Heap), zf10.j8 U I3 a1 a2 a3 a4 a5 a6 a7 Q h = pts (zf10.E U Q [(10, ([0, 2, 7, 12, 13, 14], zf10.k10 (fun a1 a2 a3 a4 a5 a6 h => zf10.j10 U I3 a1 a2 a3 a4 a5 a6 Q h)))]) 3000 true (atPos (posC zf10.code []) 8) (frAt [0, 2, 7, 10, 12, 13, 14] [a1, .sl a2, .int .i64 a3, .int .i64 a4, .sl a5, .int .i64 a6, .int .i64 a7]) h := by
  intros; kernel_rfl

theorem zf10.s8 {W0 : World} {U : Ifc} (hU : IfcOK sg W0 glsT U) (Q : Int → Heap → Prop) (I3 : V → Sl → Int → Sl → Int → Int → Heap → Prop) (h3 : CutOK sg W0 49 (entered 59) (Post sg W0 (zf10.ret Q)) (posC zf10.code []) 3 [0, 2, 7, 12, 13, 14] (zf10.k3 I3)) : CutOK sg W0 49 (entered 59) (Post sg W0 (zf10.ret Q)) (posC zf10.code []) 8 [0, 2, 7, 10, 12, 13, 14] (zf10.k8 (fun a1 a2 a3 a4 a5 a6 a7 h => zf10.j8 U I3 a1 a2 a3 a4 a5 a6 a7 Q h)) := by
  refine cutOK_head (fun vs h hk => ?_)
  unfold zf10.k8 at hk
  split at hk
  · rename_i a1 a2 a3 a4 a5 a6 a7
    intro todo hm ρ a w s f hp
    exact piece (E := zf10.E U Q [(10, ([0, 2, 7, 12, 13, 14], zf10.k10 (fun a1 a2 a3 a4 a5 a6 h => zf10.j10 U I3 a1 a2 a3 a4 a5 a6 Q h)))]) (vs := [a1, .sl a2, .int .i64 a3, .int .i64 a4, .sl a5, .int .i64 a6, .int .i64 a7]) (envOK seatOK (zf10.callsOK hU) hU) (fnOK seatOK zf10.fun) ⟨(zf10.s10 hU Q I3 h3), trivial⟩ zf10.p8 (fuel := 3000) (by rw [← zf10.e8]; exact hk) hm s f hp
  · exact hk.elim

theorem zf10.p3 : (posC zf10.code []).filter (fun p => Nat.beq p.1 3) = [(3, atPos (posC zf10.code []) 3)] := by kernel_rfl

theorem zf10.e3 : ∀ (U : Ifc)  (I3 : V → Sl → Int → Sl → Int → Int → Heap → Prop) (a1 : V) (a2 : Sl) (a3 : Int) (a4 : Sl) (a5 : Int) (a6 : Int) (Q : Int → Heap → Prop) (h : Heap), zf10.b3 U  I3 a1 a2 a3 a4 a5 a6 Q h = pts (zf10.E U Q [(10, ([0, 2, 7, 12, 13, 14], zf10.k10 (fun a1 a2 a3 a4 a5 a6 h => zf10.j10 U I3 a1 a2 a3 a4 a5 a6 Q h))), (11, ([7], zf10.k11 (fun a1 h => zf10.j11 U  a1 Q h))), (8, ([0, 2, 7, 10, 12, 13, 14], zf10.k8 (fun a1 a2 a3 a4 a5 a6 a7 h => zf10.j8 U I3 a1 a2 a3 a4 a5 a6 a7 Q h)))]) 3000 true (atPos (posC zf10.code []) 3) (frAt [0, 2, 7, 12, 13, 14] [a1, .sl a2, .int .i64 a3, .sl a4, .int .i64 a5, .int .i64 a6]) h := by
  intros; kernel_rfl

theorem zf10.s3 {W0 : World} {U : Ifc} (hU : IfcOK sg W0 glsT U) (Q : Int → Heap → Prop)   : CutOK sg W0 49 (entered 59) (Post sg W0 (zf10.ret Q)) (posC zf10.code []) 3 [0, 2, 7, 12, 13, 14] (zf10.k3 (fun a1 a2 a3 a4 a5 a6 h => zf10.j3 U  a1 a2 a3 a4 a5 a6 Q h)) := by
  refine cutOK_head (fun vs h hk => ?_)
  unfold zf10.k3 at hk
  split at hk
  · rename_i a1 a2 a3 a4 a5 a6
    refine hk (fun a1 a2 a3 a4 a5 a6 h => Head sg W0 49 (entered 59) (Post sg W0 (zf10.ret Q)) (posC zf10.code []) 3 [0, 2, 7, 12, 13, 14] [a1, .sl a2, .int .i64 a3, .sl a4, .int .i64 a5, .int .i64 a6] h) ?_
    intro a1 a2 a3 a4 a5 a6 h hb todo hm ρ a w s f hp
    have hself : CutOK sg W0 49 (entered 59) (Post sg W0 (zf10.ret Q)) (posC zf10.code []) 3 [0, 2, 7, 12, 13, 14] (zf10.k3 (fun a1 a2 a3 a4 a5 a6 h => Head sg W0 49 (entered 59) (Post sg W0 (zf10.ret Q)) (posC zf10.code []) 3 [0, 2, 7, 12, 13, 14] [a1, .sl a2, .int .i64 a3, .sl a4, .int .i64 a5, .int .i64 a6] h)) := cutOK_head (fun vs h hk => by unfold zf10.k3 at hk; split at hk; exact hk; exact hk.elim)
    exact piece (E := zf10.E U Q [(10, ([0, 2, 7, 12, 13, 14], zf10.k10 (fun a1 a2 a3 a4 a5 a6 h => zf10.j10 U (fun a1 a2 a3 a4 a5 a6 h => Head sg W0 49 (entered 59) (Post sg W0 (zf10.ret Q)) (posC zf10.code []) 3 [0, 2, 7, 12, 13, 14] [a1, .sl a2, .int .i64 a3, .sl a4, .int .i64 a5, .int .i64 a6] h) a1 a2 a3 a4 a5 a6 Q h))), (11, ([7], zf10.k11 (fun a1 h => zf10.j11 U  a1 Q h))), (8, ([0, 2, 7, 10, 12, 13, 14], zf10.k8 (fun a1 a2 a3 a4 a5 a6 a7 h => zf10.j8 U (fun a1 a2 a3 a4 a5 a6 h => Head sg W0 49 (entered 59) (Post sg W0 (zf10.ret Q)) (posC zf10.code []) 3 [0, 2, 7, 12, 13, 14] [a1, .sl a2, .int .i64 a3, .sl a4, .int .i64 a5, .int .i64 a6] h) a1 a2 a3 a4 a5 a6 a7 Q h)))]) (vs := [a1, .sl a2, .int .i64 a3, .sl a4, .int .i64 a5, .int .i64 a6]) (envOK seatOK (zf10.callsOK hU) hU) (fnOK seatOK zf10.fun) ⟨(zf10.s10 hU Q (fun a1 a2 a3 a4 a5 a6 h => Head sg W0 49 (entered 59) (Post sg W0 (zf10.ret Q)) (posC zf10.code []) 3 [0, 2, 7, 12, 13, 14] [a1, .sl a2, .int .i64 a3, .sl a4, .int .i64 a5, .int .i64 a6] h) hself), (zf10.s11 hU Q  ), (zf10.s8 hU Q (fun a1 a2 a3 a4 a5 a6 h => Head sg W0 49 (entered 59) (Post sg W0 (zf10.ret Q)) (posC zf10.code []) 3 [0, 2, 7, 12, 13, 14] [a1, .sl a2, .int .i64 a3, .sl a4, .int .i64 a5, .int .i64 a6] h) hself), trivial⟩ zf10.p3 (fuel := 3000) (by rw [← zf10.e3]; exact hb) hm s f hp
  · exact hk.elim

theorem zf10.e : ∀ (U : Ifc) (a1 : V) (a2 : Int) (a3 : Sl) (a4 : Sl) (Q : Int → Heap → Prop) (h : Heap), zf10 U a1 a2 a3 a4 Q h = pts (zf10.E U Q [(3, ([0, 2, 7, 12, 13, 14], zf10.k3 (fun a1 a2 a3 a4 a5 a6 h => zf10.j3 U  a1 a2 a3 a4 a5 a6 Q h)))]) 3000 true [.code zf10.code] (frOf 0 [a1, .agg [.int .i64 a2, .sl a3], .sl a4]) h := by
  intros; kernel_rfl

theorem zf10.S {W0 : World} {U : Ifc} (hU : IfcOK sg W0 glsT U) : FnS sg W0 312 (zf10.C U) := by
  intro vs κ h wv hx w s
  unfold zf10.C at hx
  split at hx
  · rename_i a1 a2 a3 a4
    refine postImp (ret := zf10.ret (fun r1 h => κ (.int .i64 r1) h)) (fun v h hr => by unfold zf10.ret at hr; split at hr; exact hr; exact hr.elim) ?_
    exact calls_of_pts (E := zf10.E U (fun r1 h => κ (.int .i64 r1) h) [(3, ([0, 2, 7, 12, 13, 14], zf10.k3 (fun a1 a2 a3 a4 a5 a6 h => zf10.j3 U  a1 a2 a3 a4 a5 a6 (fun r1 h => κ (.int .i64 r1) h) h)))]) (envOK seatOK (zf10.callsOK hU) hU) seatOK.mixed zf10.fun (Nat.le_of_ble_eq_true rfl) wv (cutL_ok ⟨(zf10.s3 hU (fun r1 h => κ (.int .i64 r1) h)), trivial⟩) s (fuel := 3000) (by rw [← zf10.e]; exact hx)
  · exact hx.elim

noncomputable def zf2.code : Code := Go.Proofs.Tryd.f24.body.getD .skip

theorem zf2.fun : Fun sg.P 24 83 [.tmp 4, .tmp 5] zf2.code := mkFun Go.Proofs.Tryd.func24 (by kernel_rfl) (by kernel_rfl) (by kernel_rfl) (by kernel_rfl)

def zf2.ret (Q : Int → Int → Heap → Prop) (v : V) (h : Heap) : Prop :=
  match v with
  | .tup [.int .i64 r1, .int .i64 r2] => Q r1 r2 h
  | _ => False

def zf2.C (U : Ifc) (vs : List V) (κ : V → Heap → Prop) (h : Heap) : Prop :=
  match vs with
  | [.ptr a1, a2] => zf2 U a1 a2 (fun r1 r2 h => κ (.tup [.int .i64 r1, .int .i64 r2]) h) h
  | _ => False

noncomputable def zf2.calls (U : Ifc) : List (Nat × (List V → (V → Heap → Prop) → Heap → Prop)) := [(353, zf53.C), (77, zf41.C U), (78, zf42.C U), (279, zf3.C), (354, zf51.C), (312, zf10.C U), (355, zf6.C)]

noncomputable def zf2.E (U : Ifc) (Q : Int → Int → Heap → Prop) (cuts : List (Nat × (List Nat × (List V → Heap → Prop)))) : Env := { tis := tisT, fns := fnsT, tys := tysT, gls := glsT, rts := rtsT, unk := [], nxt := [], calls := zf2.calls U, ifc := U, cuts := cuts, ret := zf2.ret Q, rets := [.tmp 4, .tmp 5], n := 83 }

theorem zf2.callsOK {W0 : World} {U : Ifc} (hU : IfcOK sg W0 glsT U) : CallsOK sg W0 (zf2.calls U) := ⟨zf53.S, (zf41.S hU), (zf42.S hU), zf3.S, zf51.S, (zf10.S hU), zf6.S, trivial⟩

def zf2.k7 (I : Int → Int → Heap → Prop) (vs : List V) (h : Heap) : Prop :=
  match vs with
  | [.int .i64 a1, .int .i64 a2] => I a1 a2 h
  | _ => False

def zf2.k9 (I : (Option Ptr) → V → Int → Ptr → Ptr → Heap → Prop) (vs : List V) (h : Heap) : Prop :=
  match vs with
  | [.ptr a1, a2, .int .i64 a3, .ptr (some a4), .ptr (some a5)] => I a1 a2 a3 a4 a5 h
  | _ => False

def zf2.k8 (I : (Option Ptr) → V → Int → Ptr → Heap → Prop) (vs : List V) (h : Heap) : Prop :=
  match vs with
  | [.ptr a1, a2, .int .i64 a3, .ptr (some a4)] => I a1 a2 a3 a4 h
  | _ => False

def zf2.k4 (I : (Option Ptr) → V → Int → Heap → Prop) (vs : List V) (h : Heap) : Prop :=
  match vs with
  | [.ptr a1, a2, .int .i64 a3] => I a1 a2 a3 h
  | _ => False

theorem zf2.p7 : (posC zf2.code []).filter (fun p => Nat.beq p.1 7) = [(7, atPos (posC zf2.code []) 7)] := by kernel_rfl

theorem zf2.e7 : ∀ (U : Ifc) (I4 : (Option Ptr) → V → Int → Heap → Prop) (a1 : Int) (a2 : Int) (Q : Int → Int → Heap → Prop) (h : Heap), zf2.j7 U I4 a1 a2 Q h = pts (zf2.E U Q []) 3000 true (atPos (posC zf2.code []) 7) (frAt [6, 9] [.int .i64 a1, .int .i64 a2]) h := by
  intros; kernel_rfl

theorem zf2.s7 {W0 : World} {U : Ifc} (hU : IfcOK sg W0 glsT U) (Q : Int → Int → Heap → Prop) (I4 : (Option Ptr) → V → Int → Heap → Prop) (h4 : CutOK sg W0 83 (entered 24) (Post sg W0 (zf2.ret Q)) (posC zf2.code []) 4 [0, 1, 6] (zf2.k4 I4)) : CutOK sg W0 83 (entered 24) (Post sg W0 (zf2.ret Q)) (posC zf2.code []) 7 [6, 9] (zf2.k7 (fun a1 a2 h => zf2.j7 U I4 a1 a2 Q h)) := by
  refine cutOK_head (fun vs h hk => ?_)
  unfold zf2.k7 at hk
  split at hk
  · rename_i a1 a2
    intro todo hm ρ a w s f hp
    exact piece (E := zf2.E U Q []) (vs := [.int .i64 a1, .int .i64 a2]) (envOK seatOK (zf2.callsOK hU) hU) (fnOK seatOK zf2.fun) trivial zf2.p7 (fuel := 3000) (by rw [← zf2.e7]; exact hk) hm s f hp
  · exact hk.elim

theorem zf2.p9 : (posC zf2.code []).filter (fun p => Nat.beq p.1 9) = [(9, atPos (posC zf2.code []) 9)] := by kernel_rfl

theorem zf2.e9 : ∀ (U : Ifc) (I4 : (Option Ptr) → V → Int → Heap → Prop) (a1 : Option Ptr) (a2 : V) (a3 : Int) (a4 : Ptr) (a5 : Ptr) (Q : Int → Int → Heap → Prop) (h : Heap), zf2.j9 U I4 a1 a2 a3 a4 a5 Q h = pts (zf2.E U Q [(4, ([0, 1, 6], zf2.k4 I4))]) 3000 true (atPos (posC zf2.code []) 9) (frAt [0, 1, 6, 7, 10] [.ptr a1, a2, .int .i64 a3, .ptr (some a4), .ptr (some a5)]) h := by
  intros; kernel_rfl

theorem zf2.s9 {W0 : World} {U : Ifc} (hU : IfcOK sg W0 glsT U) (Q : Int → Int → Heap → Prop) (I4 : (Option Ptr) → V → Int → Heap → Prop) (h4 : CutOK sg W0 83 (entered 24) (Post sg W0 (zf2.ret Q)) (posC zf2.code []) 4 [0, 1, 6] (zf2.k4 I4)) : CutOK sg W0 83 (entered 24) (Post sg W0 (zf2.ret Q)) (posC zf2.code []) 9 [0, 1, 6, 7, 10] (zf2.k9 (fun a1 a2 a3 a4 a5 h => zf2.j9 U I4 a1 a2 a3 a4 a5 Q h)) := by
  refine cutOK_head (fun vs h hk => ?_)
  unfold zf2.k9 at hk
  split at hk
  · rename_i a1 a2 a3 a4 a5
    intro todo hm ρ a w s f hp
    exact piece (E := zf2.E U Q [(4, ([0, 1, 6], zf2.k4 I4))]) (vs := [.ptr a1, a2, .int .i64 a3, .ptr (some a4), .ptr (some a5)]) (envOK seatOK (zf2.callsOK hU) hU) (fnOK seatOK zf2.fun) ⟨h4, trivial⟩ zf2.p9 (fuel := 3000) (by rw [← zf2.e9]; exact hk) hm s f hp
  · exact hk.elim

theorem zf2.p8 : (posC zf2.code []).filter (fun p => Nat.beq p.1 8) = [(8, atPos (posC zf2.code []) 8)] := by kernel_rfl

theorem zf2.e8 : ∀ (U : Ifc) (I4 : (Option Ptr) → V → Int → Heap → Prop) (a1 : Option Ptr) (a2 : V) (a3 : Int) (a4 : Ptr) (Q : Int → Int → Heap → Prop) (h : Heap), zf2.j8 U I4 a1 a2 a3 a4 Q h = pts (zf2.E U Q [(9, ([0, 1, 6, 7, 10], zf2.k9 (fun a1 a2 a3 a4 a5 h => zf2.j9 U I4 a1 a2 a3 a4 a5 Q h)))]) 3000 true (atPos (posC zf2.code []) 8) (frAt [0, 1, 6, 7] [.ptr a1, a2, .int .i64 a3, .ptr (some a4)]) h := by
  intros; kernel_rfl

theorem zf2.s8 {W0 : World} {U : Ifc} (hU : IfcOK sg W0 glsT U) (Q : Int → Int → Heap → Prop) (I4 : (Option Ptr) → V → Int → Heap → Prop) (h4 : CutOK sg W0 83 (entered 24) (Post sg W0 (zf2.ret Q)) (posC zf2.code []) 4 [0, 1, 6] (zf2.k4 I4)) : CutOK sg W0 83 (entered 24) (Post sg W0 (zf2.ret Q)) (posC zf2.code []) 8 [0, 1, 6, 7] (zf2.k8 (fun a1 a2 a3 a4 h => zf2.j8 U I4 a1 a2 a3 a4 Q h)) := by
  refine cutOK_head (fun vs h hk => ?_)
  unfold zf2.k8 at hk
  split at hk
  · rename_i a1 a2 a3 a4
    intro todo hm ρ a w s f hp
    exact piece (E := zf2.E U Q [(9, ([0, 1, 6, 7, 10], zf2.k9 (fun a1 a2 a3 a4 a5 h => zf2.j9 U I4 a1 a2 a3 a4 a5 Q h)))]) (vs := [.ptr a1, a2, .int .i64 a3, .ptr (some a4)]) (envOK seatOK (zf2.callsOK hU) hU) (fnOK seatOK zf2.fun) ⟨(zf2.s9 hU Q I4 h4), trivial⟩ zf2.p8 (fuel := 3000) (by rw [← zf2.e8]; exact hk) hm s f hp
  · exact hk.elim

theorem zf2.p4 : (posC zf2.code []).filter (fun p => Nat.beq p.1 4) = [(4, atPos (posC zf2.code []) 4)] := by kernel_rfl

theorem zf2.e4 : ∀ (U : Ifc)  (I4 : (Option Ptr) → V → Int → Heap → Prop) (a1 : Option Ptr) (a2 : V) (a3 : Int) (Q : Int → Int → Heap → Prop) (h : Heap), zf2.b4 U  I4 a1 a2 a3 Q h = pts (zf2.E U Q [(7, ([6, 9], zf2.k7 (fun a1 a2 h => zf2.j7 U I4 a1 a2 Q h))), (8, ([0, 1, 6, 7], zf2.k8 (fun a1 a2 a3 a4 h => zf2.j8 U I4 a1 a2 a3 a4 Q h)))]) 3000 true (atPos (posC zf2.code []) 4) (frAt [0, 1, 6] [.ptr a1, a2, .int .i64 a3]) h := by
  intros; kernel_rfl

theorem zf2.s4 {W0 : World} {U : Ifc} (hU : IfcOK sg W0 glsT U) (Q : Int → Int → Heap → Prop)   : CutOK sg W0 83 (entered 24) (Post sg W0 (zf2.ret Q)) (posC zf2.code []) 4 [0, 1, 6] (zf2.k4 (fun a1 a2 a3 h => zf2.j4 U  a1 a2 a3 Q h)) := by
  refine cutOK_head (fun vs h hk => ?_)
  unfold zf2.k4 at hk
  split at hk
  · rename_i a1 a2 a3
    refine hk (fun a1 a2 a3 h => Head sg W0 83 (entered 24) (Post sg W0 (zf2.ret Q)) (posC zf2.code []) 4 [0, 1, 6] [.ptr a1, a2, .int .i64 a3] h) ?_
    intro a1 a2 a3 h hb todo hm ρ a w s f hp
    have hself : CutOK sg W0 83 (entered 24) (Post sg W0 (zf2.ret Q)) (posC zf2.code []) 4 [0, 1, 6] (zf2.k4 (fun a1 a2 a3 h => Head sg W0 83 (entered 24) (Post sg W0 (zf2.ret Q)) (posC zf2.code []) 4 [0, 1, 6] [.ptr a1, a2, .int .i64 a3] h)) := cutOK_head (fun vs h hk => by unfold zf2.k4 at hk; split at hk; exact hk; exact hk.elim)
    exact piece (E := zf2.E U Q [(7, ([6, 9], zf2.k7 (fun a1 a2 h => zf2.j7 U (fun a1 a2 a3 h => Head sg W0 83 (entered 24) (Post sg W0 (zf2.ret Q)) (posC zf2.code []) 4 [0, 1, 6] [.ptr a1, a2, .int .i64 a3] h) a1 a2 Q h))), (8, ([0, 1, 6, 7], zf2.k8 (fun a1 a2 a3 a4 h => zf2.j8 U (fun a1 a2 a3 h => Head sg W0 83 (entered 24) (Post sg W0 (zf2.ret Q)) (posC zf2.code []) 4 [0, 1, 6] [.ptr a1, a2, .int .i64 a3] h) a1 a2 a3 a4 Q h)))]) (vs := [.ptr a1, a2, .int .i64 a3]) (envOK seatOK (zf2.callsOK hU) hU) (fnOK seatOK zf2.fun) ⟨(zf2.s7 hU Q (fun a1 a2 a3 h => Head sg W0 83 (entered 24) (Post sg W0 (zf2.ret Q)) (posC zf2.code []) 4 [0, 1, 6] [.ptr a1, a2, .int .i64 a3] h) hself), (zf2.s8 hU Q (fun a1 a2 a3 h => Head sg W0 83 (entered 24) (Post sg W0 (zf2.ret Q)) (posC zf2.code []) 4 [0, 1, 6] [.ptr a1, a2, .int .i64 a3] h) hself), trivial⟩ zf2.p4 (fuel := 3000) (by rw [← zf2.e4]; exact hb) hm s f hp
  · exact hk.elim

theorem zf2.e : ∀ (U : Ifc) (a1 : Option Ptr) (a2 : V) (Q : Int → Int → Heap → Prop) (h : Heap), zf2 U a1 a2 Q h = pts (zf2.E U Q [(4, ([0, 1, 6], zf2.k4 (fun a1 a2 a3 h => zf2.j4 U  a1 a2 a3 Q h)))]) 3000 true [.code zf2.code] (frOf 0 [.ptr a1, a2]) h := by
  intros; kernel_rfl

theorem zf2.S {W0 : World} {U : Ifc} (hU : IfcOK sg W0 glsT U) : FnS sg W0 283 (zf2.C U) := by
  intro vs κ h wv hx w s
  unfold zf2.C at hx
  split at hx
  · rename_i a1 a2
    refine postImp (ret := zf2.ret (fun r1 r2 h => κ (.tup [.int .i64 r1, .int .i64 r2]) h)) (fun v h hr => by unfold zf2.ret at hr; split at hr; exact hr; exact hr.elim) ?_
    exact calls_of_pts (E := zf2.E U (fun r1 r2 h => κ (.tup [.int .i64 r1, .int .i64 r2]) h) [(4, ([0, 1, 6], zf2.k4 (fun a1 a2 a3 h => zf2.j4 U  a1 a2 a3 (fun r1 r2 h => κ (.tup [.int .i64 r1, .int .i64 r2]) h) h)))]) (envOK seatOK (zf2.callsOK hU) hU) seatOK.mixed zf2.fun (Nat.le_of_ble_eq_true rfl) wv (cutL_ok ⟨(zf2.s4 hU (fun r1 r2 h => κ (.tup [.int .i64 r1, .int .i64 r2]) h)), trivial⟩) s (fuel := 3000) (by rw [← zf2.e]; exact hx)
  · exact hx.elim

noncomputable def zf57.code : Code := Go.Proofs.Tryd.f78.body.getD .skip

theorem zf57.fun : Fun sg.P 78 53 [.tmp 6, .tmp 7] zf57.code := mkFun Go.Proofs.Tryd.func78 (by kernel_rfl) (by kernel_rfl) (by kernel_rfl) (by kernel_rfl)

def zf57.ret (Q : Int → Bool → Heap → Prop) (v : V) (h : Heap) : Prop :=
  match v with
  | .tup [.int .u64 r1, .bool r2] => Q r1 r2 h
  | _ => False

def zf57.C (U : Ifc) (vs : List V) (κ : V → Heap → Prop) (h : Heap) : Prop :=
  match vs with
  | [.sl a1, .int .i64 a2, .int .i64 a3] => zf57 U a1 a2 a3 (fun r1 r2 h => κ (.tup [.int .u64 r1, .bool r2]) h) h
  | _ => False

noncomputable def zf57.calls (U : Ifc) : List (Nat × (List V → (V → Heap → Prop) → Heap → Prop)) := [(93, zf59.C U)]

noncomputable def zf57.E (U : Ifc) (Q : Int → Bool → Heap → Prop) (cuts : List (Nat × (List Nat × (List V → Heap → Prop)))) : Env := { tis := tisT, fns := fnsT, tys := tysT, gls := glsT, rts := rtsT, unk := [], nxt := [], calls := zf57.calls U, ifc := U, cuts := cuts, ret := zf57.ret Q, rets := [.tmp 6, .tmp 7], n := 53 }

theorem zf57.callsOK {W0 : World} {U : Ifc} (hU : IfcOK sg W0 glsT U) : CallsOK sg W0 (zf57.calls U) := ⟨(zf59.S hU), trivial⟩

def zf57.k2 (I : Heap → Prop) (vs : List V) (h : Heap) : Prop :=
  match vs with
  | [] => I  h
  | _ => False

def zf57.k5 (I : Int → Int → Sl → Int → Int → Heap → Prop) (vs : List V) (h : Heap) : Prop :=
  match vs with
  | [.int .i64 a1, .int .u64 a2, .sl a3, .int .i64 a4, .int .i64 a5] => I a1 a2 a3 a4 a5 h
  | _ => False

theorem zf57.p2 : (posC zf57.code []).filter (fun p => Nat.beq p.1 2) = [(2, atPos (posC zf57.code []) 2)] := by kernel_rfl

theorem zf57.e2 : ∀ (U : Ifc)   (Q : Int → Bool → Heap → Prop) (h : Heap), zf57.j2 U   Q h = pts (zf57.E U Q []) 3000 true (atPos (posC zf57.code []) 2) (frAt [] []) h := by
  intros; kernel_rfl

theorem zf57.s2 {W0 : World} {U : Ifc} (hU : IfcOK sg W0 glsT U) (Q : Int → Bool → Heap → Prop)   : CutOK sg W0 53 (entered 78) (Post sg W0 (zf57.ret Q)) (posC zf57.code []) 2 [] (zf57.k2 (fun  h => zf57.j2 U   Q h)) := by
  refine cutOK_head (fun vs h hk => ?_)
  unfold zf57.k2 at hk
  split at hk
  · skip
    intro todo hm ρ a w s f hp
    exact piece (E := zf57.E U Q []) (vs := []) (envOK seatOK (zf57.callsOK hU) hU) (fnOK seatOK zf57.fun) trivial zf57.p2 (fuel := 3000) (by rw [← zf57.e2]; exact hk) hm s f hp
  · exact hk.elim

theorem zf57.p5 : (posC zf57.code []).filter (fun p => Nat.beq p.1 5) = [(5, atPos (posC zf57.code []) 5)] := by kernel_rfl

theorem zf57.e5 : ∀ (U : Ifc)  (I5 : Int → Int → Sl → Int → Int → Heap → Prop) (a1 : Int) (a2 : Int) (a3 : Sl) (a4 : Int) (a5 : Int) (Q : Int → Bool → Heap → Prop) (h : Heap), zf57.b5 U  I5 a1 a2 a3 a4 a5 Q h = pts (zf57.E U Q [(5, ([2, 8, 31, 32, 33], zf57.k5 I5))]) 3000 true (atPos (posC zf57.code []) 5) (frAt [2, 8, 31, 32, 33] [.int .i64 a1, .int .u64 a2, .sl a3, .int .i64 a4, .int .i64 a5]) h := by
  intros; kernel_rfl

theorem zf57.s5 {W0 : World} {U : Ifc} (hU : IfcOK sg W0 glsT U) (Q : Int → Bool → Heap → Prop)   : CutOK sg W0 53 (entered 78) (Post sg W0 (zf57.ret Q)) (posC zf57.code []) 5 [2, 8, 31, 32, 33] (zf57.k5 (fun a1 a2 a3 a4 a5 h => zf57.j5 U  a1 a2 a3 a4 a5 Q h)) := by
  refine cutOK_head (fun vs h hk => ?_)
  unfold zf57.k5 at hk
  split at hk
  · rename_i a1 a2 a3 a4 a5
    refine hk (fun a1 a2 a3 a4 a5 h => Head sg W0 53 (entered 78) (Post sg W0 (zf57.ret Q)) (posC zf57.code []) 5 [2, 8, 31, 32, 33] [.int .i64 a1, .int .u64 a2, .sl a3, .int .i64 a4, .int .i64 a5] h) ?_
    intro a1 a2 a3 a4 a5 h hb todo hm ρ a w s f hp
    have hself : CutOK sg W0 53 (entered 78) (Post sg W0 (zf57.ret Q)) (posC zf57.code []) 5 [2, 8, 31, 32, 33] (zf57.k5 (fun a1 a2 a3 a4 a5 h => Head sg W0 53 (entered 78) (Post sg W0 (zf57.ret Q)) (posC zf57.code []) 5 [2, 8, 31, 32, 33] [.int .i64 a1, .int .u64 a2, .sl a3, .int .i64 a4, .int .i64 a5] h)) := cutOK_head (fun vs h hk => by unfold zf57.k5 at hk; split at hk; exact hk; exact hk.elim)
    exact piece (E := zf57.E U Q [(5, ([2, 8, 31, 32, 33], zf57.k5 (fun a1 a2 a3 a4 a5 h => Head sg W0 53 (entered 78) (Post sg W0 (zf57.ret Q)) (posC zf57.code []) 5 [2, 8, 31, 32, 33] [.int .i64 a1, .int .u64 a2, .sl a3, .int .i64 a4, .int .i64 a5] h)))]) (vs := [.int .i64 a1, .int .u64 a2, .sl a3, .int .i64 a4, .int .i64 a5]) (envOK seatOK (zf57.callsOK hU) hU) (fnOK seatOK zf57.fun) ⟨hself, trivial⟩ zf57.p5 (fuel := 3000) (by rw [← zf57.e5]; exact hb) hm s f hp
  · exact hk.elim

theorem zf57.e : ∀ (U : Ifc) (a1 : Sl) (a2 : Int) (a3 : Int) (Q : Int → Bool → Heap → Prop) (h : Heap), zf57 U a1 a2 a3 Q h = pts (zf57.E U Q [(2, ([], zf57.k2 (fun  h => zf57.j2 U   Q h))), (5, ([2, 8, 31, 32, 33], zf57.k5 (fun a1 a2 a3 a4 a5 h => zf57.j5 U  a1 a2 a3 a4 a5 Q h)))]) 3000 true [.code zf57.code] (frOf 0 [.sl a1, .int .i64 a2, .int .i64 a3]) h := by
  intros; kernel_rfl

theorem zf57.S {W0 : World} {U : Ifc} (hU : IfcOK sg W0 glsT U) : FnS sg W0 94 (zf57.C U) := by
  intro vs κ h wv hx w s
  unfold zf57.C at hx
  split at hx
  · rename_i a1 a2 a3
    refine postImp (ret := zf57.ret (fun r1 r2 h => κ (.tup [.int .u64 r1, .bool r2]) h)) (fun v h hr => by unfold zf57.ret at hr; split at hr; exact hr; exact hr.elim) ?_
    exact calls_of_pts (E := zf57.E U (fun r1 r2 h => κ (.tup [.int .u64 r1, .bool r2]) h) [(2, ([], zf57.k2 (fun  h => zf57.j2 U   (fun r1 r2 h => κ (.tup [.int .u64 r1, .bool r2]) h) h))), (5, ([2, 8, 31, 32, 33], zf57.k5 (fun a1 a2 a3 a4 a5 h => zf57.j5 U  a1 a2 a3 a4 a5 (fun r1 r2 h => κ (.tup [.int .u64 r1, .bool r2]) h) h)))]) (envOK seatOK (zf57.callsOK hU) hU) seatOK.mixed zf57.fun (Nat.le_of_ble_eq_true rfl) wv (cutL_ok ⟨(zf57.s2 hU (fun r1 r2 h => κ (.tup [.int .u64 r1, .bool r2]) h)), (zf57.s5 hU (fun r1 r2 h => κ (.tup [.int .u64 r1, .bool r2]) h)), trivial⟩) s (fuel := 3000) (by rw [← zf57.e]; exact hx)
  · exact hx.elim

noncomputable def zf23.code : Code := Go.Proofs.Tryd.f47.body.getD .skip

theorem zf23.fun : Fun sg.P 47 29 [.tmp 6, .tmp 7] zf23.code := mkFun Go.Proofs.Tryd.func47 (by kernel_rfl) (by kernel_rfl) (by kernel_rfl) (by kernel_rfl)

def zf23.ret (Q : Int → Int → Heap → Prop) (v : V) (h : Heap) : Prop :=
  match v with
  | .tup [.int .u64 r1, .int .i64 r2] => Q r1 r2 h
  | _ => False

def zf23.C (U : Ifc) (vs : List V) (κ : V → Heap → Prop) (h : Heap) : Prop :=
  match vs with
  | [.ptr a1, .int .u64 a2, .int .i64 a3] => zf23 U a1 a2 a3 (fun r1 r2 h => κ (.tup [.int .u64 r1, .int .i64 r2]) h) h
  | _ => False

noncomputable def zf23.calls (U : Ifc) : List (Nat × (List V → (V → Heap → Prop) → Heap → Prop)) := [(59, zf27.C), (94, zf57.C U)]

noncomputable def zf23.E (U : Ifc) (Q : Int → Int → Heap → Prop) (cuts : List (Nat × (List Nat × (List V → Heap → Prop)))) : Env := { tis := tisT, fns := fnsT, tys := tysT, gls := glsT, rts := rtsT, unk := [], nxt := [], calls := zf23.calls U, ifc := U, cuts := cuts, ret := zf23.ret Q, rets := [.tmp 6, .tmp 7], n := 29 }

theorem zf23.callsOK {W0 : World} {U : Ifc} (hU : IfcOK sg W0 glsT U) : CallsOK sg W0 (zf23.calls U) := ⟨zf27.S, (zf57.S hU), trivial⟩

theorem zf23.e : ∀ (U : Ifc) (a1 : Option Ptr) (a2 : Int) (a3 : Int) (Q : Int → Int → Heap → Prop) (h : Heap), zf23 U a1 a2 a3 Q h = pts (zf23.E U Q []) 3000 true [.code zf23.code] (frOf 0 [.ptr a1, .int .u64 a2, .int .i64 a3]) h := by
  intros; kernel_rfl

theorem zf23.S {W0 : World} {U : Ifc} (hU : IfcOK sg W0 glsT U) : FnS sg W0 95 (zf23.C U) := by
  intro vs κ h wv hx w s
  unfold zf23.C at hx
  split at hx
  · rename_i a1 a2 a3
    refine postImp (ret := zf23.ret (fun r1 r2 h => κ (.tup [.int .u64 r1, .int .i64 r2]) h)) (fun v h hr => by unfold zf23.ret at hr; split at hr; exact hr; exact hr.elim) ?_
    exact calls_of_pts (E := zf23.E U (fun r1 r2 h => κ (.tup [.int .u64 r1, .int .i64 r2]) h) []) (envOK seatOK (zf23.callsOK hU) hU) seatOK.mixed zf23.fun (Nat.le_of_ble_eq_true rfl) wv (cutL_ok trivial) s (fuel := 3000) (by rw [← zf23.e]; exact hx)
  · exact hx.elim

noncomputable def zf34.code : Code := Go.Proofs.Tryd.f15.body.getD .skip

theorem zf34.fun : Fun sg.P 15 32 [.tmp 6, .tmp 7] zf34.code := mkFun Go.Proofs.Tryd.func15 (by kernel_rfl) (by kernel_rfl) (by kernel_rfl) (by kernel_rfl)

def zf34.ret (Q : Int → Int → Heap → Prop) (v : V) (h : Heap) : Prop :=
  match v with
  | .tup [.int .u64 r1, .int .i64 r2] => Q r1 r2 h
  | _ => False

def zf34.C (U : Ifc) (vs : List V) (κ : V → Heap → Prop) (h : Heap) : Prop :=
  match vs with
  | [.ptr a1, .int .u64 a2, .int .i64 a3] => zf34 U a1 a2 a3 (fun r1 r2 h => κ (.tup [.int .u64 r1, .int .i64 r2]) h) h
  | _ => False

noncomputable def zf34.calls (U : Ifc) : List (Nat × (List V → (V → Heap → Prop) → Heap → Prop)) := [(95, zf23.C U)]

noncomputable def zf34.E (U : Ifc) (Q : Int → Int → Heap → Prop) (cuts : List (Nat × (List Nat × (List V → Heap → Prop)))) : Env := { tis := tisT, fns := fnsT, tys := tysT, gls := glsT, rts := rtsT, unk := [], nxt := [], calls := zf34.calls U, ifc := U, cuts := cuts, ret := zf34.ret Q, rets := [.tmp 6, .tmp 7], n := 32 }

theorem zf34.callsOK {W0 : World} {U : Ifc} (hU : IfcOK sg W0 glsT U) : CallsOK sg W0 (zf34.calls U) := ⟨(zf23.S hU), trivial⟩

theorem zf34.e : ∀ (U : Ifc) (a1 : Option Ptr) (a2 : Int) (a3 : Int) (Q : Int → Int → Heap → Prop) (h : Heap), zf34 U a1 a2 a3 Q h = pts (zf34.E U Q []) 3000 true [.code zf34.code] (frOf 0 [.ptr a1, .int .u64 a2, .int .i64 a3]) h := by
  intros; kernel_rfl

theorem zf34.S {W0 : World} {U : Ifc} (hU : IfcOK sg W0 glsT U) : FnS sg W0 297 (zf34.C U) := by
  intro vs κ h wv hx w s
  unfold zf34.C at hx
  split at hx
  · rename_i a1 a2 a3
    refine postImp (ret := zf34.ret (fun r1 r2 h => κ (.tup [.int .u64 r1, .int .i64 r2]) h)) (fun v h hr => by unfold zf34.ret at hr; split at hr; exact hr; exact hr.elim) ?_
    exact calls_of_pts (E := zf34.E U (fun r1 r2 h => κ (.tup [.int .u64 r1, .int .i64 r2]) h) []) (envOK seatOK (zf34.callsOK hU) hU) seatOK.mixed zf34.fun (Nat.le_of_ble_eq_true rfl) wv (cutL_ok trivial) s (fuel := 3000) (by rw [← zf34.e]; exact hx)
  · exact hx.elim

noncomputable def zf37.code : Code := Go.Proofs.Tryd.f16.body.getD .skip

theorem zf37.fun : Fun sg.P 16 28 [.tmp 2, .tmp 3] zf37.code := mkFun Go.Proofs.Tryd.func16 (by kernel_rfl) (by kernel_rfl) (by kernel_rfl) (by kernel_rfl)

def zf37.ret (Q : Int → Int → Heap → Prop) (v : V) (h : Heap) : Prop :=
  match v with
  | .tup [.int .i64 r1, .int .i64 r2] => Q r1 r2 h
  | _ => False

def zf37.C (U : Ifc) (vs : List V) (κ : V → Heap → Prop) (h : Heap) : Prop :=
  match vs with
  | [.ptr a1] => zf37 U a1 (fun r1 r2 h => κ (.tup [.int .i64 r1, .int .i64 r2]) h) h
  | _ => False

noncomputable def zf37.calls (U : Ifc) : List (Nat × (List V → (V → Heap → Prop) → Heap → Prop)) := [(297, zf34.C U)]

noncomputable def zf37.E (U : Ifc) (Q : Int → Int → Heap → Prop) (cuts : List (Nat × (List Nat × (List V → Heap → Prop)))) : Env := { tis := tisT, fns := fnsT, tys := tysT, gls := glsT, rts := rtsT, unk := [], nxt := [], calls := zf37.calls U, ifc := U, cuts := cuts, ret := zf37.ret Q, rets := [.tmp 2, .tmp 3], n := 28 }

theorem zf37.callsOK {W0 : World} {U : Ifc} (hU : IfcOK sg W0 glsT U) : CallsOK sg W0 (zf37.calls U) := ⟨(zf34.S hU), trivial⟩

theorem zf37.e : ∀ (U : Ifc) (a1 : Option Ptr) (Q : Int → Int → Heap → Prop) (h : Heap), zf37 U a1 Q h = pts (zf37.E U Q []) 3000 true [.code zf37.code] (frOf 0 [.ptr a1]) h := by
  intros; kernel_rfl

theorem zf37.S {W0 : World} {U : Ifc} (hU : IfcOK sg W0 glsT U) : FnS sg W0 302 (zf37.C U) := by
  intro vs κ h wv hx w s
  unfold zf37.C at hx
  split at hx
  · rename_i a1
    refine postImp (ret := zf37.ret (fun r1 r2 h => κ (.tup [.int .i64 r1, .int .i64 r2]) h)) (fun v h hr => by unfold zf37.ret at hr; split at hr; exact hr; exact hr.elim) ?_
    exact calls_of_pts (E := zf37.E U (fun r1 r2 h => κ (.tup [.int .i64 r1, .int .i64 r2]) h) []) (envOK seatOK (zf37.callsOK hU) hU) seatOK.mixed zf37.fun (Nat.le_of_ble_eq_true rfl) wv (cutL_ok trivial) s (fuel := 3000) (by rw [← zf37.e]; exact hx)
  · exact hx.elim

noncomputable def zf12.code : Code := Go.Proofs.Tryd.f71.body.getD .skip

theorem zf12.fun : Fun sg.P 71 8 [.tmp 2] zf12.code := mkFun Go.Proofs.Tryd.func71 (by kernel_rfl) (by kernel_rfl) (by kernel_rfl) (by kernel_rfl)

def zf12.ret (Q : Sl → Heap → Prop) (v : V) (h : Heap) : Prop :=
  match v with
  | .sl r1 => Q r1 h
  | _ => False

def zf12.C (vs : List V) (κ : V → Heap → Prop) (h : Heap) : Prop :=
  match vs with
  | [.sl a1] => zf12 a1 (fun r1 h => κ (.sl r1) h) h
  | _ => False

noncomputable def zf12.calls : List (Nat × (List V → (V → Heap → Prop) → Heap → Prop)) := []

noncomputable def zf12.E (Q : Sl → Heap → Prop) (cuts : List (Nat × (List Nat × (List V → Heap → Prop)))) : Env := { tis := tisT, fns := fnsT, tys := tysT, gls := [], rts := rtsT, unk := [], nxt := [], calls := zf12.calls, ifc := noIfc, cuts := cuts, ret := zf12.ret Q, rets := [.tmp 2], n := 8 }

theorem zf12.callsOK {W0 : World} : CallsOK sg W0 zf12.calls := trivial

theorem zf12.e : ∀ (a1 : Sl) (Q : Sl → Heap → Prop) (h : Heap), zf12 a1 Q h = pts (zf12.E Q []) 3000 true [.code zf12.code] (frOf 0 [.sl a1]) h := by
  intros; kernel_rfl

theorem zf12.S {W0 : World} : FnS sg W0 39 zf12.C := by
  intro vs κ h wv hx w s
  unfold zf12.C at hx
  split at hx
  · rename_i a1
    refine postImp (ret := zf12.ret (fun r1 h => κ (.sl r1) h)) (fun v h hr => by unfold zf12.ret at hr; split at hr; exact hr; exact hr.elim) ?_
    exact calls_of_pts (E := zf12.E (fun r1 h => κ (.sl r1) h) []) (envOK seatOK zf12.callsOK noIfc_ok) seatOK.mixed zf12.fun (Nat.le_of_ble_eq_true rfl) wv (cutL_ok trivial) s (fuel := 3000) (by rw [← zf12.e]; exact hx)
  · exact hx.elim

noncomputable def zf21.code : Code := Go.Proofs.Tryd.f43.body.getD .skip

theorem zf21.fun : Fun sg.P 43 20 [.tmp 6, .tmp 7] zf21.code := mkFun Go.Proofs.Tryd.func43 (by kernel_rfl) (by kernel_rfl) (by kernel_rfl) (by kernel_rfl)

def zf21.ret (Q : Sl → Int → Heap → Prop) (v : V) (h : Heap) : Prop :=
  match v with
  | .tup [.sl r1, .int .i64 r2] => Q r1 r2 h
  | _ => False

def zf21.C (vs : List V) (κ : V → Heap → Prop) (h : Heap) : Prop :=
  match vs with
  | [.ptr a1, .int .u64 a2, .int .i64 a3] => zf21 a1 a2 a3 (fun r1 r2 h => κ (.tup [.sl r1, .int .i64 r2]) h) h
  | _ => False

noncomputable def zf21.calls : List (Nat × (List V → (V → Heap → Prop) → Heap → Prop)) := [(32, zf28.C), (39, zf12.C)]

noncomputable def zf21.E (Q : Sl → Int → Heap → Prop) (cuts : List (Nat × (List Nat × (List V → Heap → Prop)))) : Env := { tis := tisT, fns := fnsT, tys := tysT, gls := [], rts := rtsT, unk := [], nxt := [], calls := zf21.calls, ifc := noIfc, cuts := cuts, ret := zf21.ret Q, rets := [.tmp 6, .tmp 7], n := 20 }

theorem zf21.callsOK {W0 : World} : CallsOK sg W0 zf21.calls := ⟨zf28.S, zf12.S, trivial⟩

theorem zf21.e : ∀ (a1 : Option Ptr) (a2 : Int) (a3 : Int) (Q : Sl → Int → Heap → Prop) (h : Heap), zf21 a1 a2 a3 Q h = pts (zf21.E Q []) 3000 true [.code zf21.code] (frOf 0 [.ptr a1, .int .u64 a2, .int .i64 a3]) h := by
  intros; kernel_rfl

theorem zf21.S {W0 : World} : FnS sg W0 40 zf21.C := by
  intro vs κ h wv hx w s
  unfold zf21.C at hx
  split at hx
  · rename_i a1 a2 a3
    refine postImp (ret := zf21.ret (fun r1 r2 h => κ (.tup [.sl r1, .int .i64 r2]) h)) (fun v h hr => by unfold zf21.ret at hr; split at hr; exact hr; exact hr.elim) ?_
    exact calls_of_pts (E := zf21.E (fun r1 r2 h => κ (.tup [.sl r1, .int .i64 r2]) h) []) (envOK seatOK zf21.callsOK noIfc_ok) seatOK.mixed zf21.fun (Nat.le_of_ble_eq_true rfl) wv (cutL_ok trivial) s (fuel := 3000) (by rw [← zf21.e]; exact hx)
  · exact hx.elim

noncomputable def zf32.code : Code := Go.Proofs.Tryd.f17.body.getD .skip

theorem zf32.fun : Fun sg.P 17 49 [.tmp 6, .tmp 7] zf32.code := mkFun Go.Proofs.Tryd.func17 (by kernel_rfl) (by kernel_rfl) (by kernel_rfl) (by kernel_rfl)

def zf32.ret (Q : Sl → Int → Heap → Prop) (v : V) (h : Heap) : Prop :=
  match v with
  | .tup [.sl r1, .int .i64 r2] => Q r1 r2 h
  | _ => False

def zf32.C (vs : List V) (κ : V → Heap → Prop) (h : Heap) : Prop :=
  match vs with
  | [.ptr a1, .int .u64 a2, .int .i64 a3] => zf32 a1 a2 a3 (fun r1 r2 h => κ (.tup [.sl r1, .int .i64 r2]) h) h
  | _ => False

noncomputable def zf32.calls : List (Nat × (List V → (V → Heap → Prop) → Heap → Prop)) := [(40, zf21.C)]

noncomputable def zf32.E (Q : Sl → Int → Heap → Prop) (cuts : List (Nat × (List Nat × (List V → Heap → Prop)))) : Env := { tis := tisT, fns := fnsT, tys := tysT, gls := [], rts := rtsT, unk := [], nxt := [], calls := zf32.calls, ifc := noIfc, cuts := cuts, ret := zf32.ret Q, rets := [.tmp 6, .tmp 7], n := 49 }

theorem zf32.callsOK {W0 : World} : CallsOK sg W0 zf32.calls := ⟨zf21.S, trivial⟩

def zf32.k2 (I : Heap → Prop) (vs : List V) (h : Heap) : Prop :=
  match vs with
  | [] => I  h
  | _ => False

def zf32.k3 (I : (Option Ptr) → Int → Int → Heap → Prop) (vs : List V) (h : Heap) : Prop :=
  match vs with
  | [.ptr a1, .int .u64 a2, .int .i64 a3] => I a1 a2 a3 h
  | _ => False

theorem zf32.p2 : (posC zf32.code []).filter (fun p => Nat.beq p.1 2) = [(2, atPos (posC zf32.code []) 2)] := by kernel_rfl

theorem zf32.e2 : ∀   (Q : Sl → Int → Heap → Prop) (h : Heap), zf32.j2   Q h = pts (zf32.E Q []) 3000 true (atPos (posC zf32.code []) 2) (frAt [] []) h := by
  intros; kernel_rfl

theorem zf32.s2 {W0 : World} (Q : Sl → Int → Heap → Prop)   : CutOK sg W0 49 (entered 17) (Post sg W0 (zf32.ret Q)) (posC zf32.code []) 2 [] (zf32.k2 (fun  h => zf32.j2   Q h)) := by
  refine cutOK_head (fun vs h hk => ?_)
  unfold zf32.k2 at hk
  split at hk
  · skip
    intro todo hm ρ a w s f hp
    exact piece (E := zf32.E Q []) (vs := []) (envOK seatOK zf32.callsOK noIfc_ok) (fnOK seatOK zf32.fun) trivial zf32.p2 (fuel := 3000) (by rw [← zf32.e2]; exact hk) hm s f hp
  · exact hk.elim

theorem zf32.p3 : (posC zf32.code []).filter (fun p => Nat.beq p.1 3) = [(3, atPos (posC zf32.code []) 3)] := by kernel_rfl

theorem zf32.e3 : ∀  (a1 : Option Ptr) (a2 : Int) (a3 : Int) (Q : Sl → Int → Heap → Prop) (h : Heap), zf32.j3  a1 a2 a3 Q h = pts (zf32.E Q []) 3000 true (atPos (posC zf32.code []) 3) (frAt [0, 1, 2] [.ptr a1, .int .u64 a2, .int .i64 a3]) h := by
  intros; kernel_rfl

theorem zf32.s3 {W0 : World} (Q : Sl → Int → Heap → Prop)   : CutOK sg W0 49 (entered 17) (Post sg W0 (zf32.ret Q)) (posC zf32.code []) 3 [0, 1, 2] (zf32.k3 (fun a1 a2 a3 h => zf32.j3  a1 a2 a3 Q h)) := by
  refine cutOK_head (fun vs h hk => ?_)
  unfold zf32.k3 at hk
  split at hk
  · rename_i a1 a2 a3
    intro todo hm ρ a w s f hp
    exact piece (E := zf32.E Q []) (vs := [.ptr a1, .int .u64 a2, .int .i64 a3]) (envOK seatOK zf32.callsOK noIfc_ok) (fnOK seatOK zf32.fun) trivial zf32.p3 (fuel := 3000) (by rw [← zf32.e3]; exact hk) hm s f hp
  · exact hk.elim

theorem zf32.e : ∀ (a1 : Option Ptr) (a2 : Int) (a3 : Int) (Q : Sl → Int → Heap → Prop) (h : Heap), zf32 a1 a2 a3 Q h = pts (zf32.E Q [(2, ([], zf32.k2 (fun  h => zf32.j2   Q h))), (3, ([0, 1, 2], zf32.k3 (fun a1 a2 a3 h => zf32.j3  a1 a2 a3 Q h)))]) 3000 true [.code zf32.code] (frOf 0 [.ptr a1, .int .u64 a2, .int .i64 a3]) h := by
  intros; kernel_rfl

theorem zf32.S {W0 : World} : FnS sg W0 295 zf32.C := by
  intro vs κ h wv hx w s
  unfold zf32.C at hx
  split at hx
  · rename_i a1 a2 a3
    refine postImp (ret := zf32.ret (fun r1 r2 h => κ (.tup [.sl r1, .int .i64 r2]) h)) (fun v h hr => by unfold zf32.ret at hr; split at hr; exact hr; exact hr.elim) ?_
    exact calls_of_pts (E := zf32.E (fun r1 r2 h => κ (.tup [.sl r1, .int .i64 r2]) h) [(2, ([], zf32.k2 (fun  h => zf32.j2   (fun r1 r2 h => κ (.tup [.sl r1, .int .i64 r2]) h) h))), (3, ([0, 1, 2], zf32.k3 (fun a1 a2 a3 h => zf32.j3  a1 a2 a3 (fun r1 r2 h => κ (.tup [.sl r1, .int .i64 r2]) h) h)))]) (envOK seatOK zf32.callsOK noIfc_ok) seatOK.mixed zf32.fun (Nat.le_of_ble_eq_true rfl) wv (cutL_ok ⟨(zf32.s2 (fun r1 r2 h => κ (.tup [.sl r1, .int .i64 r2]) h)), (zf32.s3 (fun r1 r2 h => κ (.tup [.sl r1, .int .i64 r2]) h)), trivial⟩) s (fuel := 3000) (by rw [← zf32.e]; exact hx)
  · exact hx.elim

end Go.Fn
