/- The links of the shallow functions to the machine. PRINTED by lift.py. -/
import Derived.Test.YtmpjgafkdhineaaDoorGb0

set_option linter.unusedVariables false
set_option maxRecDepth 100000
namespace Go.Fn
open Go.Lift

noncomputable def zf67.code : Code := Go.Proofs.Tryd.f79.body.getD .skip

theorem zf67.fun : Fun sg.P 79 27 [.tmp 4] zf67.code := mkFun Go.Proofs.Tryd.func79 (by kernel_rfl) (by kernel_rfl) (by kernel_rfl) (by kernel_rfl)

def zf67.ret (Q : Sl → Heap → Prop) (v : V) (h : Heap) : Prop :=
  match v with
  | .sl r1 => Q r1 h
  | _ => False

def zf67.C (U : Ifc) (vs : List V) (κ : V → Heap → Prop) (h : Heap) : Prop :=
  match vs with
  | [.int .u64 a1, .int .i64 a2] => zf67 U a1 a2 (fun r1 h => κ (.sl r1) h) h
  | _ => False

noncomputable def zf67.calls (U : Ifc) : List (Nat × (List V → (V → Heap → Prop) → Heap → Prop)) := [(93, zf68.C U)]

noncomputable def zf67.E (U : Ifc) (Q : Sl → Heap → Prop) (cuts : List (Nat × (List Nat × (List V → Heap → Prop)))) : Env := { tis := tisT, fns := fnsT, tys := tysT, gls := glsT, rts := rtsT, unk := [], nxt := [], calls := zf67.calls U, ifc := U, cuts := cuts, ret := zf67.ret Q, rets := [.tmp 4], n := 27 }

theorem zf67.callsOK {W0 : World} {U : Ifc} (hU : IfcOK sg W0 glsT U) : CallsOK sg W0 (zf67.calls U) := ⟨(zf68.S hU), trivial⟩

def zf67.k5 (I : Int → Sl → Int → Int → Heap → Prop) (vs : List V) (h : Heap) : Prop :=
  match vs with
  | [.int .u64 a1, .sl a2, .int .i64 a3, .int .i64 a4] => I a1 a2 a3 a4 h
  | _ => False

theorem zf67.p5 : (posC zf67.code []).filter (fun p => Nat.beq p.1 5) = [(5, atPos (posC zf67.code []) 5)] := by kernel_rfl

theorem zf67.e5 : ∀ (U : Ifc)  (I5 : Int → Sl → Int → Int → Heap → Prop) (a1 : Int) (a2 : Sl) (a3 : Int) (a4 : Int) (Q : Sl → Heap → Prop) (h : Heap), zf67.b5 U  I5 a1 a2 a3 a4 Q h = pts (zf67.E U Q [(5, ([0, 5, 13, 14], zf67.k5 I5))]) 3000 true (atPos (posC zf67.code []) 5) (frAt [0, 5, 13, 14] [.int .u64 a1, .sl a2, .int .i64 a3, .int .i64 a4]) h := by
  intros; kernel_rfl

theorem zf67.s5 {W0 : World} {U : Ifc} (hU : IfcOK sg W0 glsT U) (Q : Sl → Heap → Prop)   : CutOK sg W0 27 (entered 79) (Post sg W0 (zf67.ret Q)) (posC zf67.code []) 5 [0, 5, 13, 14] (zf67.k5 (fun a1 a2 a3 a4 h => zf67.j5 U  a1 a2 a3 a4 Q h)) := by
  refine cutOK_head (fun vs h hk => ?_)
  unfold zf67.k5 at hk
  split at hk
  · rename_i a1 a2 a3 a4
    refine hk (fun a1 a2 a3 a4 h => Head sg W0 27 (entered 79) (Post sg W0 (zf67.ret Q)) (posC zf67.code []) 5 [0, 5, 13, 14] [.int .u64 a1, .sl a2, .int .i64 a3, .int .i64 a4] h) ?_
    intro a1 a2 a3 a4 h hb todo hm ρ a w s f hp
    have hself : CutOK sg W0 27 (entered 79) (Post sg W0 (zf67.ret Q)) (posC zf67.code []) 5 [0, 5, 13, 14] (zf67.k5 (fun a1 a2 a3 a4 h => Head sg W0 27 (entered 79) (Post sg W0 (zf67.ret Q)) (posC zf67.code []) 5 [0, 5, 13, 14] [.int .u64 a1, .sl a2, .int .i64 a3, .int .i64 a4] h)) := cutOK_head (fun vs h hk => by unfold zf67.k5 at hk; split at hk; exact hk; exact hk.elim)
    exact piece (E := zf67.E U Q [(5, ([0, 5, 13, 14], zf67.k5 (fun a1 a2 a3 a4 h => Head sg W0 27 (entered 79) (Post sg W0 (zf67.ret Q)) (posC zf67.code []) 5 [0, 5, 13, 14] [.int .u64 a1, .sl a2, .int .i64 a3, .int .i64 a4] h)))]) (vs := [.int .u64 a1, .sl a2, .int .i64 a3, .int .i64 a4]) (envOK seatOK (zf67.callsOK hU) hU) (fnOK seatOK zf67.fun) ⟨hself, trivial⟩ zf67.p5 (fuel := 3000) (by rw [← zf67.e5]; exact hb) hm s f hp
  · exact hk.elim

theorem zf67.e : ∀ (U : Ifc) (a1 : Int) (a2 : Int) (Q : Sl → Heap → Prop) (h : Heap), zf67 U a1 a2 Q h = pts (zf67.E U Q [(5, ([0, 5, 13, 14], zf67.k5 (fun a1 a2 a3 a4 h => zf67.j5 U  a1 a2 a3 a4 Q h)))]) 3000 true [.code zf67.code] (frOf 0 [.int .u64 a1, .int .i64 a2]) h := by
  intros; kernel_rfl

theorem zf67.S {W0 : World} {U : Ifc} (hU : IfcOK sg W0 glsT U) : FnS sg W0 96 (zf67.C U) := by
  intro vs κ h wv hx w s
  unfold zf67.C at hx
  split at hx
  · rename_i a1 a2
    refine postImp (ret := zf67.ret (fun r1 h => κ (.sl r1) h)) (fun v h hr => by unfold zf67.ret at hr; split at hr; exact hr; exact hr.elim) ?_
    exact calls_of_pts (E := zf67.E U (fun r1 h => κ (.sl r1) h) [(5, ([0, 5, 13, 14], zf67.k5 (fun a1 a2 a3 a4 h => zf67.j5 U  a1 a2 a3 a4 (fun r1 h => κ (.sl r1) h) h)))]) (envOK seatOK (zf67.callsOK hU) hU) seatOK.mixed zf67.fun (Nat.le_of_ble_eq_true rfl) wv (cutL_ok ⟨(zf67.s5 hU (fun r1 h => κ (.sl r1) h)), trivial⟩) s (fuel := 3000) (by rw [← zf67.e]; exact hx)
  · exact hx.elim

noncomputable def zf35.code : Code := Go.Proofs.Tryd.f50.body.getD .skip

theorem zf35.fun : Fun sg.P 50 26 [.tmp 8] zf35.code := mkFun Go.Proofs.Tryd.func50 (by kernel_rfl) (by kernel_rfl) (by kernel_rfl) (by kernel_rfl)

def zf35.ret (Q : Int → Heap → Prop) (v : V) (h : Heap) : Prop :=
  match v with
  | .int .i64 r1 => Q r1 h
  | _ => False

def zf35.C (U : Ifc) (vs : List V) (κ : V → Heap → Prop) (h : Heap) : Prop :=
  match vs with
  | [.ptr a1, .int .u64 a2, .int .i64 a3, .int .u64 a4] => zf35 U a1 a2 a3 a4 (fun r1 h => κ (.int .i64 r1) h) h
  | _ => False

noncomputable def zf35.calls (U : Ifc) : List (Nat × (List V → (V → Heap → Prop) → Heap → Prop)) := [(59, zf37.C), (96, zf67.C U)]

noncomputable def zf35.E (U : Ifc) (Q : Int → Heap → Prop) (cuts : List (Nat × (List Nat × (List V → Heap → Prop)))) : Env := { tis := tisT, fns := fnsT, tys := tysT, gls := glsT, rts := rtsT, unk := [], nxt := [], calls := zf35.calls U, ifc := U, cuts := cuts, ret := zf35.ret Q, rets := [.tmp 8], n := 26 }

theorem zf35.callsOK {W0 : World} {U : Ifc} (hU : IfcOK sg W0 glsT U) : CallsOK sg W0 (zf35.calls U) := ⟨zf37.S, (zf67.S hU), trivial⟩

theorem zf35.e : ∀ (U : Ifc) (a1 : Option Ptr) (a2 : Int) (a3 : Int) (a4 : Int) (Q : Int → Heap → Prop) (h : Heap), zf35 U a1 a2 a3 a4 Q h = pts (zf35.E U Q []) 3000 true [.code zf35.code] (frOf 0 [.ptr a1, .int .u64 a2, .int .i64 a3, .int .u64 a4]) h := by
  intros; kernel_rfl

theorem zf35.S {W0 : World} {U : Ifc} (hU : IfcOK sg W0 glsT U) : FnS sg W0 97 (zf35.C U) := by
  intro vs κ h wv hx w s
  unfold zf35.C at hx
  split at hx
  · rename_i a1 a2 a3 a4
    refine postImp (ret := zf35.ret (fun r1 h => κ (.int .i64 r1) h)) (fun v h hr => by unfold zf35.ret at hr; split at hr; exact hr; exact hr.elim) ?_
    exact calls_of_pts (E := zf35.E U (fun r1 h => κ (.int .i64 r1) h) []) (envOK seatOK (zf35.callsOK hU) hU) seatOK.mixed zf35.fun (Nat.le_of_ble_eq_true rfl) wv (cutL_ok trivial) s (fuel := 3000) (by rw [← zf35.e]; exact hx)
  · exact hx.elim

noncomputable def zf46.code : Code := Go.Proofs.Tryd.f21.body.getD .skip

theorem zf46.fun : Fun sg.P 21 32 [.tmp 8] zf46.code := mkFun Go.Proofs.Tryd.func21 (by kernel_rfl) (by kernel_rfl) (by kernel_rfl) (by kernel_rfl)

def zf46.ret (Q : Int → Heap → Prop) (v : V) (h : Heap) : Prop :=
  match v with
  | .int .i64 r1 => Q r1 h
  | _ => False

def zf46.C (U : Ifc) (vs : List V) (κ : V → Heap → Prop) (h : Heap) : Prop :=
  match vs with
  | [.ptr a1, .int .u64 a2, .int .i64 a3, .int .u64 a4] => zf46 U a1 a2 a3 a4 (fun r1 h => κ (.int .i64 r1) h) h
  | _ => False

noncomputable def zf46.calls (U : Ifc) : List (Nat × (List V → (V → Heap → Prop) → Heap → Prop)) := [(97, zf35.C U)]

noncomputable def zf46.E (U : Ifc) (Q : Int → Heap → Prop) (cuts : List (Nat × (List Nat × (List V → Heap → Prop)))) : Env := { tis := tisT, fns := fnsT, tys := tysT, gls := glsT, rts := rtsT, unk := [], nxt := [], calls := zf46.calls U, ifc := U, cuts := cuts, ret := zf46.ret Q, rets := [.tmp 8], n := 32 }

theorem zf46.callsOK {W0 : World} {U : Ifc} (hU : IfcOK sg W0 glsT U) : CallsOK sg W0 (zf46.calls U) := ⟨(zf35.S hU), trivial⟩

theorem zf46.e : ∀ (U : Ifc) (a1 : Option Ptr) (a2 : Int) (a3 : Int) (a4 : Int) (Q : Int → Heap → Prop) (h : Heap), zf46 U a1 a2 a3 a4 Q h = pts (zf46.E U Q []) 3000 true [.code zf46.code] (frOf 0 [.ptr a1, .int .u64 a2, .int .i64 a3, .int .u64 a4]) h := by
  intros; kernel_rfl

theorem zf46.S {W0 : World} {U : Ifc} (hU : IfcOK sg W0 glsT U) : FnS sg W0 299 (zf46.C U) := by
  intro vs κ h wv hx w s
  unfold zf46.C at hx
  split at hx
  · rename_i a1 a2 a3 a4
    refine postImp (ret := zf46.ret (fun r1 h => κ (.int .i64 r1) h)) (fun v h hr => by unfold zf46.ret at hr; split at hr; exact hr; exact hr.elim) ?_
    exact calls_of_pts (E := zf46.E U (fun r1 h => κ (.int .i64 r1) h) []) (envOK seatOK (zf46.callsOK hU) hU) seatOK.mixed zf46.fun (Nat.le_of_ble_eq_true rfl) wv (cutL_ok trivial) s (fuel := 3000) (by rw [← zf46.e]; exact hx)
  · exact hx.elim

noncomputable def zf50.code : Code := Go.Proofs.Tryd.f8.body.getD .skip

theorem zf50.fun : Fun sg.P 8 26 [.tmp 8] zf50.code := mkFun Go.Proofs.Tryd.func8 (by kernel_rfl) (by kernel_rfl) (by kernel_rfl) (by kernel_rfl)

def zf50.ret (Q : Sl → Heap → Prop) (v : V) (h : Heap) : Prop :=
  match v with
  | .sl r1 => Q r1 h
  | _ => False

def zf50.C (U : Ifc) (vs : List V) (κ : V → Heap → Prop) (h : Heap) : Prop :=
  match vs with
  | [.ptr a1, .int .u64 a2, .int .u64 a3, .int .i64 a4] => zf50 U a1 a2 a3 a4 (fun r1 h => κ (.sl r1) h) h
  | _ => False

noncomputable def zf50.calls (U : Ifc) : List (Nat × (List V → (V → Heap → Prop) → Heap → Prop)) := [(299, zf46.C U)]

noncomputable def zf50.E (U : Ifc) (Q : Sl → Heap → Prop) (cuts : List (Nat × (List Nat × (List V → Heap → Prop)))) : Env := { tis := tisT, fns := fnsT, tys := tysT, gls := glsT, rts := rtsT, unk := [], nxt := [], calls := zf50.calls U, ifc := U, cuts := cuts, ret := zf50.ret Q, rets := [.tmp 8], n := 26 }

theorem zf50.callsOK {W0 : World} {U : Ifc} (hU : IfcOK sg W0 glsT U) : CallsOK sg W0 (zf50.calls U) := ⟨(zf46.S hU), trivial⟩

theorem zf50.e : ∀ (U : Ifc) (a1 : Option Ptr) (a2 : Int) (a3 : Int) (a4 : Int) (Q : Sl → Heap → Prop) (h : Heap), zf50 U a1 a2 a3 a4 Q h = pts (zf50.E U Q []) 3000 true [.code zf50.code] (frOf 0 [.ptr a1, .int .u64 a2, .int .u64 a3, .int .i64 a4]) h := by
  intros; kernel_rfl

theorem zf50.S {W0 : World} {U : Ifc} (hU : IfcOK sg W0 glsT U) : FnS sg W0 300 (zf50.C U) := by
  intro vs κ h wv hx w s
  unfold zf50.C at hx
  split at hx
  · rename_i a1 a2 a3 a4
    refine postImp (ret := zf50.ret (fun r1 h => κ (.sl r1) h)) (fun v h hr => by unfold zf50.ret at hr; split at hr; exact hr; exact hr.elim) ?_
    exact calls_of_pts (E := zf50.E U (fun r1 h => κ (.sl r1) h) []) (envOK seatOK (zf50.callsOK hU) hU) seatOK.mixed zf50.fun (Nat.le_of_ble_eq_true rfl) wv (cutL_ok trivial) s (fuel := 3000) (by rw [← zf50.e]; exact hx)
  · exact hx.elim

noncomputable def zf49.code : Code := Go.Proofs.Tryd.f7.body.getD .skip

theorem zf49.fun : Fun sg.P 7 80 [] zf49.code := mkFun Go.Proofs.Tryd.func7 (by kernel_rfl) (by kernel_rfl) (by kernel_rfl) (by kernel_rfl)

def zf49.ret (Q : Heap → Prop) (v : V) (h : Heap) : Prop :=
  match v with
  | .tup [] => Q  h
  | _ => False

def zf49.C (U : Ifc) (vs : List V) (κ : V → Heap → Prop) (h : Heap) : Prop :=
  match vs with
  | [.ptr a1, .int .i64 a2, .sl a3] => zf49 U a1 a2 a3 (fun  h => κ (.tup []) h) h
  | _ => False

noncomputable def zf49.calls (U : Ifc) : List (Nat × (List V → (V → Heap → Prop) → Heap → Prop)) := [(299, zf46.C U)]

noncomputable def zf49.E (U : Ifc) (Q : Heap → Prop) (cuts : List (Nat × (List Nat × (List V → Heap → Prop)))) : Env := { tis := tisT, fns := fnsT, tys := tysT, gls := glsT, rts := rtsT, unk := [], nxt := [], calls := zf49.calls U, ifc := U, cuts := cuts, ret := zf49.ret Q, rets := [], n := 80 }

theorem zf49.callsOK {W0 : World} {U : Ifc} (hU : IfcOK sg W0 glsT U) : CallsOK sg W0 (zf49.calls U) := ⟨(zf46.S hU), trivial⟩

def zf49.k2 (I : (Option Ptr) → Int → Sl → Int → Heap → Prop) (vs : List V) (h : Heap) : Prop :=
  match vs with
  | [.ptr a1, .int .i64 a2, .sl a3, .int .i64 a4] => I a1 a2 a3 a4 h
  | _ => False

def zf49.k12 (I : (Option Ptr) → Int → Sl → Int → Int → Heap → Prop) (vs : List V) (h : Heap) : Prop :=
  match vs with
  | [.ptr a1, .int .i64 a2, .sl a3, .int .i64 a4, .int .u64 a5] => I a1 a2 a3 a4 a5 h
  | _ => False

def zf49.k8 (I : (Option Ptr) → Int → Sl → Int → Int → Heap → Prop) (vs : List V) (h : Heap) : Prop :=
  match vs with
  | [.ptr a1, .int .i64 a2, .sl a3, .int .i64 a4, .int .u64 a5] => I a1 a2 a3 a4 a5 h
  | _ => False

def zf49.k6 (I : (Option Ptr) → Int → Sl → Int → Int → Heap → Prop) (vs : List V) (h : Heap) : Prop :=
  match vs with
  | [.ptr a1, .int .i64 a2, .sl a3, .int .i64 a4, .int .u64 a5] => I a1 a2 a3 a4 a5 h
  | _ => False

def zf49.k1 (I : (Option Ptr) → Int → Sl → Int → Heap → Prop) (vs : List V) (h : Heap) : Prop :=
  match vs with
  | [.ptr a1, .int .i64 a2, .sl a3, .int .i64 a4] => I a1 a2 a3 a4 h
  | _ => False

theorem zf49.p2 : (posC zf49.code []).filter (fun p => Nat.beq p.1 2) = [(2, atPos (posC zf49.code []) 2)] := by kernel_rfl

theorem zf49.e2 : ∀ (U : Ifc) (I1 : (Option Ptr) → Int → Sl → Int → Heap → Prop) (a1 : Option Ptr) (a2 : Int) (a3 : Sl) (a4 : Int) (Q : Heap → Prop) (h : Heap), zf49.j2 U I1 a1 a2 a3 a4 Q h = pts (zf49.E U Q [(1, ([0, 1, 2, 6], zf49.k1 I1))]) 3000 true (atPos (posC zf49.code []) 2) (frAt [0, 1, 2, 6] [.ptr a1, .int .i64 a2, .sl a3, .int .i64 a4]) h := by
  intros; kernel_rfl

theorem zf49.s2 {W0 : World} {U : Ifc} (hU : IfcOK sg W0 glsT U) (Q : Heap → Prop) (I1 : (Option Ptr) → Int → Sl → Int → Heap → Prop) (h1 : CutOK sg W0 80 (entered 7) (Post sg W0 (zf49.ret Q)) (posC zf49.code []) 1 [0, 1, 2, 6] (zf49.k1 I1)) : CutOK sg W0 80 (entered 7) (Post sg W0 (zf49.ret Q)) (posC zf49.code []) 2 [0, 1, 2, 6] (zf49.k2 (fun a1 a2 a3 a4 h => zf49.j2 U I1 a1 a2 a3 a4 Q h)) := by
  refine cutOK_head (fun vs h hk => ?_)
  unfold zf49.k2 at hk
  split at hk
  · rename_i a1 a2 a3 a4
    intro todo hm ρ a w s f hp
    exact piece (E := zf49.E U Q [(1, ([0, 1, 2, 6], zf49.k1 I1))]) (vs := [.ptr a1, .int .i64 a2, .sl a3, .int .i64 a4]) (envOK seatOK (zf49.callsOK hU) hU) (fnOK seatOK zf49.fun) ⟨h1, trivial⟩ zf49.p2 (fuel := 3000) (by rw [← zf49.e2]; exact hk) hm s f hp
  · exact hk.elim

theorem zf49.p12 : (posC zf49.code []).filter (fun p => Nat.beq p.1 12) = [(12, atPos (posC zf49.code []) 12)] := by kernel_rfl

theorem zf49.e12 : ∀ (U : Ifc) (I1 : (Option Ptr) → Int → Sl → Int → Heap → Prop) (a1 : Option Ptr) (a2 : Int) (a3 : Sl) (a4 : Int) (a5 : Int) (Q : Heap → Prop) (h : Heap), zf49.j12 U I1 a1 a2 a3 a4 a5 Q h = pts (zf49.E U Q [(2, ([0, 1, 2, 6], zf49.k2 (fun a1 a2 a3 a4 h => zf49.j2 U I1 a1 a2 a3 a4 Q h)))]) 3000 true (atPos (posC zf49.code []) 12) (frAt [0, 1, 2, 6, 8] [.ptr a1, .int .i64 a2, .sl a3, .int .i64 a4, .int .u64 a5]) h := by
  intros; kernel_rfl

theorem zf49.s12 {W0 : World} {U : Ifc} (hU : IfcOK sg W0 glsT U) (Q : Heap → Prop) (I1 : (Option Ptr) → Int → Sl → Int → Heap → Prop) (h1 : CutOK sg W0 80 (entered 7) (Post sg W0 (zf49.ret Q)) (posC zf49.code []) 1 [0, 1, 2, 6] (zf49.k1 I1)) : CutOK sg W0 80 (entered 7) (Post sg W0 (zf49.ret Q)) (posC zf49.code []) 12 [0, 1, 2, 6, 8] (zf49.k12 (fun a1 a2 a3 a4 a5 h => zf49.j12 U I1 a1 a2 a3 a4 a5 Q h)) := by
  refine cutOK_head (fun vs h hk => ?_)
  unfold zf49.k12 at hk
  split at hk
  · rename_i a1 a2 a3 a4 a5
    intro todo hm ρ a w s f hp
    exact piece (E := zf49.E U Q [(2, ([0, 1, 2, 6], zf49.k2 (fun a1 a2 a3 a4 h => zf49.j2 U I1 a1 a2 a3 a4 Q h)))]) (vs := [.ptr a1, .int .i64 a2, .sl a3, .int .i64 a4, .int .u64 a5]) (envOK seatOK (zf49.callsOK hU) hU) (fnOK seatOK zf49.fun) ⟨(zf49.s2 hU Q I1 h1), trivial⟩ zf49.p12 (fuel := 3000) (by rw [← zf49.e12]; exact hk) hm s f hp
  · exact hk.elim

theorem zf49.p8 : (posC zf49.code []).filter (fun p => Nat.beq p.1 8) = [(8, atPos (posC zf49.code []) 8)] := by kernel_rfl

theorem zf49.e8 : ∀ (U : Ifc) (I1 : (Option Ptr) → Int → Sl → Int → Heap → Prop) (a1 : Option Ptr) (a2 : Int) (a3 : Sl) (a4 : Int) (a5 : Int) (Q : Heap → Prop) (h : Heap), zf49.j8 U I1 a1 a2 a3 a4 a5 Q h = pts (zf49.E U Q [(12, ([0, 1, 2, 6, 8], zf49.k12 (fun a1 a2 a3 a4 a5 h => zf49.j12 U I1 a1 a2 a3 a4 a5 Q h)))]) 3000 true (atPos (posC zf49.code []) 8) (frAt [0, 1, 2, 6, 7] [.ptr a1, .int .i64 a2, .sl a3, .int .i64 a4, .int .u64 a5]) h := by
  intros; kernel_rfl

theorem zf49.s8 {W0 : World} {U : Ifc} (hU : IfcOK sg W0 glsT U) (Q : Heap → Prop) (I1 : (Option Ptr) → Int → Sl → Int → Heap → Prop) (h1 : CutOK sg W0 80 (entered 7) (Post sg W0 (zf49.ret Q)) (posC zf49.code []) 1 [0, 1, 2, 6] (zf49.k1 I1)) : CutOK sg W0 80 (entered 7) (Post sg W0 (zf49.ret Q)) (posC zf49.code []) 8 [0, 1, 2, 6, 7] (zf49.k8 (fun a1 a2 a3 a4 a5 h => zf49.j8 U I1 a1 a2 a3 a4 a5 Q h)) := by
  refine cutOK_head (fun vs h hk => ?_)
  unfold zf49.k8 at hk
  split at hk
  · rename_i a1 a2 a3 a4 a5
    intro todo hm ρ a w s f hp
    exact piece (E := zf49.E U Q [(12, ([0, 1, 2, 6, 8], zf49.k12 (fun a1 a2 a3 a4 a5 h => zf49.j12 U I1 a1 a2 a3 a4 a5 Q h)))]) (vs := [.ptr a1, .int .i64 a2, .sl a3, .int .i64 a4, .int .u64 a5]) (envOK seatOK (zf49.callsOK hU) hU) (fnOK seatOK zf49.fun) ⟨(zf49.s12 hU Q I1 h1), trivial⟩ zf49.p8 (fuel := 3000) (by rw [← zf49.e8]; exact hk) hm s f hp
  · exact hk.elim

theorem zf49.p6 : (posC zf49.code []).filter (fun p => Nat.beq p.1 6) = [(6, atPos (posC zf49.code []) 6)] := by kernel_rfl

theorem zf49.e6 : ∀ (U : Ifc) (I1 : (Option Ptr) → Int → Sl → Int → Heap → Prop) (a1 : Option Ptr) (a2 : Int) (a3 : Sl) (a4 : Int) (a5 : Int) (Q : Heap → Prop) (h : Heap), zf49.j6 U I1 a1 a2 a3 a4 a5 Q h = pts (zf49.E U Q [(8, ([0, 1, 2, 6, 7], zf49.k8 (fun a1 a2 a3 a4 a5 h => zf49.j8 U I1 a1 a2 a3 a4 a5 Q h)))]) 3000 true (atPos (posC zf49.code []) 6) (frAt [0, 1, 2, 6, 7] [.ptr a1, .int .i64 a2, .sl a3, .int .i64 a4, .int .u64 a5]) h := by
  intros; kernel_rfl

theorem zf49.s6 {W0 : World} {U : Ifc} (hU : IfcOK sg W0 glsT U) (Q : Heap → Prop) (I1 : (Option Ptr) → Int → Sl → Int → Heap → Prop) (h1 : CutOK sg W0 80 (entered 7) (Post sg W0 (zf49.ret Q)) (posC zf49.code []) 1 [0, 1, 2, 6] (zf49.k1 I1)) : CutOK sg W0 80 (entered 7) (Post sg W0 (zf49.ret Q)) (posC zf49.code []) 6 [0, 1, 2, 6, 7] (zf49.k6 (fun a1 a2 a3 a4 a5 h => zf49.j6 U I1 a1 a2 a3 a4 a5 Q h)) := by
  refine cutOK_head (fun vs h hk => ?_)
  unfold zf49.k6 at hk
  split at hk
  · rename_i a1 a2 a3 a4 a5
    intro todo hm ρ a w s f hp
    exact piece (E := zf49.E U Q [(8, ([0, 1, 2, 6, 7], zf49.k8 (fun a1 a2 a3 a4 a5 h => zf49.j8 U I1 a1 a2 a3 a4 a5 Q h)))]) (vs := [.ptr a1, .int .i64 a2, .sl a3, .int .i64 a4, .int .u64 a5]) (envOK seatOK (zf49.callsOK hU) hU) (fnOK seatOK zf49.fun) ⟨(zf49.s8 hU Q I1 h1), trivial⟩ zf49.p6 (fuel := 3000) (by rw [← zf49.e6]; exact hk) hm s f hp
  · exact hk.elim

theorem zf49.p1 : (posC zf49.code []).filter (fun p => Nat.beq p.1 1) = [(1, atPos (posC zf49.code []) 1)] := by kernel_rfl

theorem zf49.e1 : ∀ (U : Ifc)  (I1 : (Option Ptr) → Int → Sl → Int → Heap → Prop) (a1 : Option Ptr) (a2 : Int) (a3 : Sl) (a4 : Int) (Q : Heap → Prop) (h : Heap), zf49.b1 U  I1 a1 a2 a3 a4 Q h = pts (zf49.E U Q [(6, ([0, 1, 2, 6, 7], zf49.k6 (fun a1 a2 a3 a4 a5 h => zf49.j6 U I1 a1 a2 a3 a4 a5 Q h)))]) 3000 true (atPos (posC zf49.code []) 1) (frAt [0, 1, 2, 6] [.ptr a1, .int .i64 a2, .sl a3, .int .i64 a4]) h := by
  intros; kernel_rfl

theorem zf49.s1 {W0 : World} {U : Ifc} (hU : IfcOK sg W0 glsT U) (Q : Heap → Prop)   : CutOK sg W0 80 (entered 7) (Post sg W0 (zf49.ret Q)) (posC zf49.code []) 1 [0, 1, 2, 6] (zf49.k1 (fun a1 a2 a3 a4 h => zf49.j1 U  a1 a2 a3 a4 Q h)) := by
  refine cutOK_head (fun vs h hk => ?_)
  unfold zf49.k1 at hk
  split at hk
  · rename_i a1 a2 a3 a4
    refine hk (fun a1 a2 a3 a4 h => Head sg W0 80 (entered 7) (Post sg W0 (zf49.ret Q)) (posC zf49.code []) 1 [0, 1, 2, 6] [.ptr a1, .int .i64 a2, .sl a3, .int .i64 a4] h) ?_
    intro a1 a2 a3 a4 h hb todo hm ρ a w s f hp
    have hself : CutOK sg W0 80 (entered 7) (Post sg W0 (zf49.ret Q)) (posC zf49.code []) 1 [0, 1, 2, 6] (zf49.k1 (fun a1 a2 a3 a4 h => Head sg W0 80 (entered 7) (Post sg W0 (zf49.ret Q)) (posC zf49.code []) 1 [0, 1, 2, 6] [.ptr a1, .int .i64 a2, .sl a3, .int .i64 a4] h)) := cutOK_head (fun vs h hk => by unfold zf49.k1 at hk; split at hk; exact hk; exact hk.elim)
    exact piece (E := zf49.E U Q [(6, ([0, 1, 2, 6, 7], zf49.k6 (fun a1 a2 a3 a4 a5 h => zf49.j6 U (fun a1 a2 a3 a4 h => Head sg W0 80 (entered 7) (Post sg W0 (zf49.ret Q)) (posC zf49.code []) 1 [0, 1, 2, 6] [.ptr a1, .int .i64 a2, .sl a3, .int .i64 a4] h) a1 a2 a3 a4 a5 Q h)))]) (vs := [.ptr a1, .int .i64 a2, .sl a3, .int .i64 a4]) (envOK seatOK (zf49.callsOK hU) hU) (fnOK seatOK zf49.fun) ⟨(zf49.s6 hU Q (fun a1 a2 a3 a4 h => Head sg W0 80 (entered 7) (Post sg W0 (zf49.ret Q)) (posC zf49.code []) 1 [0, 1, 2, 6] [.ptr a1, .int .i64 a2, .sl a3, .int .i64 a4] h) hself), trivial⟩ zf49.p1 (fuel := 3000) (by rw [← zf49.e1]; exact hb) hm s f hp
  · exact hk.elim

theorem zf49.e : ∀ (U : Ifc) (a1 : Option Ptr) (a2 : Int) (a3 : Sl) (Q : Heap → Prop) (h : Heap), zf49 U a1 a2 a3 Q h = pts (zf49.E U Q [(1, ([0, 1, 2, 6], zf49.k1 (fun a1 a2 a3 a4 h => zf49.j1 U  a1 a2 a3 a4 Q h)))]) 3000 true [.code zf49.code] (frOf 0 [.ptr a1, .int .i64 a2, .sl a3]) h := by
  intros; kernel_rfl

theorem zf49.S {W0 : World} {U : Ifc} (hU : IfcOK sg W0 glsT U) : FnS sg W0 301 (zf49.C U) := by
  intro vs κ h wv hx w s
  unfold zf49.C at hx
  split at hx
  · rename_i a1 a2 a3
    refine postImp (ret := zf49.ret (fun  h => κ (.tup []) h)) (fun v h hr => by unfold zf49.ret at hr; split at hr; exact hr; exact hr.elim) ?_
    exact calls_of_pts (E := zf49.E U (fun  h => κ (.tup []) h) [(1, ([0, 1, 2, 6], zf49.k1 (fun a1 a2 a3 a4 h => zf49.j1 U  a1 a2 a3 a4 (fun  h => κ (.tup []) h) h)))]) (envOK seatOK (zf49.callsOK hU) hU) seatOK.mixed zf49.fun (Nat.le_of_ble_eq_true rfl) wv (cutL_ok ⟨(zf49.s1 hU (fun  h => κ (.tup []) h)), trivial⟩) s (fuel := 3000) (by rw [← zf49.e]; exact hx)
  · exact hx.elim

noncomputable def zf4.code : Code := Go.Proofs.Tryd.f31.body.getD .skip

theorem zf4.fun : Fun sg.P 31 18 [.tmp 4] zf4.code := mkFun Go.Proofs.Tryd.func31 (by kernel_rfl) (by kernel_rfl) (by kernel_rfl) (by kernel_rfl)

def zf4.ret (Q : Bool → Heap → Prop) (v : V) (h : Heap) : Prop :=
  match v with
  | .bool r1 => Q r1 h
  | _ => False

def zf4.C (vs : List V) (κ : V → Heap → Prop) (h : Heap) : Prop :=
  match vs with
  | [.ptr a1, a2] => zf4 a1 a2 (fun r1 h => κ (.bool r1) h) h
  | _ => False

noncomputable def zf4.calls : List (Nat × (List V → (V → Heap → Prop) → Heap → Prop)) := []

noncomputable def zf4.E (Q : Bool → Heap → Prop) (cuts : List (Nat × (List Nat × (List V → Heap → Prop)))) : Env := { tis := tisT, fns := fnsT, tys := tysT, gls := [], rts := rtsT, unk := [], nxt := [], calls := zf4.calls, ifc := noIfc, cuts := cuts, ret := zf4.ret Q, rets := [.tmp 4], n := 18 }

theorem zf4.callsOK {W0 : World} : CallsOK sg W0 zf4.calls := trivial

theorem zf4.e : ∀ (a1 : Option Ptr) (a2 : V) (Q : Bool → Heap → Prop) (h : Heap), zf4 a1 a2 Q h = pts (zf4.E Q []) 3000 true [.code zf4.code] (frOf 0 [.ptr a1, a2]) h := by
  intros; kernel_rfl

theorem zf4.S {W0 : World} : FnS sg W0 266 zf4.C := by
  intro vs κ h wv hx w s
  unfold zf4.C at hx
  split at hx
  · rename_i a1 a2
    refine postImp (ret := zf4.ret (fun r1 h => κ (.bool r1) h)) (fun v h hr => by unfold zf4.ret at hr; split at hr; exact hr; exact hr.elim) ?_
    exact calls_of_pts (E := zf4.E (fun r1 h => κ (.bool r1) h) []) (envOK seatOK zf4.callsOK noIfc_ok) seatOK.mixed zf4.fun (Nat.le_of_ble_eq_true rfl) wv (cutL_ok trivial) s (fuel := 3000) (by rw [← zf4.e]; exact hx)
  · exact hx.elim

noncomputable def zf55.code : Code := Go.Proofs.Tryd.f64.body.getD .skip

theorem zf55.fun : Fun sg.P 64 24 [.tmp 4] zf55.code := mkFun Go.Proofs.Tryd.func64 (by kernel_rfl) (by kernel_rfl) (by kernel_rfl) (by kernel_rfl)

def zf55.ret (Q : Int → Heap → Prop) (v : V) (h : Heap) : Prop :=
  match v with
  | .int .i64 r1 => Q r1 h
  | _ => False

def zf55.C (vs : List V) (κ : V → Heap → Prop) (h : Heap) : Prop :=
  match vs with
  | [.ptr a1, a2] => zf55 a1 a2 (fun r1 h => κ (.int .i64 r1) h) h
  | _ => False

noncomputable def zf55.calls : List (Nat × (List V → (V → Heap → Prop) → Heap → Prop)) := []

noncomputable def zf55.E (Q : Int → Heap → Prop) (cuts : List (Nat × (List Nat × (List V → Heap → Prop)))) : Env := { tis := tisT, fns := fnsT, tys := tysT, gls := [], rts := rtsT, unk := [], nxt := [], calls := zf55.calls, ifc := noIfc, cuts := cuts, ret := zf55.ret Q, rets := [.tmp 4], n := 24 }

theorem zf55.callsOK {W0 : World} : CallsOK sg W0 zf55.calls := trivial

theorem zf55.e : ∀ (a1 : Option Ptr) (a2 : V) (Q : Int → Heap → Prop) (h : Heap), zf55 a1 a2 Q h = pts (zf55.E Q []) 3000 true [.code zf55.code] (frOf 0 [.ptr a1, a2]) h := by
  intros; kernel_rfl

theorem zf55.S {W0 : World} : FnS sg W0 30 zf55.C := by
  intro vs κ h wv hx w s
  unfold zf55.C at hx
  split at hx
  · rename_i a1 a2
    refine postImp (ret := zf55.ret (fun r1 h => κ (.int .i64 r1) h)) (fun v h hr => by unfold zf55.ret at hr; split at hr; exact hr; exact hr.elim) ?_
    exact calls_of_pts (E := zf55.E (fun r1 h => κ (.int .i64 r1) h) []) (envOK seatOK zf55.callsOK noIfc_ok) seatOK.mixed zf55.fun (Nat.le_of_ble_eq_true rfl) wv (cutL_ok trivial) s (fuel := 3000) (by rw [← zf55.e]; exact hx)
  · exact hx.elim

noncomputable def zf56.code : Code := Go.Proofs.Tryd.f65.body.getD .skip

theorem zf56.fun : Fun sg.P 65 28 [.tmp 4] zf56.code := mkFun Go.Proofs.Tryd.func65 (by kernel_rfl) (by kernel_rfl) (by kernel_rfl) (by kernel_rfl)

def zf56.ret (Q : Int → Heap → Prop) (v : V) (h : Heap) : Prop :=
  match v with
  | .int .u64 r1 => Q r1 h
  | _ => False

def zf56.C (U : Ifc) (vs : List V) (κ : V → Heap → Prop) (h : Heap) : Prop :=
  match vs with
  | [.ptr a1, .int .u64 a2] => zf56 U a1 a2 (fun r1 h => κ (.int .u64 r1) h) h
  | _ => False

noncomputable def zf56.calls (U : Ifc) : List (Nat × (List V → (V → Heap → Prop) → Heap → Prop)) := []

noncomputable def zf56.E (U : Ifc) (Q : Int → Heap → Prop) (cuts : List (Nat × (List Nat × (List V → Heap → Prop)))) : Env := { tis := tisT, fns := fnsT, tys := tysT, gls := glsT, rts := rtsT, unk := [], nxt := [], calls := zf56.calls U, ifc := U, cuts := cuts, ret := zf56.ret Q, rets := [.tmp 4], n := 28 }

theorem zf56.callsOK {W0 : World} {U : Ifc} (hU : IfcOK sg W0 glsT U) : CallsOK sg W0 (zf56.calls U) := trivial

theorem zf56.e : ∀ (U : Ifc) (a1 : Option Ptr) (a2 : Int) (Q : Int → Heap → Prop) (h : Heap), zf56 U a1 a2 Q h = pts (zf56.E U Q []) 3000 true [.code zf56.code] (frOf 0 [.ptr a1, .int .u64 a2]) h := by
  intros; kernel_rfl

theorem zf56.S {W0 : World} {U : Ifc} (hU : IfcOK sg W0 glsT U) : FnS sg W0 74 (zf56.C U) := by
  intro vs κ h wv hx w s
  unfold zf56.C at hx
  split at hx
  · rename_i a1 a2
    refine postImp (ret := zf56.ret (fun r1 h => κ (.int .u64 r1) h)) (fun v h hr => by unfold zf56.ret at hr; split at hr; exact hr; exact hr.elim) ?_
    exact calls_of_pts (E := zf56.E U (fun r1 h => κ (.int .u64 r1) h) []) (envOK seatOK (zf56.callsOK hU) hU) seatOK.mixed zf56.fun (Nat.le_of_ble_eq_true rfl) wv (cutL_ok trivial) s (fuel := 3000) (by rw [← zf56.e]; exact hx)
  · exact hx.elim

noncomputable def zf57.code : Code := Go.Proofs.Tryd.f84.body.getD .skip

theorem zf57.fun : Fun sg.P 84 68 [.cell 4 80, .tmp 5, .tmp 6] zf57.code := mkFun Go.Proofs.Tryd.func84 (by kernel_rfl) (by kernel_rfl) (by kernel_rfl) (by kernel_rfl)

def zf57.ret (Q : Int → Int → Bool → Int → Bool → Heap → Prop) (v : V) (h : Heap) : Prop :=
  match v with
  | .tup [.agg [.int .u64 r1, .int .i64 r2, .bool r3], .int .u64 r4, .bool r5] => Q r1 r2 r3 r4 r5 h
  | _ => False

def zf57.C (U : Ifc) (vs : List V) (κ : V → Heap → Prop) (h : Heap) : Prop :=
  match vs with
  | [.ptr a1, .int .u64 a2] => zf57 U a1 a2 (fun r1 r2 r3 r4 r5 h => κ (.tup [.agg [.int .u64 r1, .int .i64 r2, .bool r3], .int .u64 r4, .bool r5]) h) h
  | _ => False

noncomputable def zf57.calls (U : Ifc) : List (Nat × (List V → (V → Heap → Prop) → Heap → Prop)) := [(74, zf56.C U)]

noncomputable def zf57.E (U : Ifc) (Q : Int → Int → Bool → Int → Bool → Heap → Prop) (cuts : List (Nat × (List Nat × (List V → Heap → Prop)))) : Env := { tis := tisT, fns := fnsT, tys := tysT, gls := glsT, rts := rtsT, unk := [], nxt := [], calls := zf57.calls U, ifc := U, cuts := cuts, ret := zf57.ret Q, rets := [.cell 4 80, .tmp 5, .tmp 6], n := 68 }

theorem zf57.callsOK {W0 : World} {U : Ifc} (hU : IfcOK sg W0 glsT U) : CallsOK sg W0 (zf57.calls U) := ⟨(zf56.S hU), trivial⟩

def zf57.k7 (I : (Option Ptr) → Int → Ptr → Ptr → Int → Heap → Prop) (vs : List V) (h : Heap) : Prop :=
  match vs with
  | [.ptr a1, .int .u64 a2, .ptr (some a3), .ptr (some a4), .int .i64 a5] => I a1 a2 a3 a4 a5 h
  | _ => False

def zf57.k9 (I : (Option Ptr) → Ptr → Heap → Prop) (vs : List V) (h : Heap) : Prop :=
  match vs with
  | [.ptr a1, .ptr (some a2)] => I a1 a2 h
  | _ => False

def zf57.k3 (I : (Option Ptr) → Int → Ptr → Ptr → Int → Heap → Prop) (vs : List V) (h : Heap) : Prop :=
  match vs with
  | [.ptr a1, .int .u64 a2, .ptr (some a3), .ptr (some a4), .int .i64 a5] => I a1 a2 a3 a4 a5 h
  | _ => False

theorem zf57.p7 : (posC zf57.code []).filter (fun p => Nat.beq p.1 7) = [(7, atPos (posC zf57.code []) 7)] := by kernel_rfl

theorem zf57.e7 : ∀ (U : Ifc) (I3 : (Option Ptr) → Int → Ptr → Ptr → Int → Heap → Prop) (a1 : Option Ptr) (a2 : Int) (a3 : Ptr) (a4 : Ptr) (a5 : Int) (Q : Int → Int → Bool → Int → Bool → Heap → Prop) (h : Heap), zf57.j7 U I3 a1 a2 a3 a4 a5 Q h = pts (zf57.E U Q [(3, ([0, 1, 4, 7, 9], zf57.k3 I3))]) 3000 true (atPos (posC zf57.code []) 7) (frAt [0, 1, 4, 7, 9] [.ptr a1, .int .u64 a2, .ptr (some a3), .ptr (some a4), .int .i64 a5]) h := by
  intros; kernel_rfl

theorem zf57.s7 {W0 : World} {U : Ifc} (hU : IfcOK sg W0 glsT U) (Q : Int → Int → Bool → Int → Bool → Heap → Prop) (I3 : (Option Ptr) → Int → Ptr → Ptr → Int → Heap → Prop) (h3 : CutOK sg W0 68 (entered 84) (Post sg W0 (zf57.ret Q)) (posC zf57.code []) 3 [0, 1, 4, 7, 9] (zf57.k3 I3)) : CutOK sg W0 68 (entered 84) (Post sg W0 (zf57.ret Q)) (posC zf57.code []) 7 [0, 1, 4, 7, 9] (zf57.k7 (fun a1 a2 a3 a4 a5 h => zf57.j7 U I3 a1 a2 a3 a4 a5 Q h)) := by
  refine cutOK_head (fun vs h hk => ?_)
  unfold zf57.k7 at hk
  split at hk
  · rename_i a1 a2 a3 a4 a5
    intro todo hm ρ a w s f hp
    exact piece (E := zf57.E U Q [(3, ([0, 1, 4, 7, 9], zf57.k3 I3))]) (vs := [.ptr a1, .int .u64 a2, .ptr (some a3), .ptr (some a4), .int .i64 a5]) (envOK seatOK (zf57.callsOK hU) hU) (fnOK seatOK zf57.fun) ⟨h3, trivial⟩ zf57.p7 (fuel := 3000) (by rw [← zf57.e7]; exact hk) hm s f hp
  · exact hk.elim

theorem zf57.p9 : (posC zf57.code []).filter (fun p => Nat.beq p.1 9) = [(9, atPos (posC zf57.code []) 9)] := by kernel_rfl

theorem zf57.e9 : ∀ (U : Ifc)  (a1 : Option Ptr) (a2 : Ptr) (Q : Int → Int → Bool → Int → Bool → Heap → Prop) (h : Heap), zf57.j9 U  a1 a2 Q h = pts (zf57.E U Q []) 3000 true (atPos (posC zf57.code []) 9) (frAt [0, 4] [.ptr a1, .ptr (some a2)]) h := by
  intros; kernel_rfl

theorem zf57.s9 {W0 : World} {U : Ifc} (hU : IfcOK sg W0 glsT U) (Q : Int → Int → Bool → Int → Bool → Heap → Prop)   : CutOK sg W0 68 (entered 84) (Post sg W0 (zf57.ret Q)) (posC zf57.code []) 9 [0, 4] (zf57.k9 (fun a1 a2 h => zf57.j9 U  a1 a2 Q h)) := by
  refine cutOK_head (fun vs h hk => ?_)
  unfold zf57.k9 at hk
  split at hk
  · rename_i a1 a2
    intro todo hm ρ a w s f hp
    exact piece (E := zf57.E U Q []) (vs := [.ptr a1, .ptr (some a2)]) (envOK seatOK (zf57.callsOK hU) hU) (fnOK seatOK zf57.fun) trivial zf57.p9 (fuel := 3000) (by rw [← zf57.e9]; exact hk) hm s f hp
  · exact hk.elim

theorem zf57.p3 : (posC zf57.code []).filter (fun p => Nat.beq p.1 3) = [(3, atPos (posC zf57.code []) 3)] := by kernel_rfl

theorem zf57.e3 : ∀ (U : Ifc)  (I3 : (Option Ptr) → Int → Ptr → Ptr → Int → Heap → Prop) (a1 : Option Ptr) (a2 : Int) (a3 : Ptr) (a4 : Ptr) (a5 : Int) (Q : Int → Int → Bool → Int → Bool → Heap → Prop) (h : Heap), zf57.b3 U  I3 a1 a2 a3 a4 a5 Q h = pts (zf57.E U Q [(7, ([0, 1, 4, 7, 9], zf57.k7 (fun a1 a2 a3 a4 a5 h => zf57.j7 U I3 a1 a2 a3 a4 a5 Q h))), (9, ([0, 4], zf57.k9 (fun a1 a2 h => zf57.j9 U  a1 a2 Q h)))]) 3000 true (atPos (posC zf57.code []) 3) (frAt [0, 1, 4, 7, 9] [.ptr a1, .int .u64 a2, .ptr (some a3), .ptr (some a4), .int .i64 a5]) h := by
  intros; kernel_rfl

theorem zf57.s3 {W0 : World} {U : Ifc} (hU : IfcOK sg W0 glsT U) (Q : Int → Int → Bool → Int → Bool → Heap → Prop)   : CutOK sg W0 68 (entered 84) (Post sg W0 (zf57.ret Q)) (posC zf57.code []) 3 [0, 1, 4, 7, 9] (zf57.k3 (fun a1 a2 a3 a4 a5 h => zf57.j3 U  a1 a2 a3 a4 a5 Q h)) := by
  refine cutOK_head (fun vs h hk => ?_)
  unfold zf57.k3 at hk
  split at hk
  · rename_i a1 a2 a3 a4 a5
    refine hk (fun a1 a2 a3 a4 a5 h => Head sg W0 68 (entered 84) (Post sg W0 (zf57.ret Q)) (posC zf57.code []) 3 [0, 1, 4, 7, 9] [.ptr a1, .int .u64 a2, .ptr (some a3), .ptr (some a4), .int .i64 a5] h) ?_
    intro a1 a2 a3 a4 a5 h hb todo hm ρ a w s f hp
    have hself : CutOK sg W0 68 (entered 84) (Post sg W0 (zf57.ret Q)) (posC zf57.code []) 3 [0, 1, 4, 7, 9] (zf57.k3 (fun a1 a2 a3 a4 a5 h => Head sg W0 68 (entered 84) (Post sg W0 (zf57.ret Q)) (posC zf57.code []) 3 [0, 1, 4, 7, 9] [.ptr a1, .int .u64 a2, .ptr (some a3), .ptr (some a4), .int .i64 a5] h)) := cutOK_head (fun vs h hk => by unfold zf57.k3 at hk; split at hk; exact hk; exact hk.elim)
    exact piece (E := zf57.E U Q [(7, ([0, 1, 4, 7, 9], zf57.k7 (fun a1 a2 a3 a4 a5 h => zf57.j7 U (fun a1 a2 a3 a4 a5 h => Head sg W0 68 (entered 84) (Post sg W0 (zf57.ret Q)) (posC zf57.code []) 3 [0, 1, 4, 7, 9] [.ptr a1, .int .u64 a2, .ptr (some a3), .ptr (some a4), .int .i64 a5] h) a1 a2 a3 a4 a5 Q h))), (9, ([0, 4], zf57.k9 (fun a1 a2 h => zf57.j9 U  a1 a2 Q h)))]) (vs := [.ptr a1, .int .u64 a2, .ptr (some a3), .ptr (some a4), .int .i64 a5]) (envOK seatOK (zf57.callsOK hU) hU) (fnOK seatOK zf57.fun) ⟨(zf57.s7 hU Q (fun a1 a2 a3 a4 a5 h => Head sg W0 68 (entered 84) (Post sg W0 (zf57.ret Q)) (posC zf57.code []) 3 [0, 1, 4, 7, 9] [.ptr a1, .int .u64 a2, .ptr (some a3), .ptr (some a4), .int .i64 a5] h) hself), (zf57.s9 hU Q  ), trivial⟩ zf57.p3 (fuel := 3000) (by rw [← zf57.e3]; exact hb) hm s f hp
  · exact hk.elim

theorem zf57.e : ∀ (U : Ifc) (a1 : Option Ptr) (a2 : Int) (Q : Int → Int → Bool → Int → Bool → Heap → Prop) (h : Heap), zf57 U a1 a2 Q h = pts (zf57.E U Q [(3, ([0, 1, 4, 7, 9], zf57.k3 (fun a1 a2 a3 a4 a5 h => zf57.j3 U  a1 a2 a3 a4 a5 Q h)))]) 3000 true [.code zf57.code] (frOf 0 [.ptr a1, .int .u64 a2]) h := by
  intros; kernel_rfl

theorem zf57.S {W0 : World} {U : Ifc} (hU : IfcOK sg W0 glsT U) : FnS sg W0 75 (zf57.C U) := by
  intro vs κ h wv hx w s
  unfold zf57.C at hx
  split at hx
  · rename_i a1 a2
    refine postImp (ret := zf57.ret (fun r1 r2 r3 r4 r5 h => κ (.tup [.agg [.int .u64 r1, .int .i64 r2, .bool r3], .int .u64 r4, .bool r5]) h)) (fun v h hr => by unfold zf57.ret at hr; split at hr; exact hr; exact hr.elim) ?_
    exact calls_of_pts (E := zf57.E U (fun r1 r2 r3 r4 r5 h => κ (.tup [.agg [.int .u64 r1, .int .i64 r2, .bool r3], .int .u64 r4, .bool r5]) h) [(3, ([0, 1, 4, 7, 9], zf57.k3 (fun a1 a2 a3 a4 a5 h => zf57.j3 U  a1 a2 a3 a4 a5 (fun r1 r2 r3 r4 r5 h => κ (.tup [.agg [.int .u64 r1, .int .i64 r2, .bool r3], .int .u64 r4, .bool r5]) h) h)))]) (envOK seatOK (zf57.callsOK hU) hU) seatOK.mixed zf57.fun (Nat.le_of_ble_eq_true rfl) wv (cutL_ok ⟨(zf57.s3 hU (fun r1 r2 r3 r4 r5 h => κ (.tup [.agg [.int .u64 r1, .int .i64 r2, .bool r3], .int .u64 r4, .bool r5]) h)), trivial⟩) s (fuel := 3000) (by rw [← zf57.e]; exact hx)
  · exact hx.elim

noncomputable def zf54.code : Code := Go.Proofs.Tryd.f66.body.getD .skip

theorem zf54.fun : Fun sg.P 66 82 [.cell 6 99, .tmp 7] zf54.code := mkFun Go.Proofs.Tryd.func66 (by kernel_rfl) (by kernel_rfl) (by kernel_rfl) (by kernel_rfl)

def zf54.ret (Q : Int → Sl → Bool → Heap → Prop) (v : V) (h : Heap) : Prop :=
  match v with
  | .tup [.agg [.int .i64 r1, .sl r2], .bool r3] => Q r1 r2 r3 h
  | _ => False

def zf54.C (U : Ifc) (vs : List V) (κ : V → Heap → Prop) (h : Heap) : Prop :=
  match vs with
  | [.ptr a1, .ptr a2, .int .u64 a3] => zf54 U a1 a2 a3 (fun r1 r2 r3 h => κ (.tup [.agg [.int .i64 r1, .sl r2], .bool r3]) h) h
  | _ => False

noncomputable def zf54.calls (U : Ifc) : List (Nat × (List V → (V → Heap → Prop) → Heap → Prop)) := [(75, zf57.C U)]

noncomputable def zf54.E (U : Ifc) (Q : Int → Sl → Bool → Heap → Prop) (cuts : List (Nat × (List Nat × (List V → Heap → Prop)))) : Env := { tis := tisT, fns := fnsT, tys := tysT, gls := glsT, rts := rtsT, unk := [], nxt := [], calls := zf54.calls U, ifc := U, cuts := cuts, ret := zf54.ret Q, rets := [.cell 6 99, .tmp 7], n := 82 }

theorem zf54.callsOK {W0 : World} {U : Ifc} (hU : IfcOK sg W0 glsT U) : CallsOK sg W0 (zf54.calls U) := ⟨(zf57.S hU), trivial⟩

def zf54.k9 (I : Ptr → Heap → Prop) (vs : List V) (h : Heap) : Prop :=
  match vs with
  | [.ptr (some a1)] => I a1 h
  | _ => False

def zf54.k10 (I : (Option Ptr) → (Option Ptr) → Int → Ptr → Ptr → Int → Bool → Int → Int → Heap → Prop) (vs : List V) (h : Heap) : Prop :=
  match vs with
  | [.ptr a1, .ptr a2, .int .u64 a3, .ptr (some a4), .ptr (some a5), .int .u64 a6, .bool a7, .int .u64 a8, .int .u64 a9] => I a1 a2 a3 a4 a5 a6 a7 a8 a9 h
  | _ => False

def zf54.k8 (I : (Option Ptr) → (Option Ptr) → Int → Ptr → Ptr → Int → Bool → Int → Int → Int → Heap → Prop) (vs : List V) (h : Heap) : Prop :=
  match vs with
  | [.ptr a1, .ptr a2, .int .u64 a3, .ptr (some a4), .ptr (some a5), .int .u64 a6, .bool a7, .int .i64 a8, .int .u64 a9, .int .u64 a10] => I a1 a2 a3 a4 a5 a6 a7 a8 a9 a10 h
  | _ => False

def zf54.k3 (I : (Option Ptr) → (Option Ptr) → Int → Ptr → Bool → Int → Int → Int → Heap → Prop) (vs : List V) (h : Heap) : Prop :=
  match vs with
  | [.ptr a1, .ptr a2, .int .u64 a3, .ptr (some a4), .bool a5, .int .u64 a6, .int .u64 a7, .int .u64 a8] => I a1 a2 a3 a4 a5 a6 a7 a8 h
  | _ => False

theorem zf54.p9 : (posC zf54.code []).filter (fun p => Nat.beq p.1 9) = [(9, atPos (posC zf54.code []) 9)] := by kernel_rfl

theorem zf54.e9 : ∀ (U : Ifc) (I3 : (Option Ptr) → (Option Ptr) → Int → Ptr → Bool → Int → Int → Int → Heap → Prop) (a1 : Ptr) (Q : Int → Sl → Bool → Heap → Prop) (h : Heap), zf54.j9 U I3 a1 Q h = pts (zf54.E U Q []) 3000 true (atPos (posC zf54.code []) 9) (frAt [6] [.ptr (some a1)]) h := by
  intros; kernel_rfl

theorem zf54.s9 {W0 : World} {U : Ifc} (hU : IfcOK sg W0 glsT U) (Q : Int → Sl → Bool → Heap → Prop) (I3 : (Option Ptr) → (Option Ptr) → Int → Ptr → Bool → Int → Int → Int → Heap → Prop) (h3 : CutOK sg W0 82 (entered 66) (Post sg W0 (zf54.ret Q)) (posC zf54.code []) 3 [0, 1, 2, 6, 7, 8, 17, 18] (zf54.k3 I3)) : CutOK sg W0 82 (entered 66) (Post sg W0 (zf54.ret Q)) (posC zf54.code []) 9 [6] (zf54.k9 (fun a1 h => zf54.j9 U I3 a1 Q h)) := by
  refine cutOK_head (fun vs h hk => ?_)
  unfold zf54.k9 at hk
  split at hk
  · rename_i a1
    intro todo hm ρ a w s f hp
    exact piece (E := zf54.E U Q []) (vs := [.ptr (some a1)]) (envOK seatOK (zf54.callsOK hU) hU) (fnOK seatOK zf54.fun) trivial zf54.p9 (fuel := 3000) (by rw [← zf54.e9]; exact hk) hm s f hp
  · exact hk.elim

theorem zf54.p10 : (posC zf54.code []).filter (fun p => Nat.beq p.1 10) = [(10, atPos (posC zf54.code []) 10)] := by kernel_rfl

theorem zf54.e10 : ∀ (U : Ifc) (I3 : (Option Ptr) → (Option Ptr) → Int → Ptr → Bool → Int → Int → Int → Heap → Prop) (a1 : Option Ptr) (a2 : Option Ptr) (a3 : Int) (a4 : Ptr) (a5 : Ptr) (a6 : Int) (a7 : Bool) (a8 : Int) (a9 : Int) (Q : Int → Sl → Bool → Heap → Prop) (h : Heap), zf54.j10 U I3 a1 a2 a3 a4 a5 a6 a7 a8 a9 Q h = pts (zf54.E U Q [(3, ([0, 1, 2, 6, 7, 8, 17, 18], zf54.k3 I3))]) 3000 true (atPos (posC zf54.code []) 10) (frAt [0, 1, 2, 6, 9, 10, 11, 17, 18] [.ptr a1, .ptr a2, .int .u64 a3, .ptr (some a4), .ptr (some a5), .int .u64 a6, .bool a7, .int .u64 a8, .int .u64 a9]) h := by
  intros; kernel_rfl

theorem zf54.s10 {W0 : World} {U : Ifc} (hU : IfcOK sg W0 glsT U) (Q : Int → Sl → Bool → Heap → Prop) (I3 : (Option Ptr) → (Option Ptr) → Int → Ptr → Bool → Int → Int → Int → Heap → Prop) (h3 : CutOK sg W0 82 (entered 66) (Post sg W0 (zf54.ret Q)) (posC zf54.code []) 3 [0, 1, 2, 6, 7, 8, 17, 18] (zf54.k3 I3)) : CutOK sg W0 82 (entered 66) (Post sg W0 (zf54.ret Q)) (posC zf54.code []) 10 [0, 1, 2, 6, 9, 10, 11, 17, 18] (zf54.k10 (fun a1 a2 a3 a4 a5 a6 a7 a8 a9 h => zf54.j10 U I3 a1 a2 a3 a4 a5 a6 a7 a8 a9 Q h)) := by
  refine cutOK_head (fun vs h hk => ?_)
  unfold zf54.k10 at hk
  split at hk
  · rename_i a1 a2 a3 a4 a5 a6 a7 a8 a9
    intro todo hm ρ a w s f hp
    exact piece (E := zf54.E U Q [(3, ([0, 1, 2, 6, 7, 8, 17, 18], zf54.k3 I3))]) (vs := [.ptr a1, .ptr a2, .int .u64 a3, .ptr (some a4), .ptr (some a5), .int .u64 a6, .bool a7, .int .u64 a8, .int .u64 a9]) (envOK seatOK (zf54.callsOK hU) hU) (fnOK seatOK zf54.fun) ⟨h3, trivial⟩ zf54.p10 (fuel := 3000) (by rw [← zf54.e10]; exact hk) hm s f hp
  · exact hk.elim

theorem zf54.p8 : (posC zf54.code []).filter (fun p => Nat.beq p.1 8) = [(8, atPos (posC zf54.code []) 8)] := by kernel_rfl

theorem zf54.e8 : ∀ (U : Ifc) (I3 : (Option Ptr) → (Option Ptr) → Int → Ptr → Bool → Int → Int → Int → Heap → Prop) (a1 : Option Ptr) (a2 : Option Ptr) (a3 : Int) (a4 : Ptr) (a5 : Ptr) (a6 : Int) (a7 : Bool) (a8 : Int) (a9 : Int) (a10 : Int) (Q : Int → Sl → Bool → Heap → Prop) (h : Heap), zf54.j8 U I3 a1 a2 a3 a4 a5 a6 a7 a8 a9 a10 Q h = pts (zf54.E U Q [(9, ([6], zf54.k9 (fun a1 h => zf54.j9 U I3 a1 Q h))), (10, ([0, 1, 2, 6, 9, 10, 11, 17, 18], zf54.k10 (fun a1 a2 a3 a4 a5 a6 a7 a8 a9 h => zf54.j10 U I3 a1 a2 a3 a4 a5 a6 a7 a8 a9 Q h)))]) 3000 true (atPos (posC zf54.code []) 8) (frAt [0, 1, 2, 6, 9, 10, 11, 12, 17, 18] [.ptr a1, .ptr a2, .int .u64 a3, .ptr (some a4), .ptr (some a5), .int .u64 a6, .bool a7, .int .i64 a8, .int .u64 a9, .int .u64 a10]) h := by
  intros; kernel_rfl

theorem zf54.s8 {W0 : World} {U : Ifc} (hU : IfcOK sg W0 glsT U) (Q : Int → Sl → Bool → Heap → Prop) (I3 : (Option Ptr) → (Option Ptr) → Int → Ptr → Bool → Int → Int → Int → Heap → Prop) (h3 : CutOK sg W0 82 (entered 66) (Post sg W0 (zf54.ret Q)) (posC zf54.code []) 3 [0, 1, 2, 6, 7, 8, 17, 18] (zf54.k3 I3)) : CutOK sg W0 82 (entered 66) (Post sg W0 (zf54.ret Q)) (posC zf54.code []) 8 [0, 1, 2, 6, 9, 10, 11, 12, 17, 18] (zf54.k8 (fun a1 a2 a3 a4 a5 a6 a7 a8 a9 a10 h => zf54.j8 U I3 a1 a2 a3 a4 a5 a6 a7 a8 a9 a10 Q h)) := by
  refine cutOK_head (fun vs h hk => ?_)
  unfold zf54.k8 at hk
  split at hk
  · rename_i a1 a2 a3 a4 a5 a6 a7 a8 a9 a10
    intro todo hm ρ a w s f hp
    exact piece (E := zf54.E U Q [(9, ([6], zf54.k9 (fun a1 h => zf54.j9 U I3 a1 Q h))), (10, ([0, 1, 2, 6, 9, 10, 11, 17, 18], zf54.k10 (fun a1 a2 a3 a4 a5 a6 a7 a8 a9 h => zf54.j10 U I3 a1 a2 a3 a4 a5 a6 a7 a8 a9 Q h)))]) (vs := [.ptr a1, .ptr a2, .int .u64 a3, .ptr (some a4), .ptr (some a5), .int .u64 a6, .bool a7, .int .i64 a8, .int .u64 a9, .int .u64 a10]) (envOK seatOK (zf54.callsOK hU) hU) (fnOK seatOK zf54.fun) ⟨(zf54.s9 hU Q I3 h3), (zf54.s10 hU Q I3 h3), trivial⟩ zf54.p8 (fuel := 3000) (by rw [← zf54.e8]; exact hk) hm s f hp
  · exact hk.elim

theorem zf54.p3 : (posC zf54.code []).filter (fun p => Nat.beq p.1 3) = [(3, atPos (posC zf54.code []) 3)] := by kernel_rfl

theorem zf54.e3 : ∀ (U : Ifc)  (I3 : (Option Ptr) → (Option Ptr) → Int → Ptr → Bool → Int → Int → Int → Heap → Prop) (a1 : Option Ptr) (a2 : Option Ptr) (a3 : Int) (a4 : Ptr) (a5 : Bool) (a6 : Int) (a7 : Int) (a8 : Int) (Q : Int → Sl → Bool → Heap → Prop) (h : Heap), zf54.b3 U  I3 a1 a2 a3 a4 a5 a6 a7 a8 Q h = pts (zf54.E U Q [(8, ([0, 1, 2, 6, 9, 10, 11, 12, 17, 18], zf54.k8 (fun a1 a2 a3 a4 a5 a6 a7 a8 a9 a10 h => zf54.j8 U I3 a1 a2 a3 a4 a5 a6 a7 a8 a9 a10 Q h)))]) 3000 true (atPos (posC zf54.code []) 3) (frAt [0, 1, 2, 6, 7, 8, 17, 18] [.ptr a1, .ptr a2, .int .u64 a3, .ptr (some a4), .bool a5, .int .u64 a6, .int .u64 a7, .int .u64 a8]) h := by
  intros; kernel_rfl

theorem zf54.s3 {W0 : World} {U : Ifc} (hU : IfcOK sg W0 glsT U) (Q : Int → Sl → Bool → Heap → Prop)   : CutOK sg W0 82 (entered 66) (Post sg W0 (zf54.ret Q)) (posC zf54.code []) 3 [0, 1, 2, 6, 7, 8, 17, 18] (zf54.k3 (fun a1 a2 a3 a4 a5 a6 a7 a8 h => zf54.j3 U  a1 a2 a3 a4 a5 a6 a7 a8 Q h)) := by
  refine cutOK_head (fun vs h hk => ?_)
  unfold zf54.k3 at hk
  split at hk
  · rename_i a1 a2 a3 a4 a5 a6 a7 a8
    refine hk (fun a1 a2 a3 a4 a5 a6 a7 a8 h => Head sg W0 82 (entered 66) (Post sg W0 (zf54.ret Q)) (posC zf54.code []) 3 [0, 1, 2, 6, 7, 8, 17, 18] [.ptr a1, .ptr a2, .int .u64 a3, .ptr (some a4), .bool a5, .int .u64 a6, .int .u64 a7, .int .u64 a8] h) ?_
    intro a1 a2 a3 a4 a5 a6 a7 a8 h hb todo hm ρ a w s f hp
    have hself : CutOK sg W0 82 (entered 66) (Post sg W0 (zf54.ret Q)) (posC zf54.code []) 3 [0, 1, 2, 6, 7, 8, 17, 18] (zf54.k3 (fun a1 a2 a3 a4 a5 a6 a7 a8 h => Head sg W0 82 (entered 66) (Post sg W0 (zf54.ret Q)) (posC zf54.code []) 3 [0, 1, 2, 6, 7, 8, 17, 18] [.ptr a1, .ptr a2, .int .u64 a3, .ptr (some a4), .bool a5, .int .u64 a6, .int .u64 a7, .int .u64 a8] h)) := cutOK_head (fun vs h hk => by unfold zf54.k3 at hk; split at hk; exact hk; exact hk.elim)
    exact piece (E := zf54.E U Q [(8, ([0, 1, 2, 6, 9, 10, 11, 12, 17, 18], zf54.k8 (fun a1 a2 a3 a4 a5 a6 a7 a8 a9 a10 h => zf54.j8 U (fun a1 a2 a3 a4 a5 a6 a7 a8 h => Head sg W0 82 (entered 66) (Post sg W0 (zf54.ret Q)) (posC zf54.code []) 3 [0, 1, 2, 6, 7, 8, 17, 18] [.ptr a1, .ptr a2, .int .u64 a3, .ptr (some a4), .bool a5, .int .u64 a6, .int .u64 a7, .int .u64 a8] h) a1 a2 a3 a4 a5 a6 a7 a8 a9 a10 Q h)))]) (vs := [.ptr a1, .ptr a2, .int .u64 a3, .ptr (some a4), .bool a5, .int .u64 a6, .int .u64 a7, .int .u64 a8]) (envOK seatOK (zf54.callsOK hU) hU) (fnOK seatOK zf54.fun) ⟨(zf54.s8 hU Q (fun a1 a2 a3 a4 a5 a6 a7 a8 h => Head sg W0 82 (entered 66) (Post sg W0 (zf54.ret Q)) (posC zf54.code []) 3 [0, 1, 2, 6, 7, 8, 17, 18] [.ptr a1, .ptr a2, .int .u64 a3, .ptr (some a4), .bool a5, .int .u64 a6, .int .u64 a7, .int .u64 a8] h) hself), trivial⟩ zf54.p3 (fuel := 3000) (by rw [← zf54.e3]; exact hb) hm s f hp
  · exact hk.elim

theorem zf54.e : ∀ (U : Ifc) (a1 : Option Ptr) (a2 : Option Ptr) (a3 : Int) (Q : Int → Sl → Bool → Heap → Prop) (h : Heap), zf54 U a1 a2 a3 Q h = pts (zf54.E U Q [(3, ([0, 1, 2, 6, 7, 8, 17, 18], zf54.k3 (fun a1 a2 a3 a4 a5 a6 a7 a8 h => zf54.j3 U  a1 a2 a3 a4 a5 a6 a7 a8 Q h)))]) 3000 true [.code zf54.code] (frOf 0 [.ptr a1, .ptr a2, .int .u64 a3]) h := by
  intros; kernel_rfl

theorem zf54.S {W0 : World} {U : Ifc} (hU : IfcOK sg W0 glsT U) : FnS sg W0 76 (zf54.C U) := by
  intro vs κ h wv hx w s
  unfold zf54.C at hx
  split at hx
  · rename_i a1 a2 a3
    refine postImp (ret := zf54.ret (fun r1 r2 r3 h => κ (.tup [.agg [.int .i64 r1, .sl r2], .bool r3]) h)) (fun v h hr => by unfold zf54.ret at hr; split at hr; exact hr; exact hr.elim) ?_
    exact calls_of_pts (E := zf54.E U (fun r1 r2 r3 h => κ (.tup [.agg [.int .i64 r1, .sl r2], .bool r3]) h) [(3, ([0, 1, 2, 6, 7, 8, 17, 18], zf54.k3 (fun a1 a2 a3 a4 a5 a6 a7 a8 h => zf54.j3 U  a1 a2 a3 a4 a5 a6 a7 a8 (fun r1 r2 r3 h => κ (.tup [.agg [.int .i64 r1, .sl r2], .bool r3]) h) h)))]) (envOK seatOK (zf54.callsOK hU) hU) seatOK.mixed zf54.fun (Nat.le_of_ble_eq_true rfl) wv (cutL_ok ⟨(zf54.s3 hU (fun r1 r2 r3 h => κ (.tup [.agg [.int .i64 r1, .sl r2], .bool r3]) h)), trivial⟩) s (fuel := 3000) (by rw [← zf54.e]; exact hx)
  · exact hx.elim

noncomputable def zf52.code : Code := Go.Proofs.Tryd.f32.body.getD .skip

theorem zf52.fun : Fun sg.P 32 109 [.cell 4 99, .tmp 5, .tmp 6] zf52.code := mkFun Go.Proofs.Tryd.func32 (by kernel_rfl) (by kernel_rfl) (by kernel_rfl) (by kernel_rfl)

def zf52.ret (Q : Int → Sl → Bool → Int → Heap → Prop) (v : V) (h : Heap) : Prop :=
  match v with
  | .tup [.agg [.int .i64 r1, .sl r2], .bool r3, .int .i64 r4] => Q r1 r2 r3 r4 h
  | _ => False

def zf52.C (U : Ifc) (vs : List V) (κ : V → Heap → Prop) (h : Heap) : Prop :=
  match vs with
  | [.ptr a1, a2] => zf52 U a1 a2 (fun r1 r2 r3 r4 h => κ (.tup [.agg [.int .i64 r1, .sl r2], .bool r3, .int .i64 r4]) h) h
  | _ => False

noncomputable def zf52.calls (U : Ifc) : List (Nat × (List V → (V → Heap → Prop) → Heap → Prop)) := [(30, zf55.C), (74, zf56.C U), (76, zf54.C U)]

noncomputable def zf52.E (U : Ifc) (Q : Int → Sl → Bool → Int → Heap → Prop) (cuts : List (Nat × (List Nat × (List V → Heap → Prop)))) : Env := { tis := tisT, fns := fnsT, tys := tysT, gls := glsT, rts := rtsT, unk := [], nxt := [], calls := zf52.calls U, ifc := U, cuts := cuts, ret := zf52.ret Q, rets := [.cell 4 99, .tmp 5, .tmp 6], n := 109 }

theorem zf52.callsOK {W0 : World} {U : Ifc} (hU : IfcOK sg W0 glsT U) : CallsOK sg W0 (zf52.calls U) := ⟨zf55.S, (zf56.S hU), (zf54.S hU), trivial⟩

def zf52.k11 (I : (Option Ptr) → Ptr → Ptr → Int → Heap → Prop) (vs : List V) (h : Heap) : Prop :=
  match vs with
  | [.ptr a1, .ptr (some a2), .ptr (some a3), .int .u64 a4] => I a1 a2 a3 a4 h
  | _ => False

def zf52.k9 (I : (Option Ptr) → Ptr → Ptr → Int → Int → Heap → Prop) (vs : List V) (h : Heap) : Prop :=
  match vs with
  | [.ptr a1, .ptr (some a2), .ptr (some a3), .int .u64 a4, .int .u64 a5] => I a1 a2 a3 a4 a5 h
  | _ => False

def zf52.k7 (I : (Option Ptr) → Ptr → Ptr → Int → Int → Heap → Prop) (vs : List V) (h : Heap) : Prop :=
  match vs with
  | [.ptr a1, .ptr (some a2), .ptr (some a3), .int .u64 a4, .int .u64 a5] => I a1 a2 a3 a4 a5 h
  | _ => False

theorem zf52.p11 : (posC zf52.code []).filter (fun p => Nat.beq p.1 11) = [(11, atPos (posC zf52.code []) 11)] := by kernel_rfl

theorem zf52.e11 : ∀ (U : Ifc)  (a1 : Option Ptr) (a2 : Ptr) (a3 : Ptr) (a4 : Int) (Q : Int → Sl → Bool → Int → Heap → Prop) (h : Heap), zf52.j11 U  a1 a2 a3 a4 Q h = pts (zf52.E U Q []) 3000 true (atPos (posC zf52.code []) 11) (frAt [0, 4, 8, 11] [.ptr a1, .ptr (some a2), .ptr (some a3), .int .u64 a4]) h := by
  intros; kernel_rfl

theorem zf52.s11 {W0 : World} {U : Ifc} (hU : IfcOK sg W0 glsT U) (Q : Int → Sl → Bool → Int → Heap → Prop)   : CutOK sg W0 109 (entered 32) (Post sg W0 (zf52.ret Q)) (posC zf52.code []) 11 [0, 4, 8, 11] (zf52.k11 (fun a1 a2 a3 a4 h => zf52.j11 U  a1 a2 a3 a4 Q h)) := by
  refine cutOK_head (fun vs h hk => ?_)
  unfold zf52.k11 at hk
  split at hk
  · rename_i a1 a2 a3 a4
    intro todo hm ρ a w s f hp
    exact piece (E := zf52.E U Q []) (vs := [.ptr a1, .ptr (some a2), .ptr (some a3), .int .u64 a4]) (envOK seatOK (zf52.callsOK hU) hU) (fnOK seatOK zf52.fun) trivial zf52.p11 (fuel := 3000) (by rw [← zf52.e11]; exact hk) hm s f hp
  · exact hk.elim

theorem zf52.p9 : (posC zf52.code []).filter (fun p => Nat.beq p.1 9) = [(9, atPos (posC zf52.code []) 9)] := by kernel_rfl

theorem zf52.e9 : ∀ (U : Ifc)  (a1 : Option Ptr) (a2 : Ptr) (a3 : Ptr) (a4 : Int) (a5 : Int) (Q : Int → Sl → Bool → Int → Heap → Prop) (h : Heap), zf52.j9 U  a1 a2 a3 a4 a5 Q h = pts (zf52.E U Q [(11, ([0, 4, 8, 11], zf52.k11 (fun a1 a2 a3 a4 h => zf52.j11 U  a1 a2 a3 a4 Q h)))]) 3000 true (atPos (posC zf52.code []) 9) (frAt [0, 4, 8, 9, 10] [.ptr a1, .ptr (some a2), .ptr (some a3), .int .u64 a4, .int .u64 a5]) h := by
  intros; kernel_rfl

theorem zf52.s9 {W0 : World} {U : Ifc} (hU : IfcOK sg W0 glsT U) (Q : Int → Sl → Bool → Int → Heap → Prop)   : CutOK sg W0 109 (entered 32) (Post sg W0 (zf52.ret Q)) (posC zf52.code []) 9 [0, 4, 8, 9, 10] (zf52.k9 (fun a1 a2 a3 a4 a5 h => zf52.j9 U  a1 a2 a3 a4 a5 Q h)) := by
  refine cutOK_head (fun vs h hk => ?_)
  unfold zf52.k9 at hk
  split at hk
  · rename_i a1 a2 a3 a4 a5
    intro todo hm ρ a w s f hp
    exact piece (E := zf52.E U Q [(11, ([0, 4, 8, 11], zf52.k11 (fun a1 a2 a3 a4 h => zf52.j11 U  a1 a2 a3 a4 Q h)))]) (vs := [.ptr a1, .ptr (some a2), .ptr (some a3), .int .u64 a4, .int .u64 a5]) (envOK seatOK (zf52.callsOK hU) hU) (fnOK seatOK zf52.fun) ⟨(zf52.s11 hU Q  ), trivial⟩ zf52.p9 (fuel := 3000) (by rw [← zf52.e9]; exact hk) hm s f hp
  · exact hk.elim

theorem zf52.p7 : (posC zf52.code []).filter (fun p => Nat.beq p.1 7) = [(7, atPos (posC zf52.code []) 7)] := by kernel_rfl

theorem zf52.e7 : ∀ (U : Ifc)  (a1 : Option Ptr) (a2 : Ptr) (a3 : Ptr) (a4 : Int) (a5 : Int) (Q : Int → Sl → Bool → Int → Heap → Prop) (h : Heap), zf52.j7 U  a1 a2 a3 a4 a5 Q h = pts (zf52.E U Q [(9, ([0, 4, 8, 9, 10], zf52.k9 (fun a1 a2 a3 a4 a5 h => zf52.j9 U  a1 a2 a3 a4 a5 Q h)))]) 3000 true (atPos (posC zf52.code []) 7) (frAt [0, 4, 8, 9, 10] [.ptr a1, .ptr (some a2), .ptr (some a3), .int .u64 a4, .int .u64 a5]) h := by
  intros; kernel_rfl

theorem zf52.s7 {W0 : World} {U : Ifc} (hU : IfcOK sg W0 glsT U) (Q : Int → Sl → Bool → Int → Heap → Prop)   : CutOK sg W0 109 (entered 32) (Post sg W0 (zf52.ret Q)) (posC zf52.code []) 7 [0, 4, 8, 9, 10] (zf52.k7 (fun a1 a2 a3 a4 a5 h => zf52.j7 U  a1 a2 a3 a4 a5 Q h)) := by
  refine cutOK_head (fun vs h hk => ?_)
  unfold zf52.k7 at hk
  split at hk
  · rename_i a1 a2 a3 a4 a5
    intro todo hm ρ a w s f hp
    exact piece (E := zf52.E U Q [(9, ([0, 4, 8, 9, 10], zf52.k9 (fun a1 a2 a3 a4 a5 h => zf52.j9 U  a1 a2 a3 a4 a5 Q h)))]) (vs := [.ptr a1, .ptr (some a2), .ptr (some a3), .int .u64 a4, .int .u64 a5]) (envOK seatOK (zf52.callsOK hU) hU) (fnOK seatOK zf52.fun) ⟨(zf52.s9 hU Q  ), trivial⟩ zf52.p7 (fuel := 3000) (by rw [← zf52.e7]; exact hk) hm s f hp
  · exact hk.elim

theorem zf52.e : ∀ (U : Ifc) (a1 : Option Ptr) (a2 : V) (Q : Int → Sl → Bool → Int → Heap → Prop) (h : Heap), zf52 U a1 a2 Q h = pts (zf52.E U Q [(7, ([0, 4, 8, 9, 10], zf52.k7 (fun a1 a2 a3 a4 a5 h => zf52.j7 U  a1 a2 a3 a4 a5 Q h)))]) 3000 true [.code zf52.code] (frOf 0 [.ptr a1, a2]) h := by
  intros; kernel_rfl

theorem zf52.S {W0 : World} {U : Ifc} (hU : IfcOK sg W0 glsT U) : FnS sg W0 77 (zf52.C U) := by
  intro vs κ h wv hx w s
  unfold zf52.C at hx
  split at hx
  · rename_i a1 a2
    refine postImp (ret := zf52.ret (fun r1 r2 r3 r4 h => κ (.tup [.agg [.int .i64 r1, .sl r2], .bool r3, .int .i64 r4]) h)) (fun v h hr => by unfold zf52.ret at hr; split at hr; exact hr; exact hr.elim) ?_
    exact calls_of_pts (E := zf52.E U (fun r1 r2 r3 r4 h => κ (.tup [.agg [.int .i64 r1, .sl r2], .bool r3, .int .i64 r4]) h) [(7, ([0, 4, 8, 9, 10], zf52.k7 (fun a1 a2 a3 a4 a5 h => zf52.j7 U  a1 a2 a3 a4 a5 (fun r1 r2 r3 r4 h => κ (.tup [.agg [.int .i64 r1, .sl r2], .bool r3, .int .i64 r4]) h) h)))]) (envOK seatOK (zf52.callsOK hU) hU) seatOK.mixed zf52.fun (Nat.le_of_ble_eq_true rfl) wv (cutL_ok ⟨(zf52.s7 hU (fun r1 r2 r3 r4 h => κ (.tup [.agg [.int .i64 r1, .sl r2], .bool r3, .int .i64 r4]) h)), trivial⟩) s (fuel := 3000) (by rw [← zf52.e]; exact hx)
  · exact hx.elim

noncomputable def zf7.code : Code := Go.Proofs.Tryd.f56.body.getD .skip

theorem zf7.fun : Fun sg.P 56 17 [.tmp 2] zf7.code := mkFun Go.Proofs.Tryd.func56 (by kernel_rfl) (by kernel_rfl) (by kernel_rfl) (by kernel_rfl)

def zf7.ret (Q : Int → Heap → Prop) (v : V) (h : Heap) : Prop :=
  match v with
  | .int .u64 r1 => Q r1 h
  | _ => False

def zf7.C (vs : List V) (κ : V → Heap → Prop) (h : Heap) : Prop :=
  match vs with
  | [.sl a1] => zf7 a1 (fun r1 h => κ (.int .u64 r1) h) h
  | _ => False

noncomputable def zf7.calls : List (Nat × (List V → (V → Heap → Prop) → Heap → Prop)) := []

noncomputable def zf7.E (Q : Int → Heap → Prop) (cuts : List (Nat × (List Nat × (List V → Heap → Prop)))) : Env := { tis := tisT, fns := fnsT, tys := tysT, gls := [], rts := rtsT, unk := [], nxt := [], calls := zf7.calls, ifc := noIfc, cuts := cuts, ret := zf7.ret Q, rets := [.tmp 2], n := 17 }

theorem zf7.callsOK {W0 : World} : CallsOK sg W0 zf7.calls := trivial

def zf7.k2 (I : Sl → Int → Int → Heap → Prop) (vs : List V) (h : Heap) : Prop :=
  match vs with
  | [.sl a1, .int .u64 a2, .int .i64 a3] => I a1 a2 a3 h
  | _ => False

theorem zf7.p2 : (posC zf7.code []).filter (fun p => Nat.beq p.1 2) = [(2, atPos (posC zf7.code []) 2)] := by kernel_rfl

theorem zf7.e2 : ∀  (I2 : Sl → Int → Int → Heap → Prop) (a1 : Sl) (a2 : Int) (a3 : Int) (Q : Int → Heap → Prop) (h : Heap), zf7.b2  I2 a1 a2 a3 Q h = pts (zf7.E Q [(2, ([0, 2, 3], zf7.k2 I2))]) 3000 true (atPos (posC zf7.code []) 2) (frAt [0, 2, 3] [.sl a1, .int .u64 a2, .int .i64 a3]) h := by
  intros; kernel_rfl

theorem zf7.s2 {W0 : World} (Q : Int → Heap → Prop)   : CutOK sg W0 17 (entered 56) (Post sg W0 (zf7.ret Q)) (posC zf7.code []) 2 [0, 2, 3] (zf7.k2 (fun a1 a2 a3 h => zf7.j2  a1 a2 a3 Q h)) := by
  refine cutOK_head (fun vs h hk => ?_)
  unfold zf7.k2 at hk
  split at hk
  · rename_i a1 a2 a3
    refine hk (fun a1 a2 a3 h => Head sg W0 17 (entered 56) (Post sg W0 (zf7.ret Q)) (posC zf7.code []) 2 [0, 2, 3] [.sl a1, .int .u64 a2, .int .i64 a3] h) ?_
    intro a1 a2 a3 h hb todo hm ρ a w s f hp
    have hself : CutOK sg W0 17 (entered 56) (Post sg W0 (zf7.ret Q)) (posC zf7.code []) 2 [0, 2, 3] (zf7.k2 (fun a1 a2 a3 h => Head sg W0 17 (entered 56) (Post sg W0 (zf7.ret Q)) (posC zf7.code []) 2 [0, 2, 3] [.sl a1, .int .u64 a2, .int .i64 a3] h)) := cutOK_head (fun vs h hk => by unfold zf7.k2 at hk; split at hk; exact hk; exact hk.elim)
    exact piece (E := zf7.E Q [(2, ([0, 2, 3], zf7.k2 (fun a1 a2 a3 h => Head sg W0 17 (entered 56) (Post sg W0 (zf7.ret Q)) (posC zf7.code []) 2 [0, 2, 3] [.sl a1, .int .u64 a2, .int .i64 a3] h)))]) (vs := [.sl a1, .int .u64 a2, .int .i64 a3]) (envOK seatOK zf7.callsOK noIfc_ok) (fnOK seatOK zf7.fun) ⟨hself, trivial⟩ zf7.p2 (fuel := 3000) (by rw [← zf7.e2]; exact hb) hm s f hp
  · exact hk.elim

theorem zf7.e : ∀ (a1 : Sl) (Q : Int → Heap → Prop) (h : Heap), zf7 a1 Q h = pts (zf7.E Q [(2, ([0, 2, 3], zf7.k2 (fun a1 a2 a3 h => zf7.j2  a1 a2 a3 Q h)))]) 3000 true [.code zf7.code] (frOf 0 [.sl a1]) h := by
  intros; kernel_rfl

theorem zf7.S {W0 : World} : FnS sg W0 267 zf7.C := by
  intro vs κ h wv hx w s
  unfold zf7.C at hx
  split at hx
  · rename_i a1
    refine postImp (ret := zf7.ret (fun r1 h => κ (.int .u64 r1) h)) (fun v h hr => by unfold zf7.ret at hr; split at hr; exact hr; exact hr.elim) ?_
    exact calls_of_pts (E := zf7.E (fun r1 h => κ (.int .u64 r1) h) [(2, ([0, 2, 3], zf7.k2 (fun a1 a2 a3 h => zf7.j2  a1 a2 a3 (fun r1 h => κ (.int .u64 r1) h) h)))]) (envOK seatOK zf7.callsOK noIfc_ok) seatOK.mixed zf7.fun (Nat.le_of_ble_eq_true rfl) wv (cutL_ok ⟨(zf7.s2 (fun r1 h => κ (.int .u64 r1) h)), trivial⟩) s (fuel := 3000) (by rw [← zf7.e]; exact hx)
  · exact hx.elim

noncomputable def zf25.code : Code := Go.Proofs.Tryd.f11.body.getD .skip

theorem zf25.fun : Fun sg.P 11 30 [.tmp 4, .tmp 5, .tmp 6] zf25.code := mkFun Go.Proofs.Tryd.func11 (by kernel_rfl) (by kernel_rfl) (by kernel_rfl) (by kernel_rfl)

def zf25.ret (Q : Int → Int → Bool → Heap → Prop) (v : V) (h : Heap) : Prop :=
  match v with
  | .tup [.int .i64 r1, .int .i64 r2, .bool r3] => Q r1 r2 r3 h
  | _ => False

def zf25.C (vs : List V) (κ : V → Heap → Prop) (h : Heap) : Prop :=
  match vs with
  | [.ptr a1, .int .i64 a2] => zf25 a1 a2 (fun r1 r2 r3 h => κ (.tup [.int .i64 r1, .int .i64 r2, .bool r3]) h) h
  | _ => False

noncomputable def zf25.calls : List (Nat × (List V → (V → Heap → Prop) → Heap → Prop)) := [(260, zf26.C)]

noncomputable def zf25.E (Q : Int → Int → Bool → Heap → Prop) (cuts : List (Nat × (List Nat × (List V → Heap → Prop)))) : Env := { tis := tisT, fns := fnsT, tys := tysT, gls := [], rts := rtsT, unk := [], nxt := [], calls := zf25.calls, ifc := noIfc, cuts := cuts, ret := zf25.ret Q, rets := [.tmp 4, .tmp 5, .tmp 6], n := 30 }

theorem zf25.callsOK {W0 : World} : CallsOK sg W0 zf25.calls := ⟨zf26.S, trivial⟩

def zf25.k2 (I : Heap → Prop) (vs : List V) (h : Heap) : Prop :=
  match vs with
  | [] => I  h
  | _ => False

theorem zf25.p2 : (posC zf25.code []).filter (fun p => Nat.beq p.1 2) = [(2, atPos (posC zf25.code []) 2)] := by kernel_rfl

theorem zf25.e2 : ∀   (Q : Int → Int → Bool → Heap → Prop) (h : Heap), zf25.j2   Q h = pts (zf25.E Q []) 3000 true (atPos (posC zf25.code []) 2) (frAt [] []) h := by
  intros; kernel_rfl

theorem zf25.s2 {W0 : World} (Q : Int → Int → Bool → Heap → Prop)   : CutOK sg W0 30 (entered 11) (Post sg W0 (zf25.ret Q)) (posC zf25.code []) 2 [] (zf25.k2 (fun  h => zf25.j2   Q h)) := by
  refine cutOK_head (fun vs h hk => ?_)
  unfold zf25.k2 at hk
  split at hk
  · skip
    intro todo hm ρ a w s f hp
    exact piece (E := zf25.E Q []) (vs := []) (envOK seatOK zf25.callsOK noIfc_ok) (fnOK seatOK zf25.fun) trivial zf25.p2 (fuel := 3000) (by rw [← zf25.e2]; exact hk) hm s f hp
  · exact hk.elim

theorem zf25.e : ∀ (a1 : Option Ptr) (a2 : Int) (Q : Int → Int → Bool → Heap → Prop) (h : Heap), zf25 a1 a2 Q h = pts (zf25.E Q [(2, ([], zf25.k2 (fun  h => zf25.j2   Q h)))]) 3000 true [.code zf25.code] (frOf 0 [.ptr a1, .int .i64 a2]) h := by
  intros; kernel_rfl

theorem zf25.S {W0 : World} : FnS sg W0 268 zf25.C := by
  intro vs κ h wv hx w s
  unfold zf25.C at hx
  split at hx
  · rename_i a1 a2
    refine postImp (ret := zf25.ret (fun r1 r2 r3 h => κ (.tup [.int .i64 r1, .int .i64 r2, .bool r3]) h)) (fun v h hr => by unfold zf25.ret at hr; split at hr; exact hr; exact hr.elim) ?_
    exact calls_of_pts (E := zf25.E (fun r1 r2 r3 h => κ (.tup [.int .i64 r1, .int .i64 r2, .bool r3]) h) [(2, ([], zf25.k2 (fun  h => zf25.j2   (fun r1 r2 r3 h => κ (.tup [.int .i64 r1, .int .i64 r2, .bool r3]) h) h)))]) (envOK seatOK zf25.callsOK noIfc_ok) seatOK.mixed zf25.fun (Nat.le_of_ble_eq_true rfl) wv (cutL_ok ⟨(zf25.s2 (fun r1 r2 r3 h => κ (.tup [.int .i64 r1, .int .i64 r2, .bool r3]) h)), trivial⟩) s (fuel := 3000) (by rw [← zf25.e]; exact hx)
  · exact hx.elim

noncomputable def zf3.code : Code := Go.Proofs.Tryd.f33.body.getD .skip

theorem zf3.fun : Fun sg.P 33 156 [.cell 6 57, .tmp 7] zf3.code := mkFun Go.Proofs.Tryd.func33 (by kernel_rfl) (by kernel_rfl) (by kernel_rfl) (by kernel_rfl)

def zf3.ret (Q : Int → Bool → Int → Int → Int → Heap → Prop) (v : V) (h : Heap) : Prop :=
  match v with
  | .tup [.agg [.int .i64 r1, .bool r2, .int .i64 r3, .int .i64 r4], .int .u8 r5] => Q r1 r2 r3 r4 r5 h
  | _ => False

def zf3.C (U : Ifc) (vs : List V) (κ : V → Heap → Prop) (h : Heap) : Prop :=
  match vs with
  | [.ptr a1, a2, .agg [.int .i64 a3, .sl a4]] => zf3 U a1 a2 a3 a4 (fun r1 r2 r3 r4 r5 h => κ (.tup [.agg [.int .i64 r1, .bool r2, .int .i64 r3, .int .i64 r4], .int .u8 r5]) h) h
  | _ => False

noncomputable def zf3.calls (U : Ifc) : List (Nat × (List V → (V → Heap → Prop) → Heap → Prop)) := [(268, zf25.C), (267, zf7.C)]

noncomputable def zf3.E (U : Ifc) (Q : Int → Bool → Int → Int → Int → Heap → Prop) (cuts : List (Nat × (List Nat × (List V → Heap → Prop)))) : Env := { tis := tisT, fns := fnsT, tys := tysT, gls := glsT, rts := rtsT, unk := [], nxt := [], calls := zf3.calls U, ifc := U, cuts := cuts, ret := zf3.ret Q, rets := [.cell 6 57, .tmp 7], n := 156 }

theorem zf3.callsOK {W0 : World} {U : Ifc} (hU : IfcOK sg W0 glsT U) : CallsOK sg W0 (zf3.calls U) := ⟨zf25.S, zf7.S, trivial⟩

def zf3.k5 (I : Ptr → Heap → Prop) (vs : List V) (h : Heap) : Prop :=
  match vs with
  | [.ptr (some a1)] => I a1 h
  | _ => False

def zf3.k11 (I : Ptr → Heap → Prop) (vs : List V) (h : Heap) : Prop :=
  match vs with
  | [.ptr (some a1)] => I a1 h
  | _ => False

def zf3.k15 (I : Ptr → Heap → Prop) (vs : List V) (h : Heap) : Prop :=
  match vs with
  | [.ptr (some a1)] => I a1 h
  | _ => False

def zf3.k14 (I : (Option Ptr) → Ptr → Int → Int → Int → Bool → Int → Bool → Heap → Prop) (vs : List V) (h : Heap) : Prop :=
  match vs with
  | [.ptr a1, .ptr (some a2), .int .u64 a3, .int .u64 a4, .int .i64 a5, .bool a6, .int .i64 a7, .bool a8] => I a1 a2 a3 a4 a5 a6 a7 a8 h
  | _ => False

def zf3.k12 (I : (Option Ptr) → V → Ptr → Ptr → Int → Int → Heap → Prop) (vs : List V) (h : Heap) : Prop :=
  match vs with
  | [.ptr a1, a2, .ptr (some a3), .ptr (some a4), .int .u64 a5, .int .u64 a6] => I a1 a2 a3 a4 a5 a6 h
  | _ => False

def zf3.k6 (I : (Option Ptr) → V → Ptr → Ptr → Ptr → Heap → Prop) (vs : List V) (h : Heap) : Prop :=
  match vs with
  | [.ptr a1, a2, .ptr (some a3), .ptr (some a4), .ptr (some a5)] => I a1 a2 a3 a4 a5 h
  | _ => False

def zf3.k4 (I : (Option Ptr) → V → Ptr → Ptr → Ptr → Ptr → Heap → Prop) (vs : List V) (h : Heap) : Prop :=
  match vs with
  | [.ptr a1, a2, .ptr (some a3), .ptr (some a4), .ptr (some a5), .ptr (some a6)] => I a1 a2 a3 a4 a5 a6 h
  | _ => False

theorem zf3.p5 : (posC zf3.code []).filter (fun p => Nat.beq p.1 5) = [(5, atPos (posC zf3.code []) 5)] := by kernel_rfl

theorem zf3.e5 : ∀ (U : Ifc)  (a1 : Ptr) (Q : Int → Bool → Int → Int → Int → Heap → Prop) (h : Heap), zf3.j5 U  a1 Q h = pts (zf3.E U Q []) 3000 true (atPos (posC zf3.code []) 5) (frAt [6] [.ptr (some a1)]) h := by
  intros; kernel_rfl

theorem zf3.s5 {W0 : World} {U : Ifc} (hU : IfcOK sg W0 glsT U) (Q : Int → Bool → Int → Int → Int → Heap → Prop)   : CutOK sg W0 156 (entered 33) (Post sg W0 (zf3.ret Q)) (posC zf3.code []) 5 [6] (zf3.k5 (fun a1 h => zf3.j5 U  a1 Q h)) := by
  refine cutOK_head (fun vs h hk => ?_)
  unfold zf3.k5 at hk
  split at hk
  · rename_i a1
    intro todo hm ρ a w s f hp
    exact piece (E := zf3.E U Q []) (vs := [.ptr (some a1)]) (envOK seatOK (zf3.callsOK hU) hU) (fnOK seatOK zf3.fun) trivial zf3.p5 (fuel := 3000) (by rw [← zf3.e5]; exact hk) hm s f hp
  · exact hk.elim

theorem zf3.p11 : (posC zf3.code []).filter (fun p => Nat.beq p.1 11) = [(11, atPos (posC zf3.code []) 11)] := by kernel_rfl

theorem zf3.e11 : ∀ (U : Ifc)  (a1 : Ptr) (Q : Int → Bool → Int → Int → Int → Heap → Prop) (h : Heap), zf3.j11 U  a1 Q h = pts (zf3.E U Q []) 3000 true (atPos (posC zf3.code []) 11) (frAt [6] [.ptr (some a1)]) h := by
  intros; kernel_rfl

theorem zf3.s11 {W0 : World} {U : Ifc} (hU : IfcOK sg W0 glsT U) (Q : Int → Bool → Int → Int → Int → Heap → Prop)   : CutOK sg W0 156 (entered 33) (Post sg W0 (zf3.ret Q)) (posC zf3.code []) 11 [6] (zf3.k11 (fun a1 h => zf3.j11 U  a1 Q h)) := by
  refine cutOK_head (fun vs h hk => ?_)
  unfold zf3.k11 at hk
  split at hk
  · rename_i a1
    intro todo hm ρ a w s f hp
    exact piece (E := zf3.E U Q []) (vs := [.ptr (some a1)]) (envOK seatOK (zf3.callsOK hU) hU) (fnOK seatOK zf3.fun) trivial zf3.p11 (fuel := 3000) (by rw [← zf3.e11]; exact hk) hm s f hp
  · exact hk.elim

theorem zf3.p15 : (posC zf3.code []).filter (fun p => Nat.beq p.1 15) = [(15, atPos (posC zf3.code []) 15)] := by kernel_rfl

theorem zf3.e15 : ∀ (U : Ifc)  (a1 : Ptr) (Q : Int → Bool → Int → Int → Int → Heap → Prop) (h : Heap), zf3.j15 U  a1 Q h = pts (zf3.E U Q []) 3000 true (atPos (posC zf3.code []) 15) (frAt [6] [.ptr (some a1)]) h := by
  intros; kernel_rfl

theorem zf3.s15 {W0 : World} {U : Ifc} (hU : IfcOK sg W0 glsT U) (Q : Int → Bool → Int → Int → Int → Heap → Prop)   : CutOK sg W0 156 (entered 33) (Post sg W0 (zf3.ret Q)) (posC zf3.code []) 15 [6] (zf3.k15 (fun a1 h => zf3.j15 U  a1 Q h)) := by
  refine cutOK_head (fun vs h hk => ?_)
  unfold zf3.k15 at hk
  split at hk
  · rename_i a1
    intro todo hm ρ a w s f hp
    exact piece (E := zf3.E U Q []) (vs := [.ptr (some a1)]) (envOK seatOK (zf3.callsOK hU) hU) (fnOK seatOK zf3.fun) trivial zf3.p15 (fuel := 3000) (by rw [← zf3.e15]; exact hk) hm s f hp
  · exact hk.elim

theorem zf3.p14 : (posC zf3.code []).filter (fun p => Nat.beq p.1 14) = [(14, atPos (posC zf3.code []) 14)] := by kernel_rfl

theorem zf3.e14 : ∀ (U : Ifc)  (a1 : Option Ptr) (a2 : Ptr) (a3 : Int) (a4 : Int) (a5 : Int) (a6 : Bool) (a7 : Int) (a8 : Bool) (Q : Int → Bool → Int → Int → Int → Heap → Prop) (h : Heap), zf3.j14 U  a1 a2 a3 a4 a5 a6 a7 a8 Q h = pts (zf3.E U Q [(15, ([6], zf3.k15 (fun a1 h => zf3.j15 U  a1 Q h)))]) 3000 true (atPos (posC zf3.code []) 14) (frAt [0, 6, 13, 14, 15, 16, 17, 19] [.ptr a1, .ptr (some a2), .int .u64 a3, .int .u64 a4, .int .i64 a5, .bool a6, .int .i64 a7, .bool a8]) h := by
  intros; kernel_rfl

theorem zf3.s14 {W0 : World} {U : Ifc} (hU : IfcOK sg W0 glsT U) (Q : Int → Bool → Int → Int → Int → Heap → Prop)   : CutOK sg W0 156 (entered 33) (Post sg W0 (zf3.ret Q)) (posC zf3.code []) 14 [0, 6, 13, 14, 15, 16, 17, 19] (zf3.k14 (fun a1 a2 a3 a4 a5 a6 a7 a8 h => zf3.j14 U  a1 a2 a3 a4 a5 a6 a7 a8 Q h)) := by
  refine cutOK_head (fun vs h hk => ?_)
  unfold zf3.k14 at hk
  split at hk
  · rename_i a1 a2 a3 a4 a5 a6 a7 a8
    intro todo hm ρ a w s f hp
    exact piece (E := zf3.E U Q [(15, ([6], zf3.k15 (fun a1 h => zf3.j15 U  a1 Q h)))]) (vs := [.ptr a1, .ptr (some a2), .int .u64 a3, .int .u64 a4, .int .i64 a5, .bool a6, .int .i64 a7, .bool a8]) (envOK seatOK (zf3.callsOK hU) hU) (fnOK seatOK zf3.fun) ⟨(zf3.s15 hU Q  ), trivial⟩ zf3.p14 (fuel := 3000) (by rw [← zf3.e14]; exact hk) hm s f hp
  · exact hk.elim

theorem zf3.p12 : (posC zf3.code []).filter (fun p => Nat.beq p.1 12) = [(12, atPos (posC zf3.code []) 12)] := by kernel_rfl

theorem zf3.e12 : ∀ (U : Ifc)  (a1 : Option Ptr) (a2 : V) (a3 : Ptr) (a4 : Ptr) (a5 : Int) (a6 : Int) (Q : Int → Bool → Int → Int → Int → Heap → Prop) (h : Heap), zf3.j12 U  a1 a2 a3 a4 a5 a6 Q h = pts (zf3.E U Q [(14, ([0, 6, 13, 14, 15, 16, 17, 19], zf3.k14 (fun a1 a2 a3 a4 a5 a6 a7 a8 h => zf3.j14 U  a1 a2 a3 a4 a5 a6 a7 a8 Q h)))]) 3000 true (atPos (posC zf3.code []) 12) (frAt [0, 1, 6, 9, 13, 14] [.ptr a1, a2, .ptr (some a3), .ptr (some a4), .int .u64 a5, .int .u64 a6]) h := by
  intros; kernel_rfl

theorem zf3.s12 {W0 : World} {U : Ifc} (hU : IfcOK sg W0 glsT U) (Q : Int → Bool → Int → Int → Int → Heap → Prop)   : CutOK sg W0 156 (entered 33) (Post sg W0 (zf3.ret Q)) (posC zf3.code []) 12 [0, 1, 6, 9, 13, 14] (zf3.k12 (fun a1 a2 a3 a4 a5 a6 h => zf3.j12 U  a1 a2 a3 a4 a5 a6 Q h)) := by
  refine cutOK_head (fun vs h hk => ?_)
  unfold zf3.k12 at hk
  split at hk
  · rename_i a1 a2 a3 a4 a5 a6
    intro todo hm ρ a w s f hp
    exact piece (E := zf3.E U Q [(14, ([0, 6, 13, 14, 15, 16, 17, 19], zf3.k14 (fun a1 a2 a3 a4 a5 a6 a7 a8 h => zf3.j14 U  a1 a2 a3 a4 a5 a6 a7 a8 Q h)))]) (vs := [.ptr a1, a2, .ptr (some a3), .ptr (some a4), .int .u64 a5, .int .u64 a6]) (envOK seatOK (zf3.callsOK hU) hU) (fnOK seatOK zf3.fun) ⟨(zf3.s14 hU Q  ), trivial⟩ zf3.p12 (fuel := 3000) (by rw [← zf3.e12]; exact hk) hm s f hp
  · exact hk.elim

theorem zf3.p6 : (posC zf3.code []).filter (fun p => Nat.beq p.1 6) = [(6, atPos (posC zf3.code []) 6)] := by kernel_rfl

theorem zf3.e6 : ∀ (U : Ifc)  (a1 : Option Ptr) (a2 : V) (a3 : Ptr) (a4 : Ptr) (a5 : Ptr) (Q : Int → Bool → Int → Int → Int → Heap → Prop) (h : Heap), zf3.j6 U  a1 a2 a3 a4 a5 Q h = pts (zf3.E U Q [(11, ([6], zf3.k11 (fun a1 h => zf3.j11 U  a1 Q h))), (12, ([0, 1, 6, 9, 13, 14], zf3.k12 (fun a1 a2 a3 a4 a5 a6 h => zf3.j12 U  a1 a2 a3 a4 a5 a6 Q h)))]) 3000 true (atPos (posC zf3.code []) 6) (frAt [0, 1, 6, 8, 9] [.ptr a1, a2, .ptr (some a3), .ptr (some a4), .ptr (some a5)]) h := by
  intros; kernel_rfl

theorem zf3.s6 {W0 : World} {U : Ifc} (hU : IfcOK sg W0 glsT U) (Q : Int → Bool → Int → Int → Int → Heap → Prop)   : CutOK sg W0 156 (entered 33) (Post sg W0 (zf3.ret Q)) (posC zf3.code []) 6 [0, 1, 6, 8, 9] (zf3.k6 (fun a1 a2 a3 a4 a5 h => zf3.j6 U  a1 a2 a3 a4 a5 Q h)) := by
  refine cutOK_head (fun vs h hk => ?_)
  unfold zf3.k6 at hk
  split at hk
  · rename_i a1 a2 a3 a4 a5
    intro todo hm ρ a w s f hp
    exact piece (E := zf3.E U Q [(11, ([6], zf3.k11 (fun a1 h => zf3.j11 U  a1 Q h))), (12, ([0, 1, 6, 9, 13, 14], zf3.k12 (fun a1 a2 a3 a4 a5 a6 h => zf3.j12 U  a1 a2 a3 a4 a5 a6 Q h)))]) (vs := [.ptr a1, a2, .ptr (some a3), .ptr (some a4), .ptr (some a5)]) (envOK seatOK (zf3.callsOK hU) hU) (fnOK seatOK zf3.fun) ⟨(zf3.s11 hU Q  ), (zf3.s12 hU Q  ), trivial⟩ zf3.p6 (fuel := 3000) (by rw [← zf3.e6]; exact hk) hm s f hp
  · exact hk.elim

theorem zf3.p4 : (posC zf3.code []).filter (fun p => Nat.beq p.1 4) = [(4, atPos (posC zf3.code []) 4)] := by kernel_rfl

theorem zf3.e4 : ∀ (U : Ifc)  (a1 : Option Ptr) (a2 : V) (a3 : Ptr) (a4 : Ptr) (a5 : Ptr) (a6 : Ptr) (Q : Int → Bool → Int → Int → Int → Heap → Prop) (h : Heap), zf3.j4 U  a1 a2 a3 a4 a5 a6 Q h = pts (zf3.E U Q [(5, ([6], zf3.k5 (fun a1 h => zf3.j5 U  a1 Q h))), (6, ([0, 1, 6, 8, 9], zf3.k6 (fun a1 a2 a3 a4 a5 h => zf3.j6 U  a1 a2 a3 a4 a5 Q h)))]) 3000 true (atPos (posC zf3.code []) 4) (frAt [0, 1, 6, 8, 9, 10] [.ptr a1, a2, .ptr (some a3), .ptr (some a4), .ptr (some a5), .ptr (some a6)]) h := by
  intros; kernel_rfl

theorem zf3.s4 {W0 : World} {U : Ifc} (hU : IfcOK sg W0 glsT U) (Q : Int → Bool → Int → Int → Int → Heap → Prop)   : CutOK sg W0 156 (entered 33) (Post sg W0 (zf3.ret Q)) (posC zf3.code []) 4 [0, 1, 6, 8, 9, 10] (zf3.k4 (fun a1 a2 a3 a4 a5 a6 h => zf3.j4 U  a1 a2 a3 a4 a5 a6 Q h)) := by
  refine cutOK_head (fun vs h hk => ?_)
  unfold zf3.k4 at hk
  split at hk
  · rename_i a1 a2 a3 a4 a5 a6
    intro todo hm ρ a w s f hp
    exact piece (E := zf3.E U Q [(5, ([6], zf3.k5 (fun a1 h => zf3.j5 U  a1 Q h))), (6, ([0, 1, 6, 8, 9], zf3.k6 (fun a1 a2 a3 a4 a5 h => zf3.j6 U  a1 a2 a3 a4 a5 Q h)))]) (vs := [.ptr a1, a2, .ptr (some a3), .ptr (some a4), .ptr (some a5), .ptr (some a6)]) (envOK seatOK (zf3.callsOK hU) hU) (fnOK seatOK zf3.fun) ⟨(zf3.s5 hU Q  ), (zf3.s6 hU Q  ), trivial⟩ zf3.p4 (fuel := 3000) (by rw [← zf3.e4]; exact hk) hm s f hp
  · exact hk.elim

theorem zf3.e : ∀ (U : Ifc) (a1 : Option Ptr) (a2 : V) (a3 : Int) (a4 : Sl) (Q : Int → Bool → Int → Int → Int → Heap → Prop) (h : Heap), zf3 U a1 a2 a3 a4 Q h = pts (zf3.E U Q [(4, ([0, 1, 6, 8, 9, 10], zf3.k4 (fun a1 a2 a3 a4 a5 a6 h => zf3.j4 U  a1 a2 a3 a4 a5 a6 Q h)))]) 3000 true [.code zf3.code] (frOf 0 [.ptr a1, a2, .agg [.int .i64 a3, .sl a4]]) h := by
  intros; kernel_rfl

theorem zf3.S {W0 : World} {U : Ifc} (hU : IfcOK sg W0 glsT U) : FnS sg W0 269 (zf3.C U) := by
  intro vs κ h wv hx w s
  unfold zf3.C at hx
  split at hx
  · rename_i a1 a2 a3 a4
    refine postImp (ret := zf3.ret (fun r1 r2 r3 r4 r5 h => κ (.tup [.agg [.int .i64 r1, .bool r2, .int .i64 r3, .int .i64 r4], .int .u8 r5]) h)) (fun v h hr => by unfold zf3.ret at hr; split at hr; exact hr; exact hr.elim) ?_
    exact calls_of_pts (E := zf3.E U (fun r1 r2 r3 r4 r5 h => κ (.tup [.agg [.int .i64 r1, .bool r2, .int .i64 r3, .int .i64 r4], .int .u8 r5]) h) [(4, ([0, 1, 6, 8, 9, 10], zf3.k4 (fun a1 a2 a3 a4 a5 a6 h => zf3.j4 U  a1 a2 a3 a4 a5 a6 (fun r1 r2 r3 r4 r5 h => κ (.tup [.agg [.int .i64 r1, .bool r2, .int .i64 r3, .int .i64 r4], .int .u8 r5]) h) h)))]) (envOK seatOK (zf3.callsOK hU) hU) seatOK.mixed zf3.fun (Nat.le_of_ble_eq_true rfl) wv (cutL_ok ⟨(zf3.s4 hU (fun r1 r2 r3 r4 r5 h => κ (.tup [.agg [.int .i64 r1, .bool r2, .int .i64 r3, .int .i64 r4], .int .u8 r5]) h)), trivial⟩) s (fuel := 3000) (by rw [← zf3.e]; exact hx)
  · exact hx.elim

end Go.Fn
