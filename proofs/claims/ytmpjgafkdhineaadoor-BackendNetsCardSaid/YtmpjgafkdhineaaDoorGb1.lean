/- The links of the shallow functions to the machine. PRINTED by lift.py. -/
import Derived.Test.YtmpjgafkdhineaaDoorGb0

set_option linter.unusedVariables false
set_option maxRecDepth 100000
namespace Go.Fn
open Go.Lift

noncomputable def zf59.code : Code := Go.Proofs.Tryd.f88.body.getD .skip

theorem zf59.fun : Fun sg.P 88 17 [.tmp 2] zf59.code := mkFun Go.Proofs.Tryd.func88 (by kernel_rfl) (by kernel_rfl) (by kernel_rfl) (by kernel_rfl)

def zf59.ret (Q : Bool → Heap → Prop) (v : V) (h : Heap) : Prop :=
  match v with
  | .bool r1 => Q r1 h
  | _ => False

def zf59.C (U : Ifc) (vs : List V) (κ : V → Heap → Prop) (h : Heap) : Prop :=
  match vs with
  | [.int .i64 a1] => zf59 U a1 (fun r1 h => κ (.bool r1) h) h
  | _ => False

noncomputable def zf59.calls (U : Ifc) : List (Nat × (List V → (V → Heap → Prop) → Heap → Prop)) := []

noncomputable def zf59.E (U : Ifc) (Q : Bool → Heap → Prop) (cuts : List (Nat × (List Nat × (List V → Heap → Prop)))) : Env := { tis := tisT, fns := fnsT, tys := tysT, gls := glsT, rts := rtsT, unk := [], nxt := [], calls := zf59.calls U, ifc := U, cuts := cuts, ret := zf59.ret Q, rets := [.tmp 2], n := 17 }

theorem zf59.callsOK {W0 : World} {U : Ifc} (hU : IfcOK sg W0 glsT U) : CallsOK sg W0 (zf59.calls U) := trivial

def zf59.k6 (I : Int → Int → Int → Int → Int → Int → Heap → Prop) (vs : List V) (h : Heap) : Prop :=
  match vs with
  | [.int .i64 a1, .agg [.int .i64 a2, .int .i64 a3, .int .i64 a4, .int .i64 a5], .int .i64 a6] => I a1 a2 a3 a4 a5 a6 h
  | _ => False

def zf59.k2 (I : Int → Int → Int → Int → Int → Int → Heap → Prop) (vs : List V) (h : Heap) : Prop :=
  match vs with
  | [.int .i64 a1, .agg [.int .i64 a2, .int .i64 a3, .int .i64 a4, .int .i64 a5], .int .i64 a6] => I a1 a2 a3 a4 a5 a6 h
  | _ => False

theorem zf59.p6 : (posC zf59.code []).filter (fun p => Nat.beq p.1 6) = [(6, atPos (posC zf59.code []) 6)] := by kernel_rfl

theorem zf59.e6 : ∀ (U : Ifc) (I2 : Int → Int → Int → Int → Int → Int → Heap → Prop) (a1 : Int) (a2 : Int) (a3 : Int) (a4 : Int) (a5 : Int) (a6 : Int) (Q : Bool → Heap → Prop) (h : Heap), zf59.j6 U I2 a1 a2 a3 a4 a5 a6 Q h = pts (zf59.E U Q [(2, ([0, 5, 6], zf59.k2 I2))]) 3000 true (atPos (posC zf59.code []) 6) (frAt [0, 5, 6] [.int .i64 a1, .agg [.int .i64 a2, .int .i64 a3, .int .i64 a4, .int .i64 a5], .int .i64 a6]) h := by
  intros; kernel_rfl

theorem zf59.s6 {W0 : World} {U : Ifc} (hU : IfcOK sg W0 glsT U) (Q : Bool → Heap → Prop) (I2 : Int → Int → Int → Int → Int → Int → Heap → Prop) (h2 : CutOK sg W0 17 (entered 88) (Post sg W0 (zf59.ret Q)) (posC zf59.code []) 2 [0, 5, 6] (zf59.k2 I2)) : CutOK sg W0 17 (entered 88) (Post sg W0 (zf59.ret Q)) (posC zf59.code []) 6 [0, 5, 6] (zf59.k6 (fun a1 a2 a3 a4 a5 a6 h => zf59.j6 U I2 a1 a2 a3 a4 a5 a6 Q h)) := by
  refine cutOK_head (fun vs h hk => ?_)
  unfold zf59.k6 at hk
  split at hk
  · rename_i a1 a2 a3 a4 a5 a6
    intro todo hm ρ a w s f hp
    exact piece (E := zf59.E U Q [(2, ([0, 5, 6], zf59.k2 I2))]) (vs := [.int .i64 a1, .agg [.int .i64 a2, .int .i64 a3, .int .i64 a4, .int .i64 a5], .int .i64 a6]) (envOK seatOK (zf59.callsOK hU) hU) (fnOK seatOK zf59.fun) ⟨h2, trivial⟩ zf59.p6 (fuel := 3000) (by rw [← zf59.e6]; exact hk) hm s f hp
  · exact hk.elim

theorem zf59.p2 : (posC zf59.code []).filter (fun p => Nat.beq p.1 2) = [(2, atPos (posC zf59.code []) 2)] := by kernel_rfl

theorem zf59.e2 : ∀ (U : Ifc)  (I2 : Int → Int → Int → Int → Int → Int → Heap → Prop) (a1 : Int) (a2 : Int) (a3 : Int) (a4 : Int) (a5 : Int) (a6 : Int) (Q : Bool → Heap → Prop) (h : Heap), zf59.b2 U  I2 a1 a2 a3 a4 a5 a6 Q h = pts (zf59.E U Q [(6, ([0, 5, 6], zf59.k6 (fun a1 a2 a3 a4 a5 a6 h => zf59.j6 U I2 a1 a2 a3 a4 a5 a6 Q h)))]) 3000 true (atPos (posC zf59.code []) 2) (frAt [0, 5, 6] [.int .i64 a1, .agg [.int .i64 a2, .int .i64 a3, .int .i64 a4, .int .i64 a5], .int .i64 a6]) h := by
  intros; kernel_rfl

theorem zf59.s2 {W0 : World} {U : Ifc} (hU : IfcOK sg W0 glsT U) (Q : Bool → Heap → Prop)   : CutOK sg W0 17 (entered 88) (Post sg W0 (zf59.ret Q)) (posC zf59.code []) 2 [0, 5, 6] (zf59.k2 (fun a1 a2 a3 a4 a5 a6 h => zf59.j2 U  a1 a2 a3 a4 a5 a6 Q h)) := by
  refine cutOK_head (fun vs h hk => ?_)
  unfold zf59.k2 at hk
  split at hk
  · rename_i a1 a2 a3 a4 a5 a6
    refine hk (fun a1 a2 a3 a4 a5 a6 h => Head sg W0 17 (entered 88) (Post sg W0 (zf59.ret Q)) (posC zf59.code []) 2 [0, 5, 6] [.int .i64 a1, .agg [.int .i64 a2, .int .i64 a3, .int .i64 a4, .int .i64 a5], .int .i64 a6] h) ?_
    intro a1 a2 a3 a4 a5 a6 h hb todo hm ρ a w s f hp
    have hself : CutOK sg W0 17 (entered 88) (Post sg W0 (zf59.ret Q)) (posC zf59.code []) 2 [0, 5, 6] (zf59.k2 (fun a1 a2 a3 a4 a5 a6 h => Head sg W0 17 (entered 88) (Post sg W0 (zf59.ret Q)) (posC zf59.code []) 2 [0, 5, 6] [.int .i64 a1, .agg [.int .i64 a2, .int .i64 a3, .int .i64 a4, .int .i64 a5], .int .i64 a6] h)) := cutOK_head (fun vs h hk => by unfold zf59.k2 at hk; split at hk; exact hk; exact hk.elim)
    exact piece (E := zf59.E U Q [(6, ([0, 5, 6], zf59.k6 (fun a1 a2 a3 a4 a5 a6 h => zf59.j6 U (fun a1 a2 a3 a4 a5 a6 h => Head sg W0 17 (entered 88) (Post sg W0 (zf59.ret Q)) (posC zf59.code []) 2 [0, 5, 6] [.int .i64 a1, .agg [.int .i64 a2, .int .i64 a3, .int .i64 a4, .int .i64 a5], .int .i64 a6] h) a1 a2 a3 a4 a5 a6 Q h)))]) (vs := [.int .i64 a1, .agg [.int .i64 a2, .int .i64 a3, .int .i64 a4, .int .i64 a5], .int .i64 a6]) (envOK seatOK (zf59.callsOK hU) hU) (fnOK seatOK zf59.fun) ⟨(zf59.s6 hU Q (fun a1 a2 a3 a4 a5 a6 h => Head sg W0 17 (entered 88) (Post sg W0 (zf59.ret Q)) (posC zf59.code []) 2 [0, 5, 6] [.int .i64 a1, .agg [.int .i64 a2, .int .i64 a3, .int .i64 a4, .int .i64 a5], .int .i64 a6] h) hself), trivial⟩ zf59.p2 (fuel := 3000) (by rw [← zf59.e2]; exact hb) hm s f hp
  · exact hk.elim

theorem zf59.e : ∀ (U : Ifc) (a1 : Int) (Q : Bool → Heap → Prop) (h : Heap), zf59 U a1 Q h = pts (zf59.E U Q [(2, ([0, 5, 6], zf59.k2 (fun a1 a2 a3 a4 a5 a6 h => zf59.j2 U  a1 a2 a3 a4 a5 a6 Q h)))]) 3000 true [.code zf59.code] (frOf 0 [.int .i64 a1]) h := by
  intros; kernel_rfl

theorem zf59.S {W0 : World} {U : Ifc} (hU : IfcOK sg W0 glsT U) : FnS sg W0 93 (zf59.C U) := by
  intro vs κ h wv hx w s
  unfold zf59.C at hx
  split at hx
  · rename_i a1
    refine postImp (ret := zf59.ret (fun r1 h => κ (.bool r1) h)) (fun v h hr => by unfold zf59.ret at hr; split at hr; exact hr; exact hr.elim) ?_
    exact calls_of_pts (E := zf59.E U (fun r1 h => κ (.bool r1) h) [(2, ([0, 5, 6], zf59.k2 (fun a1 a2 a3 a4 a5 a6 h => zf59.j2 U  a1 a2 a3 a4 a5 a6 (fun r1 h => κ (.bool r1) h) h)))]) (envOK seatOK (zf59.callsOK hU) hU) seatOK.mixed zf59.fun (Nat.le_of_ble_eq_true rfl) wv (cutL_ok ⟨(zf59.s2 hU (fun r1 h => κ (.bool r1) h)), trivial⟩) s (fuel := 3000) (by rw [← zf59.e]; exact hx)
  · exact hx.elim

noncomputable def zf58.code : Code := Go.Proofs.Tryd.f79.body.getD .skip

theorem zf58.fun : Fun sg.P 79 27 [.tmp 4] zf58.code := mkFun Go.Proofs.Tryd.func79 (by kernel_rfl) (by kernel_rfl) (by kernel_rfl) (by kernel_rfl)

def zf58.ret (Q : Sl → Heap → Prop) (v : V) (h : Heap) : Prop :=
  match v with
  | .sl r1 => Q r1 h
  | _ => False

def zf58.C (U : Ifc) (vs : List V) (κ : V → Heap → Prop) (h : Heap) : Prop :=
  match vs with
  | [.int .u64 a1, .int .i64 a2] => zf58 U a1 a2 (fun r1 h => κ (.sl r1) h) h
  | _ => False

noncomputable def zf58.calls (U : Ifc) : List (Nat × (List V → (V → Heap → Prop) → Heap → Prop)) := [(93, zf59.C U)]

noncomputable def zf58.E (U : Ifc) (Q : Sl → Heap → Prop) (cuts : List (Nat × (List Nat × (List V → Heap → Prop)))) : Env := { tis := tisT, fns := fnsT, tys := tysT, gls := glsT, rts := rtsT, unk := [], nxt := [], calls := zf58.calls U, ifc := U, cuts := cuts, ret := zf58.ret Q, rets := [.tmp 4], n := 27 }

theorem zf58.callsOK {W0 : World} {U : Ifc} (hU : IfcOK sg W0 glsT U) : CallsOK sg W0 (zf58.calls U) := ⟨(zf59.S hU), trivial⟩

def zf58.k5 (I : Int → Sl → Int → Int → Heap → Prop) (vs : List V) (h : Heap) : Prop :=
  match vs with
  | [.int .u64 a1, .sl a2, .int .i64 a3, .int .i64 a4] => I a1 a2 a3 a4 h
  | _ => False

theorem zf58.p5 : (posC zf58.code []).filter (fun p => Nat.beq p.1 5) = [(5, atPos (posC zf58.code []) 5)] := by kernel_rfl

theorem zf58.e5 : ∀ (U : Ifc)  (I5 : Int → Sl → Int → Int → Heap → Prop) (a1 : Int) (a2 : Sl) (a3 : Int) (a4 : Int) (Q : Sl → Heap → Prop) (h : Heap), zf58.b5 U  I5 a1 a2 a3 a4 Q h = pts (zf58.E U Q [(5, ([0, 5, 13, 14], zf58.k5 I5))]) 3000 true (atPos (posC zf58.code []) 5) (frAt [0, 5, 13, 14] [.int .u64 a1, .sl a2, .int .i64 a3, .int .i64 a4]) h := by
  intros; kernel_rfl

theorem zf58.s5 {W0 : World} {U : Ifc} (hU : IfcOK sg W0 glsT U) (Q : Sl → Heap → Prop)   : CutOK sg W0 27 (entered 79) (Post sg W0 (zf58.ret Q)) (posC zf58.code []) 5 [0, 5, 13, 14] (zf58.k5 (fun a1 a2 a3 a4 h => zf58.j5 U  a1 a2 a3 a4 Q h)) := by
  refine cutOK_head (fun vs h hk => ?_)
  unfold zf58.k5 at hk
  split at hk
  · rename_i a1 a2 a3 a4
    refine hk (fun a1 a2 a3 a4 h => Head sg W0 27 (entered 79) (Post sg W0 (zf58.ret Q)) (posC zf58.code []) 5 [0, 5, 13, 14] [.int .u64 a1, .sl a2, .int .i64 a3, .int .i64 a4] h) ?_
    intro a1 a2 a3 a4 h hb todo hm ρ a w s f hp
    have hself : CutOK sg W0 27 (entered 79) (Post sg W0 (zf58.ret Q)) (posC zf58.code []) 5 [0, 5, 13, 14] (zf58.k5 (fun a1 a2 a3 a4 h => Head sg W0 27 (entered 79) (Post sg W0 (zf58.ret Q)) (posC zf58.code []) 5 [0, 5, 13, 14] [.int .u64 a1, .sl a2, .int .i64 a3, .int .i64 a4] h)) := cutOK_head (fun vs h hk => by unfold zf58.k5 at hk; split at hk; exact hk; exact hk.elim)
    exact piece (E := zf58.E U Q [(5, ([0, 5, 13, 14], zf58.k5 (fun a1 a2 a3 a4 h => Head sg W0 27 (entered 79) (Post sg W0 (zf58.ret Q)) (posC zf58.code []) 5 [0, 5, 13, 14] [.int .u64 a1, .sl a2, .int .i64 a3, .int .i64 a4] h)))]) (vs := [.int .u64 a1, .sl a2, .int .i64 a3, .int .i64 a4]) (envOK seatOK (zf58.callsOK hU) hU) (fnOK seatOK zf58.fun) ⟨hself, trivial⟩ zf58.p5 (fuel := 3000) (by rw [← zf58.e5]; exact hb) hm s f hp
  · exact hk.elim

theorem zf58.e : ∀ (U : Ifc) (a1 : Int) (a2 : Int) (Q : Sl → Heap → Prop) (h : Heap), zf58 U a1 a2 Q h = pts (zf58.E U Q [(5, ([0, 5, 13, 14], zf58.k5 (fun a1 a2 a3 a4 h => zf58.j5 U  a1 a2 a3 a4 Q h)))]) 3000 true [.code zf58.code] (frOf 0 [.int .u64 a1, .int .i64 a2]) h := by
  intros; kernel_rfl

theorem zf58.S {W0 : World} {U : Ifc} (hU : IfcOK sg W0 glsT U) : FnS sg W0 96 (zf58.C U) := by
  intro vs κ h wv hx w s
  unfold zf58.C at hx
  split at hx
  · rename_i a1 a2
    refine postImp (ret := zf58.ret (fun r1 h => κ (.sl r1) h)) (fun v h hr => by unfold zf58.ret at hr; split at hr; exact hr; exact hr.elim) ?_
    exact calls_of_pts (E := zf58.E U (fun r1 h => κ (.sl r1) h) [(5, ([0, 5, 13, 14], zf58.k5 (fun a1 a2 a3 a4 h => zf58.j5 U  a1 a2 a3 a4 (fun r1 h => κ (.sl r1) h) h)))]) (envOK seatOK (zf58.callsOK hU) hU) seatOK.mixed zf58.fun (Nat.le_of_ble_eq_true rfl) wv (cutL_ok ⟨(zf58.s5 hU (fun r1 h => κ (.sl r1) h)), trivial⟩) s (fuel := 3000) (by rw [← zf58.e]; exact hx)
  · exact hx.elim

noncomputable def zf25.code : Code := Go.Proofs.Tryd.f50.body.getD .skip

theorem zf25.fun : Fun sg.P 50 26 [.tmp 8] zf25.code := mkFun Go.Proofs.Tryd.func50 (by kernel_rfl) (by kernel_rfl) (by kernel_rfl) (by kernel_rfl)

def zf25.ret (Q : Int → Heap → Prop) (v : V) (h : Heap) : Prop :=
  match v with
  | .int .i64 r1 => Q r1 h
  | _ => False

def zf25.C (U : Ifc) (vs : List V) (κ : V → Heap → Prop) (h : Heap) : Prop :=
  match vs with
  | [.ptr a1, .int .u64 a2, .int .i64 a3, .int .u64 a4] => zf25 U a1 a2 a3 a4 (fun r1 h => κ (.int .i64 r1) h) h
  | _ => False

noncomputable def zf25.calls (U : Ifc) : List (Nat × (List V → (V → Heap → Prop) → Heap → Prop)) := [(59, zf27.C), (96, zf58.C U)]

noncomputable def zf25.E (U : Ifc) (Q : Int → Heap → Prop) (cuts : List (Nat × (List Nat × (List V → Heap → Prop)))) : Env := { tis := tisT, fns := fnsT, tys := tysT, gls := glsT, rts := rtsT, unk := [], nxt := [], calls := zf25.calls U, ifc := U, cuts := cuts, ret := zf25.ret Q, rets := [.tmp 8], n := 26 }

theorem zf25.callsOK {W0 : World} {U : Ifc} (hU : IfcOK sg W0 glsT U) : CallsOK sg W0 (zf25.calls U) := ⟨zf27.S, (zf58.S hU), trivial⟩

theorem zf25.e : ∀ (U : Ifc) (a1 : Option Ptr) (a2 : Int) (a3 : Int) (a4 : Int) (Q : Int → Heap → Prop) (h : Heap), zf25 U a1 a2 a3 a4 Q h = pts (zf25.E U Q []) 3000 true [.code zf25.code] (frOf 0 [.ptr a1, .int .u64 a2, .int .i64 a3, .int .u64 a4]) h := by
  intros; kernel_rfl

theorem zf25.S {W0 : World} {U : Ifc} (hU : IfcOK sg W0 glsT U) : FnS sg W0 97 (zf25.C U) := by
  intro vs κ h wv hx w s
  unfold zf25.C at hx
  split at hx
  · rename_i a1 a2 a3 a4
    refine postImp (ret := zf25.ret (fun r1 h => κ (.int .i64 r1) h)) (fun v h hr => by unfold zf25.ret at hr; split at hr; exact hr; exact hr.elim) ?_
    exact calls_of_pts (E := zf25.E U (fun r1 h => κ (.int .i64 r1) h) []) (envOK seatOK (zf25.callsOK hU) hU) seatOK.mixed zf25.fun (Nat.le_of_ble_eq_true rfl) wv (cutL_ok trivial) s (fuel := 3000) (by rw [← zf25.e]; exact hx)
  · exact hx.elim

noncomputable def zf36.code : Code := Go.Proofs.Tryd.f21.body.getD .skip

theorem zf36.fun : Fun sg.P 21 32 [.tmp 8] zf36.code := mkFun Go.Proofs.Tryd.func21 (by kernel_rfl) (by kernel_rfl) (by kernel_rfl) (by kernel_rfl)

def zf36.ret (Q : Int → Heap → Prop) (v : V) (h : Heap) : Prop :=
  match v with
  | .int .i64 r1 => Q r1 h
  | _ => False

def zf36.C (U : Ifc) (vs : List V) (κ : V → Heap → Prop) (h : Heap) : Prop :=
  match vs with
  | [.ptr a1, .int .u64 a2, .int .i64 a3, .int .u64 a4] => zf36 U a1 a2 a3 a4 (fun r1 h => κ (.int .i64 r1) h) h
  | _ => False

noncomputable def zf36.calls (U : Ifc) : List (Nat × (List V → (V → Heap → Prop) → Heap → Prop)) := [(97, zf25.C U)]

noncomputable def zf36.E (U : Ifc) (Q : Int → Heap → Prop) (cuts : List (Nat × (List Nat × (List V → Heap → Prop)))) : Env := { tis := tisT, fns := fnsT, tys := tysT, gls := glsT, rts := rtsT, unk := [], nxt := [], calls := zf36.calls U, ifc := U, cuts := cuts, ret := zf36.ret Q, rets := [.tmp 8], n := 32 }

theorem zf36.callsOK {W0 : World} {U : Ifc} (hU : IfcOK sg W0 glsT U) : CallsOK sg W0 (zf36.calls U) := ⟨(zf25.S hU), trivial⟩

theorem zf36.e : ∀ (U : Ifc) (a1 : Option Ptr) (a2 : Int) (a3 : Int) (a4 : Int) (Q : Int → Heap → Prop) (h : Heap), zf36 U a1 a2 a3 a4 Q h = pts (zf36.E U Q []) 3000 true [.code zf36.code] (frOf 0 [.ptr a1, .int .u64 a2, .int .i64 a3, .int .u64 a4]) h := by
  intros; kernel_rfl

theorem zf36.S {W0 : World} {U : Ifc} (hU : IfcOK sg W0 glsT U) : FnS sg W0 299 (zf36.C U) := by
  intro vs κ h wv hx w s
  unfold zf36.C at hx
  split at hx
  · rename_i a1 a2 a3 a4
    refine postImp (ret := zf36.ret (fun r1 h => κ (.int .i64 r1) h)) (fun v h hr => by unfold zf36.ret at hr; split at hr; exact hr; exact hr.elim) ?_
    exact calls_of_pts (E := zf36.E U (fun r1 h => κ (.int .i64 r1) h) []) (envOK seatOK (zf36.callsOK hU) hU) seatOK.mixed zf36.fun (Nat.le_of_ble_eq_true rfl) wv (cutL_ok trivial) s (fuel := 3000) (by rw [← zf36.e]; exact hx)
  · exact hx.elim

noncomputable def zf24.code : Code := Go.Proofs.Tryd.f30.body.getD .skip

theorem zf24.fun : Fun sg.P 30 23 [.tmp 6] zf24.code := mkFun Go.Proofs.Tryd.func30 (by kernel_rfl) (by kernel_rfl) (by kernel_rfl) (by kernel_rfl)

def zf24.ret (Q : Int → Heap → Prop) (v : V) (h : Heap) : Prop :=
  match v with
  | .int .i64 r1 => Q r1 h
  | _ => False

def zf24.C (vs : List V) (κ : V → Heap → Prop) (h : Heap) : Prop :=
  match vs with
  | [.ptr a1, .int .u64 a2, .sl a3] => zf24 a1 a2 a3 (fun r1 h => κ (.int .i64 r1) h) h
  | _ => False

noncomputable def zf24.calls : List (Nat × (List V → (V → Heap → Prop) → Heap → Prop)) := [(32, zf28.C)]

noncomputable def zf24.E (Q : Int → Heap → Prop) (cuts : List (Nat × (List Nat × (List V → Heap → Prop)))) : Env := { tis := tisT, fns := fnsT, tys := tysT, gls := [], rts := rtsT, unk := [], nxt := [], calls := zf24.calls, ifc := noIfc, cuts := cuts, ret := zf24.ret Q, rets := [.tmp 6], n := 23 }

theorem zf24.callsOK {W0 : World} : CallsOK sg W0 zf24.calls := ⟨zf28.S, trivial⟩

theorem zf24.e : ∀ (a1 : Option Ptr) (a2 : Int) (a3 : Sl) (Q : Int → Heap → Prop) (h : Heap), zf24 a1 a2 a3 Q h = pts (zf24.E Q []) 3000 true [.code zf24.code] (frOf 0 [.ptr a1, .int .u64 a2, .sl a3]) h := by
  intros; kernel_rfl

theorem zf24.S {W0 : World} : FnS sg W0 33 zf24.C := by
  intro vs κ h wv hx w s
  unfold zf24.C at hx
  split at hx
  · rename_i a1 a2 a3
    refine postImp (ret := zf24.ret (fun r1 h => κ (.int .i64 r1) h)) (fun v h hr => by unfold zf24.ret at hr; split at hr; exact hr; exact hr.elim) ?_
    exact calls_of_pts (E := zf24.E (fun r1 h => κ (.int .i64 r1) h) []) (envOK seatOK zf24.callsOK noIfc_ok) seatOK.mixed zf24.fun (Nat.le_of_ble_eq_true rfl) wv (cutL_ok trivial) s (fuel := 3000) (by rw [← zf24.e]; exact hx)
  · exact hx.elim

noncomputable def zf35.code : Code := Go.Proofs.Tryd.f6.body.getD .skip

theorem zf35.fun : Fun sg.P 6 43 [.tmp 6] zf35.code := mkFun Go.Proofs.Tryd.func6 (by kernel_rfl) (by kernel_rfl) (by kernel_rfl) (by kernel_rfl)

def zf35.ret (Q : Int → Heap → Prop) (v : V) (h : Heap) : Prop :=
  match v with
  | .int .i64 r1 => Q r1 h
  | _ => False

def zf35.C (vs : List V) (κ : V → Heap → Prop) (h : Heap) : Prop :=
  match vs with
  | [.ptr a1, .int .u64 a2, .sl a3] => zf35 a1 a2 a3 (fun r1 h => κ (.int .i64 r1) h) h
  | _ => False

noncomputable def zf35.calls : List (Nat × (List V → (V → Heap → Prop) → Heap → Prop)) := [(33, zf24.C)]

noncomputable def zf35.E (Q : Int → Heap → Prop) (cuts : List (Nat × (List Nat × (List V → Heap → Prop)))) : Env := { tis := tisT, fns := fnsT, tys := tysT, gls := [], rts := rtsT, unk := [], nxt := [], calls := zf35.calls, ifc := noIfc, cuts := cuts, ret := zf35.ret Q, rets := [.tmp 6], n := 43 }

theorem zf35.callsOK {W0 : World} : CallsOK sg W0 zf35.calls := ⟨zf24.S, trivial⟩

def zf35.k2 (I : Heap → Prop) (vs : List V) (h : Heap) : Prop :=
  match vs with
  | [] => I  h
  | _ => False

theorem zf35.p2 : (posC zf35.code []).filter (fun p => Nat.beq p.1 2) = [(2, atPos (posC zf35.code []) 2)] := by kernel_rfl

theorem zf35.e2 : ∀   (Q : Int → Heap → Prop) (h : Heap), zf35.j2   Q h = pts (zf35.E Q []) 3000 true (atPos (posC zf35.code []) 2) (frAt [] []) h := by
  intros; kernel_rfl

theorem zf35.s2 {W0 : World} (Q : Int → Heap → Prop)   : CutOK sg W0 43 (entered 6) (Post sg W0 (zf35.ret Q)) (posC zf35.code []) 2 [] (zf35.k2 (fun  h => zf35.j2   Q h)) := by
  refine cutOK_head (fun vs h hk => ?_)
  unfold zf35.k2 at hk
  split at hk
  · skip
    intro todo hm ρ a w s f hp
    exact piece (E := zf35.E Q []) (vs := []) (envOK seatOK zf35.callsOK noIfc_ok) (fnOK seatOK zf35.fun) trivial zf35.p2 (fuel := 3000) (by rw [← zf35.e2]; exact hk) hm s f hp
  · exact hk.elim

theorem zf35.e : ∀ (a1 : Option Ptr) (a2 : Int) (a3 : Sl) (Q : Int → Heap → Prop) (h : Heap), zf35 a1 a2 a3 Q h = pts (zf35.E Q [(2, ([], zf35.k2 (fun  h => zf35.j2   Q h)))]) 3000 true [.code zf35.code] (frOf 0 [.ptr a1, .int .u64 a2, .sl a3]) h := by
  intros; kernel_rfl

theorem zf35.S {W0 : World} : FnS sg W0 298 zf35.C := by
  intro vs κ h wv hx w s
  unfold zf35.C at hx
  split at hx
  · rename_i a1 a2 a3
    refine postImp (ret := zf35.ret (fun r1 h => κ (.int .i64 r1) h)) (fun v h hr => by unfold zf35.ret at hr; split at hr; exact hr; exact hr.elim) ?_
    exact calls_of_pts (E := zf35.E (fun r1 h => κ (.int .i64 r1) h) [(2, ([], zf35.k2 (fun  h => zf35.j2   (fun r1 h => κ (.int .i64 r1) h) h)))]) (envOK seatOK zf35.callsOK noIfc_ok) seatOK.mixed zf35.fun (Nat.le_of_ble_eq_true rfl) wv (cutL_ok ⟨(zf35.s2 (fun r1 h => κ (.int .i64 r1) h)), trivial⟩) s (fuel := 3000) (by rw [← zf35.e]; exact hx)
  · exact hx.elim

noncomputable def zf39.code : Code := Go.Proofs.Tryd.f7.body.getD .skip

theorem zf39.fun : Fun sg.P 7 80 [] zf39.code := mkFun Go.Proofs.Tryd.func7 (by kernel_rfl) (by kernel_rfl) (by kernel_rfl) (by kernel_rfl)

def zf39.ret (Q : Heap → Prop) (v : V) (h : Heap) : Prop :=
  match v with
  | .tup [] => Q  h
  | _ => False

def zf39.C (U : Ifc) (vs : List V) (κ : V → Heap → Prop) (h : Heap) : Prop :=
  match vs with
  | [.ptr a1, .int .i64 a2, .sl a3] => zf39 U a1 a2 a3 (fun  h => κ (.tup []) h) h
  | _ => False

noncomputable def zf39.calls (U : Ifc) : List (Nat × (List V → (V → Heap → Prop) → Heap → Prop)) := [(299, zf36.C U)]

noncomputable def zf39.E (U : Ifc) (Q : Heap → Prop) (cuts : List (Nat × (List Nat × (List V → Heap → Prop)))) : Env := { tis := tisT, fns := fnsT, tys := tysT, gls := glsT, rts := rtsT, unk := [], nxt := [], calls := zf39.calls U, ifc := U, cuts := cuts, ret := zf39.ret Q, rets := [], n := 80 }

theorem zf39.callsOK {W0 : World} {U : Ifc} (hU : IfcOK sg W0 glsT U) : CallsOK sg W0 (zf39.calls U) := ⟨(zf36.S hU), trivial⟩

def zf39.k2 (I : (Option Ptr) → Int → Sl → Int → Heap → Prop) (vs : List V) (h : Heap) : Prop :=
  match vs with
  | [.ptr a1, .int .i64 a2, .sl a3, .int .i64 a4] => I a1 a2 a3 a4 h
  | _ => False

def zf39.k12 (I : (Option Ptr) → Int → Sl → Int → Int → Heap → Prop) (vs : List V) (h : Heap) : Prop :=
  match vs with
  | [.ptr a1, .int .i64 a2, .sl a3, .int .i64 a4, .int .u64 a5] => I a1 a2 a3 a4 a5 h
  | _ => False

def zf39.k8 (I : (Option Ptr) → Int → Sl → Int → Int → Heap → Prop) (vs : List V) (h : Heap) : Prop :=
  match vs with
  | [.ptr a1, .int .i64 a2, .sl a3, .int .i64 a4, .int .u64 a5] => I a1 a2 a3 a4 a5 h
  | _ => False

def zf39.k6 (I : (Option Ptr) → Int → Sl → Int → Int → Heap → Prop) (vs : List V) (h : Heap) : Prop :=
  match vs with
  | [.ptr a1, .int .i64 a2, .sl a3, .int .i64 a4, .int .u64 a5] => I a1 a2 a3 a4 a5 h
  | _ => False

def zf39.k1 (I : (Option Ptr) → Int → Sl → Int → Heap → Prop) (vs : List V) (h : Heap) : Prop :=
  match vs with
  | [.ptr a1, .int .i64 a2, .sl a3, .int .i64 a4] => I a1 a2 a3 a4 h
  | _ => False

theorem zf39.p2 : (posC zf39.code []).filter (fun p => Nat.beq p.1 2) = [(2, atPos (posC zf39.code []) 2)] := by kernel_rfl

theorem zf39.e2 : ∀ (U : Ifc) (I1 : (Option Ptr) → Int → Sl → Int → Heap → Prop) (a1 : Option Ptr) (a2 : Int) (a3 : Sl) (a4 : Int) (Q : Heap → Prop) (h : Heap), zf39.j2 U I1 a1 a2 a3 a4 Q h = pts (zf39.E U Q [(1, ([0, 1, 2, 6], zf39.k1 I1))]) 3000 true (atPos (posC zf39.code []) 2) (frAt [0, 1, 2, 6] [.ptr a1, .int .i64 a2, .sl a3, .int .i64 a4]) h := by
  intros; kernel_rfl

theorem zf39.s2 {W0 : World} {U : Ifc} (hU : IfcOK sg W0 glsT U) (Q : Heap → Prop) (I1 : (Option Ptr) → Int → Sl → Int → Heap → Prop) (h1 : CutOK sg W0 80 (entered 7) (Post sg W0 (zf39.ret Q)) (posC zf39.code []) 1 [0, 1, 2, 6] (zf39.k1 I1)) : CutOK sg W0 80 (entered 7) (Post sg W0 (zf39.ret Q)) (posC zf39.code []) 2 [0, 1, 2, 6] (zf39.k2 (fun a1 a2 a3 a4 h => zf39.j2 U I1 a1 a2 a3 a4 Q h)) := by
  refine cutOK_head (fun vs h hk => ?_)
  unfold zf39.k2 at hk
  split at hk
  · rename_i a1 a2 a3 a4
    intro todo hm ρ a w s f hp
    exact piece (E := zf39.E U Q [(1, ([0, 1, 2, 6], zf39.k1 I1))]) (vs := [.ptr a1, .int .i64 a2, .sl a3, .int .i64 a4]) (envOK seatOK (zf39.callsOK hU) hU) (fnOK seatOK zf39.fun) ⟨h1, trivial⟩ zf39.p2 (fuel := 3000) (by rw [← zf39.e2]; exact hk) hm s f hp
  · exact hk.elim

theorem zf39.p12 : (posC zf39.code []).filter (fun p => Nat.beq p.1 12) = [(12, atPos (posC zf39.code []) 12)] := by kernel_rfl

theorem zf39.e12 : ∀ (U : Ifc) (I1 : (Option Ptr) → Int → Sl → Int → Heap → Prop) (a1 : Option Ptr) (a2 : Int) (a3 : Sl) (a4 : Int) (a5 : Int) (Q : Heap → Prop) (h : Heap), zf39.j12 U I1 a1 a2 a3 a4 a5 Q h = pts (zf39.E U Q [(2, ([0, 1, 2, 6], zf39.k2 (fun a1 a2 a3 a4 h => zf39.j2 U I1 a1 a2 a3 a4 Q h)))]) 3000 true (atPos (posC zf39.code []) 12) (frAt [0, 1, 2, 6, 8] [.ptr a1, .int .i64 a2, .sl a3, .int .i64 a4, .int .u64 a5]) h := by
  intros; kernel_rfl

theorem zf39.s12 {W0 : World} {U : Ifc} (hU : IfcOK sg W0 glsT U) (Q : Heap → Prop) (I1 : (Option Ptr) → Int → Sl → Int → Heap → Prop) (h1 : CutOK sg W0 80 (entered 7) (Post sg W0 (zf39.ret Q)) (posC zf39.code []) 1 [0, 1, 2, 6] (zf39.k1 I1)) : CutOK sg W0 80 (entered 7) (Post sg W0 (zf39.ret Q)) (posC zf39.code []) 12 [0, 1, 2, 6, 8] (zf39.k12 (fun a1 a2 a3 a4 a5 h => zf39.j12 U I1 a1 a2 a3 a4 a5 Q h)) := by
  refine cutOK_head (fun vs h hk => ?_)
  unfold zf39.k12 at hk
  split at hk
  · rename_i a1 a2 a3 a4 a5
    intro todo hm ρ a w s f hp
    exact piece (E := zf39.E U Q [(2, ([0, 1, 2, 6], zf39.k2 (fun a1 a2 a3 a4 h => zf39.j2 U I1 a1 a2 a3 a4 Q h)))]) (vs := [.ptr a1, .int .i64 a2, .sl a3, .int .i64 a4, .int .u64 a5]) (envOK seatOK (zf39.callsOK hU) hU) (fnOK seatOK zf39.fun) ⟨(zf39.s2 hU Q I1 h1), trivial⟩ zf39.p12 (fuel := 3000) (by rw [← zf39.e12]; exact hk) hm s f hp
  · exact hk.elim

theorem zf39.p8 : (posC zf39.code []).filter (fun p => Nat.beq p.1 8) = [(8, atPos (posC zf39.code []) 8)] := by kernel_rfl

theorem zf39.e8 : ∀ (U : Ifc) (I1 : (Option Ptr) → Int → Sl → Int → Heap → Prop) (a1 : Option Ptr) (a2 : Int) (a3 : Sl) (a4 : Int) (a5 : Int) (Q : Heap → Prop) (h : Heap), zf39.j8 U I1 a1 a2 a3 a4 a5 Q h = pts (zf39.E U Q [(12, ([0, 1, 2, 6, 8], zf39.k12 (fun a1 a2 a3 a4 a5 h => zf39.j12 U I1 a1 a2 a3 a4 a5 Q h)))]) 3000 true (atPos (posC zf39.code []) 8) (frAt [0, 1, 2, 6, 7] [.ptr a1, .int .i64 a2, .sl a3, .int .i64 a4, .int .u64 a5]) h := by
  intros; kernel_rfl

theorem zf39.s8 {W0 : World} {U : Ifc} (hU : IfcOK sg W0 glsT U) (Q : Heap → Prop) (I1 : (Option Ptr) → Int → Sl → Int → Heap → Prop) (h1 : CutOK sg W0 80 (entered 7) (Post sg W0 (zf39.ret Q)) (posC zf39.code []) 1 [0, 1, 2, 6] (zf39.k1 I1)) : CutOK sg W0 80 (entered 7) (Post sg W0 (zf39.ret Q)) (posC zf39.code []) 8 [0, 1, 2, 6, 7] (zf39.k8 (fun a1 a2 a3 a4 a5 h => zf39.j8 U I1 a1 a2 a3 a4 a5 Q h)) := by
  refine cutOK_head (fun vs h hk => ?_)
  unfold zf39.k8 at hk
  split at hk
  · rename_i a1 a2 a3 a4 a5
    intro todo hm ρ a w s f hp
    exact piece (E := zf39.E U Q [(12, ([0, 1, 2, 6, 8], zf39.k12 (fun a1 a2 a3 a4 a5 h => zf39.j12 U I1 a1 a2 a3 a4 a5 Q h)))]) (vs := [.ptr a1, .int .i64 a2, .sl a3, .int .i64 a4, .int .u64 a5]) (envOK seatOK (zf39.callsOK hU) hU) (fnOK seatOK zf39.fun) ⟨(zf39.s12 hU Q I1 h1), trivial⟩ zf39.p8 (fuel := 3000) (by rw [← zf39.e8]; exact hk) hm s f hp
  · exact hk.elim

theorem zf39.p6 : (posC zf39.code []).filter (fun p => Nat.beq p.1 6) = [(6, atPos (posC zf39.code []) 6)] := by kernel_rfl

theorem zf39.e6 : ∀ (U : Ifc) (I1 : (Option Ptr) → Int → Sl → Int → Heap → Prop) (a1 : Option Ptr) (a2 : Int) (a3 : Sl) (a4 : Int) (a5 : Int) (Q : Heap → Prop) (h : Heap), zf39.j6 U I1 a1 a2 a3 a4 a5 Q h = pts (zf39.E U Q [(8, ([0, 1, 2, 6, 7], zf39.k8 (fun a1 a2 a3 a4 a5 h => zf39.j8 U I1 a1 a2 a3 a4 a5 Q h)))]) 3000 true (atPos (posC zf39.code []) 6) (frAt [0, 1, 2, 6, 7] [.ptr a1, .int .i64 a2, .sl a3, .int .i64 a4, .int .u64 a5]) h := by
  intros; kernel_rfl

theorem zf39.s6 {W0 : World} {U : Ifc} (hU : IfcOK sg W0 glsT U) (Q : Heap → Prop) (I1 : (Option Ptr) → Int → Sl → Int → Heap → Prop) (h1 : CutOK sg W0 80 (entered 7) (Post sg W0 (zf39.ret Q)) (posC zf39.code []) 1 [0, 1, 2, 6] (zf39.k1 I1)) : CutOK sg W0 80 (entered 7) (Post sg W0 (zf39.ret Q)) (posC zf39.code []) 6 [0, 1, 2, 6, 7] (zf39.k6 (fun a1 a2 a3 a4 a5 h => zf39.j6 U I1 a1 a2 a3 a4 a5 Q h)) := by
  refine cutOK_head (fun vs h hk => ?_)
  unfold zf39.k6 at hk
  split at hk
  · rename_i a1 a2 a3 a4 a5
    intro todo hm ρ a w s f hp
    exact piece (E := zf39.E U Q [(8, ([0, 1, 2, 6, 7], zf39.k8 (fun a1 a2 a3 a4 a5 h => zf39.j8 U I1 a1 a2 a3 a4 a5 Q h)))]) (vs := [.ptr a1, .int .i64 a2, .sl a3, .int .i64 a4, .int .u64 a5]) (envOK seatOK (zf39.callsOK hU) hU) (fnOK seatOK zf39.fun) ⟨(zf39.s8 hU Q I1 h1), trivial⟩ zf39.p6 (fuel := 3000) (by rw [← zf39.e6]; exact hk) hm s f hp
  · exact hk.elim

theorem zf39.p1 : (posC zf39.code []).filter (fun p => Nat.beq p.1 1) = [(1, atPos (posC zf39.code []) 1)] := by kernel_rfl

theorem zf39.e1 : ∀ (U : Ifc)  (I1 : (Option Ptr) → Int → Sl → Int → Heap → Prop) (a1 : Option Ptr) (a2 : Int) (a3 : Sl) (a4 : Int) (Q : Heap → Prop) (h : Heap), zf39.b1 U  I1 a1 a2 a3 a4 Q h = pts (zf39.E U Q [(6, ([0, 1, 2, 6, 7], zf39.k6 (fun a1 a2 a3 a4 a5 h => zf39.j6 U I1 a1 a2 a3 a4 a5 Q h)))]) 3000 true (atPos (posC zf39.code []) 1) (frAt [0, 1, 2, 6] [.ptr a1, .int .i64 a2, .sl a3, .int .i64 a4]) h := by
  intros; kernel_rfl

theorem zf39.s1 {W0 : World} {U : Ifc} (hU : IfcOK sg W0 glsT U) (Q : Heap → Prop)   : CutOK sg W0 80 (entered 7) (Post sg W0 (zf39.ret Q)) (posC zf39.code []) 1 [0, 1, 2, 6] (zf39.k1 (fun a1 a2 a3 a4 h => zf39.j1 U  a1 a2 a3 a4 Q h)) := by
  refine cutOK_head (fun vs h hk => ?_)
  unfold zf39.k1 at hk
  split at hk
  · rename_i a1 a2 a3 a4
    refine hk (fun a1 a2 a3 a4 h => Head sg W0 80 (entered 7) (Post sg W0 (zf39.ret Q)) (posC zf39.code []) 1 [0, 1, 2, 6] [.ptr a1, .int .i64 a2, .sl a3, .int .i64 a4] h) ?_
    intro a1 a2 a3 a4 h hb todo hm ρ a w s f hp
    have hself : CutOK sg W0 80 (entered 7) (Post sg W0 (zf39.ret Q)) (posC zf39.code []) 1 [0, 1, 2, 6] (zf39.k1 (fun a1 a2 a3 a4 h => Head sg W0 80 (entered 7) (Post sg W0 (zf39.ret Q)) (posC zf39.code []) 1 [0, 1, 2, 6] [.ptr a1, .int .i64 a2, .sl a3, .int .i64 a4] h)) := cutOK_head (fun vs h hk => by unfold zf39.k1 at hk; split at hk; exact hk; exact hk.elim)
    exact piece (E := zf39.E U Q [(6, ([0, 1, 2, 6, 7], zf39.k6 (fun a1 a2 a3 a4 a5 h => zf39.j6 U (fun a1 a2 a3 a4 h => Head sg W0 80 (entered 7) (Post sg W0 (zf39.ret Q)) (posC zf39.code []) 1 [0, 1, 2, 6] [.ptr a1, .int .i64 a2, .sl a3, .int .i64 a4] h) a1 a2 a3 a4 a5 Q h)))]) (vs := [.ptr a1, .int .i64 a2, .sl a3, .int .i64 a4]) (envOK seatOK (zf39.callsOK hU) hU) (fnOK seatOK zf39.fun) ⟨(zf39.s6 hU Q (fun a1 a2 a3 a4 h => Head sg W0 80 (entered 7) (Post sg W0 (zf39.ret Q)) (posC zf39.code []) 1 [0, 1, 2, 6] [.ptr a1, .int .i64 a2, .sl a3, .int .i64 a4] h) hself), trivial⟩ zf39.p1 (fuel := 3000) (by rw [← zf39.e1]; exact hb) hm s f hp
  · exact hk.elim

theorem zf39.e : ∀ (U : Ifc) (a1 : Option Ptr) (a2 : Int) (a3 : Sl) (Q : Heap → Prop) (h : Heap), zf39 U a1 a2 a3 Q h = pts (zf39.E U Q [(1, ([0, 1, 2, 6], zf39.k1 (fun a1 a2 a3 a4 h => zf39.j1 U  a1 a2 a3 a4 Q h)))]) 3000 true [.code zf39.code] (frOf 0 [.ptr a1, .int .i64 a2, .sl a3]) h := by
  intros; kernel_rfl

theorem zf39.S {W0 : World} {U : Ifc} (hU : IfcOK sg W0 glsT U) : FnS sg W0 301 (zf39.C U) := by
  intro vs κ h wv hx w s
  unfold zf39.C at hx
  split at hx
  · rename_i a1 a2 a3
    refine postImp (ret := zf39.ret (fun  h => κ (.tup []) h)) (fun v h hr => by unfold zf39.ret at hr; split at hr; exact hr; exact hr.elim) ?_
    exact calls_of_pts (E := zf39.E U (fun  h => κ (.tup []) h) [(1, ([0, 1, 2, 6], zf39.k1 (fun a1 a2 a3 a4 h => zf39.j1 U  a1 a2 a3 a4 (fun  h => κ (.tup []) h) h)))]) (envOK seatOK (zf39.callsOK hU) hU) seatOK.mixed zf39.fun (Nat.le_of_ble_eq_true rfl) wv (cutL_ok ⟨(zf39.s1 hU (fun  h => κ (.tup []) h)), trivial⟩) s (fuel := 3000) (by rw [← zf39.e]; exact hx)
  · exact hx.elim

noncomputable def zf3.code : Code := Go.Proofs.Tryd.f51.body.getD .skip

theorem zf3.fun : Fun sg.P 51 18 [.tmp 4] zf3.code := mkFun Go.Proofs.Tryd.func51 (by kernel_rfl) (by kernel_rfl) (by kernel_rfl) (by kernel_rfl)

def zf3.ret (Q : Bool → Heap → Prop) (v : V) (h : Heap) : Prop :=
  match v with
  | .bool r1 => Q r1 h
  | _ => False

def zf3.C (vs : List V) (κ : V → Heap → Prop) (h : Heap) : Prop :=
  match vs with
  | [.ptr a1, a2] => zf3 a1 a2 (fun r1 h => κ (.bool r1) h) h
  | _ => False

noncomputable def zf3.calls : List (Nat × (List V → (V → Heap → Prop) → Heap → Prop)) := []

noncomputable def zf3.E (Q : Bool → Heap → Prop) (cuts : List (Nat × (List Nat × (List V → Heap → Prop)))) : Env := { tis := tisT, fns := fnsT, tys := tysT, gls := [], rts := rtsT, unk := [], nxt := [], calls := zf3.calls, ifc := noIfc, cuts := cuts, ret := zf3.ret Q, rets := [.tmp 4], n := 18 }

theorem zf3.callsOK {W0 : World} : CallsOK sg W0 zf3.calls := trivial

theorem zf3.e : ∀ (a1 : Option Ptr) (a2 : V) (Q : Bool → Heap → Prop) (h : Heap), zf3 a1 a2 Q h = pts (zf3.E Q []) 3000 true [.code zf3.code] (frOf 0 [.ptr a1, a2]) h := by
  intros; kernel_rfl

theorem zf3.S {W0 : World} : FnS sg W0 279 zf3.C := by
  intro vs κ h wv hx w s
  unfold zf3.C at hx
  split at hx
  · rename_i a1 a2
    refine postImp (ret := zf3.ret (fun r1 h => κ (.bool r1) h)) (fun v h hr => by unfold zf3.ret at hr; split at hr; exact hr; exact hr.elim) ?_
    exact calls_of_pts (E := zf3.E (fun r1 h => κ (.bool r1) h) []) (envOK seatOK zf3.callsOK noIfc_ok) seatOK.mixed zf3.fun (Nat.le_of_ble_eq_true rfl) wv (cutL_ok trivial) s (fuel := 3000) (by rw [← zf3.e]; exact hx)
  · exact hx.elim

noncomputable def zf44.code : Code := Go.Proofs.Tryd.f64.body.getD .skip

theorem zf44.fun : Fun sg.P 64 24 [.tmp 4] zf44.code := mkFun Go.Proofs.Tryd.func64 (by kernel_rfl) (by kernel_rfl) (by kernel_rfl) (by kernel_rfl)

def zf44.ret (Q : Int → Heap → Prop) (v : V) (h : Heap) : Prop :=
  match v with
  | .int .i64 r1 => Q r1 h
  | _ => False

def zf44.C (vs : List V) (κ : V → Heap → Prop) (h : Heap) : Prop :=
  match vs with
  | [.ptr a1, a2] => zf44 a1 a2 (fun r1 h => κ (.int .i64 r1) h) h
  | _ => False

noncomputable def zf44.calls : List (Nat × (List V → (V → Heap → Prop) → Heap → Prop)) := []

noncomputable def zf44.E (Q : Int → Heap → Prop) (cuts : List (Nat × (List Nat × (List V → Heap → Prop)))) : Env := { tis := tisT, fns := fnsT, tys := tysT, gls := [], rts := rtsT, unk := [], nxt := [], calls := zf44.calls, ifc := noIfc, cuts := cuts, ret := zf44.ret Q, rets := [.tmp 4], n := 24 }

theorem zf44.callsOK {W0 : World} : CallsOK sg W0 zf44.calls := trivial

theorem zf44.e : ∀ (a1 : Option Ptr) (a2 : V) (Q : Int → Heap → Prop) (h : Heap), zf44 a1 a2 Q h = pts (zf44.E Q []) 3000 true [.code zf44.code] (frOf 0 [.ptr a1, a2]) h := by
  intros; kernel_rfl

theorem zf44.S {W0 : World} : FnS sg W0 30 zf44.C := by
  intro vs κ h wv hx w s
  unfold zf44.C at hx
  split at hx
  · rename_i a1 a2
    refine postImp (ret := zf44.ret (fun r1 h => κ (.int .i64 r1) h)) (fun v h hr => by unfold zf44.ret at hr; split at hr; exact hr; exact hr.elim) ?_
    exact calls_of_pts (E := zf44.E (fun r1 h => κ (.int .i64 r1) h) []) (envOK seatOK zf44.callsOK noIfc_ok) seatOK.mixed zf44.fun (Nat.le_of_ble_eq_true rfl) wv (cutL_ok trivial) s (fuel := 3000) (by rw [← zf44.e]; exact hx)
  · exact hx.elim

noncomputable def zf45.code : Code := Go.Proofs.Tryd.f65.body.getD .skip

theorem zf45.fun : Fun sg.P 65 28 [.tmp 4] zf45.code := mkFun Go.Proofs.Tryd.func65 (by kernel_rfl) (by kernel_rfl) (by kernel_rfl) (by kernel_rfl)

def zf45.ret (Q : Int → Heap → Prop) (v : V) (h : Heap) : Prop :=
  match v with
  | .int .u64 r1 => Q r1 h
  | _ => False

def zf45.C (U : Ifc) (vs : List V) (κ : V → Heap → Prop) (h : Heap) : Prop :=
  match vs with
  | [.ptr a1, .int .u64 a2] => zf45 U a1 a2 (fun r1 h => κ (.int .u64 r1) h) h
  | _ => False

noncomputable def zf45.calls (U : Ifc) : List (Nat × (List V → (V → Heap → Prop) → Heap → Prop)) := []

noncomputable def zf45.E (U : Ifc) (Q : Int → Heap → Prop) (cuts : List (Nat × (List Nat × (List V → Heap → Prop)))) : Env := { tis := tisT, fns := fnsT, tys := tysT, gls := glsT, rts := rtsT, unk := [], nxt := [], calls := zf45.calls U, ifc := U, cuts := cuts, ret := zf45.ret Q, rets := [.tmp 4], n := 28 }

theorem zf45.callsOK {W0 : World} {U : Ifc} (hU : IfcOK sg W0 glsT U) : CallsOK sg W0 (zf45.calls U) := trivial

theorem zf45.e : ∀ (U : Ifc) (a1 : Option Ptr) (a2 : Int) (Q : Int → Heap → Prop) (h : Heap), zf45 U a1 a2 Q h = pts (zf45.E U Q []) 3000 true [.code zf45.code] (frOf 0 [.ptr a1, .int .u64 a2]) h := by
  intros; kernel_rfl

theorem zf45.S {W0 : World} {U : Ifc} (hU : IfcOK sg W0 glsT U) : FnS sg W0 74 (zf45.C U) := by
  intro vs κ h wv hx w s
  unfold zf45.C at hx
  split at hx
  · rename_i a1 a2
    refine postImp (ret := zf45.ret (fun r1 h => κ (.int .u64 r1) h)) (fun v h hr => by unfold zf45.ret at hr; split at hr; exact hr; exact hr.elim) ?_
    exact calls_of_pts (E := zf45.E U (fun r1 h => κ (.int .u64 r1) h) []) (envOK seatOK (zf45.callsOK hU) hU) seatOK.mixed zf45.fun (Nat.le_of_ble_eq_true rfl) wv (cutL_ok trivial) s (fuel := 3000) (by rw [← zf45.e]; exact hx)
  · exact hx.elim

noncomputable def zf46.code : Code := Go.Proofs.Tryd.f84.body.getD .skip

theorem zf46.fun : Fun sg.P 84 68 [.cell 4 80, .tmp 5, .tmp 6] zf46.code := mkFun Go.Proofs.Tryd.func84 (by kernel_rfl) (by kernel_rfl) (by kernel_rfl) (by kernel_rfl)

def zf46.ret (Q : Int → Int → Bool → Int → Bool → Heap → Prop) (v : V) (h : Heap) : Prop :=
  match v with
  | .tup [.agg [.int .u64 r1, .int .i64 r2, .bool r3], .int .u64 r4, .bool r5] => Q r1 r2 r3 r4 r5 h
  | _ => False

def zf46.C (U : Ifc) (vs : List V) (κ : V → Heap → Prop) (h : Heap) : Prop :=
  match vs with
  | [.ptr a1, .int .u64 a2] => zf46 U a1 a2 (fun r1 r2 r3 r4 r5 h => κ (.tup [.agg [.int .u64 r1, .int .i64 r2, .bool r3], .int .u64 r4, .bool r5]) h) h
  | _ => False

noncomputable def zf46.calls (U : Ifc) : List (Nat × (List V → (V → Heap → Prop) → Heap → Prop)) := [(74, zf45.C U)]

noncomputable def zf46.E (U : Ifc) (Q : Int → Int → Bool → Int → Bool → Heap → Prop) (cuts : List (Nat × (List Nat × (List V → Heap → Prop)))) : Env := { tis := tisT, fns := fnsT, tys := tysT, gls := glsT, rts := rtsT, unk := [], nxt := [], calls := zf46.calls U, ifc := U, cuts := cuts, ret := zf46.ret Q, rets := [.cell 4 80, .tmp 5, .tmp 6], n := 68 }

theorem zf46.callsOK {W0 : World} {U : Ifc} (hU : IfcOK sg W0 glsT U) : CallsOK sg W0 (zf46.calls U) := ⟨(zf45.S hU), trivial⟩

def zf46.k7 (I : (Option Ptr) → Int → Ptr → Ptr → Int → Heap → Prop) (vs : List V) (h : Heap) : Prop :=
  match vs with
  | [.ptr a1, .int .u64 a2, .ptr (some a3), .ptr (some a4), .int .i64 a5] => I a1 a2 a3 a4 a5 h
  | _ => False

def zf46.k9 (I : (Option Ptr) → Ptr → Heap → Prop) (vs : List V) (h : Heap) : Prop :=
  match vs with
  | [.ptr a1, .ptr (some a2)] => I a1 a2 h
  | _ => False

def zf46.k3 (I : (Option Ptr) → Int → Ptr → Ptr → Int → Heap → Prop) (vs : List V) (h : Heap) : Prop :=
  match vs with
  | [.ptr a1, .int .u64 a2, .ptr (some a3), .ptr (some a4), .int .i64 a5] => I a1 a2 a3 a4 a5 h
  | _ => False

theorem zf46.p7 : (posC zf46.code []).filter (fun p => Nat.beq p.1 7) = [(7, atPos (posC zf46.code []) 7)] := by kernel_rfl

theorem zf46.e7 : ∀ (U : Ifc) (I3 : (Option Ptr) → Int → Ptr → Ptr → Int → Heap → Prop) (a1 : Option Ptr) (a2 : Int) (a3 : Ptr) (a4 : Ptr) (a5 : Int) (Q : Int → Int → Bool → Int → Bool → Heap → Prop) (h : Heap), zf46.j7 U I3 a1 a2 a3 a4 a5 Q h = pts (zf46.E U Q [(3, ([0, 1, 4, 7, 9], zf46.k3 I3))]) 3000 true (atPos (posC zf46.code []) 7) (frAt [0, 1, 4, 7, 9] [.ptr a1, .int .u64 a2, .ptr (some a3), .ptr (some a4), .int .i64 a5]) h := by
  intros; kernel_rfl

theorem zf46.s7 {W0 : World} {U : Ifc} (hU : IfcOK sg W0 glsT U) (Q : Int → Int → Bool → Int → Bool → Heap → Prop) (I3 : (Option Ptr) → Int → Ptr → Ptr → Int → Heap → Prop) (h3 : CutOK sg W0 68 (entered 84) (Post sg W0 (zf46.ret Q)) (posC zf46.code []) 3 [0, 1, 4, 7, 9] (zf46.k3 I3)) : CutOK sg W0 68 (entered 84) (Post sg W0 (zf46.ret Q)) (posC zf46.code []) 7 [0, 1, 4, 7, 9] (zf46.k7 (fun a1 a2 a3 a4 a5 h => zf46.j7 U I3 a1 a2 a3 a4 a5 Q h)) := by
  refine cutOK_head (fun vs h hk => ?_)
  unfold zf46.k7 at hk
  split at hk
  · rename_i a1 a2 a3 a4 a5
    intro todo hm ρ a w s f hp
    exact piece (E := zf46.E U Q [(3, ([0, 1, 4, 7, 9], zf46.k3 I3))]) (vs := [.ptr a1, .int .u64 a2, .ptr (some a3), .ptr (some a4), .int .i64 a5]) (envOK seatOK (zf46.callsOK hU) hU) (fnOK seatOK zf46.fun) ⟨h3, trivial⟩ zf46.p7 (fuel := 3000) (by rw [← zf46.e7]; exact hk) hm s f hp
  · exact hk.elim

theorem zf46.p9 : (posC zf46.code []).filter (fun p => Nat.beq p.1 9) = [(9, atPos (posC zf46.code []) 9)] := by kernel_rfl

theorem zf46.e9 : ∀ (U : Ifc)  (a1 : Option Ptr) (a2 : Ptr) (Q : Int → Int → Bool → Int → Bool → Heap → Prop) (h : Heap), zf46.j9 U  a1 a2 Q h = pts (zf46.E U Q []) 3000 true (atPos (posC zf46.code []) 9) (frAt [0, 4] [.ptr a1, .ptr (some a2)]) h := by
  intros; kernel_rfl

theorem zf46.s9 {W0 : World} {U : Ifc} (hU : IfcOK sg W0 glsT U) (Q : Int → Int → Bool → Int → Bool → Heap → Prop)   : CutOK sg W0 68 (entered 84) (Post sg W0 (zf46.ret Q)) (posC zf46.code []) 9 [0, 4] (zf46.k9 (fun a1 a2 h => zf46.j9 U  a1 a2 Q h)) := by
  refine cutOK_head (fun vs h hk => ?_)
  unfold zf46.k9 at hk
  split at hk
  · rename_i a1 a2
    intro todo hm ρ a w s f hp
    exact piece (E := zf46.E U Q []) (vs := [.ptr a1, .ptr (some a2)]) (envOK seatOK (zf46.callsOK hU) hU) (fnOK seatOK zf46.fun) trivial zf46.p9 (fuel := 3000) (by rw [← zf46.e9]; exact hk) hm s f hp
  · exact hk.elim

theorem zf46.p3 : (posC zf46.code []).filter (fun p => Nat.beq p.1 3) = [(3, atPos (posC zf46.code []) 3)] := by kernel_rfl

theorem zf46.e3 : ∀ (U : Ifc)  (I3 : (Option Ptr) → Int → Ptr → Ptr → Int → Heap → Prop) (a1 : Option Ptr) (a2 : Int) (a3 : Ptr) (a4 : Ptr) (a5 : Int) (Q : Int → Int → Bool → Int → Bool → Heap → Prop) (h : Heap), zf46.b3 U  I3 a1 a2 a3 a4 a5 Q h = pts (zf46.E U Q [(7, ([0, 1, 4, 7, 9], zf46.k7 (fun a1 a2 a3 a4 a5 h => zf46.j7 U I3 a1 a2 a3 a4 a5 Q h))), (9, ([0, 4], zf46.k9 (fun a1 a2 h => zf46.j9 U  a1 a2 Q h)))]) 3000 true (atPos (posC zf46.code []) 3) (frAt [0, 1, 4, 7, 9] [.ptr a1, .int .u64 a2, .ptr (some a3), .ptr (some a4), .int .i64 a5]) h := by
  intros; kernel_rfl

theorem zf46.s3 {W0 : World} {U : Ifc} (hU : IfcOK sg W0 glsT U) (Q : Int → Int → Bool → Int → Bool → Heap → Prop)   : CutOK sg W0 68 (entered 84) (Post sg W0 (zf46.ret Q)) (posC zf46.code []) 3 [0, 1, 4, 7, 9] (zf46.k3 (fun a1 a2 a3 a4 a5 h => zf46.j3 U  a1 a2 a3 a4 a5 Q h)) := by
  refine cutOK_head (fun vs h hk => ?_)
  unfold zf46.k3 at hk
  split at hk
  · rename_i a1 a2 a3 a4 a5
    refine hk (fun a1 a2 a3 a4 a5 h => Head sg W0 68 (entered 84) (Post sg W0 (zf46.ret Q)) (posC zf46.code []) 3 [0, 1, 4, 7, 9] [.ptr a1, .int .u64 a2, .ptr (some a3), .ptr (some a4), .int .i64 a5] h) ?_
    intro a1 a2 a3 a4 a5 h hb todo hm ρ a w s f hp
    have hself : CutOK sg W0 68 (entered 84) (Post sg W0 (zf46.ret Q)) (posC zf46.code []) 3 [0, 1, 4, 7, 9] (zf46.k3 (fun a1 a2 a3 a4 a5 h => Head sg W0 68 (entered 84) (Post sg W0 (zf46.ret Q)) (posC zf46.code []) 3 [0, 1, 4, 7, 9] [.ptr a1, .int .u64 a2, .ptr (some a3), .ptr (some a4), .int .i64 a5] h)) := cutOK_head (fun vs h hk => by unfold zf46.k3 at hk; split at hk; exact hk; exact hk.elim)
    exact piece (E := zf46.E U Q [(7, ([0, 1, 4, 7, 9], zf46.k7 (fun a1 a2 a3 a4 a5 h => zf46.j7 U (fun a1 a2 a3 a4 a5 h => Head sg W0 68 (entered 84) (Post sg W0 (zf46.ret Q)) (posC zf46.code []) 3 [0, 1, 4, 7, 9] [.ptr a1, .int .u64 a2, .ptr (some a3), .ptr (some a4), .int .i64 a5] h) a1 a2 a3 a4 a5 Q h))), (9, ([0, 4], zf46.k9 (fun a1 a2 h => zf46.j9 U  a1 a2 Q h)))]) (vs := [.ptr a1, .int .u64 a2, .ptr (some a3), .ptr (some a4), .int .i64 a5]) (envOK seatOK (zf46.callsOK hU) hU) (fnOK seatOK zf46.fun) ⟨(zf46.s7 hU Q (fun a1 a2 a3 a4 a5 h => Head sg W0 68 (entered 84) (Post sg W0 (zf46.ret Q)) (posC zf46.code []) 3 [0, 1, 4, 7, 9] [.ptr a1, .int .u64 a2, .ptr (some a3), .ptr (some a4), .int .i64 a5] h) hself), (zf46.s9 hU Q  ), trivial⟩ zf46.p3 (fuel := 3000) (by rw [← zf46.e3]; exact hb) hm s f hp
  · exact hk.elim

theorem zf46.e : ∀ (U : Ifc) (a1 : Option Ptr) (a2 : Int) (Q : Int → Int → Bool → Int → Bool → Heap → Prop) (h : Heap), zf46 U a1 a2 Q h = pts (zf46.E U Q [(3, ([0, 1, 4, 7, 9], zf46.k3 (fun a1 a2 a3 a4 a5 h => zf46.j3 U  a1 a2 a3 a4 a5 Q h)))]) 3000 true [.code zf46.code] (frOf 0 [.ptr a1, .int .u64 a2]) h := by
  intros; kernel_rfl

theorem zf46.S {W0 : World} {U : Ifc} (hU : IfcOK sg W0 glsT U) : FnS sg W0 75 (zf46.C U) := by
  intro vs κ h wv hx w s
  unfold zf46.C at hx
  split at hx
  · rename_i a1 a2
    refine postImp (ret := zf46.ret (fun r1 r2 r3 r4 r5 h => κ (.tup [.agg [.int .u64 r1, .int .i64 r2, .bool r3], .int .u64 r4, .bool r5]) h)) (fun v h hr => by unfold zf46.ret at hr; split at hr; exact hr; exact hr.elim) ?_
    exact calls_of_pts (E := zf46.E U (fun r1 r2 r3 r4 r5 h => κ (.tup [.agg [.int .u64 r1, .int .i64 r2, .bool r3], .int .u64 r4, .bool r5]) h) [(3, ([0, 1, 4, 7, 9], zf46.k3 (fun a1 a2 a3 a4 a5 h => zf46.j3 U  a1 a2 a3 a4 a5 (fun r1 r2 r3 r4 r5 h => κ (.tup [.agg [.int .u64 r1, .int .i64 r2, .bool r3], .int .u64 r4, .bool r5]) h) h)))]) (envOK seatOK (zf46.callsOK hU) hU) seatOK.mixed zf46.fun (Nat.le_of_ble_eq_true rfl) wv (cutL_ok ⟨(zf46.s3 hU (fun r1 r2 r3 r4 r5 h => κ (.tup [.agg [.int .u64 r1, .int .i64 r2, .bool r3], .int .u64 r4, .bool r5]) h)), trivial⟩) s (fuel := 3000) (by rw [← zf46.e]; exact hx)
  · exact hx.elim

noncomputable def zf43.code : Code := Go.Proofs.Tryd.f66.body.getD .skip

theorem zf43.fun : Fun sg.P 66 82 [.cell 6 99, .tmp 7] zf43.code := mkFun Go.Proofs.Tryd.func66 (by kernel_rfl) (by kernel_rfl) (by kernel_rfl) (by kernel_rfl)

def zf43.ret (Q : Int → Sl → Bool → Heap → Prop) (v : V) (h : Heap) : Prop :=
  match v with
  | .tup [.agg [.int .i64 r1, .sl r2], .bool r3] => Q r1 r2 r3 h
  | _ => False

def zf43.C (U : Ifc) (vs : List V) (κ : V → Heap → Prop) (h : Heap) : Prop :=
  match vs with
  | [.ptr a1, .ptr a2, .int .u64 a3] => zf43 U a1 a2 a3 (fun r1 r2 r3 h => κ (.tup [.agg [.int .i64 r1, .sl r2], .bool r3]) h) h
  | _ => False

noncomputable def zf43.calls (U : Ifc) : List (Nat × (List V → (V → Heap → Prop) → Heap → Prop)) := [(75, zf46.C U)]

noncomputable def zf43.E (U : Ifc) (Q : Int → Sl → Bool → Heap → Prop) (cuts : List (Nat × (List Nat × (List V → Heap → Prop)))) : Env := { tis := tisT, fns := fnsT, tys := tysT, gls := glsT, rts := rtsT, unk := [], nxt := [], calls := zf43.calls U, ifc := U, cuts := cuts, ret := zf43.ret Q, rets := [.cell 6 99, .tmp 7], n := 82 }

theorem zf43.callsOK {W0 : World} {U : Ifc} (hU : IfcOK sg W0 glsT U) : CallsOK sg W0 (zf43.calls U) := ⟨(zf46.S hU), trivial⟩

def zf43.k9 (I : Ptr → Heap → Prop) (vs : List V) (h : Heap) : Prop :=
  match vs with
  | [.ptr (some a1)] => I a1 h
  | _ => False

def zf43.k10 (I : (Option Ptr) → (Option Ptr) → Int → Ptr → Ptr → Int → Bool → Int → Int → Heap → Prop) (vs : List V) (h : Heap) : Prop :=
  match vs with
  | [.ptr a1, .ptr a2, .int .u64 a3, .ptr (some a4), .ptr (some a5), .int .u64 a6, .bool a7, .int .u64 a8, .int .u64 a9] => I a1 a2 a3 a4 a5 a6 a7 a8 a9 h
  | _ => False

def zf43.k8 (I : (Option Ptr) → (Option Ptr) → Int → Ptr → Ptr → Int → Bool → Int → Int → Int → Heap → Prop) (vs : List V) (h : Heap) : Prop :=
  match vs with
  | [.ptr a1, .ptr a2, .int .u64 a3, .ptr (some a4), .ptr (some a5), .int .u64 a6, .bool a7, .int .i64 a8, .int .u64 a9, .int .u64 a10] => I a1 a2 a3 a4 a5 a6 a7 a8 a9 a10 h
  | _ => False

def zf43.k3 (I : (Option Ptr) → (Option Ptr) → Int → Ptr → Bool → Int → Int → Int → Heap → Prop) (vs : List V) (h : Heap) : Prop :=
  match vs with
  | [.ptr a1, .ptr a2, .int .u64 a3, .ptr (some a4), .bool a5, .int .u64 a6, .int .u64 a7, .int .u64 a8] => I a1 a2 a3 a4 a5 a6 a7 a8 h
  | _ => False

theorem zf43.p9 : (posC zf43.code []).filter (fun p => Nat.beq p.1 9) = [(9, atPos (posC zf43.code []) 9)] := by kernel_rfl

theorem zf43.e9 : ∀ (U : Ifc) (I3 : (Option Ptr) → (Option Ptr) → Int → Ptr → Bool → Int → Int → Int → Heap → Prop) (a1 : Ptr) (Q : Int → Sl → Bool → Heap → Prop) (h : Heap), zf43.j9 U I3 a1 Q h = pts (zf43.E U Q []) 3000 true (atPos (posC zf43.code []) 9) (frAt [6] [.ptr (some a1)]) h := by
  intros; kernel_rfl

theorem zf43.s9 {W0 : World} {U : Ifc} (hU : IfcOK sg W0 glsT U) (Q : Int → Sl → Bool → Heap → Prop) (I3 : (Option Ptr) → (Option Ptr) → Int → Ptr → Bool → Int → Int → Int → Heap → Prop) (h3 : CutOK sg W0 82 (entered 66) (Post sg W0 (zf43.ret Q)) (posC zf43.code []) 3 [0, 1, 2, 6, 7, 8, 17, 18] (zf43.k3 I3)) : CutOK sg W0 82 (entered 66) (Post sg W0 (zf43.ret Q)) (posC zf43.code []) 9 [6] (zf43.k9 (fun a1 h => zf43.j9 U I3 a1 Q h)) := by
  refine cutOK_head (fun vs h hk => ?_)
  unfold zf43.k9 at hk
  split at hk
  · rename_i a1
    intro todo hm ρ a w s f hp
    exact piece (E := zf43.E U Q []) (vs := [.ptr (some a1)]) (envOK seatOK (zf43.callsOK hU) hU) (fnOK seatOK zf43.fun) trivial zf43.p9 (fuel := 3000) (by rw [← zf43.e9]; exact hk) hm s f hp
  · exact hk.elim

theorem zf43.p10 : (posC zf43.code []).filter (fun p => Nat.beq p.1 10) = [(10, atPos (posC zf43.code []) 10)] := by kernel_rfl

theorem zf43.e10 : ∀ (U : Ifc) (I3 : (Option Ptr) → (Option Ptr) → Int → Ptr → Bool → Int → Int → Int → Heap → Prop) (a1 : Option Ptr) (a2 : Option Ptr) (a3 : Int) (a4 : Ptr) (a5 : Ptr) (a6 : Int) (a7 : Bool) (a8 : Int) (a9 : Int) (Q : Int → Sl → Bool → Heap → Prop) (h : Heap), zf43.j10 U I3 a1 a2 a3 a4 a5 a6 a7 a8 a9 Q h = pts (zf43.E U Q [(3, ([0, 1, 2, 6, 7, 8, 17, 18], zf43.k3 I3))]) 3000 true (atPos (posC zf43.code []) 10) (frAt [0, 1, 2, 6, 9, 10, 11, 17, 18] [.ptr a1, .ptr a2, .int .u64 a3, .ptr (some a4), .ptr (some a5), .int .u64 a6, .bool a7, .int .u64 a8, .int .u64 a9]) h := by
  intros; kernel_rfl

theorem zf43.s10 {W0 : World} {U : Ifc} (hU : IfcOK sg W0 glsT U) (Q : Int → Sl → Bool → Heap → Prop) (I3 : (Option Ptr) → (Option Ptr) → Int → Ptr → Bool → Int → Int → Int → Heap → Prop) (h3 : CutOK sg W0 82 (entered 66) (Post sg W0 (zf43.ret Q)) (posC zf43.code []) 3 [0, 1, 2, 6, 7, 8, 17, 18] (zf43.k3 I3)) : CutOK sg W0 82 (entered 66) (Post sg W0 (zf43.ret Q)) (posC zf43.code []) 10 [0, 1, 2, 6, 9, 10, 11, 17, 18] (zf43.k10 (fun a1 a2 a3 a4 a5 a6 a7 a8 a9 h => zf43.j10 U I3 a1 a2 a3 a4 a5 a6 a7 a8 a9 Q h)) := by
  refine cutOK_head (fun vs h hk => ?_)
  unfold zf43.k10 at hk
  split at hk
  · rename_i a1 a2 a3 a4 a5 a6 a7 a8 a9
    intro todo hm ρ a w s f hp
    exact piece (E := zf43.E U Q [(3, ([0, 1, 2, 6, 7, 8, 17, 18], zf43.k3 I3))]) (vs := [.ptr a1, .ptr a2, .int .u64 a3, .ptr (some a4), .ptr (some a5), .int .u64 a6, .bool a7, .int .u64 a8, .int .u64 a9]) (envOK seatOK (zf43.callsOK hU) hU) (fnOK seatOK zf43.fun) ⟨h3, trivial⟩ zf43.p10 (fuel := 3000) (by rw [← zf43.e10]; exact hk) hm s f hp
  · exact hk.elim

theorem zf43.p8 : (posC zf43.code []).filter (fun p => Nat.beq p.1 8) = [(8, atPos (posC zf43.code []) 8)] := by kernel_rfl

theorem zf43.e8 : ∀ (U : Ifc) (I3 : (Option Ptr) → (Option Ptr) → Int → Ptr → Bool → Int → Int → Int → Heap → Prop) (a1 : Option Ptr) (a2 : Option Ptr) (a3 : Int) (a4 : Ptr) (a5 : Ptr) (a6 : Int) (a7 : Bool) (a8 : Int) (a9 : Int) (a10 : Int) (Q : Int → Sl → Bool → Heap → Prop) (h : Heap), zf43.j8 U I3 a1 a2 a3 a4 a5 a6 a7 a8 a9 a10 Q h = pts (zf43.E U Q [(9, ([6], zf43.k9 (fun a1 h => zf43.j9 U I3 a1 Q h))), (10, ([0, 1, 2, 6, 9, 10, 11, 17, 18], zf43.k10 (fun a1 a2 a3 a4 a5 a6 a7 a8 a9 h => zf43.j10 U I3 a1 a2 a3 a4 a5 a6 a7 a8 a9 Q h)))]) 3000 true (atPos (posC zf43.code []) 8) (frAt [0, 1, 2, 6, 9, 10, 11, 12, 17, 18] [.ptr a1, .ptr a2, .int .u64 a3, .ptr (some a4), .ptr (some a5), .int .u64 a6, .bool a7, .int .i64 a8, .int .u64 a9, .int .u64 a10]) h := by
  intros; kernel_rfl

theorem zf43.s8 {W0 : World} {U : Ifc} (hU : IfcOK sg W0 glsT U) (Q : Int → Sl → Bool → Heap → Prop) (I3 : (Option Ptr) → (Option Ptr) → Int → Ptr → Bool → Int → Int → Int → Heap → Prop) (h3 : CutOK sg W0 82 (entered 66) (Post sg W0 (zf43.ret Q)) (posC zf43.code []) 3 [0, 1, 2, 6, 7, 8, 17, 18] (zf43.k3 I3)) : CutOK sg W0 82 (entered 66) (Post sg W0 (zf43.ret Q)) (posC zf43.code []) 8 [0, 1, 2, 6, 9, 10, 11, 12, 17, 18] (zf43.k8 (fun a1 a2 a3 a4 a5 a6 a7 a8 a9 a10 h => zf43.j8 U I3 a1 a2 a3 a4 a5 a6 a7 a8 a9 a10 Q h)) := by
  refine cutOK_head (fun vs h hk => ?_)
  unfold zf43.k8 at hk
  split at hk
  · rename_i a1 a2 a3 a4 a5 a6 a7 a8 a9 a10
    intro todo hm ρ a w s f hp
    exact piece (E := zf43.E U Q [(9, ([6], zf43.k9 (fun a1 h => zf43.j9 U I3 a1 Q h))), (10, ([0, 1, 2, 6, 9, 10, 11, 17, 18], zf43.k10 (fun a1 a2 a3 a4 a5 a6 a7 a8 a9 h => zf43.j10 U I3 a1 a2 a3 a4 a5 a6 a7 a8 a9 Q h)))]) (vs := [.ptr a1, .ptr a2, .int .u64 a3, .ptr (some a4), .ptr (some a5), .int .u64 a6, .bool a7, .int .i64 a8, .int .u64 a9, .int .u64 a10]) (envOK seatOK (zf43.callsOK hU) hU) (fnOK seatOK zf43.fun) ⟨(zf43.s9 hU Q I3 h3), (zf43.s10 hU Q I3 h3), trivial⟩ zf43.p8 (fuel := 3000) (by rw [← zf43.e8]; exact hk) hm s f hp
  · exact hk.elim

theorem zf43.p3 : (posC zf43.code []).filter (fun p => Nat.beq p.1 3) = [(3, atPos (posC zf43.code []) 3)] := by kernel_rfl

theorem zf43.e3 : ∀ (U : Ifc)  (I3 : (Option Ptr) → (Option Ptr) → Int → Ptr → Bool → Int → Int → Int → Heap → Prop) (a1 : Option Ptr) (a2 : Option Ptr) (a3 : Int) (a4 : Ptr) (a5 : Bool) (a6 : Int) (a7 : Int) (a8 : Int) (Q : Int → Sl → Bool → Heap → Prop) (h : Heap), zf43.b3 U  I3 a1 a2 a3 a4 a5 a6 a7 a8 Q h = pts (zf43.E U Q [(8, ([0, 1, 2, 6, 9, 10, 11, 12, 17, 18], zf43.k8 (fun a1 a2 a3 a4 a5 a6 a7 a8 a9 a10 h => zf43.j8 U I3 a1 a2 a3 a4 a5 a6 a7 a8 a9 a10 Q h)))]) 3000 true (atPos (posC zf43.code []) 3) (frAt [0, 1, 2, 6, 7, 8, 17, 18] [.ptr a1, .ptr a2, .int .u64 a3, .ptr (some a4), .bool a5, .int .u64 a6, .int .u64 a7, .int .u64 a8]) h := by
  intros; kernel_rfl

theorem zf43.s3 {W0 : World} {U : Ifc} (hU : IfcOK sg W0 glsT U) (Q : Int → Sl → Bool → Heap → Prop)   : CutOK sg W0 82 (entered 66) (Post sg W0 (zf43.ret Q)) (posC zf43.code []) 3 [0, 1, 2, 6, 7, 8, 17, 18] (zf43.k3 (fun a1 a2 a3 a4 a5 a6 a7 a8 h => zf43.j3 U  a1 a2 a3 a4 a5 a6 a7 a8 Q h)) := by
  refine cutOK_head (fun vs h hk => ?_)
  unfold zf43.k3 at hk
  split at hk
  · rename_i a1 a2 a3 a4 a5 a6 a7 a8
    refine hk (fun a1 a2 a3 a4 a5 a6 a7 a8 h => Head sg W0 82 (entered 66) (Post sg W0 (zf43.ret Q)) (posC zf43.code []) 3 [0, 1, 2, 6, 7, 8, 17, 18] [.ptr a1, .ptr a2, .int .u64 a3, .ptr (some a4), .bool a5, .int .u64 a6, .int .u64 a7, .int .u64 a8] h) ?_
    intro a1 a2 a3 a4 a5 a6 a7 a8 h hb todo hm ρ a w s f hp
    have hself : CutOK sg W0 82 (entered 66) (Post sg W0 (zf43.ret Q)) (posC zf43.code []) 3 [0, 1, 2, 6, 7, 8, 17, 18] (zf43.k3 (fun a1 a2 a3 a4 a5 a6 a7 a8 h => Head sg W0 82 (entered 66) (Post sg W0 (zf43.ret Q)) (posC zf43.code []) 3 [0, 1, 2, 6, 7, 8, 17, 18] [.ptr a1, .ptr a2, .int .u64 a3, .ptr (some a4), .bool a5, .int .u64 a6, .int .u64 a7, .int .u64 a8] h)) := cutOK_head (fun vs h hk => by unfold zf43.k3 at hk; split at hk; exact hk; exact hk.elim)
    exact piece (E := zf43.E U Q [(8, ([0, 1, 2, 6, 9, 10, 11, 12, 17, 18], zf43.k8 (fun a1 a2 a3 a4 a5 a6 a7 a8 a9 a10 h => zf43.j8 U (fun a1 a2 a3 a4 a5 a6 a7 a8 h => Head sg W0 82 (entered 66) (Post sg W0 (zf43.ret Q)) (posC zf43.code []) 3 [0, 1, 2, 6, 7, 8, 17, 18] [.ptr a1, .ptr a2, .int .u64 a3, .ptr (some a4), .bool a5, .int .u64 a6, .int .u64 a7, .int .u64 a8] h) a1 a2 a3 a4 a5 a6 a7 a8 a9 a10 Q h)))]) (vs := [.ptr a1, .ptr a2, .int .u64 a3, .ptr (some a4), .bool a5, .int .u64 a6, .int .u64 a7, .int .u64 a8]) (envOK seatOK (zf43.callsOK hU) hU) (fnOK seatOK zf43.fun) ⟨(zf43.s8 hU Q (fun a1 a2 a3 a4 a5 a6 a7 a8 h => Head sg W0 82 (entered 66) (Post sg W0 (zf43.ret Q)) (posC zf43.code []) 3 [0, 1, 2, 6, 7, 8, 17, 18] [.ptr a1, .ptr a2, .int .u64 a3, .ptr (some a4), .bool a5, .int .u64 a6, .int .u64 a7, .int .u64 a8] h) hself), trivial⟩ zf43.p3 (fuel := 3000) (by rw [← zf43.e3]; exact hb) hm s f hp
  · exact hk.elim

theorem zf43.e : ∀ (U : Ifc) (a1 : Option Ptr) (a2 : Option Ptr) (a3 : Int) (Q : Int → Sl → Bool → Heap → Prop) (h : Heap), zf43 U a1 a2 a3 Q h = pts (zf43.E U Q [(3, ([0, 1, 2, 6, 7, 8, 17, 18], zf43.k3 (fun a1 a2 a3 a4 a5 a6 a7 a8 h => zf43.j3 U  a1 a2 a3 a4 a5 a6 a7 a8 Q h)))]) 3000 true [.code zf43.code] (frOf 0 [.ptr a1, .ptr a2, .int .u64 a3]) h := by
  intros; kernel_rfl

theorem zf43.S {W0 : World} {U : Ifc} (hU : IfcOK sg W0 glsT U) : FnS sg W0 76 (zf43.C U) := by
  intro vs κ h wv hx w s
  unfold zf43.C at hx
  split at hx
  · rename_i a1 a2 a3
    refine postImp (ret := zf43.ret (fun r1 r2 r3 h => κ (.tup [.agg [.int .i64 r1, .sl r2], .bool r3]) h)) (fun v h hr => by unfold zf43.ret at hr; split at hr; exact hr; exact hr.elim) ?_
    exact calls_of_pts (E := zf43.E U (fun r1 r2 r3 h => κ (.tup [.agg [.int .i64 r1, .sl r2], .bool r3]) h) [(3, ([0, 1, 2, 6, 7, 8, 17, 18], zf43.k3 (fun a1 a2 a3 a4 a5 a6 a7 a8 h => zf43.j3 U  a1 a2 a3 a4 a5 a6 a7 a8 (fun r1 r2 r3 h => κ (.tup [.agg [.int .i64 r1, .sl r2], .bool r3]) h) h)))]) (envOK seatOK (zf43.callsOK hU) hU) seatOK.mixed zf43.fun (Nat.le_of_ble_eq_true rfl) wv (cutL_ok ⟨(zf43.s3 hU (fun r1 r2 r3 h => κ (.tup [.agg [.int .i64 r1, .sl r2], .bool r3]) h)), trivial⟩) s (fuel := 3000) (by rw [← zf43.e]; exact hx)
  · exact hx.elim

noncomputable def zf41.code : Code := Go.Proofs.Tryd.f32.body.getD .skip

theorem zf41.fun : Fun sg.P 32 109 [.cell 4 99, .tmp 5, .tmp 6] zf41.code := mkFun Go.Proofs.Tryd.func32 (by kernel_rfl) (by kernel_rfl) (by kernel_rfl) (by kernel_rfl)

def zf41.ret (Q : Int → Sl → Bool → Int → Heap → Prop) (v : V) (h : Heap) : Prop :=
  match v with
  | .tup [.agg [.int .i64 r1, .sl r2], .bool r3, .int .i64 r4] => Q r1 r2 r3 r4 h
  | _ => False

def zf41.C (U : Ifc) (vs : List V) (κ : V → Heap → Prop) (h : Heap) : Prop :=
  match vs with
  | [.ptr a1, a2] => zf41 U a1 a2 (fun r1 r2 r3 r4 h => κ (.tup [.agg [.int .i64 r1, .sl r2], .bool r3, .int .i64 r4]) h) h
  | _ => False

noncomputable def zf41.calls (U : Ifc) : List (Nat × (List V → (V → Heap → Prop) → Heap → Prop)) := [(30, zf44.C), (74, zf45.C U), (76, zf43.C U)]

noncomputable def zf41.E (U : Ifc) (Q : Int → Sl → Bool → Int → Heap → Prop) (cuts : List (Nat × (List Nat × (List V → Heap → Prop)))) : Env := { tis := tisT, fns := fnsT, tys := tysT, gls := glsT, rts := rtsT, unk := [], nxt := [], calls := zf41.calls U, ifc := U, cuts := cuts, ret := zf41.ret Q, rets := [.cell 4 99, .tmp 5, .tmp 6], n := 109 }

theorem zf41.callsOK {W0 : World} {U : Ifc} (hU : IfcOK sg W0 glsT U) : CallsOK sg W0 (zf41.calls U) := ⟨zf44.S, (zf45.S hU), (zf43.S hU), trivial⟩

def zf41.k11 (I : (Option Ptr) → Ptr → Ptr → Int → Heap → Prop) (vs : List V) (h : Heap) : Prop :=
  match vs with
  | [.ptr a1, .ptr (some a2), .ptr (some a3), .int .u64 a4] => I a1 a2 a3 a4 h
  | _ => False

def zf41.k9 (I : (Option Ptr) → Ptr → Ptr → Int → Int → Heap → Prop) (vs : List V) (h : Heap) : Prop :=
  match vs with
  | [.ptr a1, .ptr (some a2), .ptr (some a3), .int .u64 a4, .int .u64 a5] => I a1 a2 a3 a4 a5 h
  | _ => False

def zf41.k7 (I : (Option Ptr) → Ptr → Ptr → Int → Int → Heap → Prop) (vs : List V) (h : Heap) : Prop :=
  match vs with
  | [.ptr a1, .ptr (some a2), .ptr (some a3), .int .u64 a4, .int .u64 a5] => I a1 a2 a3 a4 a5 h
  | _ => False

theorem zf41.p11 : (posC zf41.code []).filter (fun p => Nat.beq p.1 11) = [(11, atPos (posC zf41.code []) 11)] := by kernel_rfl

theorem zf41.e11 : ∀ (U : Ifc)  (a1 : Option Ptr) (a2 : Ptr) (a3 : Ptr) (a4 : Int) (Q : Int → Sl → Bool → Int → Heap → Prop) (h : Heap), zf41.j11 U  a1 a2 a3 a4 Q h = pts (zf41.E U Q []) 3000 true (atPos (posC zf41.code []) 11) (frAt [0, 4, 8, 11] [.ptr a1, .ptr (some a2), .ptr (some a3), .int .u64 a4]) h := by
  intros; kernel_rfl

theorem zf41.s11 {W0 : World} {U : Ifc} (hU : IfcOK sg W0 glsT U) (Q : Int → Sl → Bool → Int → Heap → Prop)   : CutOK sg W0 109 (entered 32) (Post sg W0 (zf41.ret Q)) (posC zf41.code []) 11 [0, 4, 8, 11] (zf41.k11 (fun a1 a2 a3 a4 h => zf41.j11 U  a1 a2 a3 a4 Q h)) := by
  refine cutOK_head (fun vs h hk => ?_)
  unfold zf41.k11 at hk
  split at hk
  · rename_i a1 a2 a3 a4
    intro todo hm ρ a w s f hp
    exact piece (E := zf41.E U Q []) (vs := [.ptr a1, .ptr (some a2), .ptr (some a3), .int .u64 a4]) (envOK seatOK (zf41.callsOK hU) hU) (fnOK seatOK zf41.fun) trivial zf41.p11 (fuel := 3000) (by rw [← zf41.e11]; exact hk) hm s f hp
  · exact hk.elim

theorem zf41.p9 : (posC zf41.code []).filter (fun p => Nat.beq p.1 9) = [(9, atPos (posC zf41.code []) 9)] := by kernel_rfl

theorem zf41.e9 : ∀ (U : Ifc)  (a1 : Option Ptr) (a2 : Ptr) (a3 : Ptr) (a4 : Int) (a5 : Int) (Q : Int → Sl → Bool → Int → Heap → Prop) (h : Heap), zf41.j9 U  a1 a2 a3 a4 a5 Q h = pts (zf41.E U Q [(11, ([0, 4, 8, 11], zf41.k11 (fun a1 a2 a3 a4 h => zf41.j11 U  a1 a2 a3 a4 Q h)))]) 3000 true (atPos (posC zf41.code []) 9) (frAt [0, 4, 8, 9, 10] [.ptr a1, .ptr (some a2), .ptr (some a3), .int .u64 a4, .int .u64 a5]) h := by
  intros; kernel_rfl

theorem zf41.s9 {W0 : World} {U : Ifc} (hU : IfcOK sg W0 glsT U) (Q : Int → Sl → Bool → Int → Heap → Prop)   : CutOK sg W0 109 (entered 32) (Post sg W0 (zf41.ret Q)) (posC zf41.code []) 9 [0, 4, 8, 9, 10] (zf41.k9 (fun a1 a2 a3 a4 a5 h => zf41.j9 U  a1 a2 a3 a4 a5 Q h)) := by
  refine cutOK_head (fun vs h hk => ?_)
  unfold zf41.k9 at hk
  split at hk
  · rename_i a1 a2 a3 a4 a5
    intro todo hm ρ a w s f hp
    exact piece (E := zf41.E U Q [(11, ([0, 4, 8, 11], zf41.k11 (fun a1 a2 a3 a4 h => zf41.j11 U  a1 a2 a3 a4 Q h)))]) (vs := [.ptr a1, .ptr (some a2), .ptr (some a3), .int .u64 a4, .int .u64 a5]) (envOK seatOK (zf41.callsOK hU) hU) (fnOK seatOK zf41.fun) ⟨(zf41.s11 hU Q  ), trivial⟩ zf41.p9 (fuel := 3000) (by rw [← zf41.e9]; exact hk) hm s f hp
  · exact hk.elim

theorem zf41.p7 : (posC zf41.code []).filter (fun p => Nat.beq p.1 7) = [(7, atPos (posC zf41.code []) 7)] := by kernel_rfl

theorem zf41.e7 : ∀ (U : Ifc)  (a1 : Option Ptr) (a2 : Ptr) (a3 : Ptr) (a4 : Int) (a5 : Int) (Q : Int → Sl → Bool → Int → Heap → Prop) (h : Heap), zf41.j7 U  a1 a2 a3 a4 a5 Q h = pts (zf41.E U Q [(9, ([0, 4, 8, 9, 10], zf41.k9 (fun a1 a2 a3 a4 a5 h => zf41.j9 U  a1 a2 a3 a4 a5 Q h)))]) 3000 true (atPos (posC zf41.code []) 7) (frAt [0, 4, 8, 9, 10] [.ptr a1, .ptr (some a2), .ptr (some a3), .int .u64 a4, .int .u64 a5]) h := by
  intros; kernel_rfl

theorem zf41.s7 {W0 : World} {U : Ifc} (hU : IfcOK sg W0 glsT U) (Q : Int → Sl → Bool → Int → Heap → Prop)   : CutOK sg W0 109 (entered 32) (Post sg W0 (zf41.ret Q)) (posC zf41.code []) 7 [0, 4, 8, 9, 10] (zf41.k7 (fun a1 a2 a3 a4 a5 h => zf41.j7 U  a1 a2 a3 a4 a5 Q h)) := by
  refine cutOK_head (fun vs h hk => ?_)
  unfold zf41.k7 at hk
  split at hk
  · rename_i a1 a2 a3 a4 a5
    intro todo hm ρ a w s f hp
    exact piece (E := zf41.E U Q [(9, ([0, 4, 8, 9, 10], zf41.k9 (fun a1 a2 a3 a4 a5 h => zf41.j9 U  a1 a2 a3 a4 a5 Q h)))]) (vs := [.ptr a1, .ptr (some a2), .ptr (some a3), .int .u64 a4, .int .u64 a5]) (envOK seatOK (zf41.callsOK hU) hU) (fnOK seatOK zf41.fun) ⟨(zf41.s9 hU Q  ), trivial⟩ zf41.p7 (fuel := 3000) (by rw [← zf41.e7]; exact hk) hm s f hp
  · exact hk.elim

theorem zf41.e : ∀ (U : Ifc) (a1 : Option Ptr) (a2 : V) (Q : Int → Sl → Bool → Int → Heap → Prop) (h : Heap), zf41 U a1 a2 Q h = pts (zf41.E U Q [(7, ([0, 4, 8, 9, 10], zf41.k7 (fun a1 a2 a3 a4 a5 h => zf41.j7 U  a1 a2 a3 a4 a5 Q h)))]) 3000 true [.code zf41.code] (frOf 0 [.ptr a1, a2]) h := by
  intros; kernel_rfl

theorem zf41.S {W0 : World} {U : Ifc} (hU : IfcOK sg W0 glsT U) : FnS sg W0 77 (zf41.C U) := by
  intro vs κ h wv hx w s
  unfold zf41.C at hx
  split at hx
  · rename_i a1 a2
    refine postImp (ret := zf41.ret (fun r1 r2 r3 r4 h => κ (.tup [.agg [.int .i64 r1, .sl r2], .bool r3, .int .i64 r4]) h)) (fun v h hr => by unfold zf41.ret at hr; split at hr; exact hr; exact hr.elim) ?_
    exact calls_of_pts (E := zf41.E U (fun r1 r2 r3 r4 h => κ (.tup [.agg [.int .i64 r1, .sl r2], .bool r3, .int .i64 r4]) h) [(7, ([0, 4, 8, 9, 10], zf41.k7 (fun a1 a2 a3 a4 a5 h => zf41.j7 U  a1 a2 a3 a4 a5 (fun r1 r2 r3 r4 h => κ (.tup [.agg [.int .i64 r1, .sl r2], .bool r3, .int .i64 r4]) h) h)))]) (envOK seatOK (zf41.callsOK hU) hU) seatOK.mixed zf41.fun (Nat.le_of_ble_eq_true rfl) wv (cutL_ok ⟨(zf41.s7 hU (fun r1 r2 r3 r4 h => κ (.tup [.agg [.int .i64 r1, .sl r2], .bool r3, .int .i64 r4]) h)), trivial⟩) s (fuel := 3000) (by rw [← zf41.e]; exact hx)
  · exact hx.elim

noncomputable def zf42.code : Code := Go.Proofs.Tryd.f35.body.getD .skip

theorem zf42.fun : Fun sg.P 35 111 [.tmp 8] zf42.code := mkFun Go.Proofs.Tryd.func35 (by kernel_rfl) (by kernel_rfl) (by kernel_rfl) (by kernel_rfl)

def zf42.ret (Q : Int → Heap → Prop) (v : V) (h : Heap) : Prop :=
  match v with
  | .int .i64 r1 => Q r1 h
  | _ => False

def zf42.C (U : Ifc) (vs : List V) (κ : V → Heap → Prop) (h : Heap) : Prop :=
  match vs with
  | [.ptr a1, a2, .int .i64 a3, .int .i64 a4] => zf42 U a1 a2 a3 a4 (fun r1 h => κ (.int .i64 r1) h) h
  | _ => False

noncomputable def zf42.calls (U : Ifc) : List (Nat × (List V → (V → Heap → Prop) → Heap → Prop)) := [(30, zf44.C)]

noncomputable def zf42.E (U : Ifc) (Q : Int → Heap → Prop) (cuts : List (Nat × (List Nat × (List V → Heap → Prop)))) : Env := { tis := tisT, fns := fnsT, tys := tysT, gls := glsT, rts := rtsT, unk := [], nxt := [], calls := zf42.calls U, ifc := U, cuts := cuts, ret := zf42.ret Q, rets := [.tmp 8], n := 111 }

theorem zf42.callsOK {W0 : World} {U : Ifc} (hU : IfcOK sg W0 glsT U) : CallsOK sg W0 (zf42.calls U) := ⟨zf44.S, trivial⟩

def zf42.k5 (I : Heap → Prop) (vs : List V) (h : Heap) : Prop :=
  match vs with
  | [] => I  h
  | _ => False

def zf42.k7 (I : Heap → Prop) (vs : List V) (h : Heap) : Prop :=
  match vs with
  | [] => I  h
  | _ => False

def zf42.k11 (I : (Option Ptr) → V → Sl → Int → Int → Heap → Prop) (vs : List V) (h : Heap) : Prop :=
  match vs with
  | [.ptr a1, a2, .sl a3, .int .i64 a4, .int .i64 a5] => I a1 a2 a3 a4 a5 h
  | _ => False

def zf42.k10 (I : (Option Ptr) → V → Int → Int → Int → Int → Heap → Prop) (vs : List V) (h : Heap) : Prop :=
  match vs with
  | [.ptr a1, a2, .int .i64 a3, .int .i64 a4, .int .u64 a5, .int .u64 a6] => I a1 a2 a3 a4 a5 a6 h
  | _ => False

def zf42.k8 (I : (Option Ptr) → V → Int → Int → Heap → Prop) (vs : List V) (h : Heap) : Prop :=
  match vs with
  | [.ptr a1, a2, .int .i64 a3, .int .i64 a4] => I a1 a2 a3 a4 h
  | _ => False

theorem zf42.p5 : (posC zf42.code []).filter (fun p => Nat.beq p.1 5) = [(5, atPos (posC zf42.code []) 5)] := by kernel_rfl

theorem zf42.e5 : ∀ (U : Ifc)   (Q : Int → Heap → Prop) (h : Heap), zf42.j5 U   Q h = pts (zf42.E U Q []) 3000 true (atPos (posC zf42.code []) 5) (frAt [] []) h := by
  intros; kernel_rfl

theorem zf42.s5 {W0 : World} {U : Ifc} (hU : IfcOK sg W0 glsT U) (Q : Int → Heap → Prop)   : CutOK sg W0 111 (entered 35) (Post sg W0 (zf42.ret Q)) (posC zf42.code []) 5 [] (zf42.k5 (fun  h => zf42.j5 U   Q h)) := by
  refine cutOK_head (fun vs h hk => ?_)
  unfold zf42.k5 at hk
  split at hk
  · skip
    intro todo hm ρ a w s f hp
    exact piece (E := zf42.E U Q []) (vs := []) (envOK seatOK (zf42.callsOK hU) hU) (fnOK seatOK zf42.fun) trivial zf42.p5 (fuel := 3000) (by rw [← zf42.e5]; exact hk) hm s f hp
  · exact hk.elim

theorem zf42.p7 : (posC zf42.code []).filter (fun p => Nat.beq p.1 7) = [(7, atPos (posC zf42.code []) 7)] := by kernel_rfl

theorem zf42.e7 : ∀ (U : Ifc)   (Q : Int → Heap → Prop) (h : Heap), zf42.j7 U   Q h = pts (zf42.E U Q []) 3000 true (atPos (posC zf42.code []) 7) (frAt [] []) h := by
  intros; kernel_rfl

theorem zf42.s7 {W0 : World} {U : Ifc} (hU : IfcOK sg W0 glsT U) (Q : Int → Heap → Prop)   : CutOK sg W0 111 (entered 35) (Post sg W0 (zf42.ret Q)) (posC zf42.code []) 7 [] (zf42.k7 (fun  h => zf42.j7 U   Q h)) := by
  refine cutOK_head (fun vs h hk => ?_)
  unfold zf42.k7 at hk
  split at hk
  · skip
    intro todo hm ρ a w s f hp
    exact piece (E := zf42.E U Q []) (vs := []) (envOK seatOK (zf42.callsOK hU) hU) (fnOK seatOK zf42.fun) trivial zf42.p7 (fuel := 3000) (by rw [← zf42.e7]; exact hk) hm s f hp
  · exact hk.elim

theorem zf42.p11 : (posC zf42.code []).filter (fun p => Nat.beq p.1 11) = [(11, atPos (posC zf42.code []) 11)] := by kernel_rfl

theorem zf42.e11 : ∀ (U : Ifc)  (I11 : (Option Ptr) → V → Sl → Int → Int → Heap → Prop) (a1 : Option Ptr) (a2 : V) (a3 : Sl) (a4 : Int) (a5 : Int) (Q : Int → Heap → Prop) (h : Heap), zf42.b11 U  I11 a1 a2 a3 a4 a5 Q h = pts (zf42.E U Q [(11, ([0, 1, 87, 88, 89], zf42.k11 I11))]) 3000 true (atPos (posC zf42.code []) 11) (frAt [0, 1, 87, 88, 89] [.ptr a1, a2, .sl a3, .int .i64 a4, .int .i64 a5]) h := by
  intros; kernel_rfl

theorem zf42.s11 {W0 : World} {U : Ifc} (hU : IfcOK sg W0 glsT U) (Q : Int → Heap → Prop)   : CutOK sg W0 111 (entered 35) (Post sg W0 (zf42.ret Q)) (posC zf42.code []) 11 [0, 1, 87, 88, 89] (zf42.k11 (fun a1 a2 a3 a4 a5 h => zf42.j11 U  a1 a2 a3 a4 a5 Q h)) := by
  refine cutOK_head (fun vs h hk => ?_)
  unfold zf42.k11 at hk
  split at hk
  · rename_i a1 a2 a3 a4 a5
    refine hk (fun a1 a2 a3 a4 a5 h => Head sg W0 111 (entered 35) (Post sg W0 (zf42.ret Q)) (posC zf42.code []) 11 [0, 1, 87, 88, 89] [.ptr a1, a2, .sl a3, .int .i64 a4, .int .i64 a5] h) ?_
    intro a1 a2 a3 a4 a5 h hb todo hm ρ a w s f hp
    have hself : CutOK sg W0 111 (entered 35) (Post sg W0 (zf42.ret Q)) (posC zf42.code []) 11 [0, 1, 87, 88, 89] (zf42.k11 (fun a1 a2 a3 a4 a5 h => Head sg W0 111 (entered 35) (Post sg W0 (zf42.ret Q)) (posC zf42.code []) 11 [0, 1, 87, 88, 89] [.ptr a1, a2, .sl a3, .int .i64 a4, .int .i64 a5] h)) := cutOK_head (fun vs h hk => by unfold zf42.k11 at hk; split at hk; exact hk; exact hk.elim)
    exact piece (E := zf42.E U Q [(11, ([0, 1, 87, 88, 89], zf42.k11 (fun a1 a2 a3 a4 a5 h => Head sg W0 111 (entered 35) (Post sg W0 (zf42.ret Q)) (posC zf42.code []) 11 [0, 1, 87, 88, 89] [.ptr a1, a2, .sl a3, .int .i64 a4, .int .i64 a5] h)))]) (vs := [.ptr a1, a2, .sl a3, .int .i64 a4, .int .i64 a5]) (envOK seatOK (zf42.callsOK hU) hU) (fnOK seatOK zf42.fun) ⟨hself, trivial⟩ zf42.p11 (fuel := 3000) (by rw [← zf42.e11]; exact hb) hm s f hp
  · exact hk.elim

theorem zf42.p10 : (posC zf42.code []).filter (fun p => Nat.beq p.1 10) = [(10, atPos (posC zf42.code []) 10)] := by kernel_rfl

theorem zf42.e10 : ∀ (U : Ifc)  (a1 : Option Ptr) (a2 : V) (a3 : Int) (a4 : Int) (a5 : Int) (a6 : Int) (Q : Int → Heap → Prop) (h : Heap), zf42.j10 U  a1 a2 a3 a4 a5 a6 Q h = pts (zf42.E U Q [(11, ([0, 1, 87, 88, 89], zf42.k11 (fun a1 a2 a3 a4 a5 h => zf42.j11 U  a1 a2 a3 a4 a5 Q h)))]) 3000 true (atPos (posC zf42.code []) 10) (frAt [0, 1, 2, 3, 10, 11] [.ptr a1, a2, .int .i64 a3, .int .i64 a4, .int .u64 a5, .int .u64 a6]) h := by
  intros; kernel_rfl

theorem zf42.s10 {W0 : World} {U : Ifc} (hU : IfcOK sg W0 glsT U) (Q : Int → Heap → Prop)   : CutOK sg W0 111 (entered 35) (Post sg W0 (zf42.ret Q)) (posC zf42.code []) 10 [0, 1, 2, 3, 10, 11] (zf42.k10 (fun a1 a2 a3 a4 a5 a6 h => zf42.j10 U  a1 a2 a3 a4 a5 a6 Q h)) := by
  refine cutOK_head (fun vs h hk => ?_)
  unfold zf42.k10 at hk
  split at hk
  · rename_i a1 a2 a3 a4 a5 a6
    intro todo hm ρ a w s f hp
    exact piece (E := zf42.E U Q [(11, ([0, 1, 87, 88, 89], zf42.k11 (fun a1 a2 a3 a4 a5 h => zf42.j11 U  a1 a2 a3 a4 a5 Q h)))]) (vs := [.ptr a1, a2, .int .i64 a3, .int .i64 a4, .int .u64 a5, .int .u64 a6]) (envOK seatOK (zf42.callsOK hU) hU) (fnOK seatOK zf42.fun) ⟨(zf42.s11 hU Q  ), trivial⟩ zf42.p10 (fuel := 3000) (by rw [← zf42.e10]; exact hk) hm s f hp
  · exact hk.elim

theorem zf42.p8 : (posC zf42.code []).filter (fun p => Nat.beq p.1 8) = [(8, atPos (posC zf42.code []) 8)] := by kernel_rfl

theorem zf42.e8 : ∀ (U : Ifc)  (a1 : Option Ptr) (a2 : V) (a3 : Int) (a4 : Int) (Q : Int → Heap → Prop) (h : Heap), zf42.j8 U  a1 a2 a3 a4 Q h = pts (zf42.E U Q [(10, ([0, 1, 2, 3, 10, 11], zf42.k10 (fun a1 a2 a3 a4 a5 a6 h => zf42.j10 U  a1 a2 a3 a4 a5 a6 Q h)))]) 3000 true (atPos (posC zf42.code []) 8) (frAt [0, 1, 2, 3] [.ptr a1, a2, .int .i64 a3, .int .i64 a4]) h := by
  intros; kernel_rfl

theorem zf42.s8 {W0 : World} {U : Ifc} (hU : IfcOK sg W0 glsT U) (Q : Int → Heap → Prop)   : CutOK sg W0 111 (entered 35) (Post sg W0 (zf42.ret Q)) (posC zf42.code []) 8 [0, 1, 2, 3] (zf42.k8 (fun a1 a2 a3 a4 h => zf42.j8 U  a1 a2 a3 a4 Q h)) := by
  refine cutOK_head (fun vs h hk => ?_)
  unfold zf42.k8 at hk
  split at hk
  · rename_i a1 a2 a3 a4
    intro todo hm ρ a w s f hp
    exact piece (E := zf42.E U Q [(10, ([0, 1, 2, 3, 10, 11], zf42.k10 (fun a1 a2 a3 a4 a5 a6 h => zf42.j10 U  a1 a2 a3 a4 a5 a6 Q h)))]) (vs := [.ptr a1, a2, .int .i64 a3, .int .i64 a4]) (envOK seatOK (zf42.callsOK hU) hU) (fnOK seatOK zf42.fun) ⟨(zf42.s10 hU Q  ), trivial⟩ zf42.p8 (fuel := 3000) (by rw [← zf42.e8]; exact hk) hm s f hp
  · exact hk.elim

theorem zf42.e : ∀ (U : Ifc) (a1 : Option Ptr) (a2 : V) (a3 : Int) (a4 : Int) (Q : Int → Heap → Prop) (h : Heap), zf42 U a1 a2 a3 a4 Q h = pts (zf42.E U Q [(5, ([], zf42.k5 (fun  h => zf42.j5 U   Q h))), (7, ([], zf42.k7 (fun  h => zf42.j7 U   Q h))), (8, ([0, 1, 2, 3], zf42.k8 (fun a1 a2 a3 a4 h => zf42.j8 U  a1 a2 a3 a4 Q h)))]) 3000 true [.code zf42.code] (frOf 0 [.ptr a1, a2, .int .i64 a3, .int .i64 a4]) h := by
  intros; kernel_rfl

theorem zf42.S {W0 : World} {U : Ifc} (hU : IfcOK sg W0 glsT U) : FnS sg W0 78 (zf42.C U) := by
  intro vs κ h wv hx w s
  unfold zf42.C at hx
  split at hx
  · rename_i a1 a2 a3 a4
    refine postImp (ret := zf42.ret (fun r1 h => κ (.int .i64 r1) h)) (fun v h hr => by unfold zf42.ret at hr; split at hr; exact hr; exact hr.elim) ?_
    exact calls_of_pts (E := zf42.E U (fun r1 h => κ (.int .i64 r1) h) [(5, ([], zf42.k5 (fun  h => zf42.j5 U   (fun r1 h => κ (.int .i64 r1) h) h))), (7, ([], zf42.k7 (fun  h => zf42.j7 U   (fun r1 h => κ (.int .i64 r1) h) h))), (8, ([0, 1, 2, 3], zf42.k8 (fun a1 a2 a3 a4 h => zf42.j8 U  a1 a2 a3 a4 (fun r1 h => κ (.int .i64 r1) h) h)))]) (envOK seatOK (zf42.callsOK hU) hU) seatOK.mixed zf42.fun (Nat.le_of_ble_eq_true rfl) wv (cutL_ok ⟨(zf42.s5 hU (fun r1 h => κ (.int .i64 r1) h)), (zf42.s7 hU (fun r1 h => κ (.int .i64 r1) h)), (zf42.s8 hU (fun r1 h => κ (.int .i64 r1) h)), trivial⟩) s (fuel := 3000) (by rw [← zf42.e]; exact hx)
  · exact hx.elim

end Go.Fn
