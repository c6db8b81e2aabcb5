/- The links of the shallow functions to the machine. PRINTED by lift.py. -/
import Derived.Test.YtkfgkcdehmjmcaaGb1
set_option linter.unusedVariables false
set_option maxRecDepth 100000
namespace Go.Fn
open Go.Lift

noncomputable def ring_Ring_Push.code : Code := Go.Proofs.Try.f23.body.getD .skip

theorem ring_Ring_Push.fun : Fun sg.P 23 111 [.tmp 8] ring_Ring_Push.code := mkFun Go.Proofs.Try.func23 (by kernel_rfl) (by kernel_rfl) (by kernel_rfl) (by kernel_rfl)

def ring_Ring_Push.ret (Q : Int → Heap → Prop) (v : V) (h : Heap) : Prop :=
  match v with
  | .int .i64 r1 => Q r1 h
  | _ => False

def ring_Ring_Push.C (U : Ifc) (vs : List V) (κ : V → Heap → Prop) (h : Heap) : Prop :=
  match vs with
  | [.ptr a1, a2, .int .i64 a3, .int .i64 a4] => ring_Ring_Push U a1 a2 a3 a4 (fun r1 h => κ (.int .i64 r1) h) h
  | _ => False

noncomputable def ring_Ring_Push.calls (U : Ifc) : List (Nat × (List V → (V → Heap → Prop) → Heap → Prop)) := [(30, ring_Ring_usable.C)]

noncomputable def ring_Ring_Push.E (U : Ifc) (Q : Int → Heap → Prop) (cuts : List (Nat × (List Nat × (List V → Heap → Prop)))) : Env := { tis := tisT, fns := fnsT, tys := tysT, gls := glsT, rts := rtsT, unk := [], nxt := [], calls := ring_Ring_Push.calls U, ifc := U, cuts := cuts, ret := ring_Ring_Push.ret Q, rets := [.tmp 8], n := 111 }

theorem ring_Ring_Push.callsOK {W0 : World} {U : Ifc} (hU : IfcOK sg W0 glsT U) : CallsOK sg W0 (ring_Ring_Push.calls U) := ⟨ring_Ring_usable.S, trivial⟩

def ring_Ring_Push.k5 (I : Heap → Prop) (vs : List V) (h : Heap) : Prop :=
  match vs with
  | [] => I  h
  | _ => False

def ring_Ring_Push.k7 (I : Heap → Prop) (vs : List V) (h : Heap) : Prop :=
  match vs with
  | [] => I  h
  | _ => False

def ring_Ring_Push.k11 (I : (Option Ptr) → V → Sl → Int → Int → Heap → Prop) (vs : List V) (h : Heap) : Prop :=
  match vs with
  | [.ptr a1, a2, .sl a3, .int .i64 a4, .int .i64 a5] => I a1 a2 a3 a4 a5 h
  | _ => False

def ring_Ring_Push.k10 (I : (Option Ptr) → V → Int → Int → Int → Int → Heap → Prop) (vs : List V) (h : Heap) : Prop :=
  match vs with
  | [.ptr a1, a2, .int .i64 a3, .int .i64 a4, .int .u64 a5, .int .u64 a6] => I a1 a2 a3 a4 a5 a6 h
  | _ => False

def ring_Ring_Push.k8 (I : (Option Ptr) → V → Int → Int → Heap → Prop) (vs : List V) (h : Heap) : Prop :=
  match vs with
  | [.ptr a1, a2, .int .i64 a3, .int .i64 a4] => I a1 a2 a3 a4 h
  | _ => False

theorem ring_Ring_Push.p5 : (posC ring_Ring_Push.code []).filter (fun p => Nat.beq p.1 5) = [(5, atPos (posC ring_Ring_Push.code []) 5)] := by kernel_rfl

theorem ring_Ring_Push.e5 : ∀ (U : Ifc)   (Q : Int → Heap → Prop) (h : Heap), ring_Ring_Push.j5 U   Q h = pts (ring_Ring_Push.E U Q []) 3000 true (atPos (posC ring_Ring_Push.code []) 5) (frAt [] []) h := by
  intros; kernel_rfl

theorem ring_Ring_Push.s5 {W0 : World} {U : Ifc} (hU : IfcOK sg W0 glsT U) (Q : Int → Heap → Prop)   : CutOK sg W0 111 (entered 23) (Post sg W0 (ring_Ring_Push.ret Q)) (posC ring_Ring_Push.code []) 5 [] (ring_Ring_Push.k5 (fun  h => ring_Ring_Push.j5 U   Q h)) := by
  refine cutOK_head (fun vs h hk => ?_)
  unfold ring_Ring_Push.k5 at hk
  split at hk
  · skip
    intro todo hm ρ a w s f hp
    exact piece (E := ring_Ring_Push.E U Q []) (vs := []) (envOK seatOK (ring_Ring_Push.callsOK hU) hU) (fnOK seatOK ring_Ring_Push.fun) trivial ring_Ring_Push.p5 (fuel := 3000) (by rw [← ring_Ring_Push.e5]; exact hk) hm s f hp
  · exact hk.elim

theorem ring_Ring_Push.p7 : (posC ring_Ring_Push.code []).filter (fun p => Nat.beq p.1 7) = [(7, atPos (posC ring_Ring_Push.code []) 7)] := by kernel_rfl

theorem ring_Ring_Push.e7 : ∀ (U : Ifc)   (Q : Int → Heap → Prop) (h : Heap), ring_Ring_Push.j7 U   Q h = pts (ring_Ring_Push.E U Q []) 3000 true (atPos (posC ring_Ring_Push.code []) 7) (frAt [] []) h := by
  intros; kernel_rfl

theorem ring_Ring_Push.s7 {W0 : World} {U : Ifc} (hU : IfcOK sg W0 glsT U) (Q : Int → Heap → Prop)   : CutOK sg W0 111 (entered 23) (Post sg W0 (ring_Ring_Push.ret Q)) (posC ring_Ring_Push.code []) 7 [] (ring_Ring_Push.k7 (fun  h => ring_Ring_Push.j7 U   Q h)) := by
  refine cutOK_head (fun vs h hk => ?_)
  unfold ring_Ring_Push.k7 at hk
  split at hk
  · skip
    intro todo hm ρ a w s f hp
    exact piece (E := ring_Ring_Push.E U Q []) (vs := []) (envOK seatOK (ring_Ring_Push.callsOK hU) hU) (fnOK seatOK ring_Ring_Push.fun) trivial ring_Ring_Push.p7 (fuel := 3000) (by rw [← ring_Ring_Push.e7]; exact hk) hm s f hp
  · exact hk.elim

theorem ring_Ring_Push.p11 : (posC ring_Ring_Push.code []).filter (fun p => Nat.beq p.1 11) = [(11, atPos (posC ring_Ring_Push.code []) 11)] := by kernel_rfl

theorem ring_Ring_Push.e11 : ∀ (U : Ifc)  (I11 : (Option Ptr) → V → Sl → Int → Int → Heap → Prop) (a1 : Option Ptr) (a2 : V) (a3 : Sl) (a4 : Int) (a5 : Int) (Q : Int → Heap → Prop) (h : Heap), ring_Ring_Push.b11 U  I11 a1 a2 a3 a4 a5 Q h = pts (ring_Ring_Push.E U Q [(11, ([0, 1, 87, 88, 89], ring_Ring_Push.k11 I11))]) 3000 true (atPos (posC ring_Ring_Push.code []) 11) (frAt [0, 1, 87, 88, 89] [.ptr a1, a2, .sl a3, .int .i64 a4, .int .i64 a5]) h := by
  intros; kernel_rfl

theorem ring_Ring_Push.s11 {W0 : World} {U : Ifc} (hU : IfcOK sg W0 glsT U) (Q : Int → Heap → Prop)   : CutOK sg W0 111 (entered 23) (Post sg W0 (ring_Ring_Push.ret Q)) (posC ring_Ring_Push.code []) 11 [0, 1, 87, 88, 89] (ring_Ring_Push.k11 (fun a1 a2 a3 a4 a5 h => ring_Ring_Push.j11 U  a1 a2 a3 a4 a5 Q h)) := by
  refine cutOK_head (fun vs h hk => ?_)
  unfold ring_Ring_Push.k11 at hk
  split at hk
  · rename_i a1 a2 a3 a4 a5
    refine hk (fun a1 a2 a3 a4 a5 h => Head sg W0 111 (entered 23) (Post sg W0 (ring_Ring_Push.ret Q)) (posC ring_Ring_Push.code []) 11 [0, 1, 87, 88, 89] [.ptr a1, a2, .sl a3, .int .i64 a4, .int .i64 a5] h) ?_
    intro a1 a2 a3 a4 a5 h hb todo hm ρ a w s f hp
    have hself : CutOK sg W0 111 (entered 23) (Post sg W0 (ring_Ring_Push.ret Q)) (posC ring_Ring_Push.code []) 11 [0, 1, 87, 88, 89] (ring_Ring_Push.k11 (fun a1 a2 a3 a4 a5 h => Head sg W0 111 (entered 23) (Post sg W0 (ring_Ring_Push.ret Q)) (posC ring_Ring_Push.code []) 11 [0, 1, 87, 88, 89] [.ptr a1, a2, .sl a3, .int .i64 a4, .int .i64 a5] h)) := cutOK_head (fun vs h hk => by unfold ring_Ring_Push.k11 at hk; split at hk; exact hk; exact hk.elim)
    exact piece (E := ring_Ring_Push.E U Q [(11, ([0, 1, 87, 88, 89], ring_Ring_Push.k11 (fun a1 a2 a3 a4 a5 h => Head sg W0 111 (entered 23) (Post sg W0 (ring_Ring_Push.ret Q)) (posC ring_Ring_Push.code []) 11 [0, 1, 87, 88, 89] [.ptr a1, a2, .sl a3, .int .i64 a4, .int .i64 a5] h)))]) (vs := [.ptr a1, a2, .sl a3, .int .i64 a4, .int .i64 a5]) (envOK seatOK (ring_Ring_Push.callsOK hU) hU) (fnOK seatOK ring_Ring_Push.fun) ⟨hself, trivial⟩ ring_Ring_Push.p11 (fuel := 3000) (by rw [← ring_Ring_Push.e11]; exact hb) hm s f hp
  · exact hk.elim

theorem ring_Ring_Push.p10 : (posC ring_Ring_Push.code []).filter (fun p => Nat.beq p.1 10) = [(10, atPos (posC ring_Ring_Push.code []) 10)] := by kernel_rfl

theorem ring_Ring_Push.e10 : ∀ (U : Ifc)  (a1 : Option Ptr) (a2 : V) (a3 : Int) (a4 : Int) (a5 : Int) (a6 : Int) (Q : Int → Heap → Prop) (h : Heap), ring_Ring_Push.j10 U  a1 a2 a3 a4 a5 a6 Q h = pts (ring_Ring_Push.E U Q [(11, ([0, 1, 87, 88, 89], ring_Ring_Push.k11 (fun a1 a2 a3 a4 a5 h => ring_Ring_Push.j11 U  a1 a2 a3 a4 a5 Q h)))]) 3000 true (atPos (posC ring_Ring_Push.code []) 10) (frAt [0, 1, 2, 3, 10, 11] [.ptr a1, a2, .int .i64 a3, .int .i64 a4, .int .u64 a5, .int .u64 a6]) h := by
  intros; kernel_rfl

theorem ring_Ring_Push.s10 {W0 : World} {U : Ifc} (hU : IfcOK sg W0 glsT U) (Q : Int → Heap → Prop)   : CutOK sg W0 111 (entered 23) (Post sg W0 (ring_Ring_Push.ret Q)) (posC ring_Ring_Push.code []) 10 [0, 1, 2, 3, 10, 11] (ring_Ring_Push.k10 (fun a1 a2 a3 a4 a5 a6 h => ring_Ring_Push.j10 U  a1 a2 a3 a4 a5 a6 Q h)) := by
  refine cutOK_head (fun vs h hk => ?_)
  unfold ring_Ring_Push.k10 at hk
  split at hk
  · rename_i a1 a2 a3 a4 a5 a6
    intro todo hm ρ a w s f hp
    exact piece (E := ring_Ring_Push.E U Q [(11, ([0, 1, 87, 88, 89], ring_Ring_Push.k11 (fun a1 a2 a3 a4 a5 h => ring_Ring_Push.j11 U  a1 a2 a3 a4 a5 Q h)))]) (vs := [.ptr a1, a2, .int .i64 a3, .int .i64 a4, .int .u64 a5, .int .u64 a6]) (envOK seatOK (ring_Ring_Push.callsOK hU) hU) (fnOK seatOK ring_Ring_Push.fun) ⟨(ring_Ring_Push.s11 hU Q  ), trivial⟩ ring_Ring_Push.p10 (fuel := 3000) (by rw [← ring_Ring_Push.e10]; exact hk) hm s f hp
  · exact hk.elim

theorem ring_Ring_Push.p8 : (posC ring_Ring_Push.code []).filter (fun p => Nat.beq p.1 8) = [(8, atPos (posC ring_Ring_Push.code []) 8)] := by kernel_rfl

theorem ring_Ring_Push.e8 : ∀ (U : Ifc)  (a1 : Option Ptr) (a2 : V) (a3 : Int) (a4 : Int) (Q : Int → Heap → Prop) (h : Heap), ring_Ring_Push.j8 U  a1 a2 a3 a4 Q h = pts (ring_Ring_Push.E U Q [(10, ([0, 1, 2, 3, 10, 11], ring_Ring_Push.k10 (fun a1 a2 a3 a4 a5 a6 h => ring_Ring_Push.j10 U  a1 a2 a3 a4 a5 a6 Q h)))]) 3000 true (atPos (posC ring_Ring_Push.code []) 8) (frAt [0, 1, 2, 3] [.ptr a1, a2, .int .i64 a3, .int .i64 a4]) h := by
  intros; kernel_rfl

theorem ring_Ring_Push.s8 {W0 : World} {U : Ifc} (hU : IfcOK sg W0 glsT U) (Q : Int → Heap → Prop)   : CutOK sg W0 111 (entered 23) (Post sg W0 (ring_Ring_Push.ret Q)) (posC ring_Ring_Push.code []) 8 [0, 1, 2, 3] (ring_Ring_Push.k8 (fun a1 a2 a3 a4 h => ring_Ring_Push.j8 U  a1 a2 a3 a4 Q h)) := by
  refine cutOK_head (fun vs h hk => ?_)
  unfold ring_Ring_Push.k8 at hk
  split at hk
  · rename_i a1 a2 a3 a4
    intro todo hm ρ a w s f hp
    exact piece (E := ring_Ring_Push.E U Q [(10, ([0, 1, 2, 3, 10, 11], ring_Ring_Push.k10 (fun a1 a2 a3 a4 a5 a6 h => ring_Ring_Push.j10 U  a1 a2 a3 a4 a5 a6 Q h)))]) (vs := [.ptr a1, a2, .int .i64 a3, .int .i64 a4]) (envOK seatOK (ring_Ring_Push.callsOK hU) hU) (fnOK seatOK ring_Ring_Push.fun) ⟨(ring_Ring_Push.s10 hU Q  ), trivial⟩ ring_Ring_Push.p8 (fuel := 3000) (by rw [← ring_Ring_Push.e8]; exact hk) hm s f hp
  · exact hk.elim

theorem ring_Ring_Push.e : ∀ (U : Ifc) (a1 : Option Ptr) (a2 : V) (a3 : Int) (a4 : Int) (Q : Int → Heap → Prop) (h : Heap), ring_Ring_Push U a1 a2 a3 a4 Q h = pts (ring_Ring_Push.E U Q [(5, ([], ring_Ring_Push.k5 (fun  h => ring_Ring_Push.j5 U   Q h))), (7, ([], ring_Ring_Push.k7 (fun  h => ring_Ring_Push.j7 U   Q h))), (8, ([0, 1, 2, 3], ring_Ring_Push.k8 (fun a1 a2 a3 a4 h => ring_Ring_Push.j8 U  a1 a2 a3 a4 Q h)))]) 3000 true [.code ring_Ring_Push.code] (frOf 0 [.ptr a1, a2, .int .i64 a3, .int .i64 a4]) h := by
  intros; kernel_rfl

theorem ring_Ring_Push.S {W0 : World} {U : Ifc} (hU : IfcOK sg W0 glsT U) : FnS sg W0 78 (ring_Ring_Push.C U) := by
  intro vs κ h wv hx w s
  unfold ring_Ring_Push.C at hx
  split at hx
  · rename_i a1 a2 a3 a4
    refine postImp (ret := ring_Ring_Push.ret (fun r1 h => κ (.int .i64 r1) h)) (fun v h hr => by unfold ring_Ring_Push.ret at hr; split at hr; exact hr; exact hr.elim) ?_
    exact calls_of_pts (E := ring_Ring_Push.E U (fun r1 h => κ (.int .i64 r1) h) [(5, ([], ring_Ring_Push.k5 (fun  h => ring_Ring_Push.j5 U   (fun r1 h => κ (.int .i64 r1) h) h))), (7, ([], ring_Ring_Push.k7 (fun  h => ring_Ring_Push.j7 U   (fun r1 h => κ (.int .i64 r1) h) h))), (8, ([0, 1, 2, 3], ring_Ring_Push.k8 (fun a1 a2 a3 a4 h => ring_Ring_Push.j8 U  a1 a2 a3 a4 (fun r1 h => κ (.int .i64 r1) h) h)))]) (envOK seatOK (ring_Ring_Push.callsOK hU) hU) seatOK.mixed ring_Ring_Push.fun (Nat.le_of_ble_eq_true rfl) wv (cutL_ok ⟨(ring_Ring_Push.s5 hU (fun r1 h => κ (.int .i64 r1) h)), (ring_Ring_Push.s7 hU (fun r1 h => κ (.int .i64 r1) h)), (ring_Ring_Push.s8 hU (fun r1 h => κ (.int .i64 r1) h)), trivial⟩) s (fuel := 3000) (by rw [← ring_Ring_Push.e]; exact hx)
  · exact hx.elim

noncomputable def backend_Block_Kick.code : Code := Go.Proofs.Try.f5.body.getD .skip

theorem backend_Block_Kick.fun : Fun sg.P 5 74 [.tmp 4, .tmp 5] backend_Block_Kick.code := mkFun Go.Proofs.Try.func5 (by kernel_rfl) (by kernel_rfl) (by kernel_rfl) (by kernel_rfl)

def backend_Block_Kick.ret (Q : Int → Int → Heap → Prop) (v : V) (h : Heap) : Prop :=
  match v with
  | .tup [.int .i64 r1, .int .i64 r2] => Q r1 r2 h
  | _ => False

def backend_Block_Kick.C (U : Ifc) (vs : List V) (κ : V → Heap → Prop) (h : Heap) : Prop :=
  match vs with
  | [.ptr a1, a2] => backend_Block_Kick U a1 a2 (fun r1 r2 h => κ (.tup [.int .i64 r1, .int .i64 r2]) h) h
  | _ => False

noncomputable def backend_Block_Kick.calls (U : Ifc) : List (Nat × (List V → (V → Heap → Prop) → Heap → Prop)) := [(266, backend_Block_none.C), (77, ring_Ring_Next.C U), (269, backend_Block_ask.C U), (273, backend_Block_submit.C U), (78, ring_Ring_Push.C U), (274, backend_tell.C U)]

noncomputable def backend_Block_Kick.E (U : Ifc) (Q : Int → Int → Heap → Prop) (cuts : List (Nat × (List Nat × (List V → Heap → Prop)))) : Env := { tis := tisT, fns := fnsT, tys := tysT, gls := glsT, rts := rtsT, unk := [], nxt := [], calls := backend_Block_Kick.calls U, ifc := U, cuts := cuts, ret := backend_Block_Kick.ret Q, rets := [.tmp 4, .tmp 5], n := 74 }

theorem backend_Block_Kick.callsOK {W0 : World} {U : Ifc} (hU : IfcOK sg W0 glsT U) : CallsOK sg W0 (backend_Block_Kick.calls U) := ⟨backend_Block_none.S, (ring_Ring_Next.S hU), (backend_Block_ask.S hU), (backend_Block_submit.S hU), (ring_Ring_Push.S hU), (backend_tell.S hU), trivial⟩

def backend_Block_Kick.k7 (I : Int → Int → Heap → Prop) (vs : List V) (h : Heap) : Prop :=
  match vs with
  | [.int .i64 a1, .int .i64 a2] => I a1 a2 h
  | _ => False

def backend_Block_Kick.k11 (I : (Option Ptr) → V → Int → Ptr → Int → Heap → Prop) (vs : List V) (h : Heap) : Prop :=
  match vs with
  | [.ptr a1, a2, .int .i64 a3, .ptr (some a4), .int .u8 a5] => I a1 a2 a3 a4 a5 h
  | _ => False

def backend_Block_Kick.k8 (I : (Option Ptr) → V → Int → Ptr → Heap → Prop) (vs : List V) (h : Heap) : Prop :=
  match vs with
  | [.ptr a1, a2, .int .i64 a3, .ptr (some a4)] => I a1 a2 a3 a4 h
  | _ => False

def backend_Block_Kick.k4 (I : (Option Ptr) → V → Int → Heap → Prop) (vs : List V) (h : Heap) : Prop :=
  match vs with
  | [.ptr a1, a2, .int .i64 a3] => I a1 a2 a3 h
  | _ => False

theorem backend_Block_Kick.p7 : (posC backend_Block_Kick.code []).filter (fun p => Nat.beq p.1 7) = [(7, atPos (posC backend_Block_Kick.code []) 7)] := by kernel_rfl

theorem backend_Block_Kick.e7 : ∀ (U : Ifc) (I4 : (Option Ptr) → V → Int → Heap → Prop) (a1 : Int) (a2 : Int) (Q : Int → Int → Heap → Prop) (h : Heap), backend_Block_Kick.j7 U I4 a1 a2 Q h = pts (backend_Block_Kick.E U Q []) 3000 true (atPos (posC backend_Block_Kick.code []) 7) (frAt [6, 9] [.int .i64 a1, .int .i64 a2]) h := by
  intros; kernel_rfl

theorem backend_Block_Kick.s7 {W0 : World} {U : Ifc} (hU : IfcOK sg W0 glsT U) (Q : Int → Int → Heap → Prop) (I4 : (Option Ptr) → V → Int → Heap → Prop) (h4 : CutOK sg W0 74 (entered 5) (Post sg W0 (backend_Block_Kick.ret Q)) (posC backend_Block_Kick.code []) 4 [0, 1, 6] (backend_Block_Kick.k4 I4)) : CutOK sg W0 74 (entered 5) (Post sg W0 (backend_Block_Kick.ret Q)) (posC backend_Block_Kick.code []) 7 [6, 9] (backend_Block_Kick.k7 (fun a1 a2 h => backend_Block_Kick.j7 U I4 a1 a2 Q h)) := by
  refine cutOK_head (fun vs h hk => ?_)
  unfold backend_Block_Kick.k7 at hk
  split at hk
  · rename_i a1 a2
    intro todo hm ρ a w s f hp
    exact piece (E := backend_Block_Kick.E U Q []) (vs := [.int .i64 a1, .int .i64 a2]) (envOK seatOK (backend_Block_Kick.callsOK hU) hU) (fnOK seatOK backend_Block_Kick.fun) trivial backend_Block_Kick.p7 (fuel := 3000) (by rw [← backend_Block_Kick.e7]; exact hk) hm s f hp
  · exact hk.elim

theorem backend_Block_Kick.p11 : (posC backend_Block_Kick.code []).filter (fun p => Nat.beq p.1 11) = [(11, atPos (posC backend_Block_Kick.code []) 11)] := by kernel_rfl

theorem backend_Block_Kick.e11 : ∀ (U : Ifc) (I4 : (Option Ptr) → V → Int → Heap → Prop) (a1 : Option Ptr) (a2 : V) (a3 : Int) (a4 : Ptr) (a5 : Int) (Q : Int → Int → Heap → Prop) (h : Heap), backend_Block_Kick.j11 U I4 a1 a2 a3 a4 a5 Q h = pts (backend_Block_Kick.E U Q [(4, ([0, 1, 6], backend_Block_Kick.k4 I4))]) 3000 true (atPos (posC backend_Block_Kick.code []) 11) (frAt [0, 1, 6, 7, 11] [.ptr a1, a2, .int .i64 a3, .ptr (some a4), .int .u8 a5]) h := by
  intros; kernel_rfl

theorem backend_Block_Kick.s11 {W0 : World} {U : Ifc} (hU : IfcOK sg W0 glsT U) (Q : Int → Int → Heap → Prop) (I4 : (Option Ptr) → V → Int → Heap → Prop) (h4 : CutOK sg W0 74 (entered 5) (Post sg W0 (backend_Block_Kick.ret Q)) (posC backend_Block_Kick.code []) 4 [0, 1, 6] (backend_Block_Kick.k4 I4)) : CutOK sg W0 74 (entered 5) (Post sg W0 (backend_Block_Kick.ret Q)) (posC backend_Block_Kick.code []) 11 [0, 1, 6, 7, 11] (backend_Block_Kick.k11 (fun a1 a2 a3 a4 a5 h => backend_Block_Kick.j11 U I4 a1 a2 a3 a4 a5 Q h)) := by
  refine cutOK_head (fun vs h hk => ?_)
  unfold backend_Block_Kick.k11 at hk
  split at hk
  · rename_i a1 a2 a3 a4 a5
    intro todo hm ρ a w s f hp
    exact piece (E := backend_Block_Kick.E U Q [(4, ([0, 1, 6], backend_Block_Kick.k4 I4))]) (vs := [.ptr a1, a2, .int .i64 a3, .ptr (some a4), .int .u8 a5]) (envOK seatOK (backend_Block_Kick.callsOK hU) hU) (fnOK seatOK backend_Block_Kick.fun) ⟨h4, trivial⟩ backend_Block_Kick.p11 (fuel := 3000) (by rw [← backend_Block_Kick.e11]; exact hk) hm s f hp
  · exact hk.elim

theorem backend_Block_Kick.p8 : (posC backend_Block_Kick.code []).filter (fun p => Nat.beq p.1 8) = [(8, atPos (posC backend_Block_Kick.code []) 8)] := by kernel_rfl

theorem backend_Block_Kick.e8 : ∀ (U : Ifc) (I4 : (Option Ptr) → V → Int → Heap → Prop) (a1 : Option Ptr) (a2 : V) (a3 : Int) (a4 : Ptr) (Q : Int → Int → Heap → Prop) (h : Heap), backend_Block_Kick.j8 U I4 a1 a2 a3 a4 Q h = pts (backend_Block_Kick.E U Q [(11, ([0, 1, 6, 7, 11], backend_Block_Kick.k11 (fun a1 a2 a3 a4 a5 h => backend_Block_Kick.j11 U I4 a1 a2 a3 a4 a5 Q h)))]) 3000 true (atPos (posC backend_Block_Kick.code []) 8) (frAt [0, 1, 6, 7] [.ptr a1, a2, .int .i64 a3, .ptr (some a4)]) h := by
  intros; kernel_rfl

theorem backend_Block_Kick.s8 {W0 : World} {U : Ifc} (hU : IfcOK sg W0 glsT U) (Q : Int → Int → Heap → Prop) (I4 : (Option Ptr) → V → Int → Heap → Prop) (h4 : CutOK sg W0 74 (entered 5) (Post sg W0 (backend_Block_Kick.ret Q)) (posC backend_Block_Kick.code []) 4 [0, 1, 6] (backend_Block_Kick.k4 I4)) : CutOK sg W0 74 (entered 5) (Post sg W0 (backend_Block_Kick.ret Q)) (posC backend_Block_Kick.code []) 8 [0, 1, 6, 7] (backend_Block_Kick.k8 (fun a1 a2 a3 a4 h => backend_Block_Kick.j8 U I4 a1 a2 a3 a4 Q h)) := by
  refine cutOK_head (fun vs h hk => ?_)
  unfold backend_Block_Kick.k8 at hk
  split at hk
  · rename_i a1 a2 a3 a4
    intro todo hm ρ a w s f hp
    exact piece (E := backend_Block_Kick.E U Q [(11, ([0, 1, 6, 7, 11], backend_Block_Kick.k11 (fun a1 a2 a3 a4 a5 h => backend_Block_Kick.j11 U I4 a1 a2 a3 a4 a5 Q h)))]) (vs := [.ptr a1, a2, .int .i64 a3, .ptr (some a4)]) (envOK seatOK (backend_Block_Kick.callsOK hU) hU) (fnOK seatOK backend_Block_Kick.fun) ⟨(backend_Block_Kick.s11 hU Q I4 h4), trivial⟩ backend_Block_Kick.p8 (fuel := 3000) (by rw [← backend_Block_Kick.e8]; exact hk) hm s f hp
  · exact hk.elim

theorem backend_Block_Kick.p4 : (posC backend_Block_Kick.code []).filter (fun p => Nat.beq p.1 4) = [(4, atPos (posC backend_Block_Kick.code []) 4)] := by kernel_rfl

theorem backend_Block_Kick.e4 : ∀ (U : Ifc)  (I4 : (Option Ptr) → V → Int → Heap → Prop) (a1 : Option Ptr) (a2 : V) (a3 : Int) (Q : Int → Int → Heap → Prop) (h : Heap), backend_Block_Kick.b4 U  I4 a1 a2 a3 Q h = pts (backend_Block_Kick.E U Q [(7, ([6, 9], backend_Block_Kick.k7 (fun a1 a2 h => backend_Block_Kick.j7 U I4 a1 a2 Q h))), (8, ([0, 1, 6, 7], backend_Block_Kick.k8 (fun a1 a2 a3 a4 h => backend_Block_Kick.j8 U I4 a1 a2 a3 a4 Q h)))]) 3000 true (atPos (posC backend_Block_Kick.code []) 4) (frAt [0, 1, 6] [.ptr a1, a2, .int .i64 a3]) h := by
  intros; kernel_rfl

theorem backend_Block_Kick.s4 {W0 : World} {U : Ifc} (hU : IfcOK sg W0 glsT U) (Q : Int → Int → Heap → Prop)   : CutOK sg W0 74 (entered 5) (Post sg W0 (backend_Block_Kick.ret Q)) (posC backend_Block_Kick.code []) 4 [0, 1, 6] (backend_Block_Kick.k4 (fun a1 a2 a3 h => backend_Block_Kick.j4 U  a1 a2 a3 Q h)) := by
  refine cutOK_head (fun vs h hk => ?_)
  unfold backend_Block_Kick.k4 at hk
  split at hk
  · rename_i a1 a2 a3
    refine hk (fun a1 a2 a3 h => Head sg W0 74 (entered 5) (Post sg W0 (backend_Block_Kick.ret Q)) (posC backend_Block_Kick.code []) 4 [0, 1, 6] [.ptr a1, a2, .int .i64 a3] h) ?_
    intro a1 a2 a3 h hb todo hm ρ a w s f hp
    have hself : CutOK sg W0 74 (entered 5) (Post sg W0 (backend_Block_Kick.ret Q)) (posC backend_Block_Kick.code []) 4 [0, 1, 6] (backend_Block_Kick.k4 (fun a1 a2 a3 h => Head sg W0 74 (entered 5) (Post sg W0 (backend_Block_Kick.ret Q)) (posC backend_Block_Kick.code []) 4 [0, 1, 6] [.ptr a1, a2, .int .i64 a3] h)) := cutOK_head (fun vs h hk => by unfold backend_Block_Kick.k4 at hk; split at hk; exact hk; exact hk.elim)
    exact piece (E := backend_Block_Kick.E U Q [(7, ([6, 9], backend_Block_Kick.k7 (fun a1 a2 h => backend_Block_Kick.j7 U (fun a1 a2 a3 h => Head sg W0 74 (entered 5) (Post sg W0 (backend_Block_Kick.ret Q)) (posC backend_Block_Kick.code []) 4 [0, 1, 6] [.ptr a1, a2, .int .i64 a3] h) a1 a2 Q h))), (8, ([0, 1, 6, 7], backend_Block_Kick.k8 (fun a1 a2 a3 a4 h => backend_Block_Kick.j8 U (fun a1 a2 a3 h => Head sg W0 74 (entered 5) (Post sg W0 (backend_Block_Kick.ret Q)) (posC backend_Block_Kick.code []) 4 [0, 1, 6] [.ptr a1, a2, .int .i64 a3] h) a1 a2 a3 a4 Q h)))]) (vs := [.ptr a1, a2, .int .i64 a3]) (envOK seatOK (backend_Block_Kick.callsOK hU) hU) (fnOK seatOK backend_Block_Kick.fun) ⟨(backend_Block_Kick.s7 hU Q (fun a1 a2 a3 h => Head sg W0 74 (entered 5) (Post sg W0 (backend_Block_Kick.ret Q)) (posC backend_Block_Kick.code []) 4 [0, 1, 6] [.ptr a1, a2, .int .i64 a3] h) hself), (backend_Block_Kick.s8 hU Q (fun a1 a2 a3 h => Head sg W0 74 (entered 5) (Post sg W0 (backend_Block_Kick.ret Q)) (posC backend_Block_Kick.code []) 4 [0, 1, 6] [.ptr a1, a2, .int .i64 a3] h) hself), trivial⟩ backend_Block_Kick.p4 (fuel := 3000) (by rw [← backend_Block_Kick.e4]; exact hb) hm s f hp
  · exact hk.elim

theorem backend_Block_Kick.e : ∀ (U : Ifc) (a1 : Option Ptr) (a2 : V) (Q : Int → Int → Heap → Prop) (h : Heap), backend_Block_Kick U a1 a2 Q h = pts (backend_Block_Kick.E U Q [(4, ([0, 1, 6], backend_Block_Kick.k4 (fun a1 a2 a3 h => backend_Block_Kick.j4 U  a1 a2 a3 Q h)))]) 3000 true [.code backend_Block_Kick.code] (frOf 0 [.ptr a1, a2]) h := by
  intros; kernel_rfl

theorem backend_Block_Kick.S {W0 : World} {U : Ifc} (hU : IfcOK sg W0 glsT U) : FnS sg W0 275 (backend_Block_Kick.C U) := by
  intro vs κ h wv hx w s
  unfold backend_Block_Kick.C at hx
  split at hx
  · rename_i a1 a2
    refine postImp (ret := backend_Block_Kick.ret (fun r1 r2 h => κ (.tup [.int .i64 r1, .int .i64 r2]) h)) (fun v h hr => by unfold backend_Block_Kick.ret at hr; split at hr; exact hr; exact hr.elim) ?_
    exact calls_of_pts (E := backend_Block_Kick.E U (fun r1 r2 h => κ (.tup [.int .i64 r1, .int .i64 r2]) h) [(4, ([0, 1, 6], backend_Block_Kick.k4 (fun a1 a2 a3 h => backend_Block_Kick.j4 U  a1 a2 a3 (fun r1 r2 h => κ (.tup [.int .i64 r1, .int .i64 r2]) h) h)))]) (envOK seatOK (backend_Block_Kick.callsOK hU) hU) seatOK.mixed backend_Block_Kick.fun (Nat.le_of_ble_eq_true rfl) wv (cutL_ok ⟨(backend_Block_Kick.s4 hU (fun r1 r2 h => κ (.tup [.int .i64 r1, .int .i64 r2]) h)), trivial⟩) s (fuel := 3000) (by rw [← backend_Block_Kick.e]; exact hx)
  · exact hx.elim

noncomputable def backend_Block_Done.code : Code := Go.Proofs.Try.f6.body.getD .skip

theorem backend_Block_Done.fun : Fun sg.P 6 59 [.tmp 6, .tmp 7] backend_Block_Done.code := mkFun Go.Proofs.Try.func6 (by kernel_rfl) (by kernel_rfl) (by kernel_rfl) (by kernel_rfl)

def backend_Block_Done.ret (Q : Bool → Int → Heap → Prop) (v : V) (h : Heap) : Prop :=
  match v with
  | .tup [.bool r1, .int .i64 r2] => Q r1 r2 h
  | _ => False

def backend_Block_Done.C (U : Ifc) (vs : List V) (κ : V → Heap → Prop) (h : Heap) : Prop :=
  match vs with
  | [.ptr a1, a2, .int .i64 a3] => backend_Block_Done U a1 a2 a3 (fun r1 r2 h => κ (.tup [.bool r1, .int .i64 r2]) h) h
  | _ => False

noncomputable def backend_Block_Done.calls (U : Ifc) : List (Nat × (List V → (V → Heap → Prop) → Heap → Prop)) := [(266, backend_Block_none.C), (78, ring_Ring_Push.C U), (274, backend_tell.C U), (272, frames_Frames_Free.C)]

noncomputable def backend_Block_Done.E (U : Ifc) (Q : Bool → Int → Heap → Prop) (cuts : List (Nat × (List Nat × (List V → Heap → Prop)))) : Env := { tis := tisT, fns := fnsT, tys := tysT, gls := glsT, rts := rtsT, unk := [], nxt := [], calls := backend_Block_Done.calls U, ifc := U, cuts := cuts, ret := backend_Block_Done.ret Q, rets := [.tmp 6, .tmp 7], n := 59 }

theorem backend_Block_Done.callsOK {W0 : World} {U : Ifc} (hU : IfcOK sg W0 glsT U) : CallsOK sg W0 (backend_Block_Done.calls U) := ⟨backend_Block_none.S, (ring_Ring_Push.S hU), (backend_tell.S hU), frames_Frames_Free.S, trivial⟩

def backend_Block_Done.k7 (I : (Option Ptr) → V → Ptr → Heap → Prop) (vs : List V) (h : Heap) : Prop :=
  match vs with
  | [.ptr a1, a2, .ptr (some a3)] => I a1 a2 a3 h
  | _ => False

theorem backend_Block_Done.p7 : (posC backend_Block_Done.code []).filter (fun p => Nat.beq p.1 7) = [(7, atPos (posC backend_Block_Done.code []) 7)] := by kernel_rfl

theorem backend_Block_Done.e7 : ∀ (U : Ifc)  (a1 : Option Ptr) (a2 : V) (a3 : Ptr) (Q : Bool → Int → Heap → Prop) (h : Heap), backend_Block_Done.j7 U  a1 a2 a3 Q h = pts (backend_Block_Done.E U Q []) 3000 true (atPos (posC backend_Block_Done.code []) 7) (frAt [0, 1, 8] [.ptr a1, a2, .ptr (some a3)]) h := by
  intros; kernel_rfl

theorem backend_Block_Done.s7 {W0 : World} {U : Ifc} (hU : IfcOK sg W0 glsT U) (Q : Bool → Int → Heap → Prop)   : CutOK sg W0 59 (entered 6) (Post sg W0 (backend_Block_Done.ret Q)) (posC backend_Block_Done.code []) 7 [0, 1, 8] (backend_Block_Done.k7 (fun a1 a2 a3 h => backend_Block_Done.j7 U  a1 a2 a3 Q h)) := by
  refine cutOK_head (fun vs h hk => ?_)
  unfold backend_Block_Done.k7 at hk
  split at hk
  · rename_i a1 a2 a3
    intro todo hm ρ a w s f hp
    exact piece (E := backend_Block_Done.E U Q []) (vs := [.ptr a1, a2, .ptr (some a3)]) (envOK seatOK (backend_Block_Done.callsOK hU) hU) (fnOK seatOK backend_Block_Done.fun) trivial backend_Block_Done.p7 (fuel := 3000) (by rw [← backend_Block_Done.e7]; exact hk) hm s f hp
  · exact hk.elim

theorem backend_Block_Done.e : ∀ (U : Ifc) (a1 : Option Ptr) (a2 : V) (a3 : Int) (Q : Bool → Int → Heap → Prop) (h : Heap), backend_Block_Done U a1 a2 a3 Q h = pts (backend_Block_Done.E U Q [(7, ([0, 1, 8], backend_Block_Done.k7 (fun a1 a2 a3 h => backend_Block_Done.j7 U  a1 a2 a3 Q h)))]) 3000 true [.code backend_Block_Done.code] (frOf 0 [.ptr a1, a2, .int .i64 a3]) h := by
  intros; kernel_rfl

theorem backend_Block_Done.S {W0 : World} {U : Ifc} (hU : IfcOK sg W0 glsT U) : FnS sg W0 276 (backend_Block_Done.C U) := by
  intro vs κ h wv hx w s
  unfold backend_Block_Done.C at hx
  split at hx
  · rename_i a1 a2 a3
    refine postImp (ret := backend_Block_Done.ret (fun r1 r2 h => κ (.tup [.bool r1, .int .i64 r2]) h)) (fun v h hr => by unfold backend_Block_Done.ret at hr; split at hr; exact hr; exact hr.elim) ?_
    exact calls_of_pts (E := backend_Block_Done.E U (fun r1 r2 h => κ (.tup [.bool r1, .int .i64 r2]) h) [(7, ([0, 1, 8], backend_Block_Done.k7 (fun a1 a2 a3 h => backend_Block_Done.j7 U  a1 a2 a3 (fun r1 r2 h => κ (.tup [.bool r1, .int .i64 r2]) h) h)))]) (envOK seatOK (backend_Block_Done.callsOK hU) hU) seatOK.mixed backend_Block_Done.fun (Nat.le_of_ble_eq_true rfl) wv (cutL_ok ⟨(backend_Block_Done.s7 hU (fun r1 r2 h => κ (.tup [.bool r1, .int .i64 r2]) h)), trivial⟩) s (fuel := 3000) (by rw [← backend_Block_Done.e]; exact hx)
  · exact hx.elim

noncomputable def backend_Block_Drop.code : Code := Go.Proofs.Try.f7.body.getD .skip

theorem backend_Block_Drop.fun : Fun sg.P 7 32 [] backend_Block_Drop.code := mkFun Go.Proofs.Try.func7 (by kernel_rfl) (by kernel_rfl) (by kernel_rfl) (by kernel_rfl)

def backend_Block_Drop.ret (Q : Heap → Prop) (v : V) (h : Heap) : Prop :=
  match v with
  | .tup [] => Q  h
  | _ => False

def backend_Block_Drop.C (vs : List V) (κ : V → Heap → Prop) (h : Heap) : Prop :=
  match vs with
  | [.ptr a1] => backend_Block_Drop a1 (fun  h => κ (.tup []) h) h
  | _ => False

noncomputable def backend_Block_Drop.calls : List (Nat × (List V → (V → Heap → Prop) → Heap → Prop)) := [(272, frames_Frames_Free.C)]

noncomputable def backend_Block_Drop.E (Q : Heap → Prop) (cuts : List (Nat × (List Nat × (List V → Heap → Prop)))) : Env := { tis := tisT, fns := fnsT, tys := tysT, gls := [], rts := rtsT, unk := [], nxt := [(13, (.one (.int .i64), .agg [(.int .i64), .sl, (.int .i64), .bool]))], calls := backend_Block_Drop.calls, ifc := noIfc, cuts := cuts, ret := backend_Block_Drop.ret Q, rets := [], n := 32 }

theorem backend_Block_Drop.callsOK {W0 : World} : CallsOK sg W0 backend_Block_Drop.calls := ⟨frames_Frames_Free.S, trivial⟩

def backend_Block_Drop.k2 (I : (Option Ptr) → Ptr → Heap → Prop) (vs : List V) (h : Heap) : Prop :=
  match vs with
  | [.ptr a1, .ptr (some a2)] => I a1 a2 h
  | _ => False

theorem backend_Block_Drop.p2 : (posC backend_Block_Drop.code []).filter (fun p => Nat.beq p.1 2) = [(2, atPos (posC backend_Block_Drop.code []) 2)] := by kernel_rfl

theorem backend_Block_Drop.e2 : ∀  (I2 : (Option Ptr) → Ptr → Heap → Prop) (a1 : Option Ptr) (a2 : Ptr) (Q : Heap → Prop) (h : Heap), backend_Block_Drop.b2  I2 a1 a2 Q h = pts (backend_Block_Drop.E Q [(2, ([0, 10], backend_Block_Drop.k2 I2))]) 3000 true (atPos (posC backend_Block_Drop.code []) 2) (frAt [0, 10] [.ptr a1, .ptr (some a2)]) h := by
  intros; kernel_rfl

theorem backend_Block_Drop.s2 {W0 : World} (Q : Heap → Prop)   : CutOK sg W0 32 (entered 7) (Post sg W0 (backend_Block_Drop.ret Q)) (posC backend_Block_Drop.code []) 2 [0, 10] (backend_Block_Drop.k2 (fun a1 a2 h => backend_Block_Drop.j2  a1 a2 Q h)) := by
  refine cutOK_head (fun vs h hk => ?_)
  unfold backend_Block_Drop.k2 at hk
  split at hk
  · rename_i a1 a2
    refine hk (fun a1 a2 h => Head sg W0 32 (entered 7) (Post sg W0 (backend_Block_Drop.ret Q)) (posC backend_Block_Drop.code []) 2 [0, 10] [.ptr a1, .ptr (some a2)] h) ?_
    intro a1 a2 h hb todo hm ρ a w s f hp
    have hself : CutOK sg W0 32 (entered 7) (Post sg W0 (backend_Block_Drop.ret Q)) (posC backend_Block_Drop.code []) 2 [0, 10] (backend_Block_Drop.k2 (fun a1 a2 h => Head sg W0 32 (entered 7) (Post sg W0 (backend_Block_Drop.ret Q)) (posC backend_Block_Drop.code []) 2 [0, 10] [.ptr a1, .ptr (some a2)] h)) := cutOK_head (fun vs h hk => by unfold backend_Block_Drop.k2 at hk; split at hk; exact hk; exact hk.elim)
    exact piece (E := backend_Block_Drop.E Q [(2, ([0, 10], backend_Block_Drop.k2 (fun a1 a2 h => Head sg W0 32 (entered 7) (Post sg W0 (backend_Block_Drop.ret Q)) (posC backend_Block_Drop.code []) 2 [0, 10] [.ptr a1, .ptr (some a2)] h)))]) (vs := [.ptr a1, .ptr (some a2)]) (envOK seatOK backend_Block_Drop.callsOK noIfc_ok) (fnOK seatOK backend_Block_Drop.fun) ⟨hself, trivial⟩ backend_Block_Drop.p2 (fuel := 3000) (by rw [← backend_Block_Drop.e2]; exact hb) hm s f hp
  · exact hk.elim

theorem backend_Block_Drop.e : ∀ (a1 : Option Ptr) (Q : Heap → Prop) (h : Heap), backend_Block_Drop a1 Q h = pts (backend_Block_Drop.E Q [(2, ([0, 10], backend_Block_Drop.k2 (fun a1 a2 h => backend_Block_Drop.j2  a1 a2 Q h)))]) 3000 true [.code backend_Block_Drop.code] (frOf 0 [.ptr a1]) h := by
  intros; kernel_rfl

theorem backend_Block_Drop.S {W0 : World} : FnS sg W0 277 backend_Block_Drop.C := by
  intro vs κ h wv hx w s
  unfold backend_Block_Drop.C at hx
  split at hx
  · rename_i a1
    refine postImp (ret := backend_Block_Drop.ret (fun  h => κ (.tup []) h)) (fun v h hr => by unfold backend_Block_Drop.ret at hr; split at hr; exact hr; exact hr.elim) ?_
    exact calls_of_pts (E := backend_Block_Drop.E (fun  h => κ (.tup []) h) [(2, ([0, 10], backend_Block_Drop.k2 (fun a1 a2 h => backend_Block_Drop.j2  a1 a2 (fun  h => κ (.tup []) h) h)))]) (envOK seatOK backend_Block_Drop.callsOK noIfc_ok) seatOK.mixed backend_Block_Drop.fun (Nat.le_of_ble_eq_true rfl) wv (cutL_ok ⟨(backend_Block_Drop.s2 (fun  h => κ (.tup []) h)), trivial⟩) s (fuel := 3000) (by rw [← backend_Block_Drop.e]; exact hx)
  · exact hx.elim

noncomputable def backend_Block_Waits.code : Code := Go.Proofs.Try.f8.body.getD .skip

theorem backend_Block_Waits.fun : Fun sg.P 8 10 [.tmp 2] backend_Block_Waits.code := mkFun Go.Proofs.Try.func8 (by kernel_rfl) (by kernel_rfl) (by kernel_rfl) (by kernel_rfl)

def backend_Block_Waits.ret (Q : Int → Heap → Prop) (v : V) (h : Heap) : Prop :=
  match v with
  | .int .i64 r1 => Q r1 h
  | _ => False

def backend_Block_Waits.C (vs : List V) (κ : V → Heap → Prop) (h : Heap) : Prop :=
  match vs with
  | [.ptr a1] => backend_Block_Waits a1 (fun r1 h => κ (.int .i64 r1) h) h
  | _ => False

noncomputable def backend_Block_Waits.calls : List (Nat × (List V → (V → Heap → Prop) → Heap → Prop)) := []

noncomputable def backend_Block_Waits.E (Q : Int → Heap → Prop) (cuts : List (Nat × (List Nat × (List V → Heap → Prop)))) : Env := { tis := tisT, fns := fnsT, tys := tysT, gls := [], rts := rtsT, unk := [], nxt := [], calls := backend_Block_Waits.calls, ifc := noIfc, cuts := cuts, ret := backend_Block_Waits.ret Q, rets := [.tmp 2], n := 10 }

theorem backend_Block_Waits.callsOK {W0 : World} : CallsOK sg W0 backend_Block_Waits.calls := trivial

theorem backend_Block_Waits.e : ∀ (a1 : Option Ptr) (Q : Int → Heap → Prop) (h : Heap), backend_Block_Waits a1 Q h = pts (backend_Block_Waits.E Q []) 3000 true [.code backend_Block_Waits.code] (frOf 0 [.ptr a1]) h := by
  intros; kernel_rfl

theorem backend_Block_Waits.S {W0 : World} : FnS sg W0 278 backend_Block_Waits.C := by
  intro vs κ h wv hx w s
  unfold backend_Block_Waits.C at hx
  split at hx
  · rename_i a1
    refine postImp (ret := backend_Block_Waits.ret (fun r1 h => κ (.int .i64 r1) h)) (fun v h hr => by unfold backend_Block_Waits.ret at hr; split at hr; exact hr; exact hr.elim) ?_
    exact calls_of_pts (E := backend_Block_Waits.E (fun r1 h => κ (.int .i64 r1) h) []) (envOK seatOK backend_Block_Waits.callsOK noIfc_ok) seatOK.mixed backend_Block_Waits.fun (Nat.le_of_ble_eq_true rfl) wv (cutL_ok trivial) s (fuel := 3000) (by rw [← backend_Block_Waits.e]; exact hx)
  · exact hx.elim

noncomputable def backend_Net_none.code : Code := Go.Proofs.Try.f26.body.getD .skip

theorem backend_Net_none.fun : Fun sg.P 26 18 [.tmp 4] backend_Net_none.code := mkFun Go.Proofs.Try.func26 (by kernel_rfl) (by kernel_rfl) (by kernel_rfl) (by kernel_rfl)

def backend_Net_none.ret (Q : Bool → Heap → Prop) (v : V) (h : Heap) : Prop :=
  match v with
  | .bool r1 => Q r1 h
  | _ => False

def backend_Net_none.C (vs : List V) (κ : V → Heap → Prop) (h : Heap) : Prop :=
  match vs with
  | [.ptr a1, a2] => backend_Net_none a1 a2 (fun r1 h => κ (.bool r1) h) h
  | _ => False

noncomputable def backend_Net_none.calls : List (Nat × (List V → (V → Heap → Prop) → Heap → Prop)) := []

noncomputable def backend_Net_none.E (Q : Bool → Heap → Prop) (cuts : List (Nat × (List Nat × (List V → Heap → Prop)))) : Env := { tis := tisT, fns := fnsT, tys := tysT, gls := [], rts := rtsT, unk := [], nxt := [], calls := backend_Net_none.calls, ifc := noIfc, cuts := cuts, ret := backend_Net_none.ret Q, rets := [.tmp 4], n := 18 }

theorem backend_Net_none.callsOK {W0 : World} : CallsOK sg W0 backend_Net_none.calls := trivial

theorem backend_Net_none.e : ∀ (a1 : Option Ptr) (a2 : V) (Q : Bool → Heap → Prop) (h : Heap), backend_Net_none a1 a2 Q h = pts (backend_Net_none.E Q []) 3000 true [.code backend_Net_none.code] (frOf 0 [.ptr a1, a2]) h := by
  intros; kernel_rfl

theorem backend_Net_none.S {W0 : World} : FnS sg W0 279 backend_Net_none.C := by
  intro vs κ h wv hx w s
  unfold backend_Net_none.C at hx
  split at hx
  · rename_i a1 a2
    refine postImp (ret := backend_Net_none.ret (fun r1 h => κ (.bool r1) h)) (fun v h hr => by unfold backend_Net_none.ret at hr; split at hr; exact hr; exact hr.elim) ?_
    exact calls_of_pts (E := backend_Net_none.E (fun r1 h => κ (.bool r1) h) []) (envOK seatOK backend_Net_none.callsOK noIfc_ok) seatOK.mixed backend_Net_none.fun (Nat.le_of_ble_eq_true rfl) wv (cutL_ok trivial) s (fuel := 3000) (by rw [← backend_Net_none.e]; exact hx)
  · exact hx.elim

noncomputable def backend_each.code : Code := Go.Proofs.Try.f27.body.getD .skip

theorem backend_each.fun : Fun sg.P 27 49 [.tmp 6, .tmp 7] backend_each.code := mkFun Go.Proofs.Try.func27 (by kernel_rfl) (by kernel_rfl) (by kernel_rfl) (by kernel_rfl)

def backend_each.ret (Q : Int → Int → Heap → Prop) (v : V) (h : Heap) : Prop :=
  match v with
  | .tup [.int .i64 r1, .int .i64 r2] => Q r1 r2 h
  | _ => False

def backend_each.C (U : Ifc) (vs : List V) (κ : V → Heap → Prop) (h : Heap) : Prop :=
  match vs with
  | [a1, .ptr a2, a3] => backend_each U a1 a2 a3 (fun r1 r2 h => κ (.tup [.int .i64 r1, .int .i64 r2]) h) h
  | _ => False

noncomputable def backend_each.calls (U : Ifc) : List (Nat × (List V → (V → Heap → Prop) → Heap → Prop)) := [(77, ring_Ring_Next.C U), (78, ring_Ring_Push.C U)]

noncomputable def backend_each.E (U : Ifc) (Q : Int → Int → Heap → Prop) (cuts : List (Nat × (List Nat × (List V → Heap → Prop)))) : Env := { tis := tisT, fns := fnsT, tys := tysT, gls := glsT, rts := rtsT, unk := [33], nxt := [], calls := backend_each.calls U, ifc := U, cuts := cuts, ret := backend_each.ret Q, rets := [.tmp 6, .tmp 7], n := 49 }

theorem backend_each.callsOK {W0 : World} {U : Ifc} (hU : IfcOK sg W0 glsT U) : CallsOK sg W0 (backend_each.calls U) := ⟨(ring_Ring_Next.S hU), (ring_Ring_Push.S hU), trivial⟩

def backend_each.k5 (I : Int → Int → Heap → Prop) (vs : List V) (h : Heap) : Prop :=
  match vs with
  | [.int .i64 a1, .int .i64 a2] => I a1 a2 h
  | _ => False

def backend_each.k2 (I : V → (Option Ptr) → V → Int → Heap → Prop) (vs : List V) (h : Heap) : Prop :=
  match vs with
  | [a1, .ptr a2, a3, .int .i64 a4] => I a1 a2 a3 a4 h
  | _ => False

def backend_each.k8 (I : V → (Option Ptr) → V → Int → Ptr → Heap → Prop) (vs : List V) (h : Heap) : Prop :=
  match vs with
  | [a1, .ptr a2, a3, .int .i64 a4, .ptr (some a5)] => I a1 a2 a3 a4 a5 h
  | _ => False

def backend_each.k3 (I : V → (Option Ptr) → V → Int → Heap → Prop) (vs : List V) (h : Heap) : Prop :=
  match vs with
  | [a1, .ptr a2, a3, .int .i64 a4] => I a1 a2 a3 a4 h
  | _ => False

theorem backend_each.p5 : (posC backend_each.code []).filter (fun p => Nat.beq p.1 5) = [(5, atPos (posC backend_each.code []) 5)] := by kernel_rfl

theorem backend_each.e5 : ∀ (U : Ifc) (I3 : V → (Option Ptr) → V → Int → Heap → Prop) (a1 : Int) (a2 : Int) (Q : Int → Int → Heap → Prop) (h : Heap), backend_each.j5 U I3 a1 a2 Q h = pts (backend_each.E U Q []) 3000 true (atPos (posC backend_each.code []) 5) (frAt [8, 11] [.int .i64 a1, .int .i64 a2]) h := by
  intros; kernel_rfl

theorem backend_each.s5 {W0 : World} {U : Ifc} (hU : IfcOK sg W0 glsT U) (Q : Int → Int → Heap → Prop) (I3 : V → (Option Ptr) → V → Int → Heap → Prop) (h3 : CutOK sg W0 49 (entered 27) (Post sg W0 (backend_each.ret Q)) (posC backend_each.code []) 3 [0, 1, 2, 8] (backend_each.k3 I3)) : CutOK sg W0 49 (entered 27) (Post sg W0 (backend_each.ret Q)) (posC backend_each.code []) 5 [8, 11] (backend_each.k5 (fun a1 a2 h => backend_each.j5 U I3 a1 a2 Q h)) := by
  refine cutOK_head (fun vs h hk => ?_)
  unfold backend_each.k5 at hk
  split at hk
  · rename_i a1 a2
    intro todo hm ρ a w s f hp
    exact piece (E := backend_each.E U Q []) (vs := [.int .i64 a1, .int .i64 a2]) (envOK seatOK (backend_each.callsOK hU) hU) (fnOK seatOK backend_each.fun) trivial backend_each.p5 (fuel := 3000) (by rw [← backend_each.e5]; exact hk) hm s f hp
  · exact hk.elim

theorem backend_each.p2 : (posC backend_each.code []).filter (fun p => Nat.beq p.1 2) = [(2, atPos (posC backend_each.code []) 2)] := by kernel_rfl

theorem backend_each.e2 : ∀ (U : Ifc) (I3 : V → (Option Ptr) → V → Int → Heap → Prop) (a1 : V) (a2 : Option Ptr) (a3 : V) (a4 : Int) (Q : Int → Int → Heap → Prop) (h : Heap), backend_each.j2 U I3 a1 a2 a3 a4 Q h = pts (backend_each.E U Q [(3, ([0, 1, 2, 8], backend_each.k3 I3))]) 3000 true (atPos (posC backend_each.code []) 2) (frAt [0, 1, 2, 8] [a1, .ptr a2, a3, .int .i64 a4]) h := by
  intros; kernel_rfl

theorem backend_each.s2 {W0 : World} {U : Ifc} (hU : IfcOK sg W0 glsT U) (Q : Int → Int → Heap → Prop) (I3 : V → (Option Ptr) → V → Int → Heap → Prop) (h3 : CutOK sg W0 49 (entered 27) (Post sg W0 (backend_each.ret Q)) (posC backend_each.code []) 3 [0, 1, 2, 8] (backend_each.k3 I3)) : CutOK sg W0 49 (entered 27) (Post sg W0 (backend_each.ret Q)) (posC backend_each.code []) 2 [0, 1, 2, 8] (backend_each.k2 (fun a1 a2 a3 a4 h => backend_each.j2 U I3 a1 a2 a3 a4 Q h)) := by
  refine cutOK_head (fun vs h hk => ?_)
  unfold backend_each.k2 at hk
  split at hk
  · rename_i a1 a2 a3 a4
    intro todo hm ρ a w s f hp
    exact piece (E := backend_each.E U Q [(3, ([0, 1, 2, 8], backend_each.k3 I3))]) (vs := [a1, .ptr a2, a3, .int .i64 a4]) (envOK seatOK (backend_each.callsOK hU) hU) (fnOK seatOK backend_each.fun) ⟨h3, trivial⟩ backend_each.p2 (fuel := 3000) (by rw [← backend_each.e2]; exact hk) hm s f hp
  · exact hk.elim

theorem backend_each.p8 : (posC backend_each.code []).filter (fun p => Nat.beq p.1 8) = [(8, atPos (posC backend_each.code []) 8)] := by kernel_rfl

theorem backend_each.e8 : ∀ (U : Ifc) (I3 : V → (Option Ptr) → V → Int → Heap → Prop) (a1 : V) (a2 : Option Ptr) (a3 : V) (a4 : Int) (a5 : Ptr) (Q : Int → Int → Heap → Prop) (h : Heap), backend_each.j8 U I3 a1 a2 a3 a4 a5 Q h = pts (backend_each.E U Q [(2, ([0, 1, 2, 8], backend_each.k2 (fun a1 a2 a3 a4 h => backend_each.j2 U I3 a1 a2 a3 a4 Q h)))]) 3000 true (atPos (posC backend_each.code []) 8) (frAt [0, 1, 2, 8, 12] [a1, .ptr a2, a3, .int .i64 a4, .ptr (some a5)]) h := by
  intros; kernel_rfl

theorem backend_each.s8 {W0 : World} {U : Ifc} (hU : IfcOK sg W0 glsT U) (Q : Int → Int → Heap → Prop) (I3 : V → (Option Ptr) → V → Int → Heap → Prop) (h3 : CutOK sg W0 49 (entered 27) (Post sg W0 (backend_each.ret Q)) (posC backend_each.code []) 3 [0, 1, 2, 8] (backend_each.k3 I3)) : CutOK sg W0 49 (entered 27) (Post sg W0 (backend_each.ret Q)) (posC backend_each.code []) 8 [0, 1, 2, 8, 12] (backend_each.k8 (fun a1 a2 a3 a4 a5 h => backend_each.j8 U I3 a1 a2 a3 a4 a5 Q h)) := by
  refine cutOK_head (fun vs h hk => ?_)
  unfold backend_each.k8 at hk
  split at hk
  · rename_i a1 a2 a3 a4 a5
    intro todo hm ρ a w s f hp
    exact piece (E := backend_each.E U Q [(2, ([0, 1, 2, 8], backend_each.k2 (fun a1 a2 a3 a4 h => backend_each.j2 U I3 a1 a2 a3 a4 Q h)))]) (vs := [a1, .ptr a2, a3, .int .i64 a4, .ptr (some a5)]) (envOK seatOK (backend_each.callsOK hU) hU) (fnOK seatOK backend_each.fun) ⟨(backend_each.s2 hU Q I3 h3), trivial⟩ backend_each.p8 (fuel := 3000) (by rw [← backend_each.e8]; exact hk) hm s f hp
  · exact hk.elim

theorem backend_each.p3 : (posC backend_each.code []).filter (fun p => Nat.beq p.1 3) = [(3, atPos (posC backend_each.code []) 3)] := by kernel_rfl

theorem backend_each.e3 : ∀ (U : Ifc)  (I3 : V → (Option Ptr) → V → Int → Heap → Prop) (a1 : V) (a2 : Option Ptr) (a3 : V) (a4 : Int) (Q : Int → Int → Heap → Prop) (h : Heap), backend_each.b3 U  I3 a1 a2 a3 a4 Q h = pts (backend_each.E U Q [(5, ([8, 11], backend_each.k5 (fun a1 a2 h => backend_each.j5 U I3 a1 a2 Q h))), (8, ([0, 1, 2, 8, 12], backend_each.k8 (fun a1 a2 a3 a4 a5 h => backend_each.j8 U I3 a1 a2 a3 a4 a5 Q h)))]) 3000 true (atPos (posC backend_each.code []) 3) (frAt [0, 1, 2, 8] [a1, .ptr a2, a3, .int .i64 a4]) h := by
  intros; kernel_rfl

theorem backend_each.s3 {W0 : World} {U : Ifc} (hU : IfcOK sg W0 glsT U) (Q : Int → Int → Heap → Prop)   : CutOK sg W0 49 (entered 27) (Post sg W0 (backend_each.ret Q)) (posC backend_each.code []) 3 [0, 1, 2, 8] (backend_each.k3 (fun a1 a2 a3 a4 h => backend_each.j3 U  a1 a2 a3 a4 Q h)) := by
  refine cutOK_head (fun vs h hk => ?_)
  unfold backend_each.k3 at hk
  split at hk
  · rename_i a1 a2 a3 a4
    refine hk (fun a1 a2 a3 a4 h => Head sg W0 49 (entered 27) (Post sg W0 (backend_each.ret Q)) (posC backend_each.code []) 3 [0, 1, 2, 8] [a1, .ptr a2, a3, .int .i64 a4] h) ?_
    intro a1 a2 a3 a4 h hb todo hm ρ a w s f hp
    have hself : CutOK sg W0 49 (entered 27) (Post sg W0 (backend_each.ret Q)) (posC backend_each.code []) 3 [0, 1, 2, 8] (backend_each.k3 (fun a1 a2 a3 a4 h => Head sg W0 49 (entered 27) (Post sg W0 (backend_each.ret Q)) (posC backend_each.code []) 3 [0, 1, 2, 8] [a1, .ptr a2, a3, .int .i64 a4] h)) := cutOK_head (fun vs h hk => by unfold backend_each.k3 at hk; split at hk; exact hk; exact hk.elim)
    exact piece (E := backend_each.E U Q [(5, ([8, 11], backend_each.k5 (fun a1 a2 h => backend_each.j5 U (fun a1 a2 a3 a4 h => Head sg W0 49 (entered 27) (Post sg W0 (backend_each.ret Q)) (posC backend_each.code []) 3 [0, 1, 2, 8] [a1, .ptr a2, a3, .int .i64 a4] h) a1 a2 Q h))), (8, ([0, 1, 2, 8, 12], backend_each.k8 (fun a1 a2 a3 a4 a5 h => backend_each.j8 U (fun a1 a2 a3 a4 h => Head sg W0 49 (entered 27) (Post sg W0 (backend_each.ret Q)) (posC backend_each.code []) 3 [0, 1, 2, 8] [a1, .ptr a2, a3, .int .i64 a4] h) a1 a2 a3 a4 a5 Q h)))]) (vs := [a1, .ptr a2, a3, .int .i64 a4]) (envOK seatOK (backend_each.callsOK hU) hU) (fnOK seatOK backend_each.fun) ⟨(backend_each.s5 hU Q (fun a1 a2 a3 a4 h => Head sg W0 49 (entered 27) (Post sg W0 (backend_each.ret Q)) (posC backend_each.code []) 3 [0, 1, 2, 8] [a1, .ptr a2, a3, .int .i64 a4] h) hself), (backend_each.s8 hU Q (fun a1 a2 a3 a4 h => Head sg W0 49 (entered 27) (Post sg W0 (backend_each.ret Q)) (posC backend_each.code []) 3 [0, 1, 2, 8] [a1, .ptr a2, a3, .int .i64 a4] h) hself), trivial⟩ backend_each.p3 (fuel := 3000) (by rw [← backend_each.e3]; exact hb) hm s f hp
  · exact hk.elim

theorem backend_each.e : ∀ (U : Ifc) (a1 : V) (a2 : Option Ptr) (a3 : V) (Q : Int → Int → Heap → Prop) (h : Heap), backend_each U a1 a2 a3 Q h = pts (backend_each.E U Q [(3, ([0, 1, 2, 8], backend_each.k3 (fun a1 a2 a3 a4 h => backend_each.j3 U  a1 a2 a3 a4 Q h)))]) 3000 true [.code backend_each.code] (frOf 0 [a1, .ptr a2, a3]) h := by
  intros; kernel_rfl

theorem backend_each.S {W0 : World} {U : Ifc} (hU : IfcOK sg W0 glsT U) : FnS sg W0 280 (backend_each.C U) := by
  intro vs κ h wv hx w s
  unfold backend_each.C at hx
  split at hx
  · rename_i a1 a2 a3
    refine postImp (ret := backend_each.ret (fun r1 r2 h => κ (.tup [.int .i64 r1, .int .i64 r2]) h)) (fun v h hr => by unfold backend_each.ret at hr; split at hr; exact hr; exact hr.elim) ?_
    exact calls_of_pts (E := backend_each.E U (fun r1 r2 h => κ (.tup [.int .i64 r1, .int .i64 r2]) h) [(3, ([0, 1, 2, 8], backend_each.k3 (fun a1 a2 a3 a4 h => backend_each.j3 U  a1 a2 a3 a4 (fun r1 r2 h => κ (.tup [.int .i64 r1, .int .i64 r2]) h) h)))]) (envOK seatOK (backend_each.callsOK hU) hU) seatOK.mixed backend_each.fun (Nat.le_of_ble_eq_true rfl) wv (cutL_ok ⟨(backend_each.s3 hU (fun r1 r2 h => κ (.tup [.int .i64 r1, .int .i64 r2]) h)), trivial⟩) s (fuel := 3000) (by rw [← backend_each.e]; exact hx)
  · exact hx.elim

noncomputable def backend_Net_Kick.code : Code := Go.Proofs.Try.f9.body.getD .skip

theorem backend_Net_Kick.fun : Fun sg.P 9 18 [.tmp 4, .tmp 5] backend_Net_Kick.code := mkFun Go.Proofs.Try.func9 (by kernel_rfl) (by kernel_rfl) (by kernel_rfl) (by kernel_rfl)

def backend_Net_Kick.ret (Q : Int → Int → Heap → Prop) (v : V) (h : Heap) : Prop :=
  match v with
  | .tup [.int .i64 r1, .int .i64 r2] => Q r1 r2 h
  | _ => False

def backend_Net_Kick.C (U : Ifc) (vs : List V) (κ : V → Heap → Prop) (h : Heap) : Prop :=
  match vs with
  | [.ptr a1, a2] => backend_Net_Kick U a1 a2 (fun r1 r2 h => κ (.tup [.int .i64 r1, .int .i64 r2]) h) h
  | _ => False

noncomputable def backend_Net_Kick.calls (U : Ifc) : List (Nat × (List V → (V → Heap → Prop) → Heap → Prop)) := [(279, backend_Net_none.C), (280, backend_each.C U)]

noncomputable def backend_Net_Kick.E (U : Ifc) (Q : Int → Int → Heap → Prop) (cuts : List (Nat × (List Nat × (List V → Heap → Prop)))) : Env := { tis := tisT, fns := fnsT, tys := tysT, gls := glsT, rts := rtsT, unk := [], nxt := [], calls := backend_Net_Kick.calls U, ifc := U, cuts := cuts, ret := backend_Net_Kick.ret Q, rets := [.tmp 4, .tmp 5], n := 18 }

theorem backend_Net_Kick.callsOK {W0 : World} {U : Ifc} (hU : IfcOK sg W0 glsT U) : CallsOK sg W0 (backend_Net_Kick.calls U) := ⟨backend_Net_none.S, (backend_each.S hU), trivial⟩

theorem backend_Net_Kick.e : ∀ (U : Ifc) (a1 : Option Ptr) (a2 : V) (Q : Int → Int → Heap → Prop) (h : Heap), backend_Net_Kick U a1 a2 Q h = pts (backend_Net_Kick.E U Q []) 3000 true [.code backend_Net_Kick.code] (frOf 0 [.ptr a1, a2]) h := by
  intros; kernel_rfl

theorem backend_Net_Kick.S {W0 : World} {U : Ifc} (hU : IfcOK sg W0 glsT U) : FnS sg W0 281 (backend_Net_Kick.C U) := by
  intro vs κ h wv hx w s
  unfold backend_Net_Kick.C at hx
  split at hx
  · rename_i a1 a2
    refine postImp (ret := backend_Net_Kick.ret (fun r1 r2 h => κ (.tup [.int .i64 r1, .int .i64 r2]) h)) (fun v h hr => by unfold backend_Net_Kick.ret at hr; split at hr; exact hr; exact hr.elim) ?_
    exact calls_of_pts (E := backend_Net_Kick.E U (fun r1 r2 h => κ (.tup [.int .i64 r1, .int .i64 r2]) h) []) (envOK seatOK (backend_Net_Kick.callsOK hU) hU) seatOK.mixed backend_Net_Kick.fun (Nat.le_of_ble_eq_true rfl) wv (cutL_ok trivial) s (fuel := 3000) (by rw [← backend_Net_Kick.e]; exact hx)
  · exact hx.elim

noncomputable def wire_Wire_wrong.code : Code := Go.Proofs.Try.f49.body.getD .skip

theorem wire_Wire_wrong.fun : Fun sg.P 49 27 [.tmp 4] wire_Wire_wrong.code := mkFun Go.Proofs.Try.func49 (by kernel_rfl) (by kernel_rfl) (by kernel_rfl) (by kernel_rfl)

def wire_Wire_wrong.ret (Q : Int → Heap → Prop) (v : V) (h : Heap) : Prop :=
  match v with
  | .int .i64 r1 => Q r1 h
  | _ => False

def wire_Wire_wrong.C (vs : List V) (κ : V → Heap → Prop) (h : Heap) : Prop :=
  match vs with
  | [.ptr a1, .int .i64 a2] => wire_Wire_wrong a1 a2 (fun r1 h => κ (.int .i64 r1) h) h
  | _ => False

noncomputable def wire_Wire_wrong.calls : List (Nat × (List V → (V → Heap → Prop) → Heap → Prop)) := []

noncomputable def wire_Wire_wrong.E (Q : Int → Heap → Prop) (cuts : List (Nat × (List Nat × (List V → Heap → Prop)))) : Env := { tis := tisT, fns := fnsT, tys := tysT, gls := [], rts := rtsT, unk := [], nxt := [], calls := wire_Wire_wrong.calls, ifc := noIfc, cuts := cuts, ret := wire_Wire_wrong.ret Q, rets := [.tmp 4], n := 27 }

theorem wire_Wire_wrong.callsOK {W0 : World} : CallsOK sg W0 wire_Wire_wrong.calls := trivial

theorem wire_Wire_wrong.e : ∀ (a1 : Option Ptr) (a2 : Int) (Q : Int → Heap → Prop) (h : Heap), wire_Wire_wrong a1 a2 Q h = pts (wire_Wire_wrong.E Q []) 3000 true [.code wire_Wire_wrong.code] (frOf 0 [.ptr a1, .int .i64 a2]) h := by
  intros; kernel_rfl

theorem wire_Wire_wrong.S {W0 : World} : FnS sg W0 282 wire_Wire_wrong.C := by
  intro vs κ h wv hx w s
  unfold wire_Wire_wrong.C at hx
  split at hx
  · rename_i a1 a2
    refine postImp (ret := wire_Wire_wrong.ret (fun r1 h => κ (.int .i64 r1) h)) (fun v h hr => by unfold wire_Wire_wrong.ret at hr; split at hr; exact hr; exact hr.elim) ?_
    exact calls_of_pts (E := wire_Wire_wrong.E (fun r1 h => κ (.int .i64 r1) h) []) (envOK seatOK wire_Wire_wrong.callsOK noIfc_ok) seatOK.mixed wire_Wire_wrong.fun (Nat.le_of_ble_eq_true rfl) wv (cutL_ok trivial) s (fuel := 3000) (by rw [← wire_Wire_wrong.e]; exact hx)
  · exact hx.elim

noncomputable def backend_Net_Poll.code : Code := Go.Proofs.Try.f10.body.getD .skip

theorem backend_Net_Poll.fun : Fun sg.P 10 83 [.tmp 4, .tmp 5] backend_Net_Poll.code := mkFun Go.Proofs.Try.func10 (by kernel_rfl) (by kernel_rfl) (by kernel_rfl) (by kernel_rfl)

def backend_Net_Poll.ret (Q : Int → Int → Heap → Prop) (v : V) (h : Heap) : Prop :=
  match v with
  | .tup [.int .i64 r1, .int .i64 r2] => Q r1 r2 h
  | _ => False

def backend_Net_Poll.C (vs : List V) (κ : V → Heap → Prop) (h : Heap) : Prop :=
  match vs with
  | [.ptr a1, a2] => backend_Net_Poll a1 a2 (fun r1 r2 h => κ (.tup [.int .i64 r1, .int .i64 r2]) h) h
  | _ => False

noncomputable def backend_Net_Poll.calls : List (Nat × (List V → (V → Heap → Prop) → Heap → Prop)) := [(279, backend_Net_none.C)]

noncomputable def backend_Net_Poll.E (Q : Int → Int → Heap → Prop) (cuts : List (Nat × (List Nat × (List V → Heap → Prop)))) : Env := { tis := tisT, fns := fnsT, tys := tysT, gls := [], rts := rtsT, unk := [], nxt := [], calls := backend_Net_Poll.calls, ifc := noIfc, cuts := cuts, ret := backend_Net_Poll.ret Q, rets := [.tmp 4, .tmp 5], n := 83 }

theorem backend_Net_Poll.callsOK {W0 : World} : CallsOK sg W0 backend_Net_Poll.calls := ⟨backend_Net_none.S, trivial⟩

def backend_Net_Poll.k4 (I : (Option Ptr) → V → Int → Heap → Prop) (vs : List V) (h : Heap) : Prop :=
  match vs with
  | [.ptr a1, a2, .int .i64 a3] => I a1 a2 a3 h
  | _ => False

theorem backend_Net_Poll.p4 : (posC backend_Net_Poll.code []).filter (fun p => Nat.beq p.1 4) = [(4, atPos (posC backend_Net_Poll.code []) 4)] := by kernel_rfl

theorem backend_Net_Poll.e4 : ∀  (I4 : (Option Ptr) → V → Int → Heap → Prop) (a1 : Option Ptr) (a2 : V) (a3 : Int) (Q : Int → Int → Heap → Prop) (h : Heap), backend_Net_Poll.b4  I4 a1 a2 a3 Q h = pts (backend_Net_Poll.E Q []) 3000 true (atPos (posC backend_Net_Poll.code []) 4) (frAt [0, 1, 6] [.ptr a1, a2, .int .i64 a3]) h := by
  intros; kernel_rfl

theorem backend_Net_Poll.s4 {W0 : World} (Q : Int → Int → Heap → Prop)   : CutOK sg W0 83 (entered 10) (Post sg W0 (backend_Net_Poll.ret Q)) (posC backend_Net_Poll.code []) 4 [0, 1, 6] (backend_Net_Poll.k4 (fun a1 a2 a3 h => backend_Net_Poll.j4  a1 a2 a3 Q h)) := by
  refine cutOK_head (fun vs h hk => ?_)
  unfold backend_Net_Poll.k4 at hk
  split at hk
  · rename_i a1 a2 a3
    refine hk (fun a1 a2 a3 h => Head sg W0 83 (entered 10) (Post sg W0 (backend_Net_Poll.ret Q)) (posC backend_Net_Poll.code []) 4 [0, 1, 6] [.ptr a1, a2, .int .i64 a3] h) ?_
    intro a1 a2 a3 h hb todo hm ρ a w s f hp
    have hself : CutOK sg W0 83 (entered 10) (Post sg W0 (backend_Net_Poll.ret Q)) (posC backend_Net_Poll.code []) 4 [0, 1, 6] (backend_Net_Poll.k4 (fun a1 a2 a3 h => Head sg W0 83 (entered 10) (Post sg W0 (backend_Net_Poll.ret Q)) (posC backend_Net_Poll.code []) 4 [0, 1, 6] [.ptr a1, a2, .int .i64 a3] h)) := cutOK_head (fun vs h hk => by unfold backend_Net_Poll.k4 at hk; split at hk; exact hk; exact hk.elim)
    exact piece (E := backend_Net_Poll.E Q []) (vs := [.ptr a1, a2, .int .i64 a3]) (envOK seatOK backend_Net_Poll.callsOK noIfc_ok) (fnOK seatOK backend_Net_Poll.fun) trivial backend_Net_Poll.p4 (fuel := 3000) (by rw [← backend_Net_Poll.e4]; exact hb) hm s f hp
  · exact hk.elim

theorem backend_Net_Poll.e : ∀ (a1 : Option Ptr) (a2 : V) (Q : Int → Int → Heap → Prop) (h : Heap), backend_Net_Poll a1 a2 Q h = pts (backend_Net_Poll.E Q [(4, ([0, 1, 6], backend_Net_Poll.k4 (fun a1 a2 a3 h => backend_Net_Poll.j4  a1 a2 a3 Q h)))]) 3000 true [.code backend_Net_Poll.code] (frOf 0 [.ptr a1, a2]) h := by
  intros; kernel_rfl

theorem backend_Net_Poll.S {W0 : World} : FnS sg W0 283 backend_Net_Poll.C := by
  intro vs κ h wv hx w s
  unfold backend_Net_Poll.C at hx
  split at hx
  · rename_i a1 a2
    refine postImp (ret := backend_Net_Poll.ret (fun r1 r2 h => κ (.tup [.int .i64 r1, .int .i64 r2]) h)) (fun v h hr => by unfold backend_Net_Poll.ret at hr; split at hr; exact hr; exact hr.elim) ?_
    exact calls_of_pts (E := backend_Net_Poll.E (fun r1 r2 h => κ (.tup [.int .i64 r1, .int .i64 r2]) h) [(4, ([0, 1, 6], backend_Net_Poll.k4 (fun a1 a2 a3 h => backend_Net_Poll.j4  a1 a2 a3 (fun r1 r2 h => κ (.tup [.int .i64 r1, .int .i64 r2]) h) h)))]) (envOK seatOK backend_Net_Poll.callsOK noIfc_ok) seatOK.mixed backend_Net_Poll.fun (Nat.le_of_ble_eq_true rfl) wv (cutL_ok ⟨(backend_Net_Poll.s4 (fun r1 r2 h => κ (.tup [.int .i64 r1, .int .i64 r2]) h)), trivial⟩) s (fuel := 3000) (by rw [← backend_Net_Poll.e]; exact hx)
  · exact hx.elim

noncomputable def backend_Tty_Kick.code : Code := Go.Proofs.Try.f11.body.getD .skip

theorem backend_Tty_Kick.fun : Fun sg.P 11 28 [.tmp 4, .tmp 5] backend_Tty_Kick.code := mkFun Go.Proofs.Try.func11 (by kernel_rfl) (by kernel_rfl) (by kernel_rfl) (by kernel_rfl)

def backend_Tty_Kick.ret (Q : Int → Int → Heap → Prop) (v : V) (h : Heap) : Prop :=
  match v with
  | .tup [.int .i64 r1, .int .i64 r2] => Q r1 r2 h
  | _ => False

def backend_Tty_Kick.C (U : Ifc) (vs : List V) (κ : V → Heap → Prop) (h : Heap) : Prop :=
  match vs with
  | [.ptr a1, a2] => backend_Tty_Kick U a1 a2 (fun r1 r2 h => κ (.tup [.int .i64 r1, .int .i64 r2]) h) h
  | _ => False

noncomputable def backend_Tty_Kick.calls (U : Ifc) : List (Nat × (List V → (V → Heap → Prop) → Heap → Prop)) := [(280, backend_each.C U)]

noncomputable def backend_Tty_Kick.E (U : Ifc) (Q : Int → Int → Heap → Prop) (cuts : List (Nat × (List Nat × (List V → Heap → Prop)))) : Env := { tis := tisT, fns := fnsT, tys := tysT, gls := glsT, rts := rtsT, unk := [], nxt := [], calls := backend_Tty_Kick.calls U, ifc := U, cuts := cuts, ret := backend_Tty_Kick.ret Q, rets := [.tmp 4, .tmp 5], n := 28 }

theorem backend_Tty_Kick.callsOK {W0 : World} {U : Ifc} (hU : IfcOK sg W0 glsT U) : CallsOK sg W0 (backend_Tty_Kick.calls U) := ⟨(backend_each.S hU), trivial⟩

theorem backend_Tty_Kick.e : ∀ (U : Ifc) (a1 : Option Ptr) (a2 : V) (Q : Int → Int → Heap → Prop) (h : Heap), backend_Tty_Kick U a1 a2 Q h = pts (backend_Tty_Kick.E U Q []) 3000 true [.code backend_Tty_Kick.code] (frOf 0 [.ptr a1, a2]) h := by
  intros; kernel_rfl

theorem backend_Tty_Kick.S {W0 : World} {U : Ifc} (hU : IfcOK sg W0 glsT U) : FnS sg W0 284 (backend_Tty_Kick.C U) := by
  intro vs κ h wv hx w s
  unfold backend_Tty_Kick.C at hx
  split at hx
  · rename_i a1 a2
    refine postImp (ret := backend_Tty_Kick.ret (fun r1 r2 h => κ (.tup [.int .i64 r1, .int .i64 r2]) h)) (fun v h hr => by unfold backend_Tty_Kick.ret at hr; split at hr; exact hr; exact hr.elim) ?_
    exact calls_of_pts (E := backend_Tty_Kick.E U (fun r1 r2 h => κ (.tup [.int .i64 r1, .int .i64 r2]) h) []) (envOK seatOK (backend_Tty_Kick.callsOK hU) hU) seatOK.mixed backend_Tty_Kick.fun (Nat.le_of_ble_eq_true rfl) wv (cutL_ok trivial) s (fuel := 3000) (by rw [← backend_Tty_Kick.e]; exact hx)
  · exact hx.elim

noncomputable def backend_NewTty.code : Code := Go.Proofs.Try.f13.body.getD .skip

theorem backend_NewTty.fun : Fun sg.P 13 16 [.tmp 4, .tmp 5] backend_NewTty.code := mkFun Go.Proofs.Try.func13 (by kernel_rfl) (by kernel_rfl) (by kernel_rfl) (by kernel_rfl)

def backend_NewTty.ret (Q : (Option Ptr) → Int → Heap → Prop) (v : V) (h : Heap) : Prop :=
  match v with
  | .tup [.ptr r1, .int .i64 r2] => Q r1 r2 h
  | _ => False

def backend_NewTty.C (vs : List V) (κ : V → Heap → Prop) (h : Heap) : Prop :=
  match vs with
  | [.ptr a1, .ptr a2] => backend_NewTty a1 a2 (fun r1 r2 h => κ (.tup [.ptr r1, .int .i64 r2]) h) h
  | _ => False

noncomputable def backend_NewTty.calls : List (Nat × (List V → (V → Heap → Prop) → Heap → Prop)) := []

noncomputable def backend_NewTty.E (Q : (Option Ptr) → Int → Heap → Prop) (cuts : List (Nat × (List Nat × (List V → Heap → Prop)))) : Env := { tis := tisT, fns := fnsT, tys := tysT, gls := [], rts := rtsT, unk := [], nxt := [], calls := backend_NewTty.calls, ifc := noIfc, cuts := cuts, ret := backend_NewTty.ret Q, rets := [.tmp 4, .tmp 5], n := 16 }

theorem backend_NewTty.callsOK {W0 : World} : CallsOK sg W0 backend_NewTty.calls := trivial

theorem backend_NewTty.e : ∀ (a1 : Option Ptr) (a2 : Option Ptr) (Q : (Option Ptr) → Int → Heap → Prop) (h : Heap), backend_NewTty a1 a2 Q h = pts (backend_NewTty.E Q []) 3000 true [.code backend_NewTty.code] (frOf 0 [.ptr a1, .ptr a2]) h := by
  intros; kernel_rfl

theorem backend_NewTty.S {W0 : World} : FnS sg W0 285 backend_NewTty.C := by
  intro vs κ h wv hx w s
  unfold backend_NewTty.C at hx
  split at hx
  · rename_i a1 a2
    refine postImp (ret := backend_NewTty.ret (fun r1 r2 h => κ (.tup [.ptr r1, .int .i64 r2]) h)) (fun v h hr => by unfold backend_NewTty.ret at hr; split at hr; exact hr; exact hr.elim) ?_
    exact calls_of_pts (E := backend_NewTty.E (fun r1 r2 h => κ (.tup [.ptr r1, .int .i64 r2]) h) []) (envOK seatOK backend_NewTty.callsOK noIfc_ok) seatOK.mixed backend_NewTty.fun (Nat.le_of_ble_eq_true rfl) wv (cutL_ok trivial) s (fuel := 3000) (by rw [← backend_NewTty.e]; exact hx)
  · exact hx.elim

noncomputable def palisadelaw24_BackendNobody.code : Code := Go.Proofs.Try.f3.body.getD .skip

theorem palisadelaw24_BackendNobody.fun : Fun sg.P 3 231 [.tmp 2] palisadelaw24_BackendNobody.code := mkFun Go.Proofs.Try.func3 (by kernel_rfl) (by kernel_rfl) (by kernel_rfl) (by kernel_rfl)

def palisadelaw24_BackendNobody.ret (Q : Bool → Heap → Prop) (v : V) (h : Heap) : Prop :=
  match v with
  | .bool r1 => Q r1 h
  | _ => False

def palisadelaw24_BackendNobody.C (U : Ifc) (vs : List V) (κ : V → Heap → Prop) (h : Heap) : Prop :=
  match vs with
  | [.int .i64 a1] => palisadelaw24_BackendNobody U a1 (fun r1 h => κ (.bool r1) h) h
  | _ => False

noncomputable def palisadelaw24_BackendNobody.calls (U : Ifc) : List (Nat × (List V → (V → Heap → Prop) → Heap → Prop)) := [(265, palisadelaw24_begin.C), (275, backend_Block_Kick.C U), (276, backend_Block_Done.C U), (277, backend_Block_Drop.C), (278, backend_Block_Waits.C), (281, backend_Net_Kick.C U), (283, backend_Net_Poll.C), (284, backend_Tty_Kick.C U), (264, backend_NewBlock.C), (285, backend_NewTty.C)]

noncomputable def palisadelaw24_BackendNobody.E (U : Ifc) (Q : Bool → Heap → Prop) (cuts : List (Nat × (List Nat × (List V → Heap → Prop)))) : Env := { tis := tisT, fns := fnsT, tys := tysT, gls := glsT, rts := rtsT, unk := [], nxt := [], calls := palisadelaw24_BackendNobody.calls U, ifc := U, cuts := cuts, ret := palisadelaw24_BackendNobody.ret Q, rets := [.tmp 2], n := 231 }

theorem palisadelaw24_BackendNobody.callsOK {W0 : World} {U : Ifc} (hU : IfcOK sg W0 glsT U) : CallsOK sg W0 (palisadelaw24_BackendNobody.calls U) := ⟨palisadelaw24_begin.S, (backend_Block_Kick.S hU), (backend_Block_Done.S hU), backend_Block_Drop.S, backend_Block_Waits.S, (backend_Net_Kick.S hU), backend_Net_Poll.S, (backend_Tty_Kick.S hU), backend_NewBlock.S, backend_NewTty.S, trivial⟩

def palisadelaw24_BackendNobody.k11 (I : Heap → Prop) (vs : List V) (h : Heap) : Prop :=
  match vs with
  | [] => I  h
  | _ => False

def palisadelaw24_BackendNobody.k9 (I : Int → (Option Ptr) → (Option Ptr) → Int → Int → Bool → Int → Sl → Int → Int → Heap → Prop) (vs : List V) (h : Heap) : Prop :=
  match vs with
  | [.int .i64 a1, .ptr a2, .ptr a3, .int .i64 a4, .int .i64 a5, .bool a6, .int .i64 a7, .sl a8, .int .i64 a9, .int .i64 a10] => I a1 a2 a3 a4 a5 a6 a7 a8 a9 a10 h
  | _ => False

def palisadelaw24_BackendNobody.k19 (I : Heap → Prop) (vs : List V) (h : Heap) : Prop :=
  match vs with
  | [] => I  h
  | _ => False

def palisadelaw24_BackendNobody.k18 (I : (Option Ptr) → Int → Int → Int → Int → Sl → Int → Int → Heap → Prop) (vs : List V) (h : Heap) : Prop :=
  match vs with
  | [.ptr a1, .int .i64 a2, .int .i64 a3, .int .i64 a4, .int .i64 a5, .sl a6, .int .i64 a7, .int .i64 a8] => I a1 a2 a3 a4 a5 a6 a7 a8 h
  | _ => False

def palisadelaw24_BackendNobody.k26 (I : Heap → Prop) (vs : List V) (h : Heap) : Prop :=
  match vs with
  | [] => I  h
  | _ => False

def palisadelaw24_BackendNobody.k32 (I : Int → Int → (Option Ptr) → Int → (Option Ptr) → Int → (Option Ptr) → Int → Heap → Prop) (vs : List V) (h : Heap) : Prop :=
  match vs with
  | [.int .i64 a1, .int .i64 a2, .ptr a3, .int .i64 a4, .ptr a5, .int .i64 a6, .ptr a7, .int .i64 a8] => I a1 a2 a3 a4 a5 a6 a7 a8 h
  | _ => False

def palisadelaw24_BackendNobody.k30 (I : (Option Ptr) → Int → Int → (Option Ptr) → Int → Heap → Prop) (vs : List V) (h : Heap) : Prop :=
  match vs with
  | [.ptr a1, .int .i64 a2, .int .i64 a3, .ptr a4, .int .i64 a5] => I a1 a2 a3 a4 a5 h
  | _ => False

def palisadelaw24_BackendNobody.k22 (I : (Option Ptr) → Sl → Int → Int → Heap → Prop) (vs : List V) (h : Heap) : Prop :=
  match vs with
  | [.ptr a1, .sl a2, .int .i64 a3, .int .i64 a4] => I a1 a2 a3 a4 h
  | _ => False

def palisadelaw24_BackendNobody.k14 (I : (Option Ptr) → Sl → Int → Int → Heap → Prop) (vs : List V) (h : Heap) : Prop :=
  match vs with
  | [.ptr a1, .sl a2, .int .i64 a3, .int .i64 a4] => I a1 a2 a3 a4 h
  | _ => False

def palisadelaw24_BackendNobody.k5 (I : Int → (Option Ptr) → Sl → Int → Int → Heap → Prop) (vs : List V) (h : Heap) : Prop :=
  match vs with
  | [.int .i64 a1, .ptr a2, .sl a3, .int .i64 a4, .int .i64 a5] => I a1 a2 a3 a4 a5 h
  | _ => False

theorem palisadelaw24_BackendNobody.p11 : (posC palisadelaw24_BackendNobody.code []).filter (fun p => Nat.beq p.1 11) = [(11, atPos (posC palisadelaw24_BackendNobody.code []) 11)] := by kernel_rfl

theorem palisadelaw24_BackendNobody.e11 : ∀ (U : Ifc) (I5 : Int → (Option Ptr) → Sl → Int → Int → Heap → Prop)  (Q : Bool → Heap → Prop) (h : Heap), palisadelaw24_BackendNobody.j11 U I5  Q h = pts (palisadelaw24_BackendNobody.E U Q []) 3000 true (atPos (posC palisadelaw24_BackendNobody.code []) 11) (frAt [] []) h := by
  intros; kernel_rfl

theorem palisadelaw24_BackendNobody.s11 {W0 : World} {U : Ifc} (hU : IfcOK sg W0 glsT U) (Q : Bool → Heap → Prop) (I5 : Int → (Option Ptr) → Sl → Int → Int → Heap → Prop) (h5 : CutOK sg W0 231 (entered 3) (Post sg W0 (palisadelaw24_BackendNobody.ret Q)) (posC palisadelaw24_BackendNobody.code []) 5 [0, 3, 33, 34, 35] (palisadelaw24_BackendNobody.k5 I5)) : CutOK sg W0 231 (entered 3) (Post sg W0 (palisadelaw24_BackendNobody.ret Q)) (posC palisadelaw24_BackendNobody.code []) 11 [] (palisadelaw24_BackendNobody.k11 (fun  h => palisadelaw24_BackendNobody.j11 U I5  Q h)) := by
  refine cutOK_head (fun vs h hk => ?_)
  unfold palisadelaw24_BackendNobody.k11 at hk
  split at hk
  · skip
    intro todo hm ρ a w s f hp
    exact piece (E := palisadelaw24_BackendNobody.E U Q []) (vs := []) (envOK seatOK (palisadelaw24_BackendNobody.callsOK hU) hU) (fnOK seatOK palisadelaw24_BackendNobody.fun) trivial palisadelaw24_BackendNobody.p11 (fuel := 3000) (by rw [← palisadelaw24_BackendNobody.e11]; exact hk) hm s f hp
  · exact hk.elim

theorem palisadelaw24_BackendNobody.p9 : (posC palisadelaw24_BackendNobody.code []).filter (fun p => Nat.beq p.1 9) = [(9, atPos (posC palisadelaw24_BackendNobody.code []) 9)] := by kernel_rfl

theorem palisadelaw24_BackendNobody.e9 : ∀ (U : Ifc) (I5 : Int → (Option Ptr) → Sl → Int → Int → Heap → Prop) (a1 : Int) (a2 : Option Ptr) (a3 : Option Ptr) (a4 : Int) (a5 : Int) (a6 : Bool) (a7 : Int) (a8 : Sl) (a9 : Int) (a10 : Int) (Q : Bool → Heap → Prop) (h : Heap), palisadelaw24_BackendNobody.j9 U I5 a1 a2 a3 a4 a5 a6 a7 a8 a9 a10 Q h = pts (palisadelaw24_BackendNobody.E U Q [(11, ([], palisadelaw24_BackendNobody.k11 (fun  h => palisadelaw24_BackendNobody.j11 U I5  Q h))), (5, ([0, 3, 33, 34, 35], palisadelaw24_BackendNobody.k5 I5))]) 3000 true (atPos (posC palisadelaw24_BackendNobody.code []) 9) (frAt [0, 3, 5, 6, 7, 8, 9, 33, 34, 35] [.int .i64 a1, .ptr a2, .ptr a3, .int .i64 a4, .int .i64 a5, .bool a6, .int .i64 a7, .sl a8, .int .i64 a9, .int .i64 a10]) h := by
  intros; kernel_rfl

theorem palisadelaw24_BackendNobody.s9 {W0 : World} {U : Ifc} (hU : IfcOK sg W0 glsT U) (Q : Bool → Heap → Prop) (I5 : Int → (Option Ptr) → Sl → Int → Int → Heap → Prop) (h5 : CutOK sg W0 231 (entered 3) (Post sg W0 (palisadelaw24_BackendNobody.ret Q)) (posC palisadelaw24_BackendNobody.code []) 5 [0, 3, 33, 34, 35] (palisadelaw24_BackendNobody.k5 I5)) : CutOK sg W0 231 (entered 3) (Post sg W0 (palisadelaw24_BackendNobody.ret Q)) (posC palisadelaw24_BackendNobody.code []) 9 [0, 3, 5, 6, 7, 8, 9, 33, 34, 35] (palisadelaw24_BackendNobody.k9 (fun a1 a2 a3 a4 a5 a6 a7 a8 a9 a10 h => palisadelaw24_BackendNobody.j9 U I5 a1 a2 a3 a4 a5 a6 a7 a8 a9 a10 Q h)) := by
  refine cutOK_head (fun vs h hk => ?_)
  unfold palisadelaw24_BackendNobody.k9 at hk
  split at hk
  · rename_i a1 a2 a3 a4 a5 a6 a7 a8 a9 a10
    intro todo hm ρ a w s f hp
    exact piece (E := palisadelaw24_BackendNobody.E U Q [(11, ([], palisadelaw24_BackendNobody.k11 (fun  h => palisadelaw24_BackendNobody.j11 U I5  Q h))), (5, ([0, 3, 33, 34, 35], palisadelaw24_BackendNobody.k5 I5))]) (vs := [.int .i64 a1, .ptr a2, .ptr a3, .int .i64 a4, .int .i64 a5, .bool a6, .int .i64 a7, .sl a8, .int .i64 a9, .int .i64 a10]) (envOK seatOK (palisadelaw24_BackendNobody.callsOK hU) hU) (fnOK seatOK palisadelaw24_BackendNobody.fun) ⟨(palisadelaw24_BackendNobody.s11 hU Q I5 h5), h5, trivial⟩ palisadelaw24_BackendNobody.p9 (fuel := 3000) (by rw [← palisadelaw24_BackendNobody.e9]; exact hk) hm s f hp
  · exact hk.elim

theorem palisadelaw24_BackendNobody.p19 : (posC palisadelaw24_BackendNobody.code []).filter (fun p => Nat.beq p.1 19) = [(19, atPos (posC palisadelaw24_BackendNobody.code []) 19)] := by kernel_rfl

theorem palisadelaw24_BackendNobody.e19 : ∀ (U : Ifc) (I14 : (Option Ptr) → Sl → Int → Int → Heap → Prop)  (Q : Bool → Heap → Prop) (h : Heap), palisadelaw24_BackendNobody.j19 U I14  Q h = pts (palisadelaw24_BackendNobody.E U Q []) 3000 true (atPos (posC palisadelaw24_BackendNobody.code []) 19) (frAt [] []) h := by
  intros; kernel_rfl

theorem palisadelaw24_BackendNobody.s19 {W0 : World} {U : Ifc} (hU : IfcOK sg W0 glsT U) (Q : Bool → Heap → Prop) (I14 : (Option Ptr) → Sl → Int → Int → Heap → Prop) (h14 : CutOK sg W0 231 (entered 3) (Post sg W0 (palisadelaw24_BackendNobody.ret Q)) (posC palisadelaw24_BackendNobody.code []) 14 [3, 85, 86, 87] (palisadelaw24_BackendNobody.k14 I14)) : CutOK sg W0 231 (entered 3) (Post sg W0 (palisadelaw24_BackendNobody.ret Q)) (posC palisadelaw24_BackendNobody.code []) 19 [] (palisadelaw24_BackendNobody.k19 (fun  h => palisadelaw24_BackendNobody.j19 U I14  Q h)) := by
  refine cutOK_head (fun vs h hk => ?_)
  unfold palisadelaw24_BackendNobody.k19 at hk
  split at hk
  · skip
    intro todo hm ρ a w s f hp
    exact piece (E := palisadelaw24_BackendNobody.E U Q []) (vs := []) (envOK seatOK (palisadelaw24_BackendNobody.callsOK hU) hU) (fnOK seatOK palisadelaw24_BackendNobody.fun) trivial palisadelaw24_BackendNobody.p19 (fuel := 3000) (by rw [← palisadelaw24_BackendNobody.e19]; exact hk) hm s f hp
  · exact hk.elim

theorem palisadelaw24_BackendNobody.p18 : (posC palisadelaw24_BackendNobody.code []).filter (fun p => Nat.beq p.1 18) = [(18, atPos (posC palisadelaw24_BackendNobody.code []) 18)] := by kernel_rfl

theorem palisadelaw24_BackendNobody.e18 : ∀ (U : Ifc) (I14 : (Option Ptr) → Sl → Int → Int → Heap → Prop) (a1 : Option Ptr) (a2 : Int) (a3 : Int) (a4 : Int) (a5 : Int) (a6 : Sl) (a7 : Int) (a8 : Int) (Q : Bool → Heap → Prop) (h : Heap), palisadelaw24_BackendNobody.j18 U I14 a1 a2 a3 a4 a5 a6 a7 a8 Q h = pts (palisadelaw24_BackendNobody.E U Q [(19, ([], palisadelaw24_BackendNobody.k19 (fun  h => palisadelaw24_BackendNobody.j19 U I14  Q h))), (14, ([3, 85, 86, 87], palisadelaw24_BackendNobody.k14 I14))]) 3000 true (atPos (posC palisadelaw24_BackendNobody.code []) 18) (frAt [3, 12, 13, 14, 15, 85, 86, 87] [.ptr a1, .int .i64 a2, .int .i64 a3, .int .i64 a4, .int .i64 a5, .sl a6, .int .i64 a7, .int .i64 a8]) h := by
  intros; kernel_rfl

theorem palisadelaw24_BackendNobody.s18 {W0 : World} {U : Ifc} (hU : IfcOK sg W0 glsT U) (Q : Bool → Heap → Prop) (I14 : (Option Ptr) → Sl → Int → Int → Heap → Prop) (h14 : CutOK sg W0 231 (entered 3) (Post sg W0 (palisadelaw24_BackendNobody.ret Q)) (posC palisadelaw24_BackendNobody.code []) 14 [3, 85, 86, 87] (palisadelaw24_BackendNobody.k14 I14)) : CutOK sg W0 231 (entered 3) (Post sg W0 (palisadelaw24_BackendNobody.ret Q)) (posC palisadelaw24_BackendNobody.code []) 18 [3, 12, 13, 14, 15, 85, 86, 87] (palisadelaw24_BackendNobody.k18 (fun a1 a2 a3 a4 a5 a6 a7 a8 h => palisadelaw24_BackendNobody.j18 U I14 a1 a2 a3 a4 a5 a6 a7 a8 Q h)) := by
  refine cutOK_head (fun vs h hk => ?_)
  unfold palisadelaw24_BackendNobody.k18 at hk
  split at hk
  · rename_i a1 a2 a3 a4 a5 a6 a7 a8
    intro todo hm ρ a w s f hp
    exact piece (E := palisadelaw24_BackendNobody.E U Q [(19, ([], palisadelaw24_BackendNobody.k19 (fun  h => palisadelaw24_BackendNobody.j19 U I14  Q h))), (14, ([3, 85, 86, 87], palisadelaw24_BackendNobody.k14 I14))]) (vs := [.ptr a1, .int .i64 a2, .int .i64 a3, .int .i64 a4, .int .i64 a5, .sl a6, .int .i64 a7, .int .i64 a8]) (envOK seatOK (palisadelaw24_BackendNobody.callsOK hU) hU) (fnOK seatOK palisadelaw24_BackendNobody.fun) ⟨(palisadelaw24_BackendNobody.s19 hU Q I14 h14), h14, trivial⟩ palisadelaw24_BackendNobody.p18 (fuel := 3000) (by rw [← palisadelaw24_BackendNobody.e18]; exact hk) hm s f hp
  · exact hk.elim

theorem palisadelaw24_BackendNobody.p26 : (posC palisadelaw24_BackendNobody.code []).filter (fun p => Nat.beq p.1 26) = [(26, atPos (posC palisadelaw24_BackendNobody.code []) 26)] := by kernel_rfl

theorem palisadelaw24_BackendNobody.e26 : ∀ (U : Ifc) (I22 : (Option Ptr) → Sl → Int → Int → Heap → Prop)  (Q : Bool → Heap → Prop) (h : Heap), palisadelaw24_BackendNobody.j26 U I22  Q h = pts (palisadelaw24_BackendNobody.E U Q []) 3000 true (atPos (posC palisadelaw24_BackendNobody.code []) 26) (frAt [] []) h := by
  intros; kernel_rfl

theorem palisadelaw24_BackendNobody.s26 {W0 : World} {U : Ifc} (hU : IfcOK sg W0 glsT U) (Q : Bool → Heap → Prop) (I22 : (Option Ptr) → Sl → Int → Int → Heap → Prop) (h22 : CutOK sg W0 231 (entered 3) (Post sg W0 (palisadelaw24_BackendNobody.ret Q)) (posC palisadelaw24_BackendNobody.code []) 22 [3, 130, 131, 132] (palisadelaw24_BackendNobody.k22 I22)) : CutOK sg W0 231 (entered 3) (Post sg W0 (palisadelaw24_BackendNobody.ret Q)) (posC palisadelaw24_BackendNobody.code []) 26 [] (palisadelaw24_BackendNobody.k26 (fun  h => palisadelaw24_BackendNobody.j26 U I22  Q h)) := by
  refine cutOK_head (fun vs h hk => ?_)
  unfold palisadelaw24_BackendNobody.k26 at hk
  split at hk
  · skip
    intro todo hm ρ a w s f hp
    exact piece (E := palisadelaw24_BackendNobody.E U Q []) (vs := []) (envOK seatOK (palisadelaw24_BackendNobody.callsOK hU) hU) (fnOK seatOK palisadelaw24_BackendNobody.fun) trivial palisadelaw24_BackendNobody.p26 (fuel := 3000) (by rw [← palisadelaw24_BackendNobody.e26]; exact hk) hm s f hp
  · exact hk.elim

theorem palisadelaw24_BackendNobody.p32 : (posC palisadelaw24_BackendNobody.code []).filter (fun p => Nat.beq p.1 32) = [(32, atPos (posC palisadelaw24_BackendNobody.code []) 32)] := by kernel_rfl

theorem palisadelaw24_BackendNobody.e32 : ∀ (U : Ifc)  (a1 : Int) (a2 : Int) (a3 : Option Ptr) (a4 : Int) (a5 : Option Ptr) (a6 : Int) (a7 : Option Ptr) (a8 : Int) (Q : Bool → Heap → Prop) (h : Heap), palisadelaw24_BackendNobody.j32 U  a1 a2 a3 a4 a5 a6 a7 a8 Q h = pts (palisadelaw24_BackendNobody.E U Q []) 3000 true (atPos (posC palisadelaw24_BackendNobody.code []) 32) (frAt [20, 21, 22, 23, 24, 25, 26, 27] [.int .i64 a1, .int .i64 a2, .ptr a3, .int .i64 a4, .ptr a5, .int .i64 a6, .ptr a7, .int .i64 a8]) h := by
  intros; kernel_rfl

theorem palisadelaw24_BackendNobody.s32 {W0 : World} {U : Ifc} (hU : IfcOK sg W0 glsT U) (Q : Bool → Heap → Prop)   : CutOK sg W0 231 (entered 3) (Post sg W0 (palisadelaw24_BackendNobody.ret Q)) (posC palisadelaw24_BackendNobody.code []) 32 [20, 21, 22, 23, 24, 25, 26, 27] (palisadelaw24_BackendNobody.k32 (fun a1 a2 a3 a4 a5 a6 a7 a8 h => palisadelaw24_BackendNobody.j32 U  a1 a2 a3 a4 a5 a6 a7 a8 Q h)) := by
  refine cutOK_head (fun vs h hk => ?_)
  unfold palisadelaw24_BackendNobody.k32 at hk
  split at hk
  · rename_i a1 a2 a3 a4 a5 a6 a7 a8
    intro todo hm ρ a w s f hp
    exact piece (E := palisadelaw24_BackendNobody.E U Q []) (vs := [.int .i64 a1, .int .i64 a2, .ptr a3, .int .i64 a4, .ptr a5, .int .i64 a6, .ptr a7, .int .i64 a8]) (envOK seatOK (palisadelaw24_BackendNobody.callsOK hU) hU) (fnOK seatOK palisadelaw24_BackendNobody.fun) trivial palisadelaw24_BackendNobody.p32 (fuel := 3000) (by rw [← palisadelaw24_BackendNobody.e32]; exact hk) hm s f hp
  · exact hk.elim

theorem palisadelaw24_BackendNobody.p30 : (posC palisadelaw24_BackendNobody.code []).filter (fun p => Nat.beq p.1 30) = [(30, atPos (posC palisadelaw24_BackendNobody.code []) 30)] := by kernel_rfl

theorem palisadelaw24_BackendNobody.e30 : ∀ (U : Ifc)  (a1 : Option Ptr) (a2 : Int) (a3 : Int) (a4 : Option Ptr) (a5 : Int) (Q : Bool → Heap → Prop) (h : Heap), palisadelaw24_BackendNobody.j30 U  a1 a2 a3 a4 a5 Q h = pts (palisadelaw24_BackendNobody.E U Q [(32, ([20, 21, 22, 23, 24, 25, 26, 27], palisadelaw24_BackendNobody.k32 (fun a1 a2 a3 a4 a5 a6 a7 a8 h => palisadelaw24_BackendNobody.j32 U  a1 a2 a3 a4 a5 a6 a7 a8 Q h)))]) 3000 true (atPos (posC palisadelaw24_BackendNobody.code []) 30) (frAt [3, 20, 21, 22, 23] [.ptr a1, .int .i64 a2, .int .i64 a3, .ptr a4, .int .i64 a5]) h := by
  intros; kernel_rfl

theorem palisadelaw24_BackendNobody.s30 {W0 : World} {U : Ifc} (hU : IfcOK sg W0 glsT U) (Q : Bool → Heap → Prop)   : CutOK sg W0 231 (entered 3) (Post sg W0 (palisadelaw24_BackendNobody.ret Q)) (posC palisadelaw24_BackendNobody.code []) 30 [3, 20, 21, 22, 23] (palisadelaw24_BackendNobody.k30 (fun a1 a2 a3 a4 a5 h => palisadelaw24_BackendNobody.j30 U  a1 a2 a3 a4 a5 Q h)) := by
  refine cutOK_head (fun vs h hk => ?_)
  unfold palisadelaw24_BackendNobody.k30 at hk
  split at hk
  · rename_i a1 a2 a3 a4 a5
    intro todo hm ρ a w s f hp
    exact piece (E := palisadelaw24_BackendNobody.E U Q [(32, ([20, 21, 22, 23, 24, 25, 26, 27], palisadelaw24_BackendNobody.k32 (fun a1 a2 a3 a4 a5 a6 a7 a8 h => palisadelaw24_BackendNobody.j32 U  a1 a2 a3 a4 a5 a6 a7 a8 Q h)))]) (vs := [.ptr a1, .int .i64 a2, .int .i64 a3, .ptr a4, .int .i64 a5]) (envOK seatOK (palisadelaw24_BackendNobody.callsOK hU) hU) (fnOK seatOK palisadelaw24_BackendNobody.fun) ⟨(palisadelaw24_BackendNobody.s32 hU Q  ), trivial⟩ palisadelaw24_BackendNobody.p30 (fuel := 3000) (by rw [← palisadelaw24_BackendNobody.e30]; exact hk) hm s f hp
  · exact hk.elim

theorem palisadelaw24_BackendNobody.p22 : (posC palisadelaw24_BackendNobody.code []).filter (fun p => Nat.beq p.1 22) = [(22, atPos (posC palisadelaw24_BackendNobody.code []) 22)] := by kernel_rfl

theorem palisadelaw24_BackendNobody.e22 : ∀ (U : Ifc)  (I22 : (Option Ptr) → Sl → Int → Int → Heap → Prop) (a1 : Option Ptr) (a2 : Sl) (a3 : Int) (a4 : Int) (Q : Bool → Heap → Prop) (h : Heap), palisadelaw24_BackendNobody.b22 U  I22 a1 a2 a3 a4 Q h = pts (palisadelaw24_BackendNobody.E U Q [(26, ([], palisadelaw24_BackendNobody.k26 (fun  h => palisadelaw24_BackendNobody.j26 U I22  Q h))), (22, ([3, 130, 131, 132], palisadelaw24_BackendNobody.k22 I22)), (30, ([3, 20, 21, 22, 23], palisadelaw24_BackendNobody.k30 (fun a1 a2 a3 a4 a5 h => palisadelaw24_BackendNobody.j30 U  a1 a2 a3 a4 a5 Q h)))]) 3000 true (atPos (posC palisadelaw24_BackendNobody.code []) 22) (frAt [3, 130, 131, 132] [.ptr a1, .sl a2, .int .i64 a3, .int .i64 a4]) h := by
  intros; kernel_rfl

theorem palisadelaw24_BackendNobody.s22 {W0 : World} {U : Ifc} (hU : IfcOK sg W0 glsT U) (Q : Bool → Heap → Prop)   : CutOK sg W0 231 (entered 3) (Post sg W0 (palisadelaw24_BackendNobody.ret Q)) (posC palisadelaw24_BackendNobody.code []) 22 [3, 130, 131, 132] (palisadelaw24_BackendNobody.k22 (fun a1 a2 a3 a4 h => palisadelaw24_BackendNobody.j22 U  a1 a2 a3 a4 Q h)) := by
  refine cutOK_head (fun vs h hk => ?_)
  unfold palisadelaw24_BackendNobody.k22 at hk
  split at hk
  · rename_i a1 a2 a3 a4
    refine hk (fun a1 a2 a3 a4 h => Head sg W0 231 (entered 3) (Post sg W0 (palisadelaw24_BackendNobody.ret Q)) (posC palisadelaw24_BackendNobody.code []) 22 [3, 130, 131, 132] [.ptr a1, .sl a2, .int .i64 a3, .int .i64 a4] h) ?_
    intro a1 a2 a3 a4 h hb todo hm ρ a w s f hp
    have hself : CutOK sg W0 231 (entered 3) (Post sg W0 (palisadelaw24_BackendNobody.ret Q)) (posC palisadelaw24_BackendNobody.code []) 22 [3, 130, 131, 132] (palisadelaw24_BackendNobody.k22 (fun a1 a2 a3 a4 h => Head sg W0 231 (entered 3) (Post sg W0 (palisadelaw24_BackendNobody.ret Q)) (posC palisadelaw24_BackendNobody.code []) 22 [3, 130, 131, 132] [.ptr a1, .sl a2, .int .i64 a3, .int .i64 a4] h)) := cutOK_head (fun vs h hk => by unfold palisadelaw24_BackendNobody.k22 at hk; split at hk; exact hk; exact hk.elim)
    exact piece (E := palisadelaw24_BackendNobody.E U Q [(26, ([], palisadelaw24_BackendNobody.k26 (fun  h => palisadelaw24_BackendNobody.j26 U (fun a1 a2 a3 a4 h => Head sg W0 231 (entered 3) (Post sg W0 (palisadelaw24_BackendNobody.ret Q)) (posC palisadelaw24_BackendNobody.code []) 22 [3, 130, 131, 132] [.ptr a1, .sl a2, .int .i64 a3, .int .i64 a4] h)  Q h))), (22, ([3, 130, 131, 132], palisadelaw24_BackendNobody.k22 (fun a1 a2 a3 a4 h => Head sg W0 231 (entered 3) (Post sg W0 (palisadelaw24_BackendNobody.ret Q)) (posC palisadelaw24_BackendNobody.code []) 22 [3, 130, 131, 132] [.ptr a1, .sl a2, .int .i64 a3, .int .i64 a4] h))), (30, ([3, 20, 21, 22, 23], palisadelaw24_BackendNobody.k30 (fun a1 a2 a3 a4 a5 h => palisadelaw24_BackendNobody.j30 U  a1 a2 a3 a4 a5 Q h)))]) (vs := [.ptr a1, .sl a2, .int .i64 a3, .int .i64 a4]) (envOK seatOK (palisadelaw24_BackendNobody.callsOK hU) hU) (fnOK seatOK palisadelaw24_BackendNobody.fun) ⟨(palisadelaw24_BackendNobody.s26 hU Q (fun a1 a2 a3 a4 h => Head sg W0 231 (entered 3) (Post sg W0 (palisadelaw24_BackendNobody.ret Q)) (posC palisadelaw24_BackendNobody.code []) 22 [3, 130, 131, 132] [.ptr a1, .sl a2, .int .i64 a3, .int .i64 a4] h) hself), hself, (palisadelaw24_BackendNobody.s30 hU Q  ), trivial⟩ palisadelaw24_BackendNobody.p22 (fuel := 3000) (by rw [← palisadelaw24_BackendNobody.e22]; exact hb) hm s f hp
  · exact hk.elim

theorem palisadelaw24_BackendNobody.p14 : (posC palisadelaw24_BackendNobody.code []).filter (fun p => Nat.beq p.1 14) = [(14, atPos (posC palisadelaw24_BackendNobody.code []) 14)] := by kernel_rfl

theorem palisadelaw24_BackendNobody.e14 : ∀ (U : Ifc)  (I14 : (Option Ptr) → Sl → Int → Int → Heap → Prop) (a1 : Option Ptr) (a2 : Sl) (a3 : Int) (a4 : Int) (Q : Bool → Heap → Prop) (h : Heap), palisadelaw24_BackendNobody.b14 U  I14 a1 a2 a3 a4 Q h = pts (palisadelaw24_BackendNobody.E U Q [(18, ([3, 12, 13, 14, 15, 85, 86, 87], palisadelaw24_BackendNobody.k18 (fun a1 a2 a3 a4 a5 a6 a7 a8 h => palisadelaw24_BackendNobody.j18 U I14 a1 a2 a3 a4 a5 a6 a7 a8 Q h))), (22, ([3, 130, 131, 132], palisadelaw24_BackendNobody.k22 (fun a1 a2 a3 a4 h => palisadelaw24_BackendNobody.j22 U  a1 a2 a3 a4 Q h)))]) 3000 true (atPos (posC palisadelaw24_BackendNobody.code []) 14) (frAt [3, 85, 86, 87] [.ptr a1, .sl a2, .int .i64 a3, .int .i64 a4]) h := by
  intros; kernel_rfl

theorem palisadelaw24_BackendNobody.s14 {W0 : World} {U : Ifc} (hU : IfcOK sg W0 glsT U) (Q : Bool → Heap → Prop)   : CutOK sg W0 231 (entered 3) (Post sg W0 (palisadelaw24_BackendNobody.ret Q)) (posC palisadelaw24_BackendNobody.code []) 14 [3, 85, 86, 87] (palisadelaw24_BackendNobody.k14 (fun a1 a2 a3 a4 h => palisadelaw24_BackendNobody.j14 U  a1 a2 a3 a4 Q h)) := by
  refine cutOK_head (fun vs h hk => ?_)
  unfold palisadelaw24_BackendNobody.k14 at hk
  split at hk
  · rename_i a1 a2 a3 a4
    refine hk (fun a1 a2 a3 a4 h => Head sg W0 231 (entered 3) (Post sg W0 (palisadelaw24_BackendNobody.ret Q)) (posC palisadelaw24_BackendNobody.code []) 14 [3, 85, 86, 87] [.ptr a1, .sl a2, .int .i64 a3, .int .i64 a4] h) ?_
    intro a1 a2 a3 a4 h hb todo hm ρ a w s f hp
    have hself : CutOK sg W0 231 (entered 3) (Post sg W0 (palisadelaw24_BackendNobody.ret Q)) (posC palisadelaw24_BackendNobody.code []) 14 [3, 85, 86, 87] (palisadelaw24_BackendNobody.k14 (fun a1 a2 a3 a4 h => Head sg W0 231 (entered 3) (Post sg W0 (palisadelaw24_BackendNobody.ret Q)) (posC palisadelaw24_BackendNobody.code []) 14 [3, 85, 86, 87] [.ptr a1, .sl a2, .int .i64 a3, .int .i64 a4] h)) := cutOK_head (fun vs h hk => by unfold palisadelaw24_BackendNobody.k14 at hk; split at hk; exact hk; exact hk.elim)
    exact piece (E := palisadelaw24_BackendNobody.E U Q [(18, ([3, 12, 13, 14, 15, 85, 86, 87], palisadelaw24_BackendNobody.k18 (fun a1 a2 a3 a4 a5 a6 a7 a8 h => palisadelaw24_BackendNobody.j18 U (fun a1 a2 a3 a4 h => Head sg W0 231 (entered 3) (Post sg W0 (palisadelaw24_BackendNobody.ret Q)) (posC palisadelaw24_BackendNobody.code []) 14 [3, 85, 86, 87] [.ptr a1, .sl a2, .int .i64 a3, .int .i64 a4] h) a1 a2 a3 a4 a5 a6 a7 a8 Q h))), (22, ([3, 130, 131, 132], palisadelaw24_BackendNobody.k22 (fun a1 a2 a3 a4 h => palisadelaw24_BackendNobody.j22 U  a1 a2 a3 a4 Q h)))]) (vs := [.ptr a1, .sl a2, .int .i64 a3, .int .i64 a4]) (envOK seatOK (palisadelaw24_BackendNobody.callsOK hU) hU) (fnOK seatOK palisadelaw24_BackendNobody.fun) ⟨(palisadelaw24_BackendNobody.s18 hU Q (fun a1 a2 a3 a4 h => Head sg W0 231 (entered 3) (Post sg W0 (palisadelaw24_BackendNobody.ret Q)) (posC palisadelaw24_BackendNobody.code []) 14 [3, 85, 86, 87] [.ptr a1, .sl a2, .int .i64 a3, .int .i64 a4] h) hself), (palisadelaw24_BackendNobody.s22 hU Q  ), trivial⟩ palisadelaw24_BackendNobody.p14 (fuel := 3000) (by rw [← palisadelaw24_BackendNobody.e14]; exact hb) hm s f hp
  · exact hk.elim

theorem palisadelaw24_BackendNobody.p5 : (posC palisadelaw24_BackendNobody.code []).filter (fun p => Nat.beq p.1 5) = [(5, atPos (posC palisadelaw24_BackendNobody.code []) 5)] := by kernel_rfl

theorem palisadelaw24_BackendNobody.e5 : ∀ (U : Ifc)  (I5 : Int → (Option Ptr) → Sl → Int → Int → Heap → Prop) (a1 : Int) (a2 : Option Ptr) (a3 : Sl) (a4 : Int) (a5 : Int) (Q : Bool → Heap → Prop) (h : Heap), palisadelaw24_BackendNobody.b5 U  I5 a1 a2 a3 a4 a5 Q h = pts (palisadelaw24_BackendNobody.E U Q [(9, ([0, 3, 5, 6, 7, 8, 9, 33, 34, 35], palisadelaw24_BackendNobody.k9 (fun a1 a2 a3 a4 a5 a6 a7 a8 a9 a10 h => palisadelaw24_BackendNobody.j9 U I5 a1 a2 a3 a4 a5 a6 a7 a8 a9 a10 Q h))), (14, ([3, 85, 86, 87], palisadelaw24_BackendNobody.k14 (fun a1 a2 a3 a4 h => palisadelaw24_BackendNobody.j14 U  a1 a2 a3 a4 Q h)))]) 3000 true (atPos (posC palisadelaw24_BackendNobody.code []) 5) (frAt [0, 3, 33, 34, 35] [.int .i64 a1, .ptr a2, .sl a3, .int .i64 a4, .int .i64 a5]) h := by
  intros; kernel_rfl

theorem palisadelaw24_BackendNobody.s5 {W0 : World} {U : Ifc} (hU : IfcOK sg W0 glsT U) (Q : Bool → Heap → Prop)   : CutOK sg W0 231 (entered 3) (Post sg W0 (palisadelaw24_BackendNobody.ret Q)) (posC palisadelaw24_BackendNobody.code []) 5 [0, 3, 33, 34, 35] (palisadelaw24_BackendNobody.k5 (fun a1 a2 a3 a4 a5 h => palisadelaw24_BackendNobody.j5 U  a1 a2 a3 a4 a5 Q h)) := by
  refine cutOK_head (fun vs h hk => ?_)
  unfold palisadelaw24_BackendNobody.k5 at hk
  split at hk
  · rename_i a1 a2 a3 a4 a5
    refine hk (fun a1 a2 a3 a4 a5 h => Head sg W0 231 (entered 3) (Post sg W0 (palisadelaw24_BackendNobody.ret Q)) (posC palisadelaw24_BackendNobody.code []) 5 [0, 3, 33, 34, 35] [.int .i64 a1, .ptr a2, .sl a3, .int .i64 a4, .int .i64 a5] h) ?_
    intro a1 a2 a3 a4 a5 h hb todo hm ρ a w s f hp
    have hself : CutOK sg W0 231 (entered 3) (Post sg W0 (palisadelaw24_BackendNobody.ret Q)) (posC palisadelaw24_BackendNobody.code []) 5 [0, 3, 33, 34, 35] (palisadelaw24_BackendNobody.k5 (fun a1 a2 a3 a4 a5 h => Head sg W0 231 (entered 3) (Post sg W0 (palisadelaw24_BackendNobody.ret Q)) (posC palisadelaw24_BackendNobody.code []) 5 [0, 3, 33, 34, 35] [.int .i64 a1, .ptr a2, .sl a3, .int .i64 a4, .int .i64 a5] h)) := cutOK_head (fun vs h hk => by unfold palisadelaw24_BackendNobody.k5 at hk; split at hk; exact hk; exact hk.elim)
    exact piece (E := palisadelaw24_BackendNobody.E U Q [(9, ([0, 3, 5, 6, 7, 8, 9, 33, 34, 35], palisadelaw24_BackendNobody.k9 (fun a1 a2 a3 a4 a5 a6 a7 a8 a9 a10 h => palisadelaw24_BackendNobody.j9 U (fun a1 a2 a3 a4 a5 h => Head sg W0 231 (entered 3) (Post sg W0 (palisadelaw24_BackendNobody.ret Q)) (posC palisadelaw24_BackendNobody.code []) 5 [0, 3, 33, 34, 35] [.int .i64 a1, .ptr a2, .sl a3, .int .i64 a4, .int .i64 a5] h) a1 a2 a3 a4 a5 a6 a7 a8 a9 a10 Q h))), (14, ([3, 85, 86, 87], palisadelaw24_BackendNobody.k14 (fun a1 a2 a3 a4 h => palisadelaw24_BackendNobody.j14 U  a1 a2 a3 a4 Q h)))]) (vs := [.int .i64 a1, .ptr a2, .sl a3, .int .i64 a4, .int .i64 a5]) (envOK seatOK (palisadelaw24_BackendNobody.callsOK hU) hU) (fnOK seatOK palisadelaw24_BackendNobody.fun) ⟨(palisadelaw24_BackendNobody.s9 hU Q (fun a1 a2 a3 a4 a5 h => Head sg W0 231 (entered 3) (Post sg W0 (palisadelaw24_BackendNobody.ret Q)) (posC palisadelaw24_BackendNobody.code []) 5 [0, 3, 33, 34, 35] [.int .i64 a1, .ptr a2, .sl a3, .int .i64 a4, .int .i64 a5] h) hself), (palisadelaw24_BackendNobody.s14 hU Q  ), trivial⟩ palisadelaw24_BackendNobody.p5 (fuel := 3000) (by rw [← palisadelaw24_BackendNobody.e5]; exact hb) hm s f hp
  · exact hk.elim

theorem palisadelaw24_BackendNobody.e : ∀ (U : Ifc) (a1 : Int) (Q : Bool → Heap → Prop) (h : Heap), palisadelaw24_BackendNobody U a1 Q h = pts (palisadelaw24_BackendNobody.E U Q [(5, ([0, 3, 33, 34, 35], palisadelaw24_BackendNobody.k5 (fun a1 a2 a3 a4 a5 h => palisadelaw24_BackendNobody.j5 U  a1 a2 a3 a4 a5 Q h)))]) 3000 true [.code palisadelaw24_BackendNobody.code] (frOf 0 [.int .i64 a1]) h := by
  intros; kernel_rfl

theorem palisadelaw24_BackendNobody.S {W0 : World} {U : Ifc} (hU : IfcOK sg W0 glsT U) : FnS sg W0 286 (palisadelaw24_BackendNobody.C U) := by
  intro vs κ h wv hx w s
  unfold palisadelaw24_BackendNobody.C at hx
  split at hx
  · rename_i a1
    refine postImp (ret := palisadelaw24_BackendNobody.ret (fun r1 h => κ (.bool r1) h)) (fun v h hr => by unfold palisadelaw24_BackendNobody.ret at hr; split at hr; exact hr; exact hr.elim) ?_
    exact calls_of_pts (E := palisadelaw24_BackendNobody.E U (fun r1 h => κ (.bool r1) h) [(5, ([0, 3, 33, 34, 35], palisadelaw24_BackendNobody.k5 (fun a1 a2 a3 a4 a5 h => palisadelaw24_BackendNobody.j5 U  a1 a2 a3 a4 a5 (fun r1 h => κ (.bool r1) h) h)))]) (envOK seatOK (palisadelaw24_BackendNobody.callsOK hU) hU) seatOK.mixed palisadelaw24_BackendNobody.fun (Nat.le_of_ble_eq_true rfl) wv (cutL_ok ⟨(palisadelaw24_BackendNobody.s5 hU (fun r1 h => κ (.bool r1) h)), trivial⟩) s (fuel := 3000) (by rw [← palisadelaw24_BackendNobody.e]; exact hx)
  · exact hx.elim

end Go.Fn
