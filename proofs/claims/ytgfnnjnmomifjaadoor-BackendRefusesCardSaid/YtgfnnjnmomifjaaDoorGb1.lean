/- The links of the shallow functions to the machine. PRINTED by lift.py. -/
import Derived.Test.YtgfnnjnmomifjaaDoorGb0
set_option linter.unusedVariables false
set_option maxRecDepth 100000
namespace Go.Fn
open Go.Lift

noncomputable def palisadelaw24_Flat_Store.code : Code := Go.Proofs.Tryd.f27.body.getD .skip

theorem palisadelaw24_Flat_Store.fun : Fun sg.P 27 32 [.tmp 8] palisadelaw24_Flat_Store.code := mkFun Go.Proofs.Tryd.func27 (by kernel_rfl) (by kernel_rfl) (by kernel_rfl) (by kernel_rfl)

def palisadelaw24_Flat_Store.ret (Q : Int → Heap → Prop) (v : V) (h : Heap) : Prop :=
  match v with
  | .int .i64 r1 => Q r1 h
  | _ => False

def palisadelaw24_Flat_Store.C (U : Ifc) (vs : List V) (κ : V → Heap → Prop) (h : Heap) : Prop :=
  match vs with
  | [.ptr a1, .int .u64 a2, .int .i64 a3, .int .u64 a4] => palisadelaw24_Flat_Store U a1 a2 a3 a4 (fun r1 h => κ (.int .i64 r1) h) h
  | _ => False

noncomputable def palisadelaw24_Flat_Store.calls (U : Ifc) : List (Nat × (List V → (V → Heap → Prop) → Heap → Prop)) := [(97, mem_Memory_Store.C U)]

noncomputable def palisadelaw24_Flat_Store.E (U : Ifc) (Q : Int → Heap → Prop) (cuts : List (Nat × (List Nat × (List V → Heap → Prop)))) : Env := { tis := tisT, fns := fnsT, tys := tysT, gls := glsT, rts := rtsT, unk := [], nxt := [], calls := palisadelaw24_Flat_Store.calls U, ifc := U, cuts := cuts, ret := palisadelaw24_Flat_Store.ret Q, rets := [.tmp 8], n := 32 }

theorem palisadelaw24_Flat_Store.callsOK {W0 : World} {U : Ifc} (hU : IfcOK sg W0 glsT U) : CallsOK sg W0 (palisadelaw24_Flat_Store.calls U) := ⟨(mem_Memory_Store.S hU), trivial⟩

theorem palisadelaw24_Flat_Store.e : ∀ (U : Ifc) (a1 : Option Ptr) (a2 : Int) (a3 : Int) (a4 : Int) (Q : Int → Heap → Prop) (h : Heap), palisadelaw24_Flat_Store U a1 a2 a3 a4 Q h = pts (palisadelaw24_Flat_Store.E U Q []) 3000 true [.code palisadelaw24_Flat_Store.code] (frOf 0 [.ptr a1, .int .u64 a2, .int .i64 a3, .int .u64 a4]) h := by
  intros; kernel_rfl

theorem palisadelaw24_Flat_Store.S {W0 : World} {U : Ifc} (hU : IfcOK sg W0 glsT U) : FnS sg W0 299 (palisadelaw24_Flat_Store.C U) := by
  intro vs κ h wv hx w s
  unfold palisadelaw24_Flat_Store.C at hx
  split at hx
  · rename_i a1 a2 a3 a4
    refine postImp (ret := palisadelaw24_Flat_Store.ret (fun r1 h => κ (.int .i64 r1) h)) (fun v h hr => by unfold palisadelaw24_Flat_Store.ret at hr; split at hr; exact hr; exact hr.elim) ?_
    exact calls_of_pts (E := palisadelaw24_Flat_Store.E U (fun r1 h => κ (.int .i64 r1) h) []) (envOK seatOK (palisadelaw24_Flat_Store.callsOK hU) hU) seatOK.mixed palisadelaw24_Flat_Store.fun (Nat.le_of_ble_eq_true rfl) wv (cutL_ok trivial) s (fuel := 3000) (by rw [← palisadelaw24_Flat_Store.e]; exact hx)
  · exact hx.elim

noncomputable def palisadelaw24_request.code : Code := Go.Proofs.Tryd.f19.body.getD .skip

theorem palisadelaw24_request.fun : Fun sg.P 19 26 [.tmp 8] palisadelaw24_request.code := mkFun Go.Proofs.Tryd.func19 (by kernel_rfl) (by kernel_rfl) (by kernel_rfl) (by kernel_rfl)

def palisadelaw24_request.ret (Q : Sl → Heap → Prop) (v : V) (h : Heap) : Prop :=
  match v with
  | .sl r1 => Q r1 h
  | _ => False

def palisadelaw24_request.C (U : Ifc) (vs : List V) (κ : V → Heap → Prop) (h : Heap) : Prop :=
  match vs with
  | [.ptr a1, .int .u64 a2, .int .u64 a3, .int .i64 a4] => palisadelaw24_request U a1 a2 a3 a4 (fun r1 h => κ (.sl r1) h) h
  | _ => False

noncomputable def palisadelaw24_request.calls (U : Ifc) : List (Nat × (List V → (V → Heap → Prop) → Heap → Prop)) := [(299, palisadelaw24_Flat_Store.C U)]

noncomputable def palisadelaw24_request.E (U : Ifc) (Q : Sl → Heap → Prop) (cuts : List (Nat × (List Nat × (List V → Heap → Prop)))) : Env := { tis := tisT, fns := fnsT, tys := tysT, gls := glsT, rts := rtsT, unk := [], nxt := [], calls := palisadelaw24_request.calls U, ifc := U, cuts := cuts, ret := palisadelaw24_request.ret Q, rets := [.tmp 8], n := 26 }

theorem palisadelaw24_request.callsOK {W0 : World} {U : Ifc} (hU : IfcOK sg W0 glsT U) : CallsOK sg W0 (palisadelaw24_request.calls U) := ⟨(palisadelaw24_Flat_Store.S hU), trivial⟩

theorem palisadelaw24_request.e : ∀ (U : Ifc) (a1 : Option Ptr) (a2 : Int) (a3 : Int) (a4 : Int) (Q : Sl → Heap → Prop) (h : Heap), palisadelaw24_request U a1 a2 a3 a4 Q h = pts (palisadelaw24_request.E U Q []) 3000 true [.code palisadelaw24_request.code] (frOf 0 [.ptr a1, .int .u64 a2, .int .u64 a3, .int .i64 a4]) h := by
  intros; kernel_rfl

theorem palisadelaw24_request.S {W0 : World} {U : Ifc} (hU : IfcOK sg W0 glsT U) : FnS sg W0 300 (palisadelaw24_request.C U) := by
  intro vs κ h wv hx w s
  unfold palisadelaw24_request.C at hx
  split at hx
  · rename_i a1 a2 a3 a4
    refine postImp (ret := palisadelaw24_request.ret (fun r1 h => κ (.sl r1) h)) (fun v h hr => by unfold palisadelaw24_request.ret at hr; split at hr; exact hr; exact hr.elim) ?_
    exact calls_of_pts (E := palisadelaw24_request.E U (fun r1 h => κ (.sl r1) h) []) (envOK seatOK (palisadelaw24_request.callsOK hU) hU) seatOK.mixed palisadelaw24_request.fun (Nat.le_of_ble_eq_true rfl) wv (cutL_ok trivial) s (fuel := 3000) (by rw [← palisadelaw24_request.e]; exact hx)
  · exact hx.elim

noncomputable def palisadelaw24_offer.code : Code := Go.Proofs.Tryd.f14.body.getD .skip

theorem palisadelaw24_offer.fun : Fun sg.P 14 80 [] palisadelaw24_offer.code := mkFun Go.Proofs.Tryd.func14 (by kernel_rfl) (by kernel_rfl) (by kernel_rfl) (by kernel_rfl)

def palisadelaw24_offer.ret (Q : Heap → Prop) (v : V) (h : Heap) : Prop :=
  match v with
  | .tup [] => Q  h
  | _ => False

def palisadelaw24_offer.C (U : Ifc) (vs : List V) (κ : V → Heap → Prop) (h : Heap) : Prop :=
  match vs with
  | [.ptr a1, .int .i64 a2, .sl a3] => palisadelaw24_offer U a1 a2 a3 (fun  h => κ (.tup []) h) h
  | _ => False

noncomputable def palisadelaw24_offer.calls (U : Ifc) : List (Nat × (List V → (V → Heap → Prop) → Heap → Prop)) := [(299, palisadelaw24_Flat_Store.C U)]

noncomputable def palisadelaw24_offer.E (U : Ifc) (Q : Heap → Prop) (cuts : List (Nat × (List Nat × (List V → Heap → Prop)))) : Env := { tis := tisT, fns := fnsT, tys := tysT, gls := glsT, rts := rtsT, unk := [], nxt := [], calls := palisadelaw24_offer.calls U, ifc := U, cuts := cuts, ret := palisadelaw24_offer.ret Q, rets := [], n := 80 }

theorem palisadelaw24_offer.callsOK {W0 : World} {U : Ifc} (hU : IfcOK sg W0 glsT U) : CallsOK sg W0 (palisadelaw24_offer.calls U) := ⟨(palisadelaw24_Flat_Store.S hU), trivial⟩

def palisadelaw24_offer.k2 (I : (Option Ptr) → Int → Sl → Int → Heap → Prop) (vs : List V) (h : Heap) : Prop :=
  match vs with
  | [.ptr a1, .int .i64 a2, .sl a3, .int .i64 a4] => I a1 a2 a3 a4 h
  | _ => False

def palisadelaw24_offer.k12 (I : (Option Ptr) → Int → Sl → Int → Int → Heap → Prop) (vs : List V) (h : Heap) : Prop :=
  match vs with
  | [.ptr a1, .int .i64 a2, .sl a3, .int .i64 a4, .int .u64 a5] => I a1 a2 a3 a4 a5 h
  | _ => False

def palisadelaw24_offer.k8 (I : (Option Ptr) → Int → Sl → Int → Int → Heap → Prop) (vs : List V) (h : Heap) : Prop :=
  match vs with
  | [.ptr a1, .int .i64 a2, .sl a3, .int .i64 a4, .int .u64 a5] => I a1 a2 a3 a4 a5 h
  | _ => False

def palisadelaw24_offer.k6 (I : (Option Ptr) → Int → Sl → Int → Int → Heap → Prop) (vs : List V) (h : Heap) : Prop :=
  match vs with
  | [.ptr a1, .int .i64 a2, .sl a3, .int .i64 a4, .int .u64 a5] => I a1 a2 a3 a4 a5 h
  | _ => False

def palisadelaw24_offer.k1 (I : (Option Ptr) → Int → Sl → Int → Heap → Prop) (vs : List V) (h : Heap) : Prop :=
  match vs with
  | [.ptr a1, .int .i64 a2, .sl a3, .int .i64 a4] => I a1 a2 a3 a4 h
  | _ => False

theorem palisadelaw24_offer.p2 : (posC palisadelaw24_offer.code []).filter (fun p => Nat.beq p.1 2) = [(2, atPos (posC palisadelaw24_offer.code []) 2)] := by kernel_rfl

theorem palisadelaw24_offer.e2 : ∀ (U : Ifc) (I1 : (Option Ptr) → Int → Sl → Int → Heap → Prop) (a1 : Option Ptr) (a2 : Int) (a3 : Sl) (a4 : Int) (Q : Heap → Prop) (h : Heap), palisadelaw24_offer.j2 U I1 a1 a2 a3 a4 Q h = pts (palisadelaw24_offer.E U Q [(1, ([0, 1, 2, 6], palisadelaw24_offer.k1 I1))]) 3000 true (atPos (posC palisadelaw24_offer.code []) 2) (frAt [0, 1, 2, 6] [.ptr a1, .int .i64 a2, .sl a3, .int .i64 a4]) h := by
  intros; kernel_rfl

theorem palisadelaw24_offer.s2 {W0 : World} {U : Ifc} (hU : IfcOK sg W0 glsT U) (Q : Heap → Prop) (I1 : (Option Ptr) → Int → Sl → Int → Heap → Prop) (h1 : CutOK sg W0 80 (entered 14) (Post sg W0 (palisadelaw24_offer.ret Q)) (posC palisadelaw24_offer.code []) 1 [0, 1, 2, 6] (palisadelaw24_offer.k1 I1)) : CutOK sg W0 80 (entered 14) (Post sg W0 (palisadelaw24_offer.ret Q)) (posC palisadelaw24_offer.code []) 2 [0, 1, 2, 6] (palisadelaw24_offer.k2 (fun a1 a2 a3 a4 h => palisadelaw24_offer.j2 U I1 a1 a2 a3 a4 Q h)) := by
  refine cutOK_head (fun vs h hk => ?_)
  unfold palisadelaw24_offer.k2 at hk
  split at hk
  · rename_i a1 a2 a3 a4
    intro todo hm ρ a w s f hp
    exact piece (E := palisadelaw24_offer.E U Q [(1, ([0, 1, 2, 6], palisadelaw24_offer.k1 I1))]) (vs := [.ptr a1, .int .i64 a2, .sl a3, .int .i64 a4]) (envOK seatOK (palisadelaw24_offer.callsOK hU) hU) (fnOK seatOK palisadelaw24_offer.fun) ⟨h1, trivial⟩ palisadelaw24_offer.p2 (fuel := 3000) (by rw [← palisadelaw24_offer.e2]; exact hk) hm s f hp
  · exact hk.elim

theorem palisadelaw24_offer.p12 : (posC palisadelaw24_offer.code []).filter (fun p => Nat.beq p.1 12) = [(12, atPos (posC palisadelaw24_offer.code []) 12)] := by kernel_rfl

theorem palisadelaw24_offer.e12 : ∀ (U : Ifc) (I1 : (Option Ptr) → Int → Sl → Int → Heap → Prop) (a1 : Option Ptr) (a2 : Int) (a3 : Sl) (a4 : Int) (a5 : Int) (Q : Heap → Prop) (h : Heap), palisadelaw24_offer.j12 U I1 a1 a2 a3 a4 a5 Q h = pts (palisadelaw24_offer.E U Q [(2, ([0, 1, 2, 6], palisadelaw24_offer.k2 (fun a1 a2 a3 a4 h => palisadelaw24_offer.j2 U I1 a1 a2 a3 a4 Q h)))]) 3000 true (atPos (posC palisadelaw24_offer.code []) 12) (frAt [0, 1, 2, 6, 8] [.ptr a1, .int .i64 a2, .sl a3, .int .i64 a4, .int .u64 a5]) h := by
  intros; kernel_rfl

theorem palisadelaw24_offer.s12 {W0 : World} {U : Ifc} (hU : IfcOK sg W0 glsT U) (Q : Heap → Prop) (I1 : (Option Ptr) → Int → Sl → Int → Heap → Prop) (h1 : CutOK sg W0 80 (entered 14) (Post sg W0 (palisadelaw24_offer.ret Q)) (posC palisadelaw24_offer.code []) 1 [0, 1, 2, 6] (palisadelaw24_offer.k1 I1)) : CutOK sg W0 80 (entered 14) (Post sg W0 (palisadelaw24_offer.ret Q)) (posC palisadelaw24_offer.code []) 12 [0, 1, 2, 6, 8] (palisadelaw24_offer.k12 (fun a1 a2 a3 a4 a5 h => palisadelaw24_offer.j12 U I1 a1 a2 a3 a4 a5 Q h)) := by
  refine cutOK_head (fun vs h hk => ?_)
  unfold palisadelaw24_offer.k12 at hk
  split at hk
  · rename_i a1 a2 a3 a4 a5
    intro todo hm ρ a w s f hp
    exact piece (E := palisadelaw24_offer.E U Q [(2, ([0, 1, 2, 6], palisadelaw24_offer.k2 (fun a1 a2 a3 a4 h => palisadelaw24_offer.j2 U I1 a1 a2 a3 a4 Q h)))]) (vs := [.ptr a1, .int .i64 a2, .sl a3, .int .i64 a4, .int .u64 a5]) (envOK seatOK (palisadelaw24_offer.callsOK hU) hU) (fnOK seatOK palisadelaw24_offer.fun) ⟨(palisadelaw24_offer.s2 hU Q I1 h1), trivial⟩ palisadelaw24_offer.p12 (fuel := 3000) (by rw [← palisadelaw24_offer.e12]; exact hk) hm s f hp
  · exact hk.elim

theorem palisadelaw24_offer.p8 : (posC palisadelaw24_offer.code []).filter (fun p => Nat.beq p.1 8) = [(8, atPos (posC palisadelaw24_offer.code []) 8)] := by kernel_rfl

theorem palisadelaw24_offer.e8 : ∀ (U : Ifc) (I1 : (Option Ptr) → Int → Sl → Int → Heap → Prop) (a1 : Option Ptr) (a2 : Int) (a3 : Sl) (a4 : Int) (a5 : Int) (Q : Heap → Prop) (h : Heap), palisadelaw24_offer.j8 U I1 a1 a2 a3 a4 a5 Q h = pts (palisadelaw24_offer.E U Q [(12, ([0, 1, 2, 6, 8], palisadelaw24_offer.k12 (fun a1 a2 a3 a4 a5 h => palisadelaw24_offer.j12 U I1 a1 a2 a3 a4 a5 Q h)))]) 3000 true (atPos (posC palisadelaw24_offer.code []) 8) (frAt [0, 1, 2, 6, 7] [.ptr a1, .int .i64 a2, .sl a3, .int .i64 a4, .int .u64 a5]) h := by
  intros; kernel_rfl

theorem palisadelaw24_offer.s8 {W0 : World} {U : Ifc} (hU : IfcOK sg W0 glsT U) (Q : Heap → Prop) (I1 : (Option Ptr) → Int → Sl → Int → Heap → Prop) (h1 : CutOK sg W0 80 (entered 14) (Post sg W0 (palisadelaw24_offer.ret Q)) (posC palisadelaw24_offer.code []) 1 [0, 1, 2, 6] (palisadelaw24_offer.k1 I1)) : CutOK sg W0 80 (entered 14) (Post sg W0 (palisadelaw24_offer.ret Q)) (posC palisadelaw24_offer.code []) 8 [0, 1, 2, 6, 7] (palisadelaw24_offer.k8 (fun a1 a2 a3 a4 a5 h => palisadelaw24_offer.j8 U I1 a1 a2 a3 a4 a5 Q h)) := by
  refine cutOK_head (fun vs h hk => ?_)
  unfold palisadelaw24_offer.k8 at hk
  split at hk
  · rename_i a1 a2 a3 a4 a5
    intro todo hm ρ a w s f hp
    exact piece (E := palisadelaw24_offer.E U Q [(12, ([0, 1, 2, 6, 8], palisadelaw24_offer.k12 (fun a1 a2 a3 a4 a5 h => palisadelaw24_offer.j12 U I1 a1 a2 a3 a4 a5 Q h)))]) (vs := [.ptr a1, .int .i64 a2, .sl a3, .int .i64 a4, .int .u64 a5]) (envOK seatOK (palisadelaw24_offer.callsOK hU) hU) (fnOK seatOK palisadelaw24_offer.fun) ⟨(palisadelaw24_offer.s12 hU Q I1 h1), trivial⟩ palisadelaw24_offer.p8 (fuel := 3000) (by rw [← palisadelaw24_offer.e8]; exact hk) hm s f hp
  · exact hk.elim

theorem palisadelaw24_offer.p6 : (posC palisadelaw24_offer.code []).filter (fun p => Nat.beq p.1 6) = [(6, atPos (posC palisadelaw24_offer.code []) 6)] := by kernel_rfl

theorem palisadelaw24_offer.e6 : ∀ (U : Ifc) (I1 : (Option Ptr) → Int → Sl → Int → Heap → Prop) (a1 : Option Ptr) (a2 : Int) (a3 : Sl) (a4 : Int) (a5 : Int) (Q : Heap → Prop) (h : Heap), palisadelaw24_offer.j6 U I1 a1 a2 a3 a4 a5 Q h = pts (palisadelaw24_offer.E U Q [(8, ([0, 1, 2, 6, 7], palisadelaw24_offer.k8 (fun a1 a2 a3 a4 a5 h => palisadelaw24_offer.j8 U I1 a1 a2 a3 a4 a5 Q h)))]) 3000 true (atPos (posC palisadelaw24_offer.code []) 6) (frAt [0, 1, 2, 6, 7] [.ptr a1, .int .i64 a2, .sl a3, .int .i64 a4, .int .u64 a5]) h := by
  intros; kernel_rfl

theorem palisadelaw24_offer.s6 {W0 : World} {U : Ifc} (hU : IfcOK sg W0 glsT U) (Q : Heap → Prop) (I1 : (Option Ptr) → Int → Sl → Int → Heap → Prop) (h1 : CutOK sg W0 80 (entered 14) (Post sg W0 (palisadelaw24_offer.ret Q)) (posC palisadelaw24_offer.code []) 1 [0, 1, 2, 6] (palisadelaw24_offer.k1 I1)) : CutOK sg W0 80 (entered 14) (Post sg W0 (palisadelaw24_offer.ret Q)) (posC palisadelaw24_offer.code []) 6 [0, 1, 2, 6, 7] (palisadelaw24_offer.k6 (fun a1 a2 a3 a4 a5 h => palisadelaw24_offer.j6 U I1 a1 a2 a3 a4 a5 Q h)) := by
  refine cutOK_head (fun vs h hk => ?_)
  unfold palisadelaw24_offer.k6 at hk
  split at hk
  · rename_i a1 a2 a3 a4 a5
    intro todo hm ρ a w s f hp
    exact piece (E := palisadelaw24_offer.E U Q [(8, ([0, 1, 2, 6, 7], palisadelaw24_offer.k8 (fun a1 a2 a3 a4 a5 h => palisadelaw24_offer.j8 U I1 a1 a2 a3 a4 a5 Q h)))]) (vs := [.ptr a1, .int .i64 a2, .sl a3, .int .i64 a4, .int .u64 a5]) (envOK seatOK (palisadelaw24_offer.callsOK hU) hU) (fnOK seatOK palisadelaw24_offer.fun) ⟨(palisadelaw24_offer.s8 hU Q I1 h1), trivial⟩ palisadelaw24_offer.p6 (fuel := 3000) (by rw [← palisadelaw24_offer.e6]; exact hk) hm s f hp
  · exact hk.elim

theorem palisadelaw24_offer.p1 : (posC palisadelaw24_offer.code []).filter (fun p => Nat.beq p.1 1) = [(1, atPos (posC palisadelaw24_offer.code []) 1)] := by kernel_rfl

theorem palisadelaw24_offer.e1 : ∀ (U : Ifc)  (I1 : (Option Ptr) → Int → Sl → Int → Heap → Prop) (a1 : Option Ptr) (a2 : Int) (a3 : Sl) (a4 : Int) (Q : Heap → Prop) (h : Heap), palisadelaw24_offer.b1 U  I1 a1 a2 a3 a4 Q h = pts (palisadelaw24_offer.E U Q [(6, ([0, 1, 2, 6, 7], palisadelaw24_offer.k6 (fun a1 a2 a3 a4 a5 h => palisadelaw24_offer.j6 U I1 a1 a2 a3 a4 a5 Q h)))]) 3000 true (atPos (posC palisadelaw24_offer.code []) 1) (frAt [0, 1, 2, 6] [.ptr a1, .int .i64 a2, .sl a3, .int .i64 a4]) h := by
  intros; kernel_rfl

theorem palisadelaw24_offer.s1 {W0 : World} {U : Ifc} (hU : IfcOK sg W0 glsT U) (Q : Heap → Prop)   : CutOK sg W0 80 (entered 14) (Post sg W0 (palisadelaw24_offer.ret Q)) (posC palisadelaw24_offer.code []) 1 [0, 1, 2, 6] (palisadelaw24_offer.k1 (fun a1 a2 a3 a4 h => palisadelaw24_offer.j1 U  a1 a2 a3 a4 Q h)) := by
  refine cutOK_head (fun vs h hk => ?_)
  unfold palisadelaw24_offer.k1 at hk
  split at hk
  · rename_i a1 a2 a3 a4
    refine hk (fun a1 a2 a3 a4 h => Head sg W0 80 (entered 14) (Post sg W0 (palisadelaw24_offer.ret Q)) (posC palisadelaw24_offer.code []) 1 [0, 1, 2, 6] [.ptr a1, .int .i64 a2, .sl a3, .int .i64 a4] h) ?_
    intro a1 a2 a3 a4 h hb todo hm ρ a w s f hp
    have hself : CutOK sg W0 80 (entered 14) (Post sg W0 (palisadelaw24_offer.ret Q)) (posC palisadelaw24_offer.code []) 1 [0, 1, 2, 6] (palisadelaw24_offer.k1 (fun a1 a2 a3 a4 h => Head sg W0 80 (entered 14) (Post sg W0 (palisadelaw24_offer.ret Q)) (posC palisadelaw24_offer.code []) 1 [0, 1, 2, 6] [.ptr a1, .int .i64 a2, .sl a3, .int .i64 a4] h)) := cutOK_head (fun vs h hk => by unfold palisadelaw24_offer.k1 at hk; split at hk; exact hk; exact hk.elim)
    exact piece (E := palisadelaw24_offer.E U Q [(6, ([0, 1, 2, 6, 7], palisadelaw24_offer.k6 (fun a1 a2 a3 a4 a5 h => palisadelaw24_offer.j6 U (fun a1 a2 a3 a4 h => Head sg W0 80 (entered 14) (Post sg W0 (palisadelaw24_offer.ret Q)) (posC palisadelaw24_offer.code []) 1 [0, 1, 2, 6] [.ptr a1, .int .i64 a2, .sl a3, .int .i64 a4] h) a1 a2 a3 a4 a5 Q h)))]) (vs := [.ptr a1, .int .i64 a2, .sl a3, .int .i64 a4]) (envOK seatOK (palisadelaw24_offer.callsOK hU) hU) (fnOK seatOK palisadelaw24_offer.fun) ⟨(palisadelaw24_offer.s6 hU Q (fun a1 a2 a3 a4 h => Head sg W0 80 (entered 14) (Post sg W0 (palisadelaw24_offer.ret Q)) (posC palisadelaw24_offer.code []) 1 [0, 1, 2, 6] [.ptr a1, .int .i64 a2, .sl a3, .int .i64 a4] h) hself), trivial⟩ palisadelaw24_offer.p1 (fuel := 3000) (by rw [← palisadelaw24_offer.e1]; exact hb) hm s f hp
  · exact hk.elim

theorem palisadelaw24_offer.e : ∀ (U : Ifc) (a1 : Option Ptr) (a2 : Int) (a3 : Sl) (Q : Heap → Prop) (h : Heap), palisadelaw24_offer U a1 a2 a3 Q h = pts (palisadelaw24_offer.E U Q [(1, ([0, 1, 2, 6], palisadelaw24_offer.k1 (fun a1 a2 a3 a4 h => palisadelaw24_offer.j1 U  a1 a2 a3 a4 Q h)))]) 3000 true [.code palisadelaw24_offer.code] (frOf 0 [.ptr a1, .int .i64 a2, .sl a3]) h := by
  intros; kernel_rfl

theorem palisadelaw24_offer.S {W0 : World} {U : Ifc} (hU : IfcOK sg W0 glsT U) : FnS sg W0 301 (palisadelaw24_offer.C U) := by
  intro vs κ h wv hx w s
  unfold palisadelaw24_offer.C at hx
  split at hx
  · rename_i a1 a2 a3
    refine postImp (ret := palisadelaw24_offer.ret (fun  h => κ (.tup []) h)) (fun v h hr => by unfold palisadelaw24_offer.ret at hr; split at hr; exact hr; exact hr.elim) ?_
    exact calls_of_pts (E := palisadelaw24_offer.E U (fun  h => κ (.tup []) h) [(1, ([0, 1, 2, 6], palisadelaw24_offer.k1 (fun a1 a2 a3 a4 h => palisadelaw24_offer.j1 U  a1 a2 a3 a4 (fun  h => κ (.tup []) h) h)))]) (envOK seatOK (palisadelaw24_offer.callsOK hU) hU) seatOK.mixed palisadelaw24_offer.fun (Nat.le_of_ble_eq_true rfl) wv (cutL_ok ⟨(palisadelaw24_offer.s1 hU (fun  h => κ (.tup []) h)), trivial⟩) s (fuel := 3000) (by rw [← palisadelaw24_offer.e]; exact hx)
  · exact hx.elim

noncomputable def backend_Block_none.code : Code := Go.Proofs.Tryd.f53.body.getD .skip

theorem backend_Block_none.fun : Fun sg.P 53 18 [.tmp 4] backend_Block_none.code := mkFun Go.Proofs.Tryd.func53 (by kernel_rfl) (by kernel_rfl) (by kernel_rfl) (by kernel_rfl)

def backend_Block_none.ret (Q : Bool → Heap → Prop) (v : V) (h : Heap) : Prop :=
  match v with
  | .bool r1 => Q r1 h
  | _ => False

def backend_Block_none.C (vs : List V) (κ : V → Heap → Prop) (h : Heap) : Prop :=
  match vs with
  | [.ptr a1, a2] => backend_Block_none a1 a2 (fun r1 h => κ (.bool r1) h) h
  | _ => False

noncomputable def backend_Block_none.calls : List (Nat × (List V → (V → Heap → Prop) → Heap → Prop)) := []

noncomputable def backend_Block_none.E (Q : Bool → Heap → Prop) (cuts : List (Nat × (List Nat × (List V → Heap → Prop)))) : Env := { tis := tisT, fns := fnsT, tys := tysT, gls := [], rts := rtsT, unk := [], nxt := [], calls := backend_Block_none.calls, ifc := noIfc, cuts := cuts, ret := backend_Block_none.ret Q, rets := [.tmp 4], n := 18 }

theorem backend_Block_none.callsOK {W0 : World} : CallsOK sg W0 backend_Block_none.calls := trivial

theorem backend_Block_none.e : ∀ (a1 : Option Ptr) (a2 : V) (Q : Bool → Heap → Prop) (h : Heap), backend_Block_none a1 a2 Q h = pts (backend_Block_none.E Q []) 3000 true [.code backend_Block_none.code] (frOf 0 [.ptr a1, a2]) h := by
  intros; kernel_rfl

theorem backend_Block_none.S {W0 : World} : FnS sg W0 266 backend_Block_none.C := by
  intro vs κ h wv hx w s
  unfold backend_Block_none.C at hx
  split at hx
  · rename_i a1 a2
    refine postImp (ret := backend_Block_none.ret (fun r1 h => κ (.bool r1) h)) (fun v h hr => by unfold backend_Block_none.ret at hr; split at hr; exact hr; exact hr.elim) ?_
    exact calls_of_pts (E := backend_Block_none.E (fun r1 h => κ (.bool r1) h) []) (envOK seatOK backend_Block_none.callsOK noIfc_ok) seatOK.mixed backend_Block_none.fun (Nat.le_of_ble_eq_true rfl) wv (cutL_ok trivial) s (fuel := 3000) (by rw [← backend_Block_none.e]; exact hx)
  · exact hx.elim

noncomputable def ring_Ring_usable.code : Code := Go.Proofs.Tryd.f85.body.getD .skip

theorem ring_Ring_usable.fun : Fun sg.P 85 24 [.tmp 4] ring_Ring_usable.code := mkFun Go.Proofs.Tryd.func85 (by kernel_rfl) (by kernel_rfl) (by kernel_rfl) (by kernel_rfl)

def ring_Ring_usable.ret (Q : Int → Heap → Prop) (v : V) (h : Heap) : Prop :=
  match v with
  | .int .i64 r1 => Q r1 h
  | _ => False

def ring_Ring_usable.C (vs : List V) (κ : V → Heap → Prop) (h : Heap) : Prop :=
  match vs with
  | [.ptr a1, a2] => ring_Ring_usable a1 a2 (fun r1 h => κ (.int .i64 r1) h) h
  | _ => False

noncomputable def ring_Ring_usable.calls : List (Nat × (List V → (V → Heap → Prop) → Heap → Prop)) := []

noncomputable def ring_Ring_usable.E (Q : Int → Heap → Prop) (cuts : List (Nat × (List Nat × (List V → Heap → Prop)))) : Env := { tis := tisT, fns := fnsT, tys := tysT, gls := [], rts := rtsT, unk := [], nxt := [], calls := ring_Ring_usable.calls, ifc := noIfc, cuts := cuts, ret := ring_Ring_usable.ret Q, rets := [.tmp 4], n := 24 }

theorem ring_Ring_usable.callsOK {W0 : World} : CallsOK sg W0 ring_Ring_usable.calls := trivial

theorem ring_Ring_usable.e : ∀ (a1 : Option Ptr) (a2 : V) (Q : Int → Heap → Prop) (h : Heap), ring_Ring_usable a1 a2 Q h = pts (ring_Ring_usable.E Q []) 3000 true [.code ring_Ring_usable.code] (frOf 0 [.ptr a1, a2]) h := by
  intros; kernel_rfl

theorem ring_Ring_usable.S {W0 : World} : FnS sg W0 30 ring_Ring_usable.C := by
  intro vs κ h wv hx w s
  unfold ring_Ring_usable.C at hx
  split at hx
  · rename_i a1 a2
    refine postImp (ret := ring_Ring_usable.ret (fun r1 h => κ (.int .i64 r1) h)) (fun v h hr => by unfold ring_Ring_usable.ret at hr; split at hr; exact hr; exact hr.elim) ?_
    exact calls_of_pts (E := ring_Ring_usable.E (fun r1 h => κ (.int .i64 r1) h) []) (envOK seatOK ring_Ring_usable.callsOK noIfc_ok) seatOK.mixed ring_Ring_usable.fun (Nat.le_of_ble_eq_true rfl) wv (cutL_ok trivial) s (fuel := 3000) (by rw [← ring_Ring_usable.e]; exact hx)
  · exact hx.elim

noncomputable def ring_reader_number.code : Code := Go.Proofs.Tryd.f86.body.getD .skip

theorem ring_reader_number.fun : Fun sg.P 86 28 [.tmp 4] ring_reader_number.code := mkFun Go.Proofs.Tryd.func86 (by kernel_rfl) (by kernel_rfl) (by kernel_rfl) (by kernel_rfl)

def ring_reader_number.ret (Q : Int → Heap → Prop) (v : V) (h : Heap) : Prop :=
  match v with
  | .int .u64 r1 => Q r1 h
  | _ => False

def ring_reader_number.C (U : Ifc) (vs : List V) (κ : V → Heap → Prop) (h : Heap) : Prop :=
  match vs with
  | [.ptr a1, .int .u64 a2] => ring_reader_number U a1 a2 (fun r1 h => κ (.int .u64 r1) h) h
  | _ => False

noncomputable def ring_reader_number.calls (U : Ifc) : List (Nat × (List V → (V → Heap → Prop) → Heap → Prop)) := []

noncomputable def ring_reader_number.E (U : Ifc) (Q : Int → Heap → Prop) (cuts : List (Nat × (List Nat × (List V → Heap → Prop)))) : Env := { tis := tisT, fns := fnsT, tys := tysT, gls := glsT, rts := rtsT, unk := [], nxt := [], calls := ring_reader_number.calls U, ifc := U, cuts := cuts, ret := ring_reader_number.ret Q, rets := [.tmp 4], n := 28 }

theorem ring_reader_number.callsOK {W0 : World} {U : Ifc} (hU : IfcOK sg W0 glsT U) : CallsOK sg W0 (ring_reader_number.calls U) := trivial

theorem ring_reader_number.e : ∀ (U : Ifc) (a1 : Option Ptr) (a2 : Int) (Q : Int → Heap → Prop) (h : Heap), ring_reader_number U a1 a2 Q h = pts (ring_reader_number.E U Q []) 3000 true [.code ring_reader_number.code] (frOf 0 [.ptr a1, .int .u64 a2]) h := by
  intros; kernel_rfl

theorem ring_reader_number.S {W0 : World} {U : Ifc} (hU : IfcOK sg W0 glsT U) : FnS sg W0 74 (ring_reader_number.C U) := by
  intro vs κ h wv hx w s
  unfold ring_reader_number.C at hx
  split at hx
  · rename_i a1 a2
    refine postImp (ret := ring_reader_number.ret (fun r1 h => κ (.int .u64 r1) h)) (fun v h hr => by unfold ring_reader_number.ret at hr; split at hr; exact hr; exact hr.elim) ?_
    exact calls_of_pts (E := ring_reader_number.E U (fun r1 h => κ (.int .u64 r1) h) []) (envOK seatOK (ring_reader_number.callsOK hU) hU) seatOK.mixed ring_reader_number.fun (Nat.le_of_ble_eq_true rfl) wv (cutL_ok trivial) s (fuel := 3000) (by rw [← ring_reader_number.e]; exact hx)
  · exact hx.elim

noncomputable def ring_reader_part.code : Code := Go.Proofs.Tryd.f101.body.getD .skip

theorem ring_reader_part.fun : Fun sg.P 101 68 [.cell 4 48, .tmp 5, .tmp 6] ring_reader_part.code := mkFun Go.Proofs.Tryd.func101 (by kernel_rfl) (by kernel_rfl) (by kernel_rfl) (by kernel_rfl)

def ring_reader_part.ret (Q : Int → Int → Bool → Int → Bool → Heap → Prop) (v : V) (h : Heap) : Prop :=
  match v with
  | .tup [.agg [.int .u64 r1, .int .i64 r2, .bool r3], .int .u64 r4, .bool r5] => Q r1 r2 r3 r4 r5 h
  | _ => False

def ring_reader_part.C (U : Ifc) (vs : List V) (κ : V → Heap → Prop) (h : Heap) : Prop :=
  match vs with
  | [.ptr a1, .int .u64 a2] => ring_reader_part U a1 a2 (fun r1 r2 r3 r4 r5 h => κ (.tup [.agg [.int .u64 r1, .int .i64 r2, .bool r3], .int .u64 r4, .bool r5]) h) h
  | _ => False

noncomputable def ring_reader_part.calls (U : Ifc) : List (Nat × (List V → (V → Heap → Prop) → Heap → Prop)) := [(74, ring_reader_number.C U)]

noncomputable def ring_reader_part.E (U : Ifc) (Q : Int → Int → Bool → Int → Bool → Heap → Prop) (cuts : List (Nat × (List Nat × (List V → Heap → Prop)))) : Env := { tis := tisT, fns := fnsT, tys := tysT, gls := glsT, rts := rtsT, unk := [], nxt := [], calls := ring_reader_part.calls U, ifc := U, cuts := cuts, ret := ring_reader_part.ret Q, rets := [.cell 4 48, .tmp 5, .tmp 6], n := 68 }

theorem ring_reader_part.callsOK {W0 : World} {U : Ifc} (hU : IfcOK sg W0 glsT U) : CallsOK sg W0 (ring_reader_part.calls U) := ⟨(ring_reader_number.S hU), trivial⟩

def ring_reader_part.k7 (I : (Option Ptr) → Int → Ptr → Ptr → Int → Heap → Prop) (vs : List V) (h : Heap) : Prop :=
  match vs with
  | [.ptr a1, .int .u64 a2, .ptr (some a3), .ptr (some a4), .int .i64 a5] => I a1 a2 a3 a4 a5 h
  | _ => False

def ring_reader_part.k9 (I : (Option Ptr) → Ptr → Heap → Prop) (vs : List V) (h : Heap) : Prop :=
  match vs with
  | [.ptr a1, .ptr (some a2)] => I a1 a2 h
  | _ => False

def ring_reader_part.k3 (I : (Option Ptr) → Int → Ptr → Ptr → Int → Heap → Prop) (vs : List V) (h : Heap) : Prop :=
  match vs with
  | [.ptr a1, .int .u64 a2, .ptr (some a3), .ptr (some a4), .int .i64 a5] => I a1 a2 a3 a4 a5 h
  | _ => False

theorem ring_reader_part.p7 : (posC ring_reader_part.code []).filter (fun p => Nat.beq p.1 7) = [(7, atPos (posC ring_reader_part.code []) 7)] := by kernel_rfl

theorem ring_reader_part.e7 : ∀ (U : Ifc) (I3 : (Option Ptr) → Int → Ptr → Ptr → Int → Heap → Prop) (a1 : Option Ptr) (a2 : Int) (a3 : Ptr) (a4 : Ptr) (a5 : Int) (Q : Int → Int → Bool → Int → Bool → Heap → Prop) (h : Heap), ring_reader_part.j7 U I3 a1 a2 a3 a4 a5 Q h = pts (ring_reader_part.E U Q [(3, ([0, 1, 4, 7, 9], ring_reader_part.k3 I3))]) 3000 true (atPos (posC ring_reader_part.code []) 7) (frAt [0, 1, 4, 7, 9] [.ptr a1, .int .u64 a2, .ptr (some a3), .ptr (some a4), .int .i64 a5]) h := by
  intros; kernel_rfl

theorem ring_reader_part.s7 {W0 : World} {U : Ifc} (hU : IfcOK sg W0 glsT U) (Q : Int → Int → Bool → Int → Bool → Heap → Prop) (I3 : (Option Ptr) → Int → Ptr → Ptr → Int → Heap → Prop) (h3 : CutOK sg W0 68 (entered 101) (Post sg W0 (ring_reader_part.ret Q)) (posC ring_reader_part.code []) 3 [0, 1, 4, 7, 9] (ring_reader_part.k3 I3)) : CutOK sg W0 68 (entered 101) (Post sg W0 (ring_reader_part.ret Q)) (posC ring_reader_part.code []) 7 [0, 1, 4, 7, 9] (ring_reader_part.k7 (fun a1 a2 a3 a4 a5 h => ring_reader_part.j7 U I3 a1 a2 a3 a4 a5 Q h)) := by
  refine cutOK_head (fun vs h hk => ?_)
  unfold ring_reader_part.k7 at hk
  split at hk
  · rename_i a1 a2 a3 a4 a5
    intro todo hm ρ a w s f hp
    exact piece (E := ring_reader_part.E U Q [(3, ([0, 1, 4, 7, 9], ring_reader_part.k3 I3))]) (vs := [.ptr a1, .int .u64 a2, .ptr (some a3), .ptr (some a4), .int .i64 a5]) (envOK seatOK (ring_reader_part.callsOK hU) hU) (fnOK seatOK ring_reader_part.fun) ⟨h3, trivial⟩ ring_reader_part.p7 (fuel := 3000) (by rw [← ring_reader_part.e7]; exact hk) hm s f hp
  · exact hk.elim

theorem ring_reader_part.p9 : (posC ring_reader_part.code []).filter (fun p => Nat.beq p.1 9) = [(9, atPos (posC ring_reader_part.code []) 9)] := by kernel_rfl

theorem ring_reader_part.e9 : ∀ (U : Ifc)  (a1 : Option Ptr) (a2 : Ptr) (Q : Int → Int → Bool → Int → Bool → Heap → Prop) (h : Heap), ring_reader_part.j9 U  a1 a2 Q h = pts (ring_reader_part.E U Q []) 3000 true (atPos (posC ring_reader_part.code []) 9) (frAt [0, 4] [.ptr a1, .ptr (some a2)]) h := by
  intros; kernel_rfl

theorem ring_reader_part.s9 {W0 : World} {U : Ifc} (hU : IfcOK sg W0 glsT U) (Q : Int → Int → Bool → Int → Bool → Heap → Prop)   : CutOK sg W0 68 (entered 101) (Post sg W0 (ring_reader_part.ret Q)) (posC ring_reader_part.code []) 9 [0, 4] (ring_reader_part.k9 (fun a1 a2 h => ring_reader_part.j9 U  a1 a2 Q h)) := by
  refine cutOK_head (fun vs h hk => ?_)
  unfold ring_reader_part.k9 at hk
  split at hk
  · rename_i a1 a2
    intro todo hm ρ a w s f hp
    exact piece (E := ring_reader_part.E U Q []) (vs := [.ptr a1, .ptr (some a2)]) (envOK seatOK (ring_reader_part.callsOK hU) hU) (fnOK seatOK ring_reader_part.fun) trivial ring_reader_part.p9 (fuel := 3000) (by rw [← ring_reader_part.e9]; exact hk) hm s f hp
  · exact hk.elim

theorem ring_reader_part.p3 : (posC ring_reader_part.code []).filter (fun p => Nat.beq p.1 3) = [(3, atPos (posC ring_reader_part.code []) 3)] := by kernel_rfl

theorem ring_reader_part.e3 : ∀ (U : Ifc)  (I3 : (Option Ptr) → Int → Ptr → Ptr → Int → Heap → Prop) (a1 : Option Ptr) (a2 : Int) (a3 : Ptr) (a4 : Ptr) (a5 : Int) (Q : Int → Int → Bool → Int → Bool → Heap → Prop) (h : Heap), ring_reader_part.b3 U  I3 a1 a2 a3 a4 a5 Q h = pts (ring_reader_part.E U Q [(7, ([0, 1, 4, 7, 9], ring_reader_part.k7 (fun a1 a2 a3 a4 a5 h => ring_reader_part.j7 U I3 a1 a2 a3 a4 a5 Q h))), (9, ([0, 4], ring_reader_part.k9 (fun a1 a2 h => ring_reader_part.j9 U  a1 a2 Q h)))]) 3000 true (atPos (posC ring_reader_part.code []) 3) (frAt [0, 1, 4, 7, 9] [.ptr a1, .int .u64 a2, .ptr (some a3), .ptr (some a4), .int .i64 a5]) h := by
  intros; kernel_rfl

theorem ring_reader_part.s3 {W0 : World} {U : Ifc} (hU : IfcOK sg W0 glsT U) (Q : Int → Int → Bool → Int → Bool → Heap → Prop)   : CutOK sg W0 68 (entered 101) (Post sg W0 (ring_reader_part.ret Q)) (posC ring_reader_part.code []) 3 [0, 1, 4, 7, 9] (ring_reader_part.k3 (fun a1 a2 a3 a4 a5 h => ring_reader_part.j3 U  a1 a2 a3 a4 a5 Q h)) := by
  refine cutOK_head (fun vs h hk => ?_)
  unfold ring_reader_part.k3 at hk
  split at hk
  · rename_i a1 a2 a3 a4 a5
    refine hk (fun a1 a2 a3 a4 a5 h => Head sg W0 68 (entered 101) (Post sg W0 (ring_reader_part.ret Q)) (posC ring_reader_part.code []) 3 [0, 1, 4, 7, 9] [.ptr a1, .int .u64 a2, .ptr (some a3), .ptr (some a4), .int .i64 a5] h) ?_
    intro a1 a2 a3 a4 a5 h hb todo hm ρ a w s f hp
    have hself : CutOK sg W0 68 (entered 101) (Post sg W0 (ring_reader_part.ret Q)) (posC ring_reader_part.code []) 3 [0, 1, 4, 7, 9] (ring_reader_part.k3 (fun a1 a2 a3 a4 a5 h => Head sg W0 68 (entered 101) (Post sg W0 (ring_reader_part.ret Q)) (posC ring_reader_part.code []) 3 [0, 1, 4, 7, 9] [.ptr a1, .int .u64 a2, .ptr (some a3), .ptr (some a4), .int .i64 a5] h)) := cutOK_head (fun vs h hk => by unfold ring_reader_part.k3 at hk; split at hk; exact hk; exact hk.elim)
    exact piece (E := ring_reader_part.E U Q [(7, ([0, 1, 4, 7, 9], ring_reader_part.k7 (fun a1 a2 a3 a4 a5 h => ring_reader_part.j7 U (fun a1 a2 a3 a4 a5 h => Head sg W0 68 (entered 101) (Post sg W0 (ring_reader_part.ret Q)) (posC ring_reader_part.code []) 3 [0, 1, 4, 7, 9] [.ptr a1, .int .u64 a2, .ptr (some a3), .ptr (some a4), .int .i64 a5] h) a1 a2 a3 a4 a5 Q h))), (9, ([0, 4], ring_reader_part.k9 (fun a1 a2 h => ring_reader_part.j9 U  a1 a2 Q h)))]) (vs := [.ptr a1, .int .u64 a2, .ptr (some a3), .ptr (some a4), .int .i64 a5]) (envOK seatOK (ring_reader_part.callsOK hU) hU) (fnOK seatOK ring_reader_part.fun) ⟨(ring_reader_part.s7 hU Q (fun a1 a2 a3 a4 a5 h => Head sg W0 68 (entered 101) (Post sg W0 (ring_reader_part.ret Q)) (posC ring_reader_part.code []) 3 [0, 1, 4, 7, 9] [.ptr a1, .int .u64 a2, .ptr (some a3), .ptr (some a4), .int .i64 a5] h) hself), (ring_reader_part.s9 hU Q  ), trivial⟩ ring_reader_part.p3 (fuel := 3000) (by rw [← ring_reader_part.e3]; exact hb) hm s f hp
  · exact hk.elim

theorem ring_reader_part.e : ∀ (U : Ifc) (a1 : Option Ptr) (a2 : Int) (Q : Int → Int → Bool → Int → Bool → Heap → Prop) (h : Heap), ring_reader_part U a1 a2 Q h = pts (ring_reader_part.E U Q [(3, ([0, 1, 4, 7, 9], ring_reader_part.k3 (fun a1 a2 a3 a4 a5 h => ring_reader_part.j3 U  a1 a2 a3 a4 a5 Q h)))]) 3000 true [.code ring_reader_part.code] (frOf 0 [.ptr a1, .int .u64 a2]) h := by
  intros; kernel_rfl

theorem ring_reader_part.S {W0 : World} {U : Ifc} (hU : IfcOK sg W0 glsT U) : FnS sg W0 75 (ring_reader_part.C U) := by
  intro vs κ h wv hx w s
  unfold ring_reader_part.C at hx
  split at hx
  · rename_i a1 a2
    refine postImp (ret := ring_reader_part.ret (fun r1 r2 r3 r4 r5 h => κ (.tup [.agg [.int .u64 r1, .int .i64 r2, .bool r3], .int .u64 r4, .bool r5]) h)) (fun v h hr => by unfold ring_reader_part.ret at hr; split at hr; exact hr; exact hr.elim) ?_
    exact calls_of_pts (E := ring_reader_part.E U (fun r1 r2 r3 r4 r5 h => κ (.tup [.agg [.int .u64 r1, .int .i64 r2, .bool r3], .int .u64 r4, .bool r5]) h) [(3, ([0, 1, 4, 7, 9], ring_reader_part.k3 (fun a1 a2 a3 a4 a5 h => ring_reader_part.j3 U  a1 a2 a3 a4 a5 (fun r1 r2 r3 r4 r5 h => κ (.tup [.agg [.int .u64 r1, .int .i64 r2, .bool r3], .int .u64 r4, .bool r5]) h) h)))]) (envOK seatOK (ring_reader_part.callsOK hU) hU) seatOK.mixed ring_reader_part.fun (Nat.le_of_ble_eq_true rfl) wv (cutL_ok ⟨(ring_reader_part.s3 hU (fun r1 r2 r3 r4 r5 h => κ (.tup [.agg [.int .u64 r1, .int .i64 r2, .bool r3], .int .u64 r4, .bool r5]) h)), trivial⟩) s (fuel := 3000) (by rw [← ring_reader_part.e]; exact hx)
  · exact hx.elim

noncomputable def ring_Ring_chain.code : Code := Go.Proofs.Tryd.f87.body.getD .skip

theorem ring_Ring_chain.fun : Fun sg.P 87 82 [.cell 6 116, .tmp 7] ring_Ring_chain.code := mkFun Go.Proofs.Tryd.func87 (by kernel_rfl) (by kernel_rfl) (by kernel_rfl) (by kernel_rfl)

def ring_Ring_chain.ret (Q : Int → Sl → Bool → Heap → Prop) (v : V) (h : Heap) : Prop :=
  match v with
  | .tup [.agg [.int .i64 r1, .sl r2], .bool r3] => Q r1 r2 r3 h
  | _ => False

def ring_Ring_chain.C (U : Ifc) (vs : List V) (κ : V → Heap → Prop) (h : Heap) : Prop :=
  match vs with
  | [.ptr a1, .ptr a2, .int .u64 a3] => ring_Ring_chain U a1 a2 a3 (fun r1 r2 r3 h => κ (.tup [.agg [.int .i64 r1, .sl r2], .bool r3]) h) h
  | _ => False

noncomputable def ring_Ring_chain.calls (U : Ifc) : List (Nat × (List V → (V → Heap → Prop) → Heap → Prop)) := [(75, ring_reader_part.C U)]

noncomputable def ring_Ring_chain.E (U : Ifc) (Q : Int → Sl → Bool → Heap → Prop) (cuts : List (Nat × (List Nat × (List V → Heap → Prop)))) : Env := { tis := tisT, fns := fnsT, tys := tysT, gls := glsT, rts := rtsT, unk := [], nxt := [], calls := ring_Ring_chain.calls U, ifc := U, cuts := cuts, ret := ring_Ring_chain.ret Q, rets := [.cell 6 116, .tmp 7], n := 82 }

theorem ring_Ring_chain.callsOK {W0 : World} {U : Ifc} (hU : IfcOK sg W0 glsT U) : CallsOK sg W0 (ring_Ring_chain.calls U) := ⟨(ring_reader_part.S hU), trivial⟩

def ring_Ring_chain.k9 (I : Ptr → Heap → Prop) (vs : List V) (h : Heap) : Prop :=
  match vs with
  | [.ptr (some a1)] => I a1 h
  | _ => False

def ring_Ring_chain.k10 (I : (Option Ptr) → (Option Ptr) → Int → Ptr → Ptr → Int → Bool → Int → Int → Heap → Prop) (vs : List V) (h : Heap) : Prop :=
  match vs with
  | [.ptr a1, .ptr a2, .int .u64 a3, .ptr (some a4), .ptr (some a5), .int .u64 a6, .bool a7, .int .u64 a8, .int .u64 a9] => I a1 a2 a3 a4 a5 a6 a7 a8 a9 h
  | _ => False

def ring_Ring_chain.k8 (I : (Option Ptr) → (Option Ptr) → Int → Ptr → Ptr → Int → Bool → Int → Int → Int → Heap → Prop) (vs : List V) (h : Heap) : Prop :=
  match vs with
  | [.ptr a1, .ptr a2, .int .u64 a3, .ptr (some a4), .ptr (some a5), .int .u64 a6, .bool a7, .int .i64 a8, .int .u64 a9, .int .u64 a10] => I a1 a2 a3 a4 a5 a6 a7 a8 a9 a10 h
  | _ => False

def ring_Ring_chain.k3 (I : (Option Ptr) → (Option Ptr) → Int → Ptr → Bool → Int → Int → Int → Heap → Prop) (vs : List V) (h : Heap) : Prop :=
  match vs with
  | [.ptr a1, .ptr a2, .int .u64 a3, .ptr (some a4), .bool a5, .int .u64 a6, .int .u64 a7, .int .u64 a8] => I a1 a2 a3 a4 a5 a6 a7 a8 h
  | _ => False

theorem ring_Ring_chain.p9 : (posC ring_Ring_chain.code []).filter (fun p => Nat.beq p.1 9) = [(9, atPos (posC ring_Ring_chain.code []) 9)] := by kernel_rfl

theorem ring_Ring_chain.e9 : ∀ (U : Ifc) (I3 : (Option Ptr) → (Option Ptr) → Int → Ptr → Bool → Int → Int → Int → Heap → Prop) (a1 : Ptr) (Q : Int → Sl → Bool → Heap → Prop) (h : Heap), ring_Ring_chain.j9 U I3 a1 Q h = pts (ring_Ring_chain.E U Q []) 3000 true (atPos (posC ring_Ring_chain.code []) 9) (frAt [6] [.ptr (some a1)]) h := by
  intros; kernel_rfl

theorem ring_Ring_chain.s9 {W0 : World} {U : Ifc} (hU : IfcOK sg W0 glsT U) (Q : Int → Sl → Bool → Heap → Prop) (I3 : (Option Ptr) → (Option Ptr) → Int → Ptr → Bool → Int → Int → Int → Heap → Prop) (h3 : CutOK sg W0 82 (entered 87) (Post sg W0 (ring_Ring_chain.ret Q)) (posC ring_Ring_chain.code []) 3 [0, 1, 2, 6, 7, 8, 17, 18] (ring_Ring_chain.k3 I3)) : CutOK sg W0 82 (entered 87) (Post sg W0 (ring_Ring_chain.ret Q)) (posC ring_Ring_chain.code []) 9 [6] (ring_Ring_chain.k9 (fun a1 h => ring_Ring_chain.j9 U I3 a1 Q h)) := by
  refine cutOK_head (fun vs h hk => ?_)
  unfold ring_Ring_chain.k9 at hk
  split at hk
  · rename_i a1
    intro todo hm ρ a w s f hp
    exact piece (E := ring_Ring_chain.E U Q []) (vs := [.ptr (some a1)]) (envOK seatOK (ring_Ring_chain.callsOK hU) hU) (fnOK seatOK ring_Ring_chain.fun) trivial ring_Ring_chain.p9 (fuel := 3000) (by rw [← ring_Ring_chain.e9]; exact hk) hm s f hp
  · exact hk.elim

theorem ring_Ring_chain.p10 : (posC ring_Ring_chain.code []).filter (fun p => Nat.beq p.1 10) = [(10, atPos (posC ring_Ring_chain.code []) 10)] := by kernel_rfl

theorem ring_Ring_chain.e10 : ∀ (U : Ifc) (I3 : (Option Ptr) → (Option Ptr) → Int → Ptr → Bool → Int → Int → Int → Heap → Prop) (a1 : Option Ptr) (a2 : Option Ptr) (a3 : Int) (a4 : Ptr) (a5 : Ptr) (a6 : Int) (a7 : Bool) (a8 : Int) (a9 : Int) (Q : Int → Sl → Bool → Heap → Prop) (h : Heap), ring_Ring_chain.j10 U I3 a1 a2 a3 a4 a5 a6 a7 a8 a9 Q h = pts (ring_Ring_chain.E U Q [(3, ([0, 1, 2, 6, 7, 8, 17, 18], ring_Ring_chain.k3 I3))]) 3000 true (atPos (posC ring_Ring_chain.code []) 10) (frAt [0, 1, 2, 6, 9, 10, 11, 17, 18] [.ptr a1, .ptr a2, .int .u64 a3, .ptr (some a4), .ptr (some a5), .int .u64 a6, .bool a7, .int .u64 a8, .int .u64 a9]) h := by
  intros; kernel_rfl

theorem ring_Ring_chain.s10 {W0 : World} {U : Ifc} (hU : IfcOK sg W0 glsT U) (Q : Int → Sl → Bool → Heap → Prop) (I3 : (Option Ptr) → (Option Ptr) → Int → Ptr → Bool → Int → Int → Int → Heap → Prop) (h3 : CutOK sg W0 82 (entered 87) (Post sg W0 (ring_Ring_chain.ret Q)) (posC ring_Ring_chain.code []) 3 [0, 1, 2, 6, 7, 8, 17, 18] (ring_Ring_chain.k3 I3)) : CutOK sg W0 82 (entered 87) (Post sg W0 (ring_Ring_chain.ret Q)) (posC ring_Ring_chain.code []) 10 [0, 1, 2, 6, 9, 10, 11, 17, 18] (ring_Ring_chain.k10 (fun a1 a2 a3 a4 a5 a6 a7 a8 a9 h => ring_Ring_chain.j10 U I3 a1 a2 a3 a4 a5 a6 a7 a8 a9 Q h)) := by
  refine cutOK_head (fun vs h hk => ?_)
  unfold ring_Ring_chain.k10 at hk
  split at hk
  · rename_i a1 a2 a3 a4 a5 a6 a7 a8 a9
    intro todo hm ρ a w s f hp
    exact piece (E := ring_Ring_chain.E U Q [(3, ([0, 1, 2, 6, 7, 8, 17, 18], ring_Ring_chain.k3 I3))]) (vs := [.ptr a1, .ptr a2, .int .u64 a3, .ptr (some a4), .ptr (some a5), .int .u64 a6, .bool a7, .int .u64 a8, .int .u64 a9]) (envOK seatOK (ring_Ring_chain.callsOK hU) hU) (fnOK seatOK ring_Ring_chain.fun) ⟨h3, trivial⟩ ring_Ring_chain.p10 (fuel := 3000) (by rw [← ring_Ring_chain.e10]; exact hk) hm s f hp
  · exact hk.elim

theorem ring_Ring_chain.p8 : (posC ring_Ring_chain.code []).filter (fun p => Nat.beq p.1 8) = [(8, atPos (posC ring_Ring_chain.code []) 8)] := by kernel_rfl

theorem ring_Ring_chain.e8 : ∀ (U : Ifc) (I3 : (Option Ptr) → (Option Ptr) → Int → Ptr → Bool → Int → Int → Int → Heap → Prop) (a1 : Option Ptr) (a2 : Option Ptr) (a3 : Int) (a4 : Ptr) (a5 : Ptr) (a6 : Int) (a7 : Bool) (a8 : Int) (a9 : Int) (a10 : Int) (Q : Int → Sl → Bool → Heap → Prop) (h : Heap), ring_Ring_chain.j8 U I3 a1 a2 a3 a4 a5 a6 a7 a8 a9 a10 Q h = pts (ring_Ring_chain.E U Q [(9, ([6], ring_Ring_chain.k9 (fun a1 h => ring_Ring_chain.j9 U I3 a1 Q h))), (10, ([0, 1, 2, 6, 9, 10, 11, 17, 18], ring_Ring_chain.k10 (fun a1 a2 a3 a4 a5 a6 a7 a8 a9 h => ring_Ring_chain.j10 U I3 a1 a2 a3 a4 a5 a6 a7 a8 a9 Q h)))]) 3000 true (atPos (posC ring_Ring_chain.code []) 8) (frAt [0, 1, 2, 6, 9, 10, 11, 12, 17, 18] [.ptr a1, .ptr a2, .int .u64 a3, .ptr (some a4), .ptr (some a5), .int .u64 a6, .bool a7, .int .i64 a8, .int .u64 a9, .int .u64 a10]) h := by
  intros; kernel_rfl

theorem ring_Ring_chain.s8 {W0 : World} {U : Ifc} (hU : IfcOK sg W0 glsT U) (Q : Int → Sl → Bool → Heap → Prop) (I3 : (Option Ptr) → (Option Ptr) → Int → Ptr → Bool → Int → Int → Int → Heap → Prop) (h3 : CutOK sg W0 82 (entered 87) (Post sg W0 (ring_Ring_chain.ret Q)) (posC ring_Ring_chain.code []) 3 [0, 1, 2, 6, 7, 8, 17, 18] (ring_Ring_chain.k3 I3)) : CutOK sg W0 82 (entered 87) (Post sg W0 (ring_Ring_chain.ret Q)) (posC ring_Ring_chain.code []) 8 [0, 1, 2, 6, 9, 10, 11, 12, 17, 18] (ring_Ring_chain.k8 (fun a1 a2 a3 a4 a5 a6 a7 a8 a9 a10 h => ring_Ring_chain.j8 U I3 a1 a2 a3 a4 a5 a6 a7 a8 a9 a10 Q h)) := by
  refine cutOK_head (fun vs h hk => ?_)
  unfold ring_Ring_chain.k8 at hk
  split at hk
  · rename_i a1 a2 a3 a4 a5 a6 a7 a8 a9 a10
    intro todo hm ρ a w s f hp
    exact piece (E := ring_Ring_chain.E U Q [(9, ([6], ring_Ring_chain.k9 (fun a1 h => ring_Ring_chain.j9 U I3 a1 Q h))), (10, ([0, 1, 2, 6, 9, 10, 11, 17, 18], ring_Ring_chain.k10 (fun a1 a2 a3 a4 a5 a6 a7 a8 a9 h => ring_Ring_chain.j10 U I3 a1 a2 a3 a4 a5 a6 a7 a8 a9 Q h)))]) (vs := [.ptr a1, .ptr a2, .int .u64 a3, .ptr (some a4), .ptr (some a5), .int .u64 a6, .bool a7, .int .i64 a8, .int .u64 a9, .int .u64 a10]) (envOK seatOK (ring_Ring_chain.callsOK hU) hU) (fnOK seatOK ring_Ring_chain.fun) ⟨(ring_Ring_chain.s9 hU Q I3 h3), (ring_Ring_chain.s10 hU Q I3 h3), trivial⟩ ring_Ring_chain.p8 (fuel := 3000) (by rw [← ring_Ring_chain.e8]; exact hk) hm s f hp
  · exact hk.elim

theorem ring_Ring_chain.p3 : (posC ring_Ring_chain.code []).filter (fun p => Nat.beq p.1 3) = [(3, atPos (posC ring_Ring_chain.code []) 3)] := by kernel_rfl

theorem ring_Ring_chain.e3 : ∀ (U : Ifc)  (I3 : (Option Ptr) → (Option Ptr) → Int → Ptr → Bool → Int → Int → Int → Heap → Prop) (a1 : Option Ptr) (a2 : Option Ptr) (a3 : Int) (a4 : Ptr) (a5 : Bool) (a6 : Int) (a7 : Int) (a8 : Int) (Q : Int → Sl → Bool → Heap → Prop) (h : Heap), ring_Ring_chain.b3 U  I3 a1 a2 a3 a4 a5 a6 a7 a8 Q h = pts (ring_Ring_chain.E U Q [(8, ([0, 1, 2, 6, 9, 10, 11, 12, 17, 18], ring_Ring_chain.k8 (fun a1 a2 a3 a4 a5 a6 a7 a8 a9 a10 h => ring_Ring_chain.j8 U I3 a1 a2 a3 a4 a5 a6 a7 a8 a9 a10 Q h)))]) 3000 true (atPos (posC ring_Ring_chain.code []) 3) (frAt [0, 1, 2, 6, 7, 8, 17, 18] [.ptr a1, .ptr a2, .int .u64 a3, .ptr (some a4), .bool a5, .int .u64 a6, .int .u64 a7, .int .u64 a8]) h := by
  intros; kernel_rfl

theorem ring_Ring_chain.s3 {W0 : World} {U : Ifc} (hU : IfcOK sg W0 glsT U) (Q : Int → Sl → Bool → Heap → Prop)   : CutOK sg W0 82 (entered 87) (Post sg W0 (ring_Ring_chain.ret Q)) (posC ring_Ring_chain.code []) 3 [0, 1, 2, 6, 7, 8, 17, 18] (ring_Ring_chain.k3 (fun a1 a2 a3 a4 a5 a6 a7 a8 h => ring_Ring_chain.j3 U  a1 a2 a3 a4 a5 a6 a7 a8 Q h)) := by
  refine cutOK_head (fun vs h hk => ?_)
  unfold ring_Ring_chain.k3 at hk
  split at hk
  · rename_i a1 a2 a3 a4 a5 a6 a7 a8
    refine hk (fun a1 a2 a3 a4 a5 a6 a7 a8 h => Head sg W0 82 (entered 87) (Post sg W0 (ring_Ring_chain.ret Q)) (posC ring_Ring_chain.code []) 3 [0, 1, 2, 6, 7, 8, 17, 18] [.ptr a1, .ptr a2, .int .u64 a3, .ptr (some a4), .bool a5, .int .u64 a6, .int .u64 a7, .int .u64 a8] h) ?_
    intro a1 a2 a3 a4 a5 a6 a7 a8 h hb todo hm ρ a w s f hp
    have hself : CutOK sg W0 82 (entered 87) (Post sg W0 (ring_Ring_chain.ret Q)) (posC ring_Ring_chain.code []) 3 [0, 1, 2, 6, 7, 8, 17, 18] (ring_Ring_chain.k3 (fun a1 a2 a3 a4 a5 a6 a7 a8 h => Head sg W0 82 (entered 87) (Post sg W0 (ring_Ring_chain.ret Q)) (posC ring_Ring_chain.code []) 3 [0, 1, 2, 6, 7, 8, 17, 18] [.ptr a1, .ptr a2, .int .u64 a3, .ptr (some a4), .bool a5, .int .u64 a6, .int .u64 a7, .int .u64 a8] h)) := cutOK_head (fun vs h hk => by unfold ring_Ring_chain.k3 at hk; split at hk; exact hk; exact hk.elim)
    exact piece (E := ring_Ring_chain.E U Q [(8, ([0, 1, 2, 6, 9, 10, 11, 12, 17, 18], ring_Ring_chain.k8 (fun a1 a2 a3 a4 a5 a6 a7 a8 a9 a10 h => ring_Ring_chain.j8 U (fun a1 a2 a3 a4 a5 a6 a7 a8 h => Head sg W0 82 (entered 87) (Post sg W0 (ring_Ring_chain.ret Q)) (posC ring_Ring_chain.code []) 3 [0, 1, 2, 6, 7, 8, 17, 18] [.ptr a1, .ptr a2, .int .u64 a3, .ptr (some a4), .bool a5, .int .u64 a6, .int .u64 a7, .int .u64 a8] h) a1 a2 a3 a4 a5 a6 a7 a8 a9 a10 Q h)))]) (vs := [.ptr a1, .ptr a2, .int .u64 a3, .ptr (some a4), .bool a5, .int .u64 a6, .int .u64 a7, .int .u64 a8]) (envOK seatOK (ring_Ring_chain.callsOK hU) hU) (fnOK seatOK ring_Ring_chain.fun) ⟨(ring_Ring_chain.s8 hU Q (fun a1 a2 a3 a4 a5 a6 a7 a8 h => Head sg W0 82 (entered 87) (Post sg W0 (ring_Ring_chain.ret Q)) (posC ring_Ring_chain.code []) 3 [0, 1, 2, 6, 7, 8, 17, 18] [.ptr a1, .ptr a2, .int .u64 a3, .ptr (some a4), .bool a5, .int .u64 a6, .int .u64 a7, .int .u64 a8] h) hself), trivial⟩ ring_Ring_chain.p3 (fuel := 3000) (by rw [← ring_Ring_chain.e3]; exact hb) hm s f hp
  · exact hk.elim

theorem ring_Ring_chain.e : ∀ (U : Ifc) (a1 : Option Ptr) (a2 : Option Ptr) (a3 : Int) (Q : Int → Sl → Bool → Heap → Prop) (h : Heap), ring_Ring_chain U a1 a2 a3 Q h = pts (ring_Ring_chain.E U Q [(3, ([0, 1, 2, 6, 7, 8, 17, 18], ring_Ring_chain.k3 (fun a1 a2 a3 a4 a5 a6 a7 a8 h => ring_Ring_chain.j3 U  a1 a2 a3 a4 a5 a6 a7 a8 Q h)))]) 3000 true [.code ring_Ring_chain.code] (frOf 0 [.ptr a1, .ptr a2, .int .u64 a3]) h := by
  intros; kernel_rfl

theorem ring_Ring_chain.S {W0 : World} {U : Ifc} (hU : IfcOK sg W0 glsT U) : FnS sg W0 76 (ring_Ring_chain.C U) := by
  intro vs κ h wv hx w s
  unfold ring_Ring_chain.C at hx
  split at hx
  · rename_i a1 a2 a3
    refine postImp (ret := ring_Ring_chain.ret (fun r1 r2 r3 h => κ (.tup [.agg [.int .i64 r1, .sl r2], .bool r3]) h)) (fun v h hr => by unfold ring_Ring_chain.ret at hr; split at hr; exact hr; exact hr.elim) ?_
    exact calls_of_pts (E := ring_Ring_chain.E U (fun r1 r2 r3 h => κ (.tup [.agg [.int .i64 r1, .sl r2], .bool r3]) h) [(3, ([0, 1, 2, 6, 7, 8, 17, 18], ring_Ring_chain.k3 (fun a1 a2 a3 a4 a5 a6 a7 a8 h => ring_Ring_chain.j3 U  a1 a2 a3 a4 a5 a6 a7 a8 (fun r1 r2 r3 h => κ (.tup [.agg [.int .i64 r1, .sl r2], .bool r3]) h) h)))]) (envOK seatOK (ring_Ring_chain.callsOK hU) hU) seatOK.mixed ring_Ring_chain.fun (Nat.le_of_ble_eq_true rfl) wv (cutL_ok ⟨(ring_Ring_chain.s3 hU (fun r1 r2 r3 h => κ (.tup [.agg [.int .i64 r1, .sl r2], .bool r3]) h)), trivial⟩) s (fuel := 3000) (by rw [← ring_Ring_chain.e]; exact hx)
  · exact hx.elim

noncomputable def ring_Ring_Next.code : Code := Go.Proofs.Tryd.f54.body.getD .skip

theorem ring_Ring_Next.fun : Fun sg.P 54 109 [.cell 4 116, .tmp 5, .tmp 6] ring_Ring_Next.code := mkFun Go.Proofs.Tryd.func54 (by kernel_rfl) (by kernel_rfl) (by kernel_rfl) (by kernel_rfl)

def ring_Ring_Next.ret (Q : Int → Sl → Bool → Int → Heap → Prop) (v : V) (h : Heap) : Prop :=
  match v with
  | .tup [.agg [.int .i64 r1, .sl r2], .bool r3, .int .i64 r4] => Q r1 r2 r3 r4 h
  | _ => False

def ring_Ring_Next.C (U : Ifc) (vs : List V) (κ : V → Heap → Prop) (h : Heap) : Prop :=
  match vs with
  | [.ptr a1, a2] => ring_Ring_Next U a1 a2 (fun r1 r2 r3 r4 h => κ (.tup [.agg [.int .i64 r1, .sl r2], .bool r3, .int .i64 r4]) h) h
  | _ => False

noncomputable def ring_Ring_Next.calls (U : Ifc) : List (Nat × (List V → (V → Heap → Prop) → Heap → Prop)) := [(30, ring_Ring_usable.C), (74, ring_reader_number.C U), (76, ring_Ring_chain.C U)]

noncomputable def ring_Ring_Next.E (U : Ifc) (Q : Int → Sl → Bool → Int → Heap → Prop) (cuts : List (Nat × (List Nat × (List V → Heap → Prop)))) : Env := { tis := tisT, fns := fnsT, tys := tysT, gls := glsT, rts := rtsT, unk := [], nxt := [], calls := ring_Ring_Next.calls U, ifc := U, cuts := cuts, ret := ring_Ring_Next.ret Q, rets := [.cell 4 116, .tmp 5, .tmp 6], n := 109 }

theorem ring_Ring_Next.callsOK {W0 : World} {U : Ifc} (hU : IfcOK sg W0 glsT U) : CallsOK sg W0 (ring_Ring_Next.calls U) := ⟨ring_Ring_usable.S, (ring_reader_number.S hU), (ring_Ring_chain.S hU), trivial⟩

def ring_Ring_Next.k11 (I : (Option Ptr) → Ptr → Ptr → Int → Heap → Prop) (vs : List V) (h : Heap) : Prop :=
  match vs with
  | [.ptr a1, .ptr (some a2), .ptr (some a3), .int .u64 a4] => I a1 a2 a3 a4 h
  | _ => False

def ring_Ring_Next.k9 (I : (Option Ptr) → Ptr → Ptr → Int → Int → Heap → Prop) (vs : List V) (h : Heap) : Prop :=
  match vs with
  | [.ptr a1, .ptr (some a2), .ptr (some a3), .int .u64 a4, .int .u64 a5] => I a1 a2 a3 a4 a5 h
  | _ => False

def ring_Ring_Next.k7 (I : (Option Ptr) → Ptr → Ptr → Int → Int → Heap → Prop) (vs : List V) (h : Heap) : Prop :=
  match vs with
  | [.ptr a1, .ptr (some a2), .ptr (some a3), .int .u64 a4, .int .u64 a5] => I a1 a2 a3 a4 a5 h
  | _ => False

theorem ring_Ring_Next.p11 : (posC ring_Ring_Next.code []).filter (fun p => Nat.beq p.1 11) = [(11, atPos (posC ring_Ring_Next.code []) 11)] := by kernel_rfl

theorem ring_Ring_Next.e11 : ∀ (U : Ifc)  (a1 : Option Ptr) (a2 : Ptr) (a3 : Ptr) (a4 : Int) (Q : Int → Sl → Bool → Int → Heap → Prop) (h : Heap), ring_Ring_Next.j11 U  a1 a2 a3 a4 Q h = pts (ring_Ring_Next.E U Q []) 3000 true (atPos (posC ring_Ring_Next.code []) 11) (frAt [0, 4, 8, 11] [.ptr a1, .ptr (some a2), .ptr (some a3), .int .u64 a4]) h := by
  intros; kernel_rfl

theorem ring_Ring_Next.s11 {W0 : World} {U : Ifc} (hU : IfcOK sg W0 glsT U) (Q : Int → Sl → Bool → Int → Heap → Prop)   : CutOK sg W0 109 (entered 54) (Post sg W0 (ring_Ring_Next.ret Q)) (posC ring_Ring_Next.code []) 11 [0, 4, 8, 11] (ring_Ring_Next.k11 (fun a1 a2 a3 a4 h => ring_Ring_Next.j11 U  a1 a2 a3 a4 Q h)) := by
  refine cutOK_head (fun vs h hk => ?_)
  unfold ring_Ring_Next.k11 at hk
  split at hk
  · rename_i a1 a2 a3 a4
    intro todo hm ρ a w s f hp
    exact piece (E := ring_Ring_Next.E U Q []) (vs := [.ptr a1, .ptr (some a2), .ptr (some a3), .int .u64 a4]) (envOK seatOK (ring_Ring_Next.callsOK hU) hU) (fnOK seatOK ring_Ring_Next.fun) trivial ring_Ring_Next.p11 (fuel := 3000) (by rw [← ring_Ring_Next.e11]; exact hk) hm s f hp
  · exact hk.elim

theorem ring_Ring_Next.p9 : (posC ring_Ring_Next.code []).filter (fun p => Nat.beq p.1 9) = [(9, atPos (posC ring_Ring_Next.code []) 9)] := by kernel_rfl

theorem ring_Ring_Next.e9 : ∀ (U : Ifc)  (a1 : Option Ptr) (a2 : Ptr) (a3 : Ptr) (a4 : Int) (a5 : Int) (Q : Int → Sl → Bool → Int → Heap → Prop) (h : Heap), ring_Ring_Next.j9 U  a1 a2 a3 a4 a5 Q h = pts (ring_Ring_Next.E U Q [(11, ([0, 4, 8, 11], ring_Ring_Next.k11 (fun a1 a2 a3 a4 h => ring_Ring_Next.j11 U  a1 a2 a3 a4 Q h)))]) 3000 true (atPos (posC ring_Ring_Next.code []) 9) (frAt [0, 4, 8, 9, 10] [.ptr a1, .ptr (some a2), .ptr (some a3), .int .u64 a4, .int .u64 a5]) h := by
  intros; kernel_rfl

theorem ring_Ring_Next.s9 {W0 : World} {U : Ifc} (hU : IfcOK sg W0 glsT U) (Q : Int → Sl → Bool → Int → Heap → Prop)   : CutOK sg W0 109 (entered 54) (Post sg W0 (ring_Ring_Next.ret Q)) (posC ring_Ring_Next.code []) 9 [0, 4, 8, 9, 10] (ring_Ring_Next.k9 (fun a1 a2 a3 a4 a5 h => ring_Ring_Next.j9 U  a1 a2 a3 a4 a5 Q h)) := by
  refine cutOK_head (fun vs h hk => ?_)
  unfold ring_Ring_Next.k9 at hk
  split at hk
  · rename_i a1 a2 a3 a4 a5
    intro todo hm ρ a w s f hp
    exact piece (E := ring_Ring_Next.E U Q [(11, ([0, 4, 8, 11], ring_Ring_Next.k11 (fun a1 a2 a3 a4 h => ring_Ring_Next.j11 U  a1 a2 a3 a4 Q h)))]) (vs := [.ptr a1, .ptr (some a2), .ptr (some a3), .int .u64 a4, .int .u64 a5]) (envOK seatOK (ring_Ring_Next.callsOK hU) hU) (fnOK seatOK ring_Ring_Next.fun) ⟨(ring_Ring_Next.s11 hU Q  ), trivial⟩ ring_Ring_Next.p9 (fuel := 3000) (by rw [← ring_Ring_Next.e9]; exact hk) hm s f hp
  · exact hk.elim

theorem ring_Ring_Next.p7 : (posC ring_Ring_Next.code []).filter (fun p => Nat.beq p.1 7) = [(7, atPos (posC ring_Ring_Next.code []) 7)] := by kernel_rfl

theorem ring_Ring_Next.e7 : ∀ (U : Ifc)  (a1 : Option Ptr) (a2 : Ptr) (a3 : Ptr) (a4 : Int) (a5 : Int) (Q : Int → Sl → Bool → Int → Heap → Prop) (h : Heap), ring_Ring_Next.j7 U  a1 a2 a3 a4 a5 Q h = pts (ring_Ring_Next.E U Q [(9, ([0, 4, 8, 9, 10], ring_Ring_Next.k9 (fun a1 a2 a3 a4 a5 h => ring_Ring_Next.j9 U  a1 a2 a3 a4 a5 Q h)))]) 3000 true (atPos (posC ring_Ring_Next.code []) 7) (frAt [0, 4, 8, 9, 10] [.ptr a1, .ptr (some a2), .ptr (some a3), .int .u64 a4, .int .u64 a5]) h := by
  intros; kernel_rfl

theorem ring_Ring_Next.s7 {W0 : World} {U : Ifc} (hU : IfcOK sg W0 glsT U) (Q : Int → Sl → Bool → Int → Heap → Prop)   : CutOK sg W0 109 (entered 54) (Post sg W0 (ring_Ring_Next.ret Q)) (posC ring_Ring_Next.code []) 7 [0, 4, 8, 9, 10] (ring_Ring_Next.k7 (fun a1 a2 a3 a4 a5 h => ring_Ring_Next.j7 U  a1 a2 a3 a4 a5 Q h)) := by
  refine cutOK_head (fun vs h hk => ?_)
  unfold ring_Ring_Next.k7 at hk
  split at hk
  · rename_i a1 a2 a3 a4 a5
    intro todo hm ρ a w s f hp
    exact piece (E := ring_Ring_Next.E U Q [(9, ([0, 4, 8, 9, 10], ring_Ring_Next.k9 (fun a1 a2 a3 a4 a5 h => ring_Ring_Next.j9 U  a1 a2 a3 a4 a5 Q h)))]) (vs := [.ptr a1, .ptr (some a2), .ptr (some a3), .int .u64 a4, .int .u64 a5]) (envOK seatOK (ring_Ring_Next.callsOK hU) hU) (fnOK seatOK ring_Ring_Next.fun) ⟨(ring_Ring_Next.s9 hU Q  ), trivial⟩ ring_Ring_Next.p7 (fuel := 3000) (by rw [← ring_Ring_Next.e7]; exact hk) hm s f hp
  · exact hk.elim

theorem ring_Ring_Next.e : ∀ (U : Ifc) (a1 : Option Ptr) (a2 : V) (Q : Int → Sl → Bool → Int → Heap → Prop) (h : Heap), ring_Ring_Next U a1 a2 Q h = pts (ring_Ring_Next.E U Q [(7, ([0, 4, 8, 9, 10], ring_Ring_Next.k7 (fun a1 a2 a3 a4 a5 h => ring_Ring_Next.j7 U  a1 a2 a3 a4 a5 Q h)))]) 3000 true [.code ring_Ring_Next.code] (frOf 0 [.ptr a1, a2]) h := by
  intros; kernel_rfl

theorem ring_Ring_Next.S {W0 : World} {U : Ifc} (hU : IfcOK sg W0 glsT U) : FnS sg W0 77 (ring_Ring_Next.C U) := by
  intro vs κ h wv hx w s
  unfold ring_Ring_Next.C at hx
  split at hx
  · rename_i a1 a2
    refine postImp (ret := ring_Ring_Next.ret (fun r1 r2 r3 r4 h => κ (.tup [.agg [.int .i64 r1, .sl r2], .bool r3, .int .i64 r4]) h)) (fun v h hr => by unfold ring_Ring_Next.ret at hr; split at hr; exact hr; exact hr.elim) ?_
    exact calls_of_pts (E := ring_Ring_Next.E U (fun r1 r2 r3 r4 h => κ (.tup [.agg [.int .i64 r1, .sl r2], .bool r3, .int .i64 r4]) h) [(7, ([0, 4, 8, 9, 10], ring_Ring_Next.k7 (fun a1 a2 a3 a4 a5 h => ring_Ring_Next.j7 U  a1 a2 a3 a4 a5 (fun r1 r2 r3 r4 h => κ (.tup [.agg [.int .i64 r1, .sl r2], .bool r3, .int .i64 r4]) h) h)))]) (envOK seatOK (ring_Ring_Next.callsOK hU) hU) seatOK.mixed ring_Ring_Next.fun (Nat.le_of_ble_eq_true rfl) wv (cutL_ok ⟨(ring_Ring_Next.s7 hU (fun r1 r2 r3 r4 h => κ (.tup [.agg [.int .i64 r1, .sl r2], .bool r3, .int .i64 r4]) h)), trivial⟩) s (fuel := 3000) (by rw [← ring_Ring_Next.e]; exact hx)
  · exact hx.elim

noncomputable def backend_number.code : Code := Go.Proofs.Tryd.f69.body.getD .skip

theorem backend_number.fun : Fun sg.P 69 17 [.tmp 2] backend_number.code := mkFun Go.Proofs.Tryd.func69 (by kernel_rfl) (by kernel_rfl) (by kernel_rfl) (by kernel_rfl)

def backend_number.ret (Q : Int → Heap → Prop) (v : V) (h : Heap) : Prop :=
  match v with
  | .int .u64 r1 => Q r1 h
  | _ => False

def backend_number.C (vs : List V) (κ : V → Heap → Prop) (h : Heap) : Prop :=
  match vs with
  | [.sl a1] => backend_number a1 (fun r1 h => κ (.int .u64 r1) h) h
  | _ => False

noncomputable def backend_number.calls : List (Nat × (List V → (V → Heap → Prop) → Heap → Prop)) := []

noncomputable def backend_number.E (Q : Int → Heap → Prop) (cuts : List (Nat × (List Nat × (List V → Heap → Prop)))) : Env := { tis := tisT, fns := fnsT, tys := tysT, gls := [], rts := rtsT, unk := [], nxt := [], calls := backend_number.calls, ifc := noIfc, cuts := cuts, ret := backend_number.ret Q, rets := [.tmp 2], n := 17 }

theorem backend_number.callsOK {W0 : World} : CallsOK sg W0 backend_number.calls := trivial

def backend_number.k2 (I : Sl → Int → Int → Heap → Prop) (vs : List V) (h : Heap) : Prop :=
  match vs with
  | [.sl a1, .int .u64 a2, .int .i64 a3] => I a1 a2 a3 h
  | _ => False

theorem backend_number.p2 : (posC backend_number.code []).filter (fun p => Nat.beq p.1 2) = [(2, atPos (posC backend_number.code []) 2)] := by kernel_rfl

theorem backend_number.e2 : ∀  (I2 : Sl → Int → Int → Heap → Prop) (a1 : Sl) (a2 : Int) (a3 : Int) (Q : Int → Heap → Prop) (h : Heap), backend_number.b2  I2 a1 a2 a3 Q h = pts (backend_number.E Q [(2, ([0, 2, 3], backend_number.k2 I2))]) 3000 true (atPos (posC backend_number.code []) 2) (frAt [0, 2, 3] [.sl a1, .int .u64 a2, .int .i64 a3]) h := by
  intros; kernel_rfl

theorem backend_number.s2 {W0 : World} (Q : Int → Heap → Prop)   : CutOK sg W0 17 (entered 69) (Post sg W0 (backend_number.ret Q)) (posC backend_number.code []) 2 [0, 2, 3] (backend_number.k2 (fun a1 a2 a3 h => backend_number.j2  a1 a2 a3 Q h)) := by
  refine cutOK_head (fun vs h hk => ?_)
  unfold backend_number.k2 at hk
  split at hk
  · rename_i a1 a2 a3
    refine hk (fun a1 a2 a3 h => Head sg W0 17 (entered 69) (Post sg W0 (backend_number.ret Q)) (posC backend_number.code []) 2 [0, 2, 3] [.sl a1, .int .u64 a2, .int .i64 a3] h) ?_
    intro a1 a2 a3 h hb todo hm ρ a w s f hp
    have hself : CutOK sg W0 17 (entered 69) (Post sg W0 (backend_number.ret Q)) (posC backend_number.code []) 2 [0, 2, 3] (backend_number.k2 (fun a1 a2 a3 h => Head sg W0 17 (entered 69) (Post sg W0 (backend_number.ret Q)) (posC backend_number.code []) 2 [0, 2, 3] [.sl a1, .int .u64 a2, .int .i64 a3] h)) := cutOK_head (fun vs h hk => by unfold backend_number.k2 at hk; split at hk; exact hk; exact hk.elim)
    exact piece (E := backend_number.E Q [(2, ([0, 2, 3], backend_number.k2 (fun a1 a2 a3 h => Head sg W0 17 (entered 69) (Post sg W0 (backend_number.ret Q)) (posC backend_number.code []) 2 [0, 2, 3] [.sl a1, .int .u64 a2, .int .i64 a3] h)))]) (vs := [.sl a1, .int .u64 a2, .int .i64 a3]) (envOK seatOK backend_number.callsOK noIfc_ok) (fnOK seatOK backend_number.fun) ⟨hself, trivial⟩ backend_number.p2 (fuel := 3000) (by rw [← backend_number.e2]; exact hb) hm s f hp
  · exact hk.elim

theorem backend_number.e : ∀ (a1 : Sl) (Q : Int → Heap → Prop) (h : Heap), backend_number a1 Q h = pts (backend_number.E Q [(2, ([0, 2, 3], backend_number.k2 (fun a1 a2 a3 h => backend_number.j2  a1 a2 a3 Q h)))]) 3000 true [.code backend_number.code] (frOf 0 [.sl a1]) h := by
  intros; kernel_rfl

theorem backend_number.S {W0 : World} : FnS sg W0 267 backend_number.C := by
  intro vs κ h wv hx w s
  unfold backend_number.C at hx
  split at hx
  · rename_i a1
    refine postImp (ret := backend_number.ret (fun r1 h => κ (.int .u64 r1) h)) (fun v h hr => by unfold backend_number.ret at hr; split at hr; exact hr; exact hr.elim) ?_
    exact calls_of_pts (E := backend_number.E (fun r1 h => κ (.int .u64 r1) h) [(2, ([0, 2, 3], backend_number.k2 (fun a1 a2 a3 h => backend_number.j2  a1 a2 a3 (fun r1 h => κ (.int .u64 r1) h) h)))]) (envOK seatOK backend_number.callsOK noIfc_ok) seatOK.mixed backend_number.fun (Nat.le_of_ble_eq_true rfl) wv (cutL_ok ⟨(backend_number.s2 (fun r1 h => κ (.int .u64 r1) h)), trivial⟩) s (fuel := 3000) (by rw [← backend_number.e]; exact hx)
  · exact hx.elim

noncomputable def frames_Frames_Owner.code : Code := Go.Proofs.Tryd.f31.body.getD .skip

theorem frames_Frames_Owner.fun : Fun sg.P 31 30 [.tmp 4, .tmp 5, .tmp 6] frames_Frames_Owner.code := mkFun Go.Proofs.Tryd.func31 (by kernel_rfl) (by kernel_rfl) (by kernel_rfl) (by kernel_rfl)

def frames_Frames_Owner.ret (Q : Int → Int → Bool → Heap → Prop) (v : V) (h : Heap) : Prop :=
  match v with
  | .tup [.int .i64 r1, .int .i64 r2, .bool r3] => Q r1 r2 r3 h
  | _ => False

def frames_Frames_Owner.C (vs : List V) (κ : V → Heap → Prop) (h : Heap) : Prop :=
  match vs with
  | [.ptr a1, .int .i64 a2] => frames_Frames_Owner a1 a2 (fun r1 r2 r3 h => κ (.tup [.int .i64 r1, .int .i64 r2, .bool r3]) h) h
  | _ => False

noncomputable def frames_Frames_Owner.calls : List (Nat × (List V → (V → Heap → Prop) → Heap → Prop)) := [(260, frames_Frames_none.C)]

noncomputable def frames_Frames_Owner.E (Q : Int → Int → Bool → Heap → Prop) (cuts : List (Nat × (List Nat × (List V → Heap → Prop)))) : Env := { tis := tisT, fns := fnsT, tys := tysT, gls := [], rts := rtsT, unk := [], nxt := [], calls := frames_Frames_Owner.calls, ifc := noIfc, cuts := cuts, ret := frames_Frames_Owner.ret Q, rets := [.tmp 4, .tmp 5, .tmp 6], n := 30 }

theorem frames_Frames_Owner.callsOK {W0 : World} : CallsOK sg W0 frames_Frames_Owner.calls := ⟨frames_Frames_none.S, trivial⟩

def frames_Frames_Owner.k2 (I : Heap → Prop) (vs : List V) (h : Heap) : Prop :=
  match vs with
  | [] => I  h
  | _ => False

theorem frames_Frames_Owner.p2 : (posC frames_Frames_Owner.code []).filter (fun p => Nat.beq p.1 2) = [(2, atPos (posC frames_Frames_Owner.code []) 2)] := by kernel_rfl

theorem frames_Frames_Owner.e2 : ∀   (Q : Int → Int → Bool → Heap → Prop) (h : Heap), frames_Frames_Owner.j2   Q h = pts (frames_Frames_Owner.E Q []) 3000 true (atPos (posC frames_Frames_Owner.code []) 2) (frAt [] []) h := by
  intros; kernel_rfl

theorem frames_Frames_Owner.s2 {W0 : World} (Q : Int → Int → Bool → Heap → Prop)   : CutOK sg W0 30 (entered 31) (Post sg W0 (frames_Frames_Owner.ret Q)) (posC frames_Frames_Owner.code []) 2 [] (frames_Frames_Owner.k2 (fun  h => frames_Frames_Owner.j2   Q h)) := by
  refine cutOK_head (fun vs h hk => ?_)
  unfold frames_Frames_Owner.k2 at hk
  split at hk
  · skip
    intro todo hm ρ a w s f hp
    exact piece (E := frames_Frames_Owner.E Q []) (vs := []) (envOK seatOK frames_Frames_Owner.callsOK noIfc_ok) (fnOK seatOK frames_Frames_Owner.fun) trivial frames_Frames_Owner.p2 (fuel := 3000) (by rw [← frames_Frames_Owner.e2]; exact hk) hm s f hp
  · exact hk.elim

theorem frames_Frames_Owner.e : ∀ (a1 : Option Ptr) (a2 : Int) (Q : Int → Int → Bool → Heap → Prop) (h : Heap), frames_Frames_Owner a1 a2 Q h = pts (frames_Frames_Owner.E Q [(2, ([], frames_Frames_Owner.k2 (fun  h => frames_Frames_Owner.j2   Q h)))]) 3000 true [.code frames_Frames_Owner.code] (frOf 0 [.ptr a1, .int .i64 a2]) h := by
  intros; kernel_rfl

theorem frames_Frames_Owner.S {W0 : World} : FnS sg W0 268 frames_Frames_Owner.C := by
  intro vs κ h wv hx w s
  unfold frames_Frames_Owner.C at hx
  split at hx
  · rename_i a1 a2
    refine postImp (ret := frames_Frames_Owner.ret (fun r1 r2 r3 h => κ (.tup [.int .i64 r1, .int .i64 r2, .bool r3]) h)) (fun v h hr => by unfold frames_Frames_Owner.ret at hr; split at hr; exact hr; exact hr.elim) ?_
    exact calls_of_pts (E := frames_Frames_Owner.E (fun r1 r2 r3 h => κ (.tup [.int .i64 r1, .int .i64 r2, .bool r3]) h) [(2, ([], frames_Frames_Owner.k2 (fun  h => frames_Frames_Owner.j2   (fun r1 r2 r3 h => κ (.tup [.int .i64 r1, .int .i64 r2, .bool r3]) h) h)))]) (envOK seatOK frames_Frames_Owner.callsOK noIfc_ok) seatOK.mixed frames_Frames_Owner.fun (Nat.le_of_ble_eq_true rfl) wv (cutL_ok ⟨(frames_Frames_Owner.s2 (fun r1 r2 r3 h => κ (.tup [.int .i64 r1, .int .i64 r2, .bool r3]) h)), trivial⟩) s (fuel := 3000) (by rw [← frames_Frames_Owner.e]; exact hx)
  · exact hx.elim

noncomputable def backend_Block_ask.code : Code := Go.Proofs.Tryd.f55.body.getD .skip

theorem backend_Block_ask.fun : Fun sg.P 55 156 [.cell 6 86, .tmp 7] backend_Block_ask.code := mkFun Go.Proofs.Tryd.func55 (by kernel_rfl) (by kernel_rfl) (by kernel_rfl) (by kernel_rfl)

def backend_Block_ask.ret (Q : Int → Bool → Int → Int → Int → Heap → Prop) (v : V) (h : Heap) : Prop :=
  match v with
  | .tup [.agg [.int .i64 r1, .bool r2, .int .i64 r3, .int .i64 r4], .int .u8 r5] => Q r1 r2 r3 r4 r5 h
  | _ => False

def backend_Block_ask.C (U : Ifc) (vs : List V) (κ : V → Heap → Prop) (h : Heap) : Prop :=
  match vs with
  | [.ptr a1, a2, .agg [.int .i64 a3, .sl a4]] => backend_Block_ask U a1 a2 a3 a4 (fun r1 r2 r3 r4 r5 h => κ (.tup [.agg [.int .i64 r1, .bool r2, .int .i64 r3, .int .i64 r4], .int .u8 r5]) h) h
  | _ => False

noncomputable def backend_Block_ask.calls (U : Ifc) : List (Nat × (List V → (V → Heap → Prop) → Heap → Prop)) := [(268, frames_Frames_Owner.C), (267, backend_number.C)]

noncomputable def backend_Block_ask.E (U : Ifc) (Q : Int → Bool → Int → Int → Int → Heap → Prop) (cuts : List (Nat × (List Nat × (List V → Heap → Prop)))) : Env := { tis := tisT, fns := fnsT, tys := tysT, gls := glsT, rts := rtsT, unk := [], nxt := [], calls := backend_Block_ask.calls U, ifc := U, cuts := cuts, ret := backend_Block_ask.ret Q, rets := [.cell 6 86, .tmp 7], n := 156 }

theorem backend_Block_ask.callsOK {W0 : World} {U : Ifc} (hU : IfcOK sg W0 glsT U) : CallsOK sg W0 (backend_Block_ask.calls U) := ⟨frames_Frames_Owner.S, backend_number.S, trivial⟩

def backend_Block_ask.k5 (I : Ptr → Heap → Prop) (vs : List V) (h : Heap) : Prop :=
  match vs with
  | [.ptr (some a1)] => I a1 h
  | _ => False

def backend_Block_ask.k11 (I : Ptr → Heap → Prop) (vs : List V) (h : Heap) : Prop :=
  match vs with
  | [.ptr (some a1)] => I a1 h
  | _ => False

def backend_Block_ask.k15 (I : Ptr → Heap → Prop) (vs : List V) (h : Heap) : Prop :=
  match vs with
  | [.ptr (some a1)] => I a1 h
  | _ => False

def backend_Block_ask.k14 (I : (Option Ptr) → Ptr → Int → Int → Int → Bool → Int → Bool → Heap → Prop) (vs : List V) (h : Heap) : Prop :=
  match vs with
  | [.ptr a1, .ptr (some a2), .int .u64 a3, .int .u64 a4, .int .i64 a5, .bool a6, .int .i64 a7, .bool a8] => I a1 a2 a3 a4 a5 a6 a7 a8 h
  | _ => False

def backend_Block_ask.k12 (I : (Option Ptr) → V → Ptr → Ptr → Int → Int → Heap → Prop) (vs : List V) (h : Heap) : Prop :=
  match vs with
  | [.ptr a1, a2, .ptr (some a3), .ptr (some a4), .int .u64 a5, .int .u64 a6] => I a1 a2 a3 a4 a5 a6 h
  | _ => False

def backend_Block_ask.k6 (I : (Option Ptr) → V → Ptr → Ptr → Ptr → Heap → Prop) (vs : List V) (h : Heap) : Prop :=
  match vs with
  | [.ptr a1, a2, .ptr (some a3), .ptr (some a4), .ptr (some a5)] => I a1 a2 a3 a4 a5 h
  | _ => False

def backend_Block_ask.k4 (I : (Option Ptr) → V → Ptr → Ptr → Ptr → Ptr → Heap → Prop) (vs : List V) (h : Heap) : Prop :=
  match vs with
  | [.ptr a1, a2, .ptr (some a3), .ptr (some a4), .ptr (some a5), .ptr (some a6)] => I a1 a2 a3 a4 a5 a6 h
  | _ => False

theorem backend_Block_ask.p5 : (posC backend_Block_ask.code []).filter (fun p => Nat.beq p.1 5) = [(5, atPos (posC backend_Block_ask.code []) 5)] := by kernel_rfl

theorem backend_Block_ask.e5 : ∀ (U : Ifc)  (a1 : Ptr) (Q : Int → Bool → Int → Int → Int → Heap → Prop) (h : Heap), backend_Block_ask.j5 U  a1 Q h = pts (backend_Block_ask.E U Q []) 3000 true (atPos (posC backend_Block_ask.code []) 5) (frAt [6] [.ptr (some a1)]) h := by
  intros; kernel_rfl

theorem backend_Block_ask.s5 {W0 : World} {U : Ifc} (hU : IfcOK sg W0 glsT U) (Q : Int → Bool → Int → Int → Int → Heap → Prop)   : CutOK sg W0 156 (entered 55) (Post sg W0 (backend_Block_ask.ret Q)) (posC backend_Block_ask.code []) 5 [6] (backend_Block_ask.k5 (fun a1 h => backend_Block_ask.j5 U  a1 Q h)) := by
  refine cutOK_head (fun vs h hk => ?_)
  unfold backend_Block_ask.k5 at hk
  split at hk
  · rename_i a1
    intro todo hm ρ a w s f hp
    exact piece (E := backend_Block_ask.E U Q []) (vs := [.ptr (some a1)]) (envOK seatOK (backend_Block_ask.callsOK hU) hU) (fnOK seatOK backend_Block_ask.fun) trivial backend_Block_ask.p5 (fuel := 3000) (by rw [← backend_Block_ask.e5]; exact hk) hm s f hp
  · exact hk.elim

theorem backend_Block_ask.p11 : (posC backend_Block_ask.code []).filter (fun p => Nat.beq p.1 11) = [(11, atPos (posC backend_Block_ask.code []) 11)] := by kernel_rfl

theorem backend_Block_ask.e11 : ∀ (U : Ifc)  (a1 : Ptr) (Q : Int → Bool → Int → Int → Int → Heap → Prop) (h : Heap), backend_Block_ask.j11 U  a1 Q h = pts (backend_Block_ask.E U Q []) 3000 true (atPos (posC backend_Block_ask.code []) 11) (frAt [6] [.ptr (some a1)]) h := by
  intros; kernel_rfl

theorem backend_Block_ask.s11 {W0 : World} {U : Ifc} (hU : IfcOK sg W0 glsT U) (Q : Int → Bool → Int → Int → Int → Heap → Prop)   : CutOK sg W0 156 (entered 55) (Post sg W0 (backend_Block_ask.ret Q)) (posC backend_Block_ask.code []) 11 [6] (backend_Block_ask.k11 (fun a1 h => backend_Block_ask.j11 U  a1 Q h)) := by
  refine cutOK_head (fun vs h hk => ?_)
  unfold backend_Block_ask.k11 at hk
  split at hk
  · rename_i a1
    intro todo hm ρ a w s f hp
    exact piece (E := backend_Block_ask.E U Q []) (vs := [.ptr (some a1)]) (envOK seatOK (backend_Block_ask.callsOK hU) hU) (fnOK seatOK backend_Block_ask.fun) trivial backend_Block_ask.p11 (fuel := 3000) (by rw [← backend_Block_ask.e11]; exact hk) hm s f hp
  · exact hk.elim

theorem backend_Block_ask.p15 : (posC backend_Block_ask.code []).filter (fun p => Nat.beq p.1 15) = [(15, atPos (posC backend_Block_ask.code []) 15)] := by kernel_rfl

theorem backend_Block_ask.e15 : ∀ (U : Ifc)  (a1 : Ptr) (Q : Int → Bool → Int → Int → Int → Heap → Prop) (h : Heap), backend_Block_ask.j15 U  a1 Q h = pts (backend_Block_ask.E U Q []) 3000 true (atPos (posC backend_Block_ask.code []) 15) (frAt [6] [.ptr (some a1)]) h := by
  intros; kernel_rfl

theorem backend_Block_ask.s15 {W0 : World} {U : Ifc} (hU : IfcOK sg W0 glsT U) (Q : Int → Bool → Int → Int → Int → Heap → Prop)   : CutOK sg W0 156 (entered 55) (Post sg W0 (backend_Block_ask.ret Q)) (posC backend_Block_ask.code []) 15 [6] (backend_Block_ask.k15 (fun a1 h => backend_Block_ask.j15 U  a1 Q h)) := by
  refine cutOK_head (fun vs h hk => ?_)
  unfold backend_Block_ask.k15 at hk
  split at hk
  · rename_i a1
    intro todo hm ρ a w s f hp
    exact piece (E := backend_Block_ask.E U Q []) (vs := [.ptr (some a1)]) (envOK seatOK (backend_Block_ask.callsOK hU) hU) (fnOK seatOK backend_Block_ask.fun) trivial backend_Block_ask.p15 (fuel := 3000) (by rw [← backend_Block_ask.e15]; exact hk) hm s f hp
  · exact hk.elim

theorem backend_Block_ask.p14 : (posC backend_Block_ask.code []).filter (fun p => Nat.beq p.1 14) = [(14, atPos (posC backend_Block_ask.code []) 14)] := by kernel_rfl

theorem backend_Block_ask.e14 : ∀ (U : Ifc)  (a1 : Option Ptr) (a2 : Ptr) (a3 : Int) (a4 : Int) (a5 : Int) (a6 : Bool) (a7 : Int) (a8 : Bool) (Q : Int → Bool → Int → Int → Int → Heap → Prop) (h : Heap), backend_Block_ask.j14 U  a1 a2 a3 a4 a5 a6 a7 a8 Q h = pts (backend_Block_ask.E U Q [(15, ([6], backend_Block_ask.k15 (fun a1 h => backend_Block_ask.j15 U  a1 Q h)))]) 3000 true (atPos (posC backend_Block_ask.code []) 14) (frAt [0, 6, 13, 14, 15, 16, 17, 19] [.ptr a1, .ptr (some a2), .int .u64 a3, .int .u64 a4, .int .i64 a5, .bool a6, .int .i64 a7, .bool a8]) h := by
  intros; kernel_rfl

theorem backend_Block_ask.s14 {W0 : World} {U : Ifc} (hU : IfcOK sg W0 glsT U) (Q : Int → Bool → Int → Int → Int → Heap → Prop)   : CutOK sg W0 156 (entered 55) (Post sg W0 (backend_Block_ask.ret Q)) (posC backend_Block_ask.code []) 14 [0, 6, 13, 14, 15, 16, 17, 19] (backend_Block_ask.k14 (fun a1 a2 a3 a4 a5 a6 a7 a8 h => backend_Block_ask.j14 U  a1 a2 a3 a4 a5 a6 a7 a8 Q h)) := by
  refine cutOK_head (fun vs h hk => ?_)
  unfold backend_Block_ask.k14 at hk
  split at hk
  · rename_i a1 a2 a3 a4 a5 a6 a7 a8
    intro todo hm ρ a w s f hp
    exact piece (E := backend_Block_ask.E U Q [(15, ([6], backend_Block_ask.k15 (fun a1 h => backend_Block_ask.j15 U  a1 Q h)))]) (vs := [.ptr a1, .ptr (some a2), .int .u64 a3, .int .u64 a4, .int .i64 a5, .bool a6, .int .i64 a7, .bool a8]) (envOK seatOK (backend_Block_ask.callsOK hU) hU) (fnOK seatOK backend_Block_ask.fun) ⟨(backend_Block_ask.s15 hU Q  ), trivial⟩ backend_Block_ask.p14 (fuel := 3000) (by rw [← backend_Block_ask.e14]; exact hk) hm s f hp
  · exact hk.elim

theorem backend_Block_ask.p12 : (posC backend_Block_ask.code []).filter (fun p => Nat.beq p.1 12) = [(12, atPos (posC backend_Block_ask.code []) 12)] := by kernel_rfl

theorem backend_Block_ask.e12 : ∀ (U : Ifc)  (a1 : Option Ptr) (a2 : V) (a3 : Ptr) (a4 : Ptr) (a5 : Int) (a6 : Int) (Q : Int → Bool → Int → Int → Int → Heap → Prop) (h : Heap), backend_Block_ask.j12 U  a1 a2 a3 a4 a5 a6 Q h = pts (backend_Block_ask.E U Q [(14, ([0, 6, 13, 14, 15, 16, 17, 19], backend_Block_ask.k14 (fun a1 a2 a3 a4 a5 a6 a7 a8 h => backend_Block_ask.j14 U  a1 a2 a3 a4 a5 a6 a7 a8 Q h)))]) 3000 true (atPos (posC backend_Block_ask.code []) 12) (frAt [0, 1, 6, 9, 13, 14] [.ptr a1, a2, .ptr (some a3), .ptr (some a4), .int .u64 a5, .int .u64 a6]) h := by
  intros; kernel_rfl

theorem backend_Block_ask.s12 {W0 : World} {U : Ifc} (hU : IfcOK sg W0 glsT U) (Q : Int → Bool → Int → Int → Int → Heap → Prop)   : CutOK sg W0 156 (entered 55) (Post sg W0 (backend_Block_ask.ret Q)) (posC backend_Block_ask.code []) 12 [0, 1, 6, 9, 13, 14] (backend_Block_ask.k12 (fun a1 a2 a3 a4 a5 a6 h => backend_Block_ask.j12 U  a1 a2 a3 a4 a5 a6 Q h)) := by
  refine cutOK_head (fun vs h hk => ?_)
  unfold backend_Block_ask.k12 at hk
  split at hk
  · rename_i a1 a2 a3 a4 a5 a6
    intro todo hm ρ a w s f hp
    exact piece (E := backend_Block_ask.E U Q [(14, ([0, 6, 13, 14, 15, 16, 17, 19], backend_Block_ask.k14 (fun a1 a2 a3 a4 a5 a6 a7 a8 h => backend_Block_ask.j14 U  a1 a2 a3 a4 a5 a6 a7 a8 Q h)))]) (vs := [.ptr a1, a2, .ptr (some a3), .ptr (some a4), .int .u64 a5, .int .u64 a6]) (envOK seatOK (backend_Block_ask.callsOK hU) hU) (fnOK seatOK backend_Block_ask.fun) ⟨(backend_Block_ask.s14 hU Q  ), trivial⟩ backend_Block_ask.p12 (fuel := 3000) (by rw [← backend_Block_ask.e12]; exact hk) hm s f hp
  · exact hk.elim

theorem backend_Block_ask.p6 : (posC backend_Block_ask.code []).filter (fun p => Nat.beq p.1 6) = [(6, atPos (posC backend_Block_ask.code []) 6)] := by kernel_rfl

theorem backend_Block_ask.e6 : ∀ (U : Ifc)  (a1 : Option Ptr) (a2 : V) (a3 : Ptr) (a4 : Ptr) (a5 : Ptr) (Q : Int → Bool → Int → Int → Int → Heap → Prop) (h : Heap), backend_Block_ask.j6 U  a1 a2 a3 a4 a5 Q h = pts (backend_Block_ask.E U Q [(11, ([6], backend_Block_ask.k11 (fun a1 h => backend_Block_ask.j11 U  a1 Q h))), (12, ([0, 1, 6, 9, 13, 14], backend_Block_ask.k12 (fun a1 a2 a3 a4 a5 a6 h => backend_Block_ask.j12 U  a1 a2 a3 a4 a5 a6 Q h)))]) 3000 true (atPos (posC backend_Block_ask.code []) 6) (frAt [0, 1, 6, 8, 9] [.ptr a1, a2, .ptr (some a3), .ptr (some a4), .ptr (some a5)]) h := by
  intros; kernel_rfl

theorem backend_Block_ask.s6 {W0 : World} {U : Ifc} (hU : IfcOK sg W0 glsT U) (Q : Int → Bool → Int → Int → Int → Heap → Prop)   : CutOK sg W0 156 (entered 55) (Post sg W0 (backend_Block_ask.ret Q)) (posC backend_Block_ask.code []) 6 [0, 1, 6, 8, 9] (backend_Block_ask.k6 (fun a1 a2 a3 a4 a5 h => backend_Block_ask.j6 U  a1 a2 a3 a4 a5 Q h)) := by
  refine cutOK_head (fun vs h hk => ?_)
  unfold backend_Block_ask.k6 at hk
  split at hk
  · rename_i a1 a2 a3 a4 a5
    intro todo hm ρ a w s f hp
    exact piece (E := backend_Block_ask.E U Q [(11, ([6], backend_Block_ask.k11 (fun a1 h => backend_Block_ask.j11 U  a1 Q h))), (12, ([0, 1, 6, 9, 13, 14], backend_Block_ask.k12 (fun a1 a2 a3 a4 a5 a6 h => backend_Block_ask.j12 U  a1 a2 a3 a4 a5 a6 Q h)))]) (vs := [.ptr a1, a2, .ptr (some a3), .ptr (some a4), .ptr (some a5)]) (envOK seatOK (backend_Block_ask.callsOK hU) hU) (fnOK seatOK backend_Block_ask.fun) ⟨(backend_Block_ask.s11 hU Q  ), (backend_Block_ask.s12 hU Q  ), trivial⟩ backend_Block_ask.p6 (fuel := 3000) (by rw [← backend_Block_ask.e6]; exact hk) hm s f hp
  · exact hk.elim

theorem backend_Block_ask.p4 : (posC backend_Block_ask.code []).filter (fun p => Nat.beq p.1 4) = [(4, atPos (posC backend_Block_ask.code []) 4)] := by kernel_rfl

theorem backend_Block_ask.e4 : ∀ (U : Ifc)  (a1 : Option Ptr) (a2 : V) (a3 : Ptr) (a4 : Ptr) (a5 : Ptr) (a6 : Ptr) (Q : Int → Bool → Int → Int → Int → Heap → Prop) (h : Heap), backend_Block_ask.j4 U  a1 a2 a3 a4 a5 a6 Q h = pts (backend_Block_ask.E U Q [(5, ([6], backend_Block_ask.k5 (fun a1 h => backend_Block_ask.j5 U  a1 Q h))), (6, ([0, 1, 6, 8, 9], backend_Block_ask.k6 (fun a1 a2 a3 a4 a5 h => backend_Block_ask.j6 U  a1 a2 a3 a4 a5 Q h)))]) 3000 true (atPos (posC backend_Block_ask.code []) 4) (frAt [0, 1, 6, 8, 9, 10] [.ptr a1, a2, .ptr (some a3), .ptr (some a4), .ptr (some a5), .ptr (some a6)]) h := by
  intros; kernel_rfl

theorem backend_Block_ask.s4 {W0 : World} {U : Ifc} (hU : IfcOK sg W0 glsT U) (Q : Int → Bool → Int → Int → Int → Heap → Prop)   : CutOK sg W0 156 (entered 55) (Post sg W0 (backend_Block_ask.ret Q)) (posC backend_Block_ask.code []) 4 [0, 1, 6, 8, 9, 10] (backend_Block_ask.k4 (fun a1 a2 a3 a4 a5 a6 h => backend_Block_ask.j4 U  a1 a2 a3 a4 a5 a6 Q h)) := by
  refine cutOK_head (fun vs h hk => ?_)
  unfold backend_Block_ask.k4 at hk
  split at hk
  · rename_i a1 a2 a3 a4 a5 a6
    intro todo hm ρ a w s f hp
    exact piece (E := backend_Block_ask.E U Q [(5, ([6], backend_Block_ask.k5 (fun a1 h => backend_Block_ask.j5 U  a1 Q h))), (6, ([0, 1, 6, 8, 9], backend_Block_ask.k6 (fun a1 a2 a3 a4 a5 h => backend_Block_ask.j6 U  a1 a2 a3 a4 a5 Q h)))]) (vs := [.ptr a1, a2, .ptr (some a3), .ptr (some a4), .ptr (some a5), .ptr (some a6)]) (envOK seatOK (backend_Block_ask.callsOK hU) hU) (fnOK seatOK backend_Block_ask.fun) ⟨(backend_Block_ask.s5 hU Q  ), (backend_Block_ask.s6 hU Q  ), trivial⟩ backend_Block_ask.p4 (fuel := 3000) (by rw [← backend_Block_ask.e4]; exact hk) hm s f hp
  · exact hk.elim

theorem backend_Block_ask.e : ∀ (U : Ifc) (a1 : Option Ptr) (a2 : V) (a3 : Int) (a4 : Sl) (Q : Int → Bool → Int → Int → Int → Heap → Prop) (h : Heap), backend_Block_ask U a1 a2 a3 a4 Q h = pts (backend_Block_ask.E U Q [(4, ([0, 1, 6, 8, 9, 10], backend_Block_ask.k4 (fun a1 a2 a3 a4 a5 a6 h => backend_Block_ask.j4 U  a1 a2 a3 a4 a5 a6 Q h)))]) 3000 true [.code backend_Block_ask.code] (frOf 0 [.ptr a1, a2, .agg [.int .i64 a3, .sl a4]]) h := by
  intros; kernel_rfl

theorem backend_Block_ask.S {W0 : World} {U : Ifc} (hU : IfcOK sg W0 glsT U) : FnS sg W0 269 (backend_Block_ask.C U) := by
  intro vs κ h wv hx w s
  unfold backend_Block_ask.C at hx
  split at hx
  · rename_i a1 a2 a3 a4
    refine postImp (ret := backend_Block_ask.ret (fun r1 r2 r3 r4 r5 h => κ (.tup [.agg [.int .i64 r1, .bool r2, .int .i64 r3, .int .i64 r4], .int .u8 r5]) h)) (fun v h hr => by unfold backend_Block_ask.ret at hr; split at hr; exact hr; exact hr.elim) ?_
    exact calls_of_pts (E := backend_Block_ask.E U (fun r1 r2 r3 r4 r5 h => κ (.tup [.agg [.int .i64 r1, .bool r2, .int .i64 r3, .int .i64 r4], .int .u8 r5]) h) [(4, ([0, 1, 6, 8, 9, 10], backend_Block_ask.k4 (fun a1 a2 a3 a4 a5 a6 h => backend_Block_ask.j4 U  a1 a2 a3 a4 a5 a6 (fun r1 r2 r3 r4 r5 h => κ (.tup [.agg [.int .i64 r1, .bool r2, .int .i64 r3, .int .i64 r4], .int .u8 r5]) h) h)))]) (envOK seatOK (backend_Block_ask.callsOK hU) hU) seatOK.mixed backend_Block_ask.fun (Nat.le_of_ble_eq_true rfl) wv (cutL_ok ⟨(backend_Block_ask.s4 hU (fun r1 r2 r3 r4 r5 h => κ (.tup [.agg [.int .i64 r1, .bool r2, .int .i64 r3, .int .i64 r4], .int .u8 r5]) h)), trivial⟩) s (fuel := 3000) (by rw [← backend_Block_ask.e]; exact hx)
  · exact hx.elim

noncomputable def frames_Frames_wrong.code : Code := Go.Proofs.Tryd.f78.body.getD .skip

theorem frames_Frames_wrong.fun : Fun sg.P 78 46 [.tmp 6] frames_Frames_wrong.code := mkFun Go.Proofs.Tryd.func78 (by kernel_rfl) (by kernel_rfl) (by kernel_rfl) (by kernel_rfl)

def frames_Frames_wrong.ret (Q : Int → Heap → Prop) (v : V) (h : Heap) : Prop :=
  match v with
  | .int .i64 r1 => Q r1 h
  | _ => False

def frames_Frames_wrong.C (vs : List V) (κ : V → Heap → Prop) (h : Heap) : Prop :=
  match vs with
  | [.ptr a1, .int .i64 a2, .sl a3] => frames_Frames_wrong a1 a2 a3 (fun r1 h => κ (.int .i64 r1) h) h
  | _ => False

noncomputable def frames_Frames_wrong.calls : List (Nat × (List V → (V → Heap → Prop) → Heap → Prop)) := [(262, frames_Frames_owned.C)]

noncomputable def frames_Frames_wrong.E (Q : Int → Heap → Prop) (cuts : List (Nat × (List Nat × (List V → Heap → Prop)))) : Env := { tis := tisT, fns := fnsT, tys := tysT, gls := [], rts := rtsT, unk := [], nxt := [], calls := frames_Frames_wrong.calls, ifc := noIfc, cuts := cuts, ret := frames_Frames_wrong.ret Q, rets := [.tmp 6], n := 46 }

theorem frames_Frames_wrong.callsOK {W0 : World} : CallsOK sg W0 frames_Frames_wrong.calls := ⟨frames_Frames_owned.S, trivial⟩

def frames_Frames_wrong.k7 (I : Heap → Prop) (vs : List V) (h : Heap) : Prop :=
  match vs with
  | [] => I  h
  | _ => False

def frames_Frames_wrong.k8 (I : Heap → Prop) (vs : List V) (h : Heap) : Prop :=
  match vs with
  | [] => I  h
  | _ => False

theorem frames_Frames_wrong.p7 : (posC frames_Frames_wrong.code []).filter (fun p => Nat.beq p.1 7) = [(7, atPos (posC frames_Frames_wrong.code []) 7)] := by kernel_rfl

theorem frames_Frames_wrong.e7 : ∀   (Q : Int → Heap → Prop) (h : Heap), frames_Frames_wrong.j7   Q h = pts (frames_Frames_wrong.E Q []) 3000 true (atPos (posC frames_Frames_wrong.code []) 7) (frAt [] []) h := by
  intros; kernel_rfl

theorem frames_Frames_wrong.s7 {W0 : World} (Q : Int → Heap → Prop)   : CutOK sg W0 46 (entered 78) (Post sg W0 (frames_Frames_wrong.ret Q)) (posC frames_Frames_wrong.code []) 7 [] (frames_Frames_wrong.k7 (fun  h => frames_Frames_wrong.j7   Q h)) := by
  refine cutOK_head (fun vs h hk => ?_)
  unfold frames_Frames_wrong.k7 at hk
  split at hk
  · skip
    intro todo hm ρ a w s f hp
    exact piece (E := frames_Frames_wrong.E Q []) (vs := []) (envOK seatOK frames_Frames_wrong.callsOK noIfc_ok) (fnOK seatOK frames_Frames_wrong.fun) trivial frames_Frames_wrong.p7 (fuel := 3000) (by rw [← frames_Frames_wrong.e7]; exact hk) hm s f hp
  · exact hk.elim

theorem frames_Frames_wrong.p8 : (posC frames_Frames_wrong.code []).filter (fun p => Nat.beq p.1 8) = [(8, atPos (posC frames_Frames_wrong.code []) 8)] := by kernel_rfl

theorem frames_Frames_wrong.e8 : ∀   (Q : Int → Heap → Prop) (h : Heap), frames_Frames_wrong.j8   Q h = pts (frames_Frames_wrong.E Q []) 3000 true (atPos (posC frames_Frames_wrong.code []) 8) (frAt [] []) h := by
  intros; kernel_rfl

theorem frames_Frames_wrong.s8 {W0 : World} (Q : Int → Heap → Prop)   : CutOK sg W0 46 (entered 78) (Post sg W0 (frames_Frames_wrong.ret Q)) (posC frames_Frames_wrong.code []) 8 [] (frames_Frames_wrong.k8 (fun  h => frames_Frames_wrong.j8   Q h)) := by
  refine cutOK_head (fun vs h hk => ?_)
  unfold frames_Frames_wrong.k8 at hk
  split at hk
  · skip
    intro todo hm ρ a w s f hp
    exact piece (E := frames_Frames_wrong.E Q []) (vs := []) (envOK seatOK frames_Frames_wrong.callsOK noIfc_ok) (fnOK seatOK frames_Frames_wrong.fun) trivial frames_Frames_wrong.p8 (fuel := 3000) (by rw [← frames_Frames_wrong.e8]; exact hk) hm s f hp
  · exact hk.elim

theorem frames_Frames_wrong.e : ∀ (a1 : Option Ptr) (a2 : Int) (a3 : Sl) (Q : Int → Heap → Prop) (h : Heap), frames_Frames_wrong a1 a2 a3 Q h = pts (frames_Frames_wrong.E Q [(7, ([], frames_Frames_wrong.k7 (fun  h => frames_Frames_wrong.j7   Q h))), (8, ([], frames_Frames_wrong.k8 (fun  h => frames_Frames_wrong.j8   Q h)))]) 3000 true [.code frames_Frames_wrong.code] (frOf 0 [.ptr a1, .int .i64 a2, .sl a3]) h := by
  intros; kernel_rfl

theorem frames_Frames_wrong.S {W0 : World} : FnS sg W0 270 frames_Frames_wrong.C := by
  intro vs κ h wv hx w s
  unfold frames_Frames_wrong.C at hx
  split at hx
  · rename_i a1 a2 a3
    refine postImp (ret := frames_Frames_wrong.ret (fun r1 h => κ (.int .i64 r1) h)) (fun v h hr => by unfold frames_Frames_wrong.ret at hr; split at hr; exact hr; exact hr.elim) ?_
    exact calls_of_pts (E := frames_Frames_wrong.E (fun r1 h => κ (.int .i64 r1) h) [(7, ([], frames_Frames_wrong.k7 (fun  h => frames_Frames_wrong.j7   (fun r1 h => κ (.int .i64 r1) h) h))), (8, ([], frames_Frames_wrong.k8 (fun  h => frames_Frames_wrong.j8   (fun r1 h => κ (.int .i64 r1) h) h)))]) (envOK seatOK frames_Frames_wrong.callsOK noIfc_ok) seatOK.mixed frames_Frames_wrong.fun (Nat.le_of_ble_eq_true rfl) wv (cutL_ok ⟨(frames_Frames_wrong.s7 (fun r1 h => κ (.int .i64 r1) h)), (frames_Frames_wrong.s8 (fun r1 h => κ (.int .i64 r1) h)), trivial⟩) s (fuel := 3000) (by rw [← frames_Frames_wrong.e]; exact hx)
  · exact hx.elim

noncomputable def frames_Frames_Hold.code : Code := Go.Proofs.Tryd.f88.body.getD .skip

theorem frames_Frames_Hold.fun : Fun sg.P 88 32 [.tmp 6] frames_Frames_Hold.code := mkFun Go.Proofs.Tryd.func88 (by kernel_rfl) (by kernel_rfl) (by kernel_rfl) (by kernel_rfl)

def frames_Frames_Hold.ret (Q : Int → Heap → Prop) (v : V) (h : Heap) : Prop :=
  match v with
  | .int .i64 r1 => Q r1 h
  | _ => False

def frames_Frames_Hold.C (vs : List V) (κ : V → Heap → Prop) (h : Heap) : Prop :=
  match vs with
  | [.ptr a1, .int .i64 a2, .int .i64 a3] => frames_Frames_Hold a1 a2 a3 (fun r1 h => κ (.int .i64 r1) h) h
  | _ => False

noncomputable def frames_Frames_Hold.calls : List (Nat × (List V → (V → Heap → Prop) → Heap → Prop)) := [(270, frames_Frames_wrong.C)]

noncomputable def frames_Frames_Hold.E (Q : Int → Heap → Prop) (cuts : List (Nat × (List Nat × (List V → Heap → Prop)))) : Env := { tis := tisT, fns := fnsT, tys := tysT, gls := [], rts := rtsT, unk := [], nxt := [], calls := frames_Frames_Hold.calls, ifc := noIfc, cuts := cuts, ret := frames_Frames_Hold.ret Q, rets := [.tmp 6], n := 32 }

theorem frames_Frames_Hold.callsOK {W0 : World} : CallsOK sg W0 frames_Frames_Hold.calls := ⟨frames_Frames_wrong.S, trivial⟩

def frames_Frames_Hold.k7 (I : Heap → Prop) (vs : List V) (h : Heap) : Prop :=
  match vs with
  | [] => I  h
  | _ => False

theorem frames_Frames_Hold.p7 : (posC frames_Frames_Hold.code []).filter (fun p => Nat.beq p.1 7) = [(7, atPos (posC frames_Frames_Hold.code []) 7)] := by kernel_rfl

theorem frames_Frames_Hold.e7 : ∀   (Q : Int → Heap → Prop) (h : Heap), frames_Frames_Hold.j7   Q h = pts (frames_Frames_Hold.E Q []) 3000 true (atPos (posC frames_Frames_Hold.code []) 7) (frAt [] []) h := by
  intros; kernel_rfl

theorem frames_Frames_Hold.s7 {W0 : World} (Q : Int → Heap → Prop)   : CutOK sg W0 32 (entered 88) (Post sg W0 (frames_Frames_Hold.ret Q)) (posC frames_Frames_Hold.code []) 7 [] (frames_Frames_Hold.k7 (fun  h => frames_Frames_Hold.j7   Q h)) := by
  refine cutOK_head (fun vs h hk => ?_)
  unfold frames_Frames_Hold.k7 at hk
  split at hk
  · skip
    intro todo hm ρ a w s f hp
    exact piece (E := frames_Frames_Hold.E Q []) (vs := []) (envOK seatOK frames_Frames_Hold.callsOK noIfc_ok) (fnOK seatOK frames_Frames_Hold.fun) trivial frames_Frames_Hold.p7 (fuel := 3000) (by rw [← frames_Frames_Hold.e7]; exact hk) hm s f hp
  · exact hk.elim

theorem frames_Frames_Hold.e : ∀ (a1 : Option Ptr) (a2 : Int) (a3 : Int) (Q : Int → Heap → Prop) (h : Heap), frames_Frames_Hold a1 a2 a3 Q h = pts (frames_Frames_Hold.E Q [(7, ([], frames_Frames_Hold.k7 (fun  h => frames_Frames_Hold.j7   Q h)))]) 3000 true [.code frames_Frames_Hold.code] (frOf 0 [.ptr a1, .int .i64 a2, .int .i64 a3]) h := by
  intros; kernel_rfl

theorem frames_Frames_Hold.S {W0 : World} : FnS sg W0 271 frames_Frames_Hold.C := by
  intro vs κ h wv hx w s
  unfold frames_Frames_Hold.C at hx
  split at hx
  · rename_i a1 a2 a3
    refine postImp (ret := frames_Frames_Hold.ret (fun r1 h => κ (.int .i64 r1) h)) (fun v h hr => by unfold frames_Frames_Hold.ret at hr; split at hr; exact hr; exact hr.elim) ?_
    exact calls_of_pts (E := frames_Frames_Hold.E (fun r1 h => κ (.int .i64 r1) h) [(7, ([], frames_Frames_Hold.k7 (fun  h => frames_Frames_Hold.j7   (fun r1 h => κ (.int .i64 r1) h) h)))]) (envOK seatOK frames_Frames_Hold.callsOK noIfc_ok) seatOK.mixed frames_Frames_Hold.fun (Nat.le_of_ble_eq_true rfl) wv (cutL_ok ⟨(frames_Frames_Hold.s7 (fun r1 h => κ (.int .i64 r1) h)), trivial⟩) s (fuel := 3000) (by rw [← frames_Frames_Hold.e]; exact hx)
  · exact hx.elim

end Go.Fn
