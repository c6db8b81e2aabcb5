/- The links of the shallow functions to the machine. PRINTED by lift.py. -/
import Derived.Test.YtfpmidnmkpaoiaaGreatGa
set_option linter.unusedVariables false
set_option maxRecDepth 100000
namespace Go.Fn
open Go.Lift

noncomputable def machine_Machine_Cores.code : Code := Go.Proofs.Tryz.f8.body.getD .skip

theorem machine_Machine_Cores.fun : Fun sg.P 8 10 [.tmp 2] machine_Machine_Cores.code := mkFun Go.Proofs.Tryz.func8 (by kernel_rfl) (by kernel_rfl) (by kernel_rfl) (by kernel_rfl)

def machine_Machine_Cores.ret (Q : Int → Heap → Prop) (v : V) (h : Heap) : Prop :=
  match v with
  | .int .i64 r1 => Q r1 h
  | _ => False

def machine_Machine_Cores.C (vs : List V) (κ : V → Heap → Prop) (h : Heap) : Prop :=
  match vs with
  | [.ptr a1] => machine_Machine_Cores a1 (fun r1 h => κ (.int .i64 r1) h) h
  | _ => False

noncomputable def machine_Machine_Cores.calls : List (Nat × (List V → (V → Heap → Prop) → Heap → Prop)) := []

noncomputable def machine_Machine_Cores.E (Q : Int → Heap → Prop) (cuts : List (Nat × (List Nat × (List V → Heap → Prop)))) : Env := { tis := tisT, fns := fnsT, tys := tysT, gls := [], rts := rtsT, unk := [], nxt := [], calls := machine_Machine_Cores.calls, ifc := noIfc, cuts := cuts, ret := machine_Machine_Cores.ret Q, rets := [.tmp 2], n := 10 }

theorem machine_Machine_Cores.callsOK {W0 : World} : CallsOK sg W0 machine_Machine_Cores.calls := trivial

theorem machine_Machine_Cores.e : ∀ (a1 : Option Ptr) (Q : Int → Heap → Prop) (h : Heap), machine_Machine_Cores a1 Q h = pts (machine_Machine_Cores.E Q []) 3000 true [.code machine_Machine_Cores.code] (frOf 0 [.ptr a1]) h := by
  intros; kernel_rfl

theorem machine_Machine_Cores.S {W0 : World} : FnS sg W0 134 machine_Machine_Cores.C := by
  intro vs κ h wv hx w s
  unfold machine_Machine_Cores.C at hx
  split at hx
  · rename_i a1
    refine postImp (ret := machine_Machine_Cores.ret (fun r1 h => κ (.int .i64 r1) h)) (fun v h hr => by unfold machine_Machine_Cores.ret at hr; split at hr; exact hr; exact hr.elim) ?_
    exact calls_of_pts (E := machine_Machine_Cores.E (fun r1 h => κ (.int .i64 r1) h) []) (envOK seatOK machine_Machine_Cores.callsOK noIfc_ok) seatOK.mixed machine_Machine_Cores.fun (Nat.le_of_ble_eq_true rfl) wv (cutL_ok trivial) s (fuel := 3000) (by rw [← machine_Machine_Cores.e]; exact hx)
  · exact hx.elim

noncomputable def machine_Machine_of.code : Code := Go.Proofs.Tryz.f13.body.getD .skip

theorem machine_Machine_of.fun : Fun sg.P 13 29 [.tmp 4, .tmp 5] machine_Machine_of.code := mkFun Go.Proofs.Tryz.func13 (by kernel_rfl) (by kernel_rfl) (by kernel_rfl) (by kernel_rfl)

def machine_Machine_of.ret (Q : (Option Ptr) → Int → Heap → Prop) (v : V) (h : Heap) : Prop :=
  match v with
  | .tup [.ptr r1, .int .i64 r2] => Q r1 r2 h
  | _ => False

def machine_Machine_of.C (vs : List V) (κ : V → Heap → Prop) (h : Heap) : Prop :=
  match vs with
  | [.ptr a1, .int .i64 a2] => machine_Machine_of a1 a2 (fun r1 r2 h => κ (.tup [.ptr r1, .int .i64 r2]) h) h
  | _ => False

noncomputable def machine_Machine_of.calls : List (Nat × (List V → (V → Heap → Prop) → Heap → Prop)) := [(134, machine_Machine_Cores.C)]

noncomputable def machine_Machine_of.E (Q : (Option Ptr) → Int → Heap → Prop) (cuts : List (Nat × (List Nat × (List V → Heap → Prop)))) : Env := { tis := tisT, fns := fnsT, tys := tysT, gls := [], rts := rtsT, unk := [], nxt := [], calls := machine_Machine_of.calls, ifc := noIfc, cuts := cuts, ret := machine_Machine_of.ret Q, rets := [.tmp 4, .tmp 5], n := 29 }

theorem machine_Machine_of.callsOK {W0 : World} : CallsOK sg W0 machine_Machine_of.calls := ⟨machine_Machine_Cores.S, trivial⟩

def machine_Machine_of.k4 (I : Heap → Prop) (vs : List V) (h : Heap) : Prop :=
  match vs with
  | [] => I  h
  | _ => False

def machine_Machine_of.k5 (I : (Option Ptr) → Int → Heap → Prop) (vs : List V) (h : Heap) : Prop :=
  match vs with
  | [.ptr a1, .int .i64 a2] => I a1 a2 h
  | _ => False

theorem machine_Machine_of.p4 : (posC machine_Machine_of.code []).filter (fun p => Nat.beq p.1 4) = [(4, atPos (posC machine_Machine_of.code []) 4)] := by kernel_rfl

theorem machine_Machine_of.e4 : ∀   (Q : (Option Ptr) → Int → Heap → Prop) (h : Heap), machine_Machine_of.j4   Q h = pts (machine_Machine_of.E Q []) 3000 true (atPos (posC machine_Machine_of.code []) 4) (frAt [] []) h := by
  intros; kernel_rfl

theorem machine_Machine_of.s4 {W0 : World} (Q : (Option Ptr) → Int → Heap → Prop)   : CutOK sg W0 29 (entered 13) (Post sg W0 (machine_Machine_of.ret Q)) (posC machine_Machine_of.code []) 4 [] (machine_Machine_of.k4 (fun  h => machine_Machine_of.j4   Q h)) := by
  refine cutOK_head (fun vs h hk => ?_)
  unfold machine_Machine_of.k4 at hk
  split at hk
  · skip
    intro todo hm ρ a w s f hp
    exact piece (E := machine_Machine_of.E Q []) (vs := []) (envOK seatOK machine_Machine_of.callsOK noIfc_ok) (fnOK seatOK machine_Machine_of.fun) trivial machine_Machine_of.p4 (fuel := 3000) (by rw [← machine_Machine_of.e4]; exact hk) hm s f hp
  · exact hk.elim

theorem machine_Machine_of.p5 : (posC machine_Machine_of.code []).filter (fun p => Nat.beq p.1 5) = [(5, atPos (posC machine_Machine_of.code []) 5)] := by kernel_rfl

theorem machine_Machine_of.e5 : ∀  (a1 : Option Ptr) (a2 : Int) (Q : (Option Ptr) → Int → Heap → Prop) (h : Heap), machine_Machine_of.j5  a1 a2 Q h = pts (machine_Machine_of.E Q []) 3000 true (atPos (posC machine_Machine_of.code []) 5) (frAt [0, 1] [.ptr a1, .int .i64 a2]) h := by
  intros; kernel_rfl

theorem machine_Machine_of.s5 {W0 : World} (Q : (Option Ptr) → Int → Heap → Prop)   : CutOK sg W0 29 (entered 13) (Post sg W0 (machine_Machine_of.ret Q)) (posC machine_Machine_of.code []) 5 [0, 1] (machine_Machine_of.k5 (fun a1 a2 h => machine_Machine_of.j5  a1 a2 Q h)) := by
  refine cutOK_head (fun vs h hk => ?_)
  unfold machine_Machine_of.k5 at hk
  split at hk
  · rename_i a1 a2
    intro todo hm ρ a w s f hp
    exact piece (E := machine_Machine_of.E Q []) (vs := [.ptr a1, .int .i64 a2]) (envOK seatOK machine_Machine_of.callsOK noIfc_ok) (fnOK seatOK machine_Machine_of.fun) trivial machine_Machine_of.p5 (fuel := 3000) (by rw [← machine_Machine_of.e5]; exact hk) hm s f hp
  · exact hk.elim

theorem machine_Machine_of.e : ∀ (a1 : Option Ptr) (a2 : Int) (Q : (Option Ptr) → Int → Heap → Prop) (h : Heap), machine_Machine_of a1 a2 Q h = pts (machine_Machine_of.E Q [(4, ([], machine_Machine_of.k4 (fun  h => machine_Machine_of.j4   Q h))), (5, ([0, 1], machine_Machine_of.k5 (fun a1 a2 h => machine_Machine_of.j5  a1 a2 Q h)))]) 3000 true [.code machine_Machine_of.code] (frOf 0 [.ptr a1, .int .i64 a2]) h := by
  intros; kernel_rfl

theorem machine_Machine_of.S {W0 : World} : FnS sg W0 135 machine_Machine_of.C := by
  intro vs κ h wv hx w s
  unfold machine_Machine_of.C at hx
  split at hx
  · rename_i a1 a2
    refine postImp (ret := machine_Machine_of.ret (fun r1 r2 h => κ (.tup [.ptr r1, .int .i64 r2]) h)) (fun v h hr => by unfold machine_Machine_of.ret at hr; split at hr; exact hr; exact hr.elim) ?_
    exact calls_of_pts (E := machine_Machine_of.E (fun r1 r2 h => κ (.tup [.ptr r1, .int .i64 r2]) h) [(4, ([], machine_Machine_of.k4 (fun  h => machine_Machine_of.j4   (fun r1 r2 h => κ (.tup [.ptr r1, .int .i64 r2]) h) h))), (5, ([0, 1], machine_Machine_of.k5 (fun a1 a2 h => machine_Machine_of.j5  a1 a2 (fun r1 r2 h => κ (.tup [.ptr r1, .int .i64 r2]) h) h)))]) (envOK seatOK machine_Machine_of.callsOK noIfc_ok) seatOK.mixed machine_Machine_of.fun (Nat.le_of_ble_eq_true rfl) wv (cutL_ok ⟨(machine_Machine_of.s4 (fun r1 r2 h => κ (.tup [.ptr r1, .int .i64 r2]) h)), (machine_Machine_of.s5 (fun r1 r2 h => κ (.tup [.ptr r1, .int .i64 r2]) h)), trivial⟩) s (fuel := 3000) (by rw [← machine_Machine_of.e]; exact hx)
  · exact hx.elim

noncomputable def machine_Machine_Get.code : Code := Go.Proofs.Tryz.f4.body.getD .skip

theorem machine_Machine_Get.fun : Fun sg.P 4 28 [.cell 4 36, .tmp 5] machine_Machine_Get.code := mkFun Go.Proofs.Tryz.func4 (by kernel_rfl) (by kernel_rfl) (by kernel_rfl) (by kernel_rfl)

def machine_Machine_Get.ret (Q : (List V) → Bool → Heap → Prop) (v : V) (h : Heap) : Prop :=
  match v with
  | .tup [.ago r1, .bool r2] => Q r1 r2 h
  | _ => False

def machine_Machine_Get.C (vs : List V) (κ : V → Heap → Prop) (h : Heap) : Prop :=
  match vs with
  | [.ptr a1, .int .i64 a2] => machine_Machine_Get a1 a2 (fun r1 r2 h => κ (.tup [.ago r1, .bool r2]) h) h
  | _ => False

noncomputable def machine_Machine_Get.calls : List (Nat × (List V → (V → Heap → Prop) → Heap → Prop)) := [(135, machine_Machine_of.C)]

noncomputable def machine_Machine_Get.E (Q : (List V) → Bool → Heap → Prop) (cuts : List (Nat × (List Nat × (List V → Heap → Prop)))) : Env := { tis := tisT, fns := fnsT, tys := tysT, gls := [], rts := rtsT, unk := [], nxt := [], calls := machine_Machine_Get.calls, ifc := noIfc, cuts := cuts, ret := machine_Machine_Get.ret Q, rets := [.cell 4 36, .tmp 5], n := 28 }

theorem machine_Machine_Get.callsOK {W0 : World} : CallsOK sg W0 machine_Machine_Get.calls := ⟨machine_Machine_of.S, trivial⟩

def machine_Machine_Get.k3 (I : Ptr → Heap → Prop) (vs : List V) (h : Heap) : Prop :=
  match vs with
  | [.ptr (some a1)] => I a1 h
  | _ => False

def machine_Machine_Get.k4 (I : Ptr → (Option Ptr) → Heap → Prop) (vs : List V) (h : Heap) : Prop :=
  match vs with
  | [.ptr (some a1), .ptr a2] => I a1 a2 h
  | _ => False

def machine_Machine_Get.k2 (I : Ptr → (Option Ptr) → Int → Heap → Prop) (vs : List V) (h : Heap) : Prop :=
  match vs with
  | [.ptr (some a1), .ptr a2, .int .i64 a3] => I a1 a2 a3 h
  | _ => False

theorem machine_Machine_Get.p3 : (posC machine_Machine_Get.code []).filter (fun p => Nat.beq p.1 3) = [(3, atPos (posC machine_Machine_Get.code []) 3)] := by kernel_rfl

theorem machine_Machine_Get.e3 : ∀  (a1 : Ptr) (Q : (List V) → Bool → Heap → Prop) (h : Heap), machine_Machine_Get.j3  a1 Q h = pts (machine_Machine_Get.E Q []) 3000 true (atPos (posC machine_Machine_Get.code []) 3) (frAt [4] [.ptr (some a1)]) h := by
  intros; kernel_rfl

theorem machine_Machine_Get.s3 {W0 : World} (Q : (List V) → Bool → Heap → Prop)   : CutOK sg W0 28 (entered 4) (Post sg W0 (machine_Machine_Get.ret Q)) (posC machine_Machine_Get.code []) 3 [4] (machine_Machine_Get.k3 (fun a1 h => machine_Machine_Get.j3  a1 Q h)) := by
  refine cutOK_head (fun vs h hk => ?_)
  unfold machine_Machine_Get.k3 at hk
  split at hk
  · rename_i a1
    intro todo hm ρ a w s f hp
    exact piece (E := machine_Machine_Get.E Q []) (vs := [.ptr (some a1)]) (envOK seatOK machine_Machine_Get.callsOK noIfc_ok) (fnOK seatOK machine_Machine_Get.fun) trivial machine_Machine_Get.p3 (fuel := 3000) (by rw [← machine_Machine_Get.e3]; exact hk) hm s f hp
  · exact hk.elim

theorem machine_Machine_Get.p4 : (posC machine_Machine_Get.code []).filter (fun p => Nat.beq p.1 4) = [(4, atPos (posC machine_Machine_Get.code []) 4)] := by kernel_rfl

theorem machine_Machine_Get.e4 : ∀  (a1 : Ptr) (a2 : Option Ptr) (Q : (List V) → Bool → Heap → Prop) (h : Heap), machine_Machine_Get.j4  a1 a2 Q h = pts (machine_Machine_Get.E Q []) 3000 true (atPos (posC machine_Machine_Get.code []) 4) (frAt [4, 6] [.ptr (some a1), .ptr a2]) h := by
  intros; kernel_rfl

theorem machine_Machine_Get.s4 {W0 : World} (Q : (List V) → Bool → Heap → Prop)   : CutOK sg W0 28 (entered 4) (Post sg W0 (machine_Machine_Get.ret Q)) (posC machine_Machine_Get.code []) 4 [4, 6] (machine_Machine_Get.k4 (fun a1 a2 h => machine_Machine_Get.j4  a1 a2 Q h)) := by
  refine cutOK_head (fun vs h hk => ?_)
  unfold machine_Machine_Get.k4 at hk
  split at hk
  · rename_i a1 a2
    intro todo hm ρ a w s f hp
    exact piece (E := machine_Machine_Get.E Q []) (vs := [.ptr (some a1), .ptr a2]) (envOK seatOK machine_Machine_Get.callsOK noIfc_ok) (fnOK seatOK machine_Machine_Get.fun) trivial machine_Machine_Get.p4 (fuel := 3000) (by rw [← machine_Machine_Get.e4]; exact hk) hm s f hp
  · exact hk.elim

theorem machine_Machine_Get.p2 : (posC machine_Machine_Get.code []).filter (fun p => Nat.beq p.1 2) = [(2, atPos (posC machine_Machine_Get.code []) 2)] := by kernel_rfl

theorem machine_Machine_Get.e2 : ∀  (a1 : Ptr) (a2 : Option Ptr) (a3 : Int) (Q : (List V) → Bool → Heap → Prop) (h : Heap), machine_Machine_Get.j2  a1 a2 a3 Q h = pts (machine_Machine_Get.E Q [(3, ([4], machine_Machine_Get.k3 (fun a1 h => machine_Machine_Get.j3  a1 Q h))), (4, ([4, 6], machine_Machine_Get.k4 (fun a1 a2 h => machine_Machine_Get.j4  a1 a2 Q h)))]) 3000 true (atPos (posC machine_Machine_Get.code []) 2) (frAt [4, 6, 7] [.ptr (some a1), .ptr a2, .int .i64 a3]) h := by
  intros; kernel_rfl

theorem machine_Machine_Get.s2 {W0 : World} (Q : (List V) → Bool → Heap → Prop)   : CutOK sg W0 28 (entered 4) (Post sg W0 (machine_Machine_Get.ret Q)) (posC machine_Machine_Get.code []) 2 [4, 6, 7] (machine_Machine_Get.k2 (fun a1 a2 a3 h => machine_Machine_Get.j2  a1 a2 a3 Q h)) := by
  refine cutOK_head (fun vs h hk => ?_)
  unfold machine_Machine_Get.k2 at hk
  split at hk
  · rename_i a1 a2 a3
    intro todo hm ρ a w s f hp
    exact piece (E := machine_Machine_Get.E Q [(3, ([4], machine_Machine_Get.k3 (fun a1 h => machine_Machine_Get.j3  a1 Q h))), (4, ([4, 6], machine_Machine_Get.k4 (fun a1 a2 h => machine_Machine_Get.j4  a1 a2 Q h)))]) (vs := [.ptr (some a1), .ptr a2, .int .i64 a3]) (envOK seatOK machine_Machine_Get.callsOK noIfc_ok) (fnOK seatOK machine_Machine_Get.fun) ⟨(machine_Machine_Get.s3 Q  ), (machine_Machine_Get.s4 Q  ), trivial⟩ machine_Machine_Get.p2 (fuel := 3000) (by rw [← machine_Machine_Get.e2]; exact hk) hm s f hp
  · exact hk.elim

theorem machine_Machine_Get.e : ∀ (a1 : Option Ptr) (a2 : Int) (Q : (List V) → Bool → Heap → Prop) (h : Heap), machine_Machine_Get a1 a2 Q h = pts (machine_Machine_Get.E Q [(2, ([4, 6, 7], machine_Machine_Get.k2 (fun a1 a2 a3 h => machine_Machine_Get.j2  a1 a2 a3 Q h)))]) 3000 true [.code machine_Machine_Get.code] (frOf 0 [.ptr a1, .int .i64 a2]) h := by
  intros; kernel_rfl

theorem machine_Machine_Get.S {W0 : World} : FnS sg W0 136 machine_Machine_Get.C := by
  intro vs κ h wv hx w s
  unfold machine_Machine_Get.C at hx
  split at hx
  · rename_i a1 a2
    refine postImp (ret := machine_Machine_Get.ret (fun r1 r2 h => κ (.tup [.ago r1, .bool r2]) h)) (fun v h hr => by unfold machine_Machine_Get.ret at hr; split at hr; exact hr; exact hr.elim) ?_
    exact calls_of_pts (E := machine_Machine_Get.E (fun r1 r2 h => κ (.tup [.ago r1, .bool r2]) h) [(2, ([4, 6, 7], machine_Machine_Get.k2 (fun a1 a2 a3 h => machine_Machine_Get.j2  a1 a2 a3 (fun r1 r2 h => κ (.tup [.ago r1, .bool r2]) h) h)))]) (envOK seatOK machine_Machine_Get.callsOK noIfc_ok) seatOK.mixed machine_Machine_Get.fun (Nat.le_of_ble_eq_true rfl) wv (cutL_ok ⟨(machine_Machine_Get.s2 (fun r1 r2 h => κ (.tup [.ago r1, .bool r2]) h)), trivial⟩) s (fuel := 3000) (by rw [← machine_Machine_Get.e]; exact hx)
  · exact hx.elim

noncomputable def machine_Machine_Take.code : Code := Go.Proofs.Tryz.f5.body.getD .skip

theorem machine_Machine_Take.fun : Fun sg.P 5 43 [.cell 4 36, .tmp 5] machine_Machine_Take.code := mkFun Go.Proofs.Tryz.func5 (by kernel_rfl) (by kernel_rfl) (by kernel_rfl) (by kernel_rfl)

def machine_Machine_Take.ret (Q : (List V) → Int → Heap → Prop) (v : V) (h : Heap) : Prop :=
  match v with
  | .tup [.ago r1, .int .i64 r2] => Q r1 r2 h
  | _ => False

def machine_Machine_Take.C (vs : List V) (κ : V → Heap → Prop) (h : Heap) : Prop :=
  match vs with
  | [.ptr a1, .int .i64 a2] => machine_Machine_Take a1 a2 (fun r1 r2 h => κ (.tup [.ago r1, .int .i64 r2]) h) h
  | _ => False

noncomputable def machine_Machine_Take.calls : List (Nat × (List V → (V → Heap → Prop) → Heap → Prop)) := [(135, machine_Machine_of.C)]

noncomputable def machine_Machine_Take.E (Q : (List V) → Int → Heap → Prop) (cuts : List (Nat × (List Nat × (List V → Heap → Prop)))) : Env := { tis := tisT, fns := fnsT, tys := tysT, gls := [], rts := rtsT, unk := [], nxt := [], calls := machine_Machine_Take.calls, ifc := noIfc, cuts := cuts, ret := machine_Machine_Take.ret Q, rets := [.cell 4 36, .tmp 5], n := 43 }

theorem machine_Machine_Take.callsOK {W0 : World} : CallsOK sg W0 machine_Machine_Take.calls := ⟨machine_Machine_of.S, trivial⟩

def machine_Machine_Take.k5 (I : Ptr → Heap → Prop) (vs : List V) (h : Heap) : Prop :=
  match vs with
  | [.ptr (some a1)] => I a1 h
  | _ => False

def machine_Machine_Take.k8 (I : Ptr → Ptr → Heap → Prop) (vs : List V) (h : Heap) : Prop :=
  match vs with
  | [.ptr (some a1), .ptr (some a2)] => I a1 a2 h
  | _ => False

def machine_Machine_Take.k6 (I : Ptr → (Option Ptr) → Heap → Prop) (vs : List V) (h : Heap) : Prop :=
  match vs with
  | [.ptr (some a1), .ptr a2] => I a1 a2 h
  | _ => False

def machine_Machine_Take.k2 (I : Ptr → (Option Ptr) → Int → Heap → Prop) (vs : List V) (h : Heap) : Prop :=
  match vs with
  | [.ptr (some a1), .ptr a2, .int .i64 a3] => I a1 a2 a3 h
  | _ => False

theorem machine_Machine_Take.p5 : (posC machine_Machine_Take.code []).filter (fun p => Nat.beq p.1 5) = [(5, atPos (posC machine_Machine_Take.code []) 5)] := by kernel_rfl

theorem machine_Machine_Take.e5 : ∀  (a1 : Ptr) (Q : (List V) → Int → Heap → Prop) (h : Heap), machine_Machine_Take.j5  a1 Q h = pts (machine_Machine_Take.E Q []) 3000 true (atPos (posC machine_Machine_Take.code []) 5) (frAt [4] [.ptr (some a1)]) h := by
  intros; kernel_rfl

theorem machine_Machine_Take.s5 {W0 : World} (Q : (List V) → Int → Heap → Prop)   : CutOK sg W0 43 (entered 5) (Post sg W0 (machine_Machine_Take.ret Q)) (posC machine_Machine_Take.code []) 5 [4] (machine_Machine_Take.k5 (fun a1 h => machine_Machine_Take.j5  a1 Q h)) := by
  refine cutOK_head (fun vs h hk => ?_)
  unfold machine_Machine_Take.k5 at hk
  split at hk
  · rename_i a1
    intro todo hm ρ a w s f hp
    exact piece (E := machine_Machine_Take.E Q []) (vs := [.ptr (some a1)]) (envOK seatOK machine_Machine_Take.callsOK noIfc_ok) (fnOK seatOK machine_Machine_Take.fun) trivial machine_Machine_Take.p5 (fuel := 3000) (by rw [← machine_Machine_Take.e5]; exact hk) hm s f hp
  · exact hk.elim

theorem machine_Machine_Take.p8 : (posC machine_Machine_Take.code []).filter (fun p => Nat.beq p.1 8) = [(8, atPos (posC machine_Machine_Take.code []) 8)] := by kernel_rfl

theorem machine_Machine_Take.e8 : ∀  (a1 : Ptr) (a2 : Ptr) (Q : (List V) → Int → Heap → Prop) (h : Heap), machine_Machine_Take.j8  a1 a2 Q h = pts (machine_Machine_Take.E Q []) 3000 true (atPos (posC machine_Machine_Take.code []) 8) (frAt [4, 8] [.ptr (some a1), .ptr (some a2)]) h := by
  intros; kernel_rfl

theorem machine_Machine_Take.s8 {W0 : World} (Q : (List V) → Int → Heap → Prop)   : CutOK sg W0 43 (entered 5) (Post sg W0 (machine_Machine_Take.ret Q)) (posC machine_Machine_Take.code []) 8 [4, 8] (machine_Machine_Take.k8 (fun a1 a2 h => machine_Machine_Take.j8  a1 a2 Q h)) := by
  refine cutOK_head (fun vs h hk => ?_)
  unfold machine_Machine_Take.k8 at hk
  split at hk
  · rename_i a1 a2
    intro todo hm ρ a w s f hp
    exact piece (E := machine_Machine_Take.E Q []) (vs := [.ptr (some a1), .ptr (some a2)]) (envOK seatOK machine_Machine_Take.callsOK noIfc_ok) (fnOK seatOK machine_Machine_Take.fun) trivial machine_Machine_Take.p8 (fuel := 3000) (by rw [← machine_Machine_Take.e8]; exact hk) hm s f hp
  · exact hk.elim

theorem machine_Machine_Take.p6 : (posC machine_Machine_Take.code []).filter (fun p => Nat.beq p.1 6) = [(6, atPos (posC machine_Machine_Take.code []) 6)] := by kernel_rfl

theorem machine_Machine_Take.e6 : ∀  (a1 : Ptr) (a2 : Option Ptr) (Q : (List V) → Int → Heap → Prop) (h : Heap), machine_Machine_Take.j6  a1 a2 Q h = pts (machine_Machine_Take.E Q [(8, ([4, 8], machine_Machine_Take.k8 (fun a1 a2 h => machine_Machine_Take.j8  a1 a2 Q h)))]) 3000 true (atPos (posC machine_Machine_Take.code []) 6) (frAt [4, 6] [.ptr (some a1), .ptr a2]) h := by
  intros; kernel_rfl

theorem machine_Machine_Take.s6 {W0 : World} (Q : (List V) → Int → Heap → Prop)   : CutOK sg W0 43 (entered 5) (Post sg W0 (machine_Machine_Take.ret Q)) (posC machine_Machine_Take.code []) 6 [4, 6] (machine_Machine_Take.k6 (fun a1 a2 h => machine_Machine_Take.j6  a1 a2 Q h)) := by
  refine cutOK_head (fun vs h hk => ?_)
  unfold machine_Machine_Take.k6 at hk
  split at hk
  · rename_i a1 a2
    intro todo hm ρ a w s f hp
    exact piece (E := machine_Machine_Take.E Q [(8, ([4, 8], machine_Machine_Take.k8 (fun a1 a2 h => machine_Machine_Take.j8  a1 a2 Q h)))]) (vs := [.ptr (some a1), .ptr a2]) (envOK seatOK machine_Machine_Take.callsOK noIfc_ok) (fnOK seatOK machine_Machine_Take.fun) ⟨(machine_Machine_Take.s8 Q  ), trivial⟩ machine_Machine_Take.p6 (fuel := 3000) (by rw [← machine_Machine_Take.e6]; exact hk) hm s f hp
  · exact hk.elim

theorem machine_Machine_Take.p2 : (posC machine_Machine_Take.code []).filter (fun p => Nat.beq p.1 2) = [(2, atPos (posC machine_Machine_Take.code []) 2)] := by kernel_rfl

theorem machine_Machine_Take.e2 : ∀  (a1 : Ptr) (a2 : Option Ptr) (a3 : Int) (Q : (List V) → Int → Heap → Prop) (h : Heap), machine_Machine_Take.j2  a1 a2 a3 Q h = pts (machine_Machine_Take.E Q [(5, ([4], machine_Machine_Take.k5 (fun a1 h => machine_Machine_Take.j5  a1 Q h))), (6, ([4, 6], machine_Machine_Take.k6 (fun a1 a2 h => machine_Machine_Take.j6  a1 a2 Q h)))]) 3000 true (atPos (posC machine_Machine_Take.code []) 2) (frAt [4, 6, 7] [.ptr (some a1), .ptr a2, .int .i64 a3]) h := by
  intros; kernel_rfl

theorem machine_Machine_Take.s2 {W0 : World} (Q : (List V) → Int → Heap → Prop)   : CutOK sg W0 43 (entered 5) (Post sg W0 (machine_Machine_Take.ret Q)) (posC machine_Machine_Take.code []) 2 [4, 6, 7] (machine_Machine_Take.k2 (fun a1 a2 a3 h => machine_Machine_Take.j2  a1 a2 a3 Q h)) := by
  refine cutOK_head (fun vs h hk => ?_)
  unfold machine_Machine_Take.k2 at hk
  split at hk
  · rename_i a1 a2 a3
    intro todo hm ρ a w s f hp
    exact piece (E := machine_Machine_Take.E Q [(5, ([4], machine_Machine_Take.k5 (fun a1 h => machine_Machine_Take.j5  a1 Q h))), (6, ([4, 6], machine_Machine_Take.k6 (fun a1 a2 h => machine_Machine_Take.j6  a1 a2 Q h)))]) (vs := [.ptr (some a1), .ptr a2, .int .i64 a3]) (envOK seatOK machine_Machine_Take.callsOK noIfc_ok) (fnOK seatOK machine_Machine_Take.fun) ⟨(machine_Machine_Take.s5 Q  ), (machine_Machine_Take.s6 Q  ), trivial⟩ machine_Machine_Take.p2 (fuel := 3000) (by rw [← machine_Machine_Take.e2]; exact hk) hm s f hp
  · exact hk.elim

theorem machine_Machine_Take.e : ∀ (a1 : Option Ptr) (a2 : Int) (Q : (List V) → Int → Heap → Prop) (h : Heap), machine_Machine_Take a1 a2 Q h = pts (machine_Machine_Take.E Q [(2, ([4, 6, 7], machine_Machine_Take.k2 (fun a1 a2 a3 h => machine_Machine_Take.j2  a1 a2 a3 Q h)))]) 3000 true [.code machine_Machine_Take.code] (frOf 0 [.ptr a1, .int .i64 a2]) h := by
  intros; kernel_rfl

theorem machine_Machine_Take.S {W0 : World} : FnS sg W0 137 machine_Machine_Take.C := by
  intro vs κ h wv hx w s
  unfold machine_Machine_Take.C at hx
  split at hx
  · rename_i a1 a2
    refine postImp (ret := machine_Machine_Take.ret (fun r1 r2 h => κ (.tup [.ago r1, .int .i64 r2]) h)) (fun v h hr => by unfold machine_Machine_Take.ret at hr; split at hr; exact hr; exact hr.elim) ?_
    exact calls_of_pts (E := machine_Machine_Take.E (fun r1 r2 h => κ (.tup [.ago r1, .int .i64 r2]) h) [(2, ([4, 6, 7], machine_Machine_Take.k2 (fun a1 a2 a3 h => machine_Machine_Take.j2  a1 a2 a3 (fun r1 r2 h => κ (.tup [.ago r1, .int .i64 r2]) h) h)))]) (envOK seatOK machine_Machine_Take.callsOK noIfc_ok) seatOK.mixed machine_Machine_Take.fun (Nat.le_of_ble_eq_true rfl) wv (cutL_ok ⟨(machine_Machine_Take.s2 (fun r1 r2 h => κ (.tup [.ago r1, .int .i64 r2]) h)), trivial⟩) s (fuel := 3000) (by rw [← machine_Machine_Take.e]; exact hx)
  · exact hx.elim

noncomputable def machine_Machine_Step.code : Code := Go.Proofs.Tryz.f6.body.getD .skip

theorem machine_Machine_Step.fun : Fun sg.P 6 53 [.cell 4 45, .tmp 5] machine_Machine_Step.code := mkFun Go.Proofs.Tryz.func6 (by kernel_rfl) (by kernel_rfl) (by kernel_rfl) (by kernel_rfl)

def machine_Machine_Step.ret (Q : Int → Int → Int → Int → Bool → Bool → Int → Heap → Prop) (v : V) (h : Heap) : Prop :=
  match v with
  | .tup [.agg [.int .i64 r1, .int .i64 r2, .int .u64 r3, .int .u64 r4, .bool r5, .bool r6], .int .i64 r7] => Q r1 r2 r3 r4 r5 r6 r7 h
  | _ => False

def machine_Machine_Step.C (vs : List V) (κ : V → Heap → Prop) (h : Heap) : Prop :=
  match vs with
  | [.ptr a1, .int .i64 a2] => machine_Machine_Step a1 a2 (fun r1 r2 r3 r4 r5 r6 r7 h => κ (.tup [.agg [.int .i64 r1, .int .i64 r2, .int .u64 r3, .int .u64 r4, .bool r5, .bool r6], .int .i64 r7]) h) h
  | _ => False

noncomputable def machine_Machine_Step.calls : List (Nat × (List V → (V → Heap → Prop) → Heap → Prop)) := [(135, machine_Machine_of.C)]

noncomputable def machine_Machine_Step.E (Q : Int → Int → Int → Int → Bool → Bool → Int → Heap → Prop) (cuts : List (Nat × (List Nat × (List V → Heap → Prop)))) : Env := { tis := tisT, fns := fnsT, tys := tysT, gls := [], rts := rtsT, unk := [], nxt := [], calls := machine_Machine_Step.calls, ifc := noIfc, cuts := cuts, ret := machine_Machine_Step.ret Q, rets := [.cell 4 45, .tmp 5], n := 53 }

theorem machine_Machine_Step.callsOK {W0 : World} : CallsOK sg W0 machine_Machine_Step.calls := ⟨machine_Machine_of.S, trivial⟩

def machine_Machine_Step.k5 (I : Ptr → Heap → Prop) (vs : List V) (h : Heap) : Prop :=
  match vs with
  | [.ptr (some a1)] => I a1 h
  | _ => False

def machine_Machine_Step.k6 (I : Ptr → (Option Ptr) → Heap → Prop) (vs : List V) (h : Heap) : Prop :=
  match vs with
  | [.ptr (some a1), .ptr a2] => I a1 a2 h
  | _ => False

def machine_Machine_Step.k2 (I : Ptr → (Option Ptr) → Int → Heap → Prop) (vs : List V) (h : Heap) : Prop :=
  match vs with
  | [.ptr (some a1), .ptr a2, .int .i64 a3] => I a1 a2 a3 h
  | _ => False

theorem machine_Machine_Step.p5 : (posC machine_Machine_Step.code []).filter (fun p => Nat.beq p.1 5) = [(5, atPos (posC machine_Machine_Step.code []) 5)] := by kernel_rfl

theorem machine_Machine_Step.e5 : ∀  (a1 : Ptr) (Q : Int → Int → Int → Int → Bool → Bool → Int → Heap → Prop) (h : Heap), machine_Machine_Step.j5  a1 Q h = pts (machine_Machine_Step.E Q []) 3000 true (atPos (posC machine_Machine_Step.code []) 5) (frAt [4] [.ptr (some a1)]) h := by
  intros; kernel_rfl

theorem machine_Machine_Step.s5 {W0 : World} (Q : Int → Int → Int → Int → Bool → Bool → Int → Heap → Prop)   : CutOK sg W0 53 (entered 6) (Post sg W0 (machine_Machine_Step.ret Q)) (posC machine_Machine_Step.code []) 5 [4] (machine_Machine_Step.k5 (fun a1 h => machine_Machine_Step.j5  a1 Q h)) := by
  refine cutOK_head (fun vs h hk => ?_)
  unfold machine_Machine_Step.k5 at hk
  split at hk
  · rename_i a1
    intro todo hm ρ a w s f hp
    exact piece (E := machine_Machine_Step.E Q []) (vs := [.ptr (some a1)]) (envOK seatOK machine_Machine_Step.callsOK noIfc_ok) (fnOK seatOK machine_Machine_Step.fun) trivial machine_Machine_Step.p5 (fuel := 3000) (by rw [← machine_Machine_Step.e5]; exact hk) hm s f hp
  · exact hk.elim

theorem machine_Machine_Step.p6 : (posC machine_Machine_Step.code []).filter (fun p => Nat.beq p.1 6) = [(6, atPos (posC machine_Machine_Step.code []) 6)] := by kernel_rfl

theorem machine_Machine_Step.e6 : ∀  (a1 : Ptr) (a2 : Option Ptr) (Q : Int → Int → Int → Int → Bool → Bool → Int → Heap → Prop) (h : Heap), machine_Machine_Step.j6  a1 a2 Q h = pts (machine_Machine_Step.E Q []) 3000 true (atPos (posC machine_Machine_Step.code []) 6) (frAt [4, 6] [.ptr (some a1), .ptr a2]) h := by
  intros; kernel_rfl

theorem machine_Machine_Step.s6 {W0 : World} (Q : Int → Int → Int → Int → Bool → Bool → Int → Heap → Prop)   : CutOK sg W0 53 (entered 6) (Post sg W0 (machine_Machine_Step.ret Q)) (posC machine_Machine_Step.code []) 6 [4, 6] (machine_Machine_Step.k6 (fun a1 a2 h => machine_Machine_Step.j6  a1 a2 Q h)) := by
  refine cutOK_head (fun vs h hk => ?_)
  unfold machine_Machine_Step.k6 at hk
  split at hk
  · rename_i a1 a2
    intro todo hm ρ a w s f hp
    exact piece (E := machine_Machine_Step.E Q []) (vs := [.ptr (some a1), .ptr a2]) (envOK seatOK machine_Machine_Step.callsOK noIfc_ok) (fnOK seatOK machine_Machine_Step.fun) trivial machine_Machine_Step.p6 (fuel := 3000) (by rw [← machine_Machine_Step.e6]; exact hk) hm s f hp
  · exact hk.elim

theorem machine_Machine_Step.p2 : (posC machine_Machine_Step.code []).filter (fun p => Nat.beq p.1 2) = [(2, atPos (posC machine_Machine_Step.code []) 2)] := by kernel_rfl

theorem machine_Machine_Step.e2 : ∀  (a1 : Ptr) (a2 : Option Ptr) (a3 : Int) (Q : Int → Int → Int → Int → Bool → Bool → Int → Heap → Prop) (h : Heap), machine_Machine_Step.j2  a1 a2 a3 Q h = pts (machine_Machine_Step.E Q [(5, ([4], machine_Machine_Step.k5 (fun a1 h => machine_Machine_Step.j5  a1 Q h))), (6, ([4, 6], machine_Machine_Step.k6 (fun a1 a2 h => machine_Machine_Step.j6  a1 a2 Q h)))]) 3000 true (atPos (posC machine_Machine_Step.code []) 2) (frAt [4, 6, 7] [.ptr (some a1), .ptr a2, .int .i64 a3]) h := by
  intros; kernel_rfl

theorem machine_Machine_Step.s2 {W0 : World} (Q : Int → Int → Int → Int → Bool → Bool → Int → Heap → Prop)   : CutOK sg W0 53 (entered 6) (Post sg W0 (machine_Machine_Step.ret Q)) (posC machine_Machine_Step.code []) 2 [4, 6, 7] (machine_Machine_Step.k2 (fun a1 a2 a3 h => machine_Machine_Step.j2  a1 a2 a3 Q h)) := by
  refine cutOK_head (fun vs h hk => ?_)
  unfold machine_Machine_Step.k2 at hk
  split at hk
  · rename_i a1 a2 a3
    intro todo hm ρ a w s f hp
    exact piece (E := machine_Machine_Step.E Q [(5, ([4], machine_Machine_Step.k5 (fun a1 h => machine_Machine_Step.j5  a1 Q h))), (6, ([4, 6], machine_Machine_Step.k6 (fun a1 a2 h => machine_Machine_Step.j6  a1 a2 Q h)))]) (vs := [.ptr (some a1), .ptr a2, .int .i64 a3]) (envOK seatOK machine_Machine_Step.callsOK noIfc_ok) (fnOK seatOK machine_Machine_Step.fun) ⟨(machine_Machine_Step.s5 Q  ), (machine_Machine_Step.s6 Q  ), trivial⟩ machine_Machine_Step.p2 (fuel := 3000) (by rw [← machine_Machine_Step.e2]; exact hk) hm s f hp
  · exact hk.elim

theorem machine_Machine_Step.e : ∀ (a1 : Option Ptr) (a2 : Int) (Q : Int → Int → Int → Int → Bool → Bool → Int → Heap → Prop) (h : Heap), machine_Machine_Step a1 a2 Q h = pts (machine_Machine_Step.E Q [(2, ([4, 6, 7], machine_Machine_Step.k2 (fun a1 a2 a3 h => machine_Machine_Step.j2  a1 a2 a3 Q h)))]) 3000 true [.code machine_Machine_Step.code] (frOf 0 [.ptr a1, .int .i64 a2]) h := by
  intros; kernel_rfl

theorem machine_Machine_Step.S {W0 : World} : FnS sg W0 138 machine_Machine_Step.C := by
  intro vs κ h wv hx w s
  unfold machine_Machine_Step.C at hx
  split at hx
  · rename_i a1 a2
    refine postImp (ret := machine_Machine_Step.ret (fun r1 r2 r3 r4 r5 r6 r7 h => κ (.tup [.agg [.int .i64 r1, .int .i64 r2, .int .u64 r3, .int .u64 r4, .bool r5, .bool r6], .int .i64 r7]) h)) (fun v h hr => by unfold machine_Machine_Step.ret at hr; split at hr; exact hr; exact hr.elim) ?_
    exact calls_of_pts (E := machine_Machine_Step.E (fun r1 r2 r3 r4 r5 r6 r7 h => κ (.tup [.agg [.int .i64 r1, .int .i64 r2, .int .u64 r3, .int .u64 r4, .bool r5, .bool r6], .int .i64 r7]) h) [(2, ([4, 6, 7], machine_Machine_Step.k2 (fun a1 a2 a3 h => machine_Machine_Step.j2  a1 a2 a3 (fun r1 r2 r3 r4 r5 r6 r7 h => κ (.tup [.agg [.int .i64 r1, .int .i64 r2, .int .u64 r3, .int .u64 r4, .bool r5, .bool r6], .int .i64 r7]) h) h)))]) (envOK seatOK machine_Machine_Step.callsOK noIfc_ok) seatOK.mixed machine_Machine_Step.fun (Nat.le_of_ble_eq_true rfl) wv (cutL_ok ⟨(machine_Machine_Step.s2 (fun r1 r2 r3 r4 r5 r6 r7 h => κ (.tup [.agg [.int .i64 r1, .int .i64 r2, .int .u64 r3, .int .u64 r4, .bool r5, .bool r6], .int .i64 r7]) h)), trivial⟩) s (fuel := 3000) (by rw [← machine_Machine_Step.e]; exact hx)
  · exact hx.elim

noncomputable def machine_Machine_Flush.code : Code := Go.Proofs.Tryz.f7.body.getD .skip

theorem machine_Machine_Flush.fun : Fun sg.P 7 22 [.tmp 6, .tmp 7] machine_Machine_Flush.code := mkFun Go.Proofs.Tryz.func7 (by kernel_rfl) (by kernel_rfl) (by kernel_rfl) (by kernel_rfl)

def machine_Machine_Flush.ret (Q : Int → Int → Heap → Prop) (v : V) (h : Heap) : Prop :=
  match v with
  | .tup [.int .i64 r1, .int .i64 r2] => Q r1 r2 h
  | _ => False

def machine_Machine_Flush.C (vs : List V) (κ : V → Heap → Prop) (h : Heap) : Prop :=
  match vs with
  | [.ptr a1, .int .i64 a2, .int .i64 a3] => machine_Machine_Flush a1 a2 a3 (fun r1 r2 h => κ (.tup [.int .i64 r1, .int .i64 r2]) h) h
  | _ => False

noncomputable def machine_Machine_Flush.calls : List (Nat × (List V → (V → Heap → Prop) → Heap → Prop)) := [(135, machine_Machine_of.C)]

noncomputable def machine_Machine_Flush.E (Q : Int → Int → Heap → Prop) (cuts : List (Nat × (List Nat × (List V → Heap → Prop)))) : Env := { tis := tisT, fns := fnsT, tys := tysT, gls := [], rts := rtsT, unk := [], nxt := [], calls := machine_Machine_Flush.calls, ifc := noIfc, cuts := cuts, ret := machine_Machine_Flush.ret Q, rets := [.tmp 6, .tmp 7], n := 22 }

theorem machine_Machine_Flush.callsOK {W0 : World} : CallsOK sg W0 machine_Machine_Flush.calls := ⟨machine_Machine_of.S, trivial⟩

def machine_Machine_Flush.k2 (I : Int → (Option Ptr) → Int → Heap → Prop) (vs : List V) (h : Heap) : Prop :=
  match vs with
  | [.int .i64 a1, .ptr a2, .int .i64 a3] => I a1 a2 a3 h
  | _ => False

theorem machine_Machine_Flush.p2 : (posC machine_Machine_Flush.code []).filter (fun p => Nat.beq p.1 2) = [(2, atPos (posC machine_Machine_Flush.code []) 2)] := by kernel_rfl

theorem machine_Machine_Flush.e2 : ∀  (a1 : Int) (a2 : Option Ptr) (a3 : Int) (Q : Int → Int → Heap → Prop) (h : Heap), machine_Machine_Flush.j2  a1 a2 a3 Q h = pts (machine_Machine_Flush.E Q []) 3000 true (atPos (posC machine_Machine_Flush.code []) 2) (frAt [2, 8, 9] [.int .i64 a1, .ptr a2, .int .i64 a3]) h := by
  intros; kernel_rfl

theorem machine_Machine_Flush.s2 {W0 : World} (Q : Int → Int → Heap → Prop)   : CutOK sg W0 22 (entered 7) (Post sg W0 (machine_Machine_Flush.ret Q)) (posC machine_Machine_Flush.code []) 2 [2, 8, 9] (machine_Machine_Flush.k2 (fun a1 a2 a3 h => machine_Machine_Flush.j2  a1 a2 a3 Q h)) := by
  refine cutOK_head (fun vs h hk => ?_)
  unfold machine_Machine_Flush.k2 at hk
  split at hk
  · rename_i a1 a2 a3
    intro todo hm ρ a w s f hp
    exact piece (E := machine_Machine_Flush.E Q []) (vs := [.int .i64 a1, .ptr a2, .int .i64 a3]) (envOK seatOK machine_Machine_Flush.callsOK noIfc_ok) (fnOK seatOK machine_Machine_Flush.fun) trivial machine_Machine_Flush.p2 (fuel := 3000) (by rw [← machine_Machine_Flush.e2]; exact hk) hm s f hp
  · exact hk.elim

theorem machine_Machine_Flush.e : ∀ (a1 : Option Ptr) (a2 : Int) (a3 : Int) (Q : Int → Int → Heap → Prop) (h : Heap), machine_Machine_Flush a1 a2 a3 Q h = pts (machine_Machine_Flush.E Q [(2, ([2, 8, 9], machine_Machine_Flush.k2 (fun a1 a2 a3 h => machine_Machine_Flush.j2  a1 a2 a3 Q h)))]) 3000 true [.code machine_Machine_Flush.code] (frOf 0 [.ptr a1, .int .i64 a2, .int .i64 a3]) h := by
  intros; kernel_rfl

theorem machine_Machine_Flush.S {W0 : World} : FnS sg W0 139 machine_Machine_Flush.C := by
  intro vs κ h wv hx w s
  unfold machine_Machine_Flush.C at hx
  split at hx
  · rename_i a1 a2 a3
    refine postImp (ret := machine_Machine_Flush.ret (fun r1 r2 h => κ (.tup [.int .i64 r1, .int .i64 r2]) h)) (fun v h hr => by unfold machine_Machine_Flush.ret at hr; split at hr; exact hr; exact hr.elim) ?_
    exact calls_of_pts (E := machine_Machine_Flush.E (fun r1 r2 h => κ (.tup [.int .i64 r1, .int .i64 r2]) h) [(2, ([2, 8, 9], machine_Machine_Flush.k2 (fun a1 a2 a3 h => machine_Machine_Flush.j2  a1 a2 a3 (fun r1 r2 h => κ (.tup [.int .i64 r1, .int .i64 r2]) h) h)))]) (envOK seatOK machine_Machine_Flush.callsOK noIfc_ok) seatOK.mixed machine_Machine_Flush.fun (Nat.le_of_ble_eq_true rfl) wv (cutL_ok ⟨(machine_Machine_Flush.s2 (fun r1 r2 h => κ (.tup [.int .i64 r1, .int .i64 r2]) h)), trivial⟩) s (fuel := 3000) (by rw [← machine_Machine_Flush.e]; exact hx)
  · exact hx.elim

noncomputable def machine_Machine_Memory.code : Code := Go.Proofs.Tryz.f9.body.getD .skip

theorem machine_Machine_Memory.fun : Fun sg.P 9 9 [.tmp 2] machine_Machine_Memory.code := mkFun Go.Proofs.Tryz.func9 (by kernel_rfl) (by kernel_rfl) (by kernel_rfl) (by kernel_rfl)

def machine_Machine_Memory.ret (Q : (Option Ptr) → Heap → Prop) (v : V) (h : Heap) : Prop :=
  match v with
  | .ptr r1 => Q r1 h
  | _ => False

def machine_Machine_Memory.C (vs : List V) (κ : V → Heap → Prop) (h : Heap) : Prop :=
  match vs with
  | [.ptr a1] => machine_Machine_Memory a1 (fun r1 h => κ (.ptr r1) h) h
  | _ => False

noncomputable def machine_Machine_Memory.calls : List (Nat × (List V → (V → Heap → Prop) → Heap → Prop)) := []

noncomputable def machine_Machine_Memory.E (Q : (Option Ptr) → Heap → Prop) (cuts : List (Nat × (List Nat × (List V → Heap → Prop)))) : Env := { tis := tisT, fns := fnsT, tys := tysT, gls := [], rts := rtsT, unk := [], nxt := [], calls := machine_Machine_Memory.calls, ifc := noIfc, cuts := cuts, ret := machine_Machine_Memory.ret Q, rets := [.tmp 2], n := 9 }

theorem machine_Machine_Memory.callsOK {W0 : World} : CallsOK sg W0 machine_Machine_Memory.calls := trivial

theorem machine_Machine_Memory.e : ∀ (a1 : Option Ptr) (Q : (Option Ptr) → Heap → Prop) (h : Heap), machine_Machine_Memory a1 Q h = pts (machine_Machine_Memory.E Q []) 3000 true [.code machine_Machine_Memory.code] (frOf 0 [.ptr a1]) h := by
  intros; kernel_rfl

theorem machine_Machine_Memory.S {W0 : World} : FnS sg W0 140 machine_Machine_Memory.C := by
  intro vs κ h wv hx w s
  unfold machine_Machine_Memory.C at hx
  split at hx
  · rename_i a1
    refine postImp (ret := machine_Machine_Memory.ret (fun r1 h => κ (.ptr r1) h)) (fun v h hr => by unfold machine_Machine_Memory.ret at hr; split at hr; exact hr; exact hr.elim) ?_
    exact calls_of_pts (E := machine_Machine_Memory.E (fun r1 h => κ (.ptr r1) h) []) (envOK seatOK machine_Machine_Memory.callsOK noIfc_ok) seatOK.mixed machine_Machine_Memory.fun (Nat.le_of_ble_eq_true rfl) wv (cutL_ok trivial) s (fuel := 3000) (by rw [← machine_Machine_Memory.e]; exact hx)
  · exact hx.elim

noncomputable def csr_New.code : Code := Go.Proofs.Tryz.f11.body.getD .skip

theorem csr_New.fun : Fun sg.P 11 13 [.tmp 2] csr_New.code := mkFun Go.Proofs.Tryz.func11 (by kernel_rfl) (by kernel_rfl) (by kernel_rfl) (by kernel_rfl)

def csr_New.ret (Q : (Option Ptr) → Heap → Prop) (v : V) (h : Heap) : Prop :=
  match v with
  | .ptr r1 => Q r1 h
  | _ => False

def csr_New.C (vs : List V) (κ : V → Heap → Prop) (h : Heap) : Prop :=
  match vs with
  | [.int .i64 a1] => csr_New a1 (fun r1 h => κ (.ptr r1) h) h
  | _ => False

noncomputable def csr_New.calls : List (Nat × (List V → (V → Heap → Prop) → Heap → Prop)) := []

noncomputable def csr_New.E (Q : (Option Ptr) → Heap → Prop) (cuts : List (Nat × (List Nat × (List V → Heap → Prop)))) : Env := { tis := tisT, fns := fnsT, tys := tysT, gls := [], rts := rtsT, unk := [], nxt := [], calls := csr_New.calls, ifc := noIfc, cuts := cuts, ret := csr_New.ret Q, rets := [.tmp 2], n := 13 }

theorem csr_New.callsOK {W0 : World} : CallsOK sg W0 csr_New.calls := trivial

def csr_New.k3 (I : Ptr → Heap → Prop) (vs : List V) (h : Heap) : Prop :=
  match vs with
  | [.ptr (some a1)] => I a1 h
  | _ => False

theorem csr_New.p3 : (posC csr_New.code []).filter (fun p => Nat.beq p.1 3) = [(3, atPos (posC csr_New.code []) 3)] := by kernel_rfl

theorem csr_New.e3 : ∀  (a1 : Ptr) (Q : (Option Ptr) → Heap → Prop) (h : Heap), csr_New.j3  a1 Q h = pts (csr_New.E Q []) 3000 true (atPos (posC csr_New.code []) 3) (frAt [3] [.ptr (some a1)]) h := by
  intros; kernel_rfl

theorem csr_New.s3 {W0 : World} (Q : (Option Ptr) → Heap → Prop)   : CutOK sg W0 13 (entered 11) (Post sg W0 (csr_New.ret Q)) (posC csr_New.code []) 3 [3] (csr_New.k3 (fun a1 h => csr_New.j3  a1 Q h)) := by
  refine cutOK_head (fun vs h hk => ?_)
  unfold csr_New.k3 at hk
  split at hk
  · rename_i a1
    intro todo hm ρ a w s f hp
    exact piece (E := csr_New.E Q []) (vs := [.ptr (some a1)]) (envOK seatOK csr_New.callsOK noIfc_ok) (fnOK seatOK csr_New.fun) trivial csr_New.p3 (fuel := 3000) (by rw [← csr_New.e3]; exact hk) hm s f hp
  · exact hk.elim

theorem csr_New.e : ∀ (a1 : Int) (Q : (Option Ptr) → Heap → Prop) (h : Heap), csr_New a1 Q h = pts (csr_New.E Q [(3, ([3], csr_New.k3 (fun a1 h => csr_New.j3  a1 Q h)))]) 3000 true [.code csr_New.code] (frOf 0 [.int .i64 a1]) h := by
  intros; kernel_rfl

theorem csr_New.S {W0 : World} : FnS sg W0 141 csr_New.C := by
  intro vs κ h wv hx w s
  unfold csr_New.C at hx
  split at hx
  · rename_i a1
    refine postImp (ret := csr_New.ret (fun r1 h => κ (.ptr r1) h)) (fun v h hr => by unfold csr_New.ret at hr; split at hr; exact hr; exact hr.elim) ?_
    exact calls_of_pts (E := csr_New.E (fun r1 h => κ (.ptr r1) h) [(3, ([3], csr_New.k3 (fun a1 h => csr_New.j3  a1 (fun r1 h => κ (.ptr r1) h) h)))]) (envOK seatOK csr_New.callsOK noIfc_ok) seatOK.mixed csr_New.fun (Nat.le_of_ble_eq_true rfl) wv (cutL_ok ⟨(csr_New.s3 (fun r1 h => κ (.ptr r1) h)), trivial⟩) s (fuel := 3000) (by rw [← csr_New.e]; exact hx)
  · exact hx.elim

noncomputable def machine_Machine_Put.code : Code := Go.Proofs.Tryz.f10.body.getD .skip

theorem machine_Machine_Put.fun : Fun sg.P 10 60 [.tmp 6] machine_Machine_Put.code := mkFun Go.Proofs.Tryz.func10 (by kernel_rfl) (by kernel_rfl) (by kernel_rfl) (by kernel_rfl)

def machine_Machine_Put.ret (Q : Int → Heap → Prop) (v : V) (h : Heap) : Prop :=
  match v with
  | .int .i64 r1 => Q r1 h
  | _ => False

def machine_Machine_Put.C (vs : List V) (κ : V → Heap → Prop) (h : Heap) : Prop :=
  match vs with
  | [.ptr a1, .int .i64 a2, .ago a3] => machine_Machine_Put a1 a2 a3 (fun r1 h => κ (.int .i64 r1) h) h
  | _ => False

noncomputable def machine_Machine_Put.calls : List (Nat × (List V → (V → Heap → Prop) → Heap → Prop)) := [(135, machine_Machine_of.C)]

noncomputable def machine_Machine_Put.E (Q : Int → Heap → Prop) (cuts : List (Nat × (List Nat × (List V → Heap → Prop)))) : Env := { tis := tisT, fns := fnsT, tys := tysT, gls := [], rts := rtsT, unk := [], nxt := [], calls := machine_Machine_Put.calls, ifc := noIfc, cuts := cuts, ret := machine_Machine_Put.ret Q, rets := [.tmp 6], n := 60 }

theorem machine_Machine_Put.callsOK {W0 : World} : CallsOK sg W0 machine_Machine_Put.calls := ⟨machine_Machine_of.S, trivial⟩

def machine_Machine_Put.k2 (I : (Option Ptr) → Ptr → (Option Ptr) → Int → Heap → Prop) (vs : List V) (h : Heap) : Prop :=
  match vs with
  | [.ptr a1, .ptr (some a2), .ptr a3, .int .i64 a4] => I a1 a2 a3 a4 h
  | _ => False

theorem machine_Machine_Put.p2 : (posC machine_Machine_Put.code []).filter (fun p => Nat.beq p.1 2) = [(2, atPos (posC machine_Machine_Put.code []) 2)] := by kernel_rfl

theorem machine_Machine_Put.e2 : ∀  (a1 : Option Ptr) (a2 : Ptr) (a3 : Option Ptr) (a4 : Int) (Q : Int → Heap → Prop) (h : Heap), machine_Machine_Put.j2  a1 a2 a3 a4 Q h = pts (machine_Machine_Put.E Q []) 3000 true (atPos (posC machine_Machine_Put.code []) 2) (frAt [0, 5, 7, 8] [.ptr a1, .ptr (some a2), .ptr a3, .int .i64 a4]) h := by
  intros; kernel_rfl

theorem machine_Machine_Put.s2 {W0 : World} (Q : Int → Heap → Prop)   : CutOK sg W0 60 (entered 10) (Post sg W0 (machine_Machine_Put.ret Q)) (posC machine_Machine_Put.code []) 2 [0, 5, 7, 8] (machine_Machine_Put.k2 (fun a1 a2 a3 a4 h => machine_Machine_Put.j2  a1 a2 a3 a4 Q h)) := by
  refine cutOK_head (fun vs h hk => ?_)
  unfold machine_Machine_Put.k2 at hk
  split at hk
  · rename_i a1 a2 a3 a4
    intro todo hm ρ a w s f hp
    exact piece (E := machine_Machine_Put.E Q []) (vs := [.ptr a1, .ptr (some a2), .ptr a3, .int .i64 a4]) (envOK seatOK machine_Machine_Put.callsOK noIfc_ok) (fnOK seatOK machine_Machine_Put.fun) trivial machine_Machine_Put.p2 (fuel := 3000) (by rw [← machine_Machine_Put.e2]; exact hk) hm s f hp
  · exact hk.elim

theorem machine_Machine_Put.e : ∀ (a1 : Option Ptr) (a2 : Int) (a3 : List V) (Q : Int → Heap → Prop) (h : Heap), machine_Machine_Put a1 a2 a3 Q h = pts (machine_Machine_Put.E Q [(2, ([0, 5, 7, 8], machine_Machine_Put.k2 (fun a1 a2 a3 a4 h => machine_Machine_Put.j2  a1 a2 a3 a4 Q h)))]) 3000 true [.code machine_Machine_Put.code] (frOf 0 [.ptr a1, .int .i64 a2, .ago a3]) h := by
  intros; kernel_rfl

theorem machine_Machine_Put.S {W0 : World} : FnS sg W0 142 machine_Machine_Put.C := by
  intro vs κ h wv hx w s
  unfold machine_Machine_Put.C at hx
  split at hx
  · rename_i a1 a2 a3
    refine postImp (ret := machine_Machine_Put.ret (fun r1 h => κ (.int .i64 r1) h)) (fun v h hr => by unfold machine_Machine_Put.ret at hr; split at hr; exact hr; exact hr.elim) ?_
    exact calls_of_pts (E := machine_Machine_Put.E (fun r1 h => κ (.int .i64 r1) h) [(2, ([0, 5, 7, 8], machine_Machine_Put.k2 (fun a1 a2 a3 a4 h => machine_Machine_Put.j2  a1 a2 a3 a4 (fun r1 h => κ (.int .i64 r1) h) h)))]) (envOK seatOK machine_Machine_Put.callsOK noIfc_ok) seatOK.mixed machine_Machine_Put.fun (Nat.le_of_ble_eq_true rfl) wv (cutL_ok ⟨(machine_Machine_Put.s2 (fun r1 h => κ (.int .i64 r1) h)), trivial⟩) s (fuel := 3000) (by rw [← machine_Machine_Put.e]; exact hx)
  · exact hx.elim

noncomputable def machine_Machine_Kept.code : Code := Go.Proofs.Tryz.f12.body.getD .skip

theorem machine_Machine_Kept.fun : Fun sg.P 12 54 [.tmp 6] machine_Machine_Kept.code := mkFun Go.Proofs.Tryz.func12 (by kernel_rfl) (by kernel_rfl) (by kernel_rfl) (by kernel_rfl)

def machine_Machine_Kept.ret (Q : Sl → Heap → Prop) (v : V) (h : Heap) : Prop :=
  match v with
  | .sl r1 => Q r1 h
  | _ => False

def machine_Machine_Kept.C (vs : List V) (κ : V → Heap → Prop) (h : Heap) : Prop :=
  match vs with
  | [.ptr a1, .int .i64 a2, .int .i64 a3] => machine_Machine_Kept a1 a2 a3 (fun r1 h => κ (.sl r1) h) h
  | _ => False

noncomputable def machine_Machine_Kept.calls : List (Nat × (List V → (V → Heap → Prop) → Heap → Prop)) := [(135, machine_Machine_of.C)]

noncomputable def machine_Machine_Kept.E (Q : Sl → Heap → Prop) (cuts : List (Nat × (List Nat × (List V → Heap → Prop)))) : Env := { tis := tisT, fns := fnsT, tys := tysT, gls := [], rts := rtsT, unk := [], nxt := [], calls := machine_Machine_Kept.calls, ifc := noIfc, cuts := cuts, ret := machine_Machine_Kept.ret Q, rets := [.tmp 6], n := 54 }

theorem machine_Machine_Kept.callsOK {W0 : World} : CallsOK sg W0 machine_Machine_Kept.calls := ⟨machine_Machine_of.S, trivial⟩

def machine_Machine_Kept.k6 (I : Int → (Option Ptr) → Sl → Sl → Int → Int → Heap → Prop) (vs : List V) (h : Heap) : Prop :=
  match vs with
  | [.int .i64 a1, .ptr a2, .sl a3, .sl a4, .int .i64 a5, .int .i64 a6] => I a1 a2 a3 a4 a5 a6 h
  | _ => False

def machine_Machine_Kept.k2 (I : Int → (Option Ptr) → Int → Heap → Prop) (vs : List V) (h : Heap) : Prop :=
  match vs with
  | [.int .i64 a1, .ptr a2, .int .i64 a3] => I a1 a2 a3 h
  | _ => False

theorem machine_Machine_Kept.p6 : (posC machine_Machine_Kept.code []).filter (fun p => Nat.beq p.1 6) = [(6, atPos (posC machine_Machine_Kept.code []) 6)] := by kernel_rfl

theorem machine_Machine_Kept.e6 : ∀  (I6 : Int → (Option Ptr) → Sl → Sl → Int → Int → Heap → Prop) (a1 : Int) (a2 : Option Ptr) (a3 : Sl) (a4 : Sl) (a5 : Int) (a6 : Int) (Q : Sl → Heap → Prop) (h : Heap), machine_Machine_Kept.b6  I6 a1 a2 a3 a4 a5 a6 Q h = pts (machine_Machine_Kept.E Q []) 3000 true (atPos (posC machine_Machine_Kept.code []) 6) (frAt [2, 7, 9, 27, 28, 29] [.int .i64 a1, .ptr a2, .sl a3, .sl a4, .int .i64 a5, .int .i64 a6]) h := by
  intros; kernel_rfl

theorem machine_Machine_Kept.s6 {W0 : World} (Q : Sl → Heap → Prop)   : CutOK sg W0 54 (entered 12) (Post sg W0 (machine_Machine_Kept.ret Q)) (posC machine_Machine_Kept.code []) 6 [2, 7, 9, 27, 28, 29] (machine_Machine_Kept.k6 (fun a1 a2 a3 a4 a5 a6 h => machine_Machine_Kept.j6  a1 a2 a3 a4 a5 a6 Q h)) := by
  refine cutOK_head (fun vs h hk => ?_)
  unfold machine_Machine_Kept.k6 at hk
  split at hk
  · rename_i a1 a2 a3 a4 a5 a6
    refine hk (fun a1 a2 a3 a4 a5 a6 h => Head sg W0 54 (entered 12) (Post sg W0 (machine_Machine_Kept.ret Q)) (posC machine_Machine_Kept.code []) 6 [2, 7, 9, 27, 28, 29] [.int .i64 a1, .ptr a2, .sl a3, .sl a4, .int .i64 a5, .int .i64 a6] h) ?_
    intro a1 a2 a3 a4 a5 a6 h hb todo hm ρ a w s f hp
    have hself : CutOK sg W0 54 (entered 12) (Post sg W0 (machine_Machine_Kept.ret Q)) (posC machine_Machine_Kept.code []) 6 [2, 7, 9, 27, 28, 29] (machine_Machine_Kept.k6 (fun a1 a2 a3 a4 a5 a6 h => Head sg W0 54 (entered 12) (Post sg W0 (machine_Machine_Kept.ret Q)) (posC machine_Machine_Kept.code []) 6 [2, 7, 9, 27, 28, 29] [.int .i64 a1, .ptr a2, .sl a3, .sl a4, .int .i64 a5, .int .i64 a6] h)) := cutOK_head (fun vs h hk => by unfold machine_Machine_Kept.k6 at hk; split at hk; exact hk; exact hk.elim)
    exact piece (E := machine_Machine_Kept.E Q []) (vs := [.int .i64 a1, .ptr a2, .sl a3, .sl a4, .int .i64 a5, .int .i64 a6]) (envOK seatOK machine_Machine_Kept.callsOK noIfc_ok) (fnOK seatOK machine_Machine_Kept.fun) trivial machine_Machine_Kept.p6 (fuel := 3000) (by rw [← machine_Machine_Kept.e6]; exact hb) hm s f hp
  · exact hk.elim

theorem machine_Machine_Kept.p2 : (posC machine_Machine_Kept.code []).filter (fun p => Nat.beq p.1 2) = [(2, atPos (posC machine_Machine_Kept.code []) 2)] := by kernel_rfl

theorem machine_Machine_Kept.e2 : ∀  (a1 : Int) (a2 : Option Ptr) (a3 : Int) (Q : Sl → Heap → Prop) (h : Heap), machine_Machine_Kept.j2  a1 a2 a3 Q h = pts (machine_Machine_Kept.E Q [(6, ([2, 7, 9, 27, 28, 29], machine_Machine_Kept.k6 (fun a1 a2 a3 a4 a5 a6 h => machine_Machine_Kept.j6  a1 a2 a3 a4 a5 a6 Q h)))]) 3000 true (atPos (posC machine_Machine_Kept.code []) 2) (frAt [2, 7, 8] [.int .i64 a1, .ptr a2, .int .i64 a3]) h := by
  intros; kernel_rfl

theorem machine_Machine_Kept.s2 {W0 : World} (Q : Sl → Heap → Prop)   : CutOK sg W0 54 (entered 12) (Post sg W0 (machine_Machine_Kept.ret Q)) (posC machine_Machine_Kept.code []) 2 [2, 7, 8] (machine_Machine_Kept.k2 (fun a1 a2 a3 h => machine_Machine_Kept.j2  a1 a2 a3 Q h)) := by
  refine cutOK_head (fun vs h hk => ?_)
  unfold machine_Machine_Kept.k2 at hk
  split at hk
  · rename_i a1 a2 a3
    intro todo hm ρ a w s f hp
    exact piece (E := machine_Machine_Kept.E Q [(6, ([2, 7, 9, 27, 28, 29], machine_Machine_Kept.k6 (fun a1 a2 a3 a4 a5 a6 h => machine_Machine_Kept.j6  a1 a2 a3 a4 a5 a6 Q h)))]) (vs := [.int .i64 a1, .ptr a2, .int .i64 a3]) (envOK seatOK machine_Machine_Kept.callsOK noIfc_ok) (fnOK seatOK machine_Machine_Kept.fun) ⟨(machine_Machine_Kept.s6 Q  ), trivial⟩ machine_Machine_Kept.p2 (fuel := 3000) (by rw [← machine_Machine_Kept.e2]; exact hk) hm s f hp
  · exact hk.elim

theorem machine_Machine_Kept.e : ∀ (a1 : Option Ptr) (a2 : Int) (a3 : Int) (Q : Sl → Heap → Prop) (h : Heap), machine_Machine_Kept a1 a2 a3 Q h = pts (machine_Machine_Kept.E Q [(2, ([2, 7, 8], machine_Machine_Kept.k2 (fun a1 a2 a3 h => machine_Machine_Kept.j2  a1 a2 a3 Q h)))]) 3000 true [.code machine_Machine_Kept.code] (frOf 0 [.ptr a1, .int .i64 a2, .int .i64 a3]) h := by
  intros; kernel_rfl

theorem machine_Machine_Kept.S {W0 : World} : FnS sg W0 143 machine_Machine_Kept.C := by
  intro vs κ h wv hx w s
  unfold machine_Machine_Kept.C at hx
  split at hx
  · rename_i a1 a2 a3
    refine postImp (ret := machine_Machine_Kept.ret (fun r1 h => κ (.sl r1) h)) (fun v h hr => by unfold machine_Machine_Kept.ret at hr; split at hr; exact hr; exact hr.elim) ?_
    exact calls_of_pts (E := machine_Machine_Kept.E (fun r1 h => κ (.sl r1) h) [(2, ([2, 7, 8], machine_Machine_Kept.k2 (fun a1 a2 a3 h => machine_Machine_Kept.j2  a1 a2 a3 (fun r1 h => κ (.sl r1) h) h)))]) (envOK seatOK machine_Machine_Kept.callsOK noIfc_ok) seatOK.mixed machine_Machine_Kept.fun (Nat.le_of_ble_eq_true rfl) wv (cutL_ok ⟨(machine_Machine_Kept.s2 (fun r1 h => κ (.sl r1) h)), trivial⟩) s (fuel := 3000) (by rw [← machine_Machine_Kept.e]; exact hx)
  · exact hx.elim

noncomputable def palisadelaw11_MachineNobody.code : Code := Go.Proofs.Tryz.f3.body.getD .skip

theorem palisadelaw11_MachineNobody.fun : Fun sg.P 3 113 [.tmp 2] palisadelaw11_MachineNobody.code := mkFun Go.Proofs.Tryz.func3 (by kernel_rfl) (by kernel_rfl) (by kernel_rfl) (by kernel_rfl)

def palisadelaw11_MachineNobody.ret (Q : Bool → Heap → Prop) (v : V) (h : Heap) : Prop :=
  match v with
  | .bool r1 => Q r1 h
  | _ => False

def palisadelaw11_MachineNobody.C (vs : List V) (κ : V → Heap → Prop) (h : Heap) : Prop :=
  match vs with
  | [.agg [.int .i64 a1, .int .i64 a2, .int .i64 a3, .int .u64 a4, .int .u64 a5]] => palisadelaw11_MachineNobody a1 a2 a3 a4 a5 (fun r1 h => κ (.bool r1) h) h
  | _ => False

noncomputable def palisadelaw11_MachineNobody.calls : List (Nat × (List V → (V → Heap → Prop) → Heap → Prop)) := [(136, machine_Machine_Get.C), (137, machine_Machine_Take.C), (138, machine_Machine_Step.C), (139, machine_Machine_Flush.C), (134, machine_Machine_Cores.C), (140, machine_Machine_Memory.C), (142, machine_Machine_Put.C), (141, csr_New.C), (143, machine_Machine_Kept.C)]

noncomputable def palisadelaw11_MachineNobody.E (Q : Bool → Heap → Prop) (cuts : List (Nat × (List Nat × (List V → Heap → Prop)))) : Env := { tis := tisT, fns := fnsT, tys := tysT, gls := [], rts := rtsT, unk := [], nxt := [], calls := palisadelaw11_MachineNobody.calls, ifc := noIfc, cuts := cuts, ret := palisadelaw11_MachineNobody.ret Q, rets := [.tmp 2], n := 113 }

theorem palisadelaw11_MachineNobody.callsOK {W0 : World} : CallsOK sg W0 palisadelaw11_MachineNobody.calls := ⟨machine_Machine_Get.S, machine_Machine_Take.S, machine_Machine_Step.S, machine_Machine_Flush.S, machine_Machine_Cores.S, machine_Machine_Memory.S, machine_Machine_Put.S, csr_New.S, machine_Machine_Kept.S, trivial⟩

def palisadelaw11_MachineNobody.k9 (I : Heap → Prop) (vs : List V) (h : Heap) : Prop :=
  match vs with
  | [] => I  h
  | _ => False

def palisadelaw11_MachineNobody.k10 (I : Ptr → Sl → Int → Int → Heap → Prop) (vs : List V) (h : Heap) : Prop :=
  match vs with
  | [.ptr (some a1), .sl a2, .int .i64 a3, .int .i64 a4] => I a1 a2 a3 a4 h
  | _ => False

def palisadelaw11_MachineNobody.k8 (I : Ptr → (Option Ptr) → Ptr → Bool → Ptr → Int → Ptr → Int → Int → Int → Sl → Int → Int → Heap → Prop) (vs : List V) (h : Heap) : Prop :=
  match vs with
  | [.ptr (some a1), .ptr a2, .ptr (some a3), .bool a4, .ptr (some a5), .int .i64 a6, .ptr (some a7), .int .i64 a8, .int .i64 a9, .int .i64 a10, .sl a11, .int .i64 a12, .int .i64 a13] => I a1 a2 a3 a4 a5 a6 a7 a8 a9 a10 a11 a12 a13 h
  | _ => False

def palisadelaw11_MachineNobody.k7 (I : Ptr → (Option Ptr) → Ptr → Bool → Ptr → Int → Ptr → Int → Sl → Int → Int → Heap → Prop) (vs : List V) (h : Heap) : Prop :=
  match vs with
  | [.ptr (some a1), .ptr a2, .ptr (some a3), .bool a4, .ptr (some a5), .int .i64 a6, .ptr (some a7), .int .i64 a8, .sl a9, .int .i64 a10, .int .i64 a11] => I a1 a2 a3 a4 a5 a6 a7 a8 a9 a10 a11 h
  | _ => False

def palisadelaw11_MachineNobody.k6 (I : Ptr → (Option Ptr) → Ptr → Bool → Ptr → Int → Sl → Int → Int → Heap → Prop) (vs : List V) (h : Heap) : Prop :=
  match vs with
  | [.ptr (some a1), .ptr a2, .ptr (some a3), .bool a4, .ptr (some a5), .int .i64 a6, .sl a7, .int .i64 a8, .int .i64 a9] => I a1 a2 a3 a4 a5 a6 a7 a8 a9 h
  | _ => False

def palisadelaw11_MachineNobody.k5 (I : Ptr → (Option Ptr) → Ptr → Bool → Sl → Int → Int → Heap → Prop) (vs : List V) (h : Heap) : Prop :=
  match vs with
  | [.ptr (some a1), .ptr a2, .ptr (some a3), .bool a4, .sl a5, .int .i64 a6, .int .i64 a7] => I a1 a2 a3 a4 a5 a6 a7 h
  | _ => False

def palisadelaw11_MachineNobody.k2 (I : Ptr → Sl → Int → Int → Heap → Prop) (vs : List V) (h : Heap) : Prop :=
  match vs with
  | [.ptr (some a1), .sl a2, .int .i64 a3, .int .i64 a4] => I a1 a2 a3 a4 h
  | _ => False

theorem palisadelaw11_MachineNobody.p9 : (posC palisadelaw11_MachineNobody.code []).filter (fun p => Nat.beq p.1 9) = [(9, atPos (posC palisadelaw11_MachineNobody.code []) 9)] := by kernel_rfl

theorem palisadelaw11_MachineNobody.e9 : ∀ (I2 : Ptr → Sl → Int → Int → Heap → Prop)  (Q : Bool → Heap → Prop) (h : Heap), palisadelaw11_MachineNobody.j9 I2  Q h = pts (palisadelaw11_MachineNobody.E Q []) 3000 true (atPos (posC palisadelaw11_MachineNobody.code []) 9) (frAt [] []) h := by
  intros; kernel_rfl

theorem palisadelaw11_MachineNobody.s9 {W0 : World} (Q : Bool → Heap → Prop) (I2 : Ptr → Sl → Int → Int → Heap → Prop) (h2 : CutOK sg W0 113 (entered 3) (Post sg W0 (palisadelaw11_MachineNobody.ret Q)) (posC palisadelaw11_MachineNobody.code []) 2 [1, 15, 16, 17] (palisadelaw11_MachineNobody.k2 I2)) : CutOK sg W0 113 (entered 3) (Post sg W0 (palisadelaw11_MachineNobody.ret Q)) (posC palisadelaw11_MachineNobody.code []) 9 [] (palisadelaw11_MachineNobody.k9 (fun  h => palisadelaw11_MachineNobody.j9 I2  Q h)) := by
  refine cutOK_head (fun vs h hk => ?_)
  unfold palisadelaw11_MachineNobody.k9 at hk
  split at hk
  · skip
    intro todo hm ρ a w s f hp
    exact piece (E := palisadelaw11_MachineNobody.E Q []) (vs := []) (envOK seatOK palisadelaw11_MachineNobody.callsOK noIfc_ok) (fnOK seatOK palisadelaw11_MachineNobody.fun) trivial palisadelaw11_MachineNobody.p9 (fuel := 3000) (by rw [← palisadelaw11_MachineNobody.e9]; exact hk) hm s f hp
  · exact hk.elim

theorem palisadelaw11_MachineNobody.p10 : (posC palisadelaw11_MachineNobody.code []).filter (fun p => Nat.beq p.1 10) = [(10, atPos (posC palisadelaw11_MachineNobody.code []) 10)] := by kernel_rfl

theorem palisadelaw11_MachineNobody.e10 : ∀ (I2 : Ptr → Sl → Int → Int → Heap → Prop) (a1 : Ptr) (a2 : Sl) (a3 : Int) (a4 : Int) (Q : Bool → Heap → Prop) (h : Heap), palisadelaw11_MachineNobody.j10 I2 a1 a2 a3 a4 Q h = pts (palisadelaw11_MachineNobody.E Q [(2, ([1, 15, 16, 17], palisadelaw11_MachineNobody.k2 I2))]) 3000 true (atPos (posC palisadelaw11_MachineNobody.code []) 10) (frAt [1, 15, 16, 17] [.ptr (some a1), .sl a2, .int .i64 a3, .int .i64 a4]) h := by
  intros; kernel_rfl

theorem palisadelaw11_MachineNobody.s10 {W0 : World} (Q : Bool → Heap → Prop) (I2 : Ptr → Sl → Int → Int → Heap → Prop) (h2 : CutOK sg W0 113 (entered 3) (Post sg W0 (palisadelaw11_MachineNobody.ret Q)) (posC palisadelaw11_MachineNobody.code []) 2 [1, 15, 16, 17] (palisadelaw11_MachineNobody.k2 I2)) : CutOK sg W0 113 (entered 3) (Post sg W0 (palisadelaw11_MachineNobody.ret Q)) (posC palisadelaw11_MachineNobody.code []) 10 [1, 15, 16, 17] (palisadelaw11_MachineNobody.k10 (fun a1 a2 a3 a4 h => palisadelaw11_MachineNobody.j10 I2 a1 a2 a3 a4 Q h)) := by
  refine cutOK_head (fun vs h hk => ?_)
  unfold palisadelaw11_MachineNobody.k10 at hk
  split at hk
  · rename_i a1 a2 a3 a4
    intro todo hm ρ a w s f hp
    exact piece (E := palisadelaw11_MachineNobody.E Q [(2, ([1, 15, 16, 17], palisadelaw11_MachineNobody.k2 I2))]) (vs := [.ptr (some a1), .sl a2, .int .i64 a3, .int .i64 a4]) (envOK seatOK palisadelaw11_MachineNobody.callsOK noIfc_ok) (fnOK seatOK palisadelaw11_MachineNobody.fun) ⟨h2, trivial⟩ palisadelaw11_MachineNobody.p10 (fuel := 3000) (by rw [← palisadelaw11_MachineNobody.e10]; exact hk) hm s f hp
  · exact hk.elim

theorem palisadelaw11_MachineNobody.p8 : (posC palisadelaw11_MachineNobody.code []).filter (fun p => Nat.beq p.1 8) = [(8, atPos (posC palisadelaw11_MachineNobody.code []) 8)] := by kernel_rfl

theorem palisadelaw11_MachineNobody.e8 : ∀ (I2 : Ptr → Sl → Int → Int → Heap → Prop) (a1 : Ptr) (a2 : Option Ptr) (a3 : Ptr) (a4 : Bool) (a5 : Ptr) (a6 : Int) (a7 : Ptr) (a8 : Int) (a9 : Int) (a10 : Int) (a11 : Sl) (a12 : Int) (a13 : Int) (Q : Bool → Heap → Prop) (h : Heap), palisadelaw11_MachineNobody.j8 I2 a1 a2 a3 a4 a5 a6 a7 a8 a9 a10 a11 a12 a13 Q h = pts (palisadelaw11_MachineNobody.E Q [(9, ([], palisadelaw11_MachineNobody.k9 (fun  h => palisadelaw11_MachineNobody.j9 I2  Q h))), (10, ([1, 15, 16, 17], palisadelaw11_MachineNobody.k10 (fun a1 a2 a3 a4 h => palisadelaw11_MachineNobody.j10 I2 a1 a2 a3 a4 Q h)))]) 3000 true (atPos (posC palisadelaw11_MachineNobody.code []) 8) (frAt [1, 4, 5, 6, 7, 8, 9, 10, 11, 12, 15, 16, 17] [.ptr (some a1), .ptr a2, .ptr (some a3), .bool a4, .ptr (some a5), .int .i64 a6, .ptr (some a7), .int .i64 a8, .int .i64 a9, .int .i64 a10, .sl a11, .int .i64 a12, .int .i64 a13]) h := by
  intros; kernel_rfl

theorem palisadelaw11_MachineNobody.s8 {W0 : World} (Q : Bool → Heap → Prop) (I2 : Ptr → Sl → Int → Int → Heap → Prop) (h2 : CutOK sg W0 113 (entered 3) (Post sg W0 (palisadelaw11_MachineNobody.ret Q)) (posC palisadelaw11_MachineNobody.code []) 2 [1, 15, 16, 17] (palisadelaw11_MachineNobody.k2 I2)) : CutOK sg W0 113 (entered 3) (Post sg W0 (palisadelaw11_MachineNobody.ret Q)) (posC palisadelaw11_MachineNobody.code []) 8 [1, 4, 5, 6, 7, 8, 9, 10, 11, 12, 15, 16, 17] (palisadelaw11_MachineNobody.k8 (fun a1 a2 a3 a4 a5 a6 a7 a8 a9 a10 a11 a12 a13 h => palisadelaw11_MachineNobody.j8 I2 a1 a2 a3 a4 a5 a6 a7 a8 a9 a10 a11 a12 a13 Q h)) := by
  refine cutOK_head (fun vs h hk => ?_)
  unfold palisadelaw11_MachineNobody.k8 at hk
  split at hk
  · rename_i a1 a2 a3 a4 a5 a6 a7 a8 a9 a10 a11 a12 a13
    intro todo hm ρ a w s f hp
    exact piece (E := palisadelaw11_MachineNobody.E Q [(9, ([], palisadelaw11_MachineNobody.k9 (fun  h => palisadelaw11_MachineNobody.j9 I2  Q h))), (10, ([1, 15, 16, 17], palisadelaw11_MachineNobody.k10 (fun a1 a2 a3 a4 h => palisadelaw11_MachineNobody.j10 I2 a1 a2 a3 a4 Q h)))]) (vs := [.ptr (some a1), .ptr a2, .ptr (some a3), .bool a4, .ptr (some a5), .int .i64 a6, .ptr (some a7), .int .i64 a8, .int .i64 a9, .int .i64 a10, .sl a11, .int .i64 a12, .int .i64 a13]) (envOK seatOK palisadelaw11_MachineNobody.callsOK noIfc_ok) (fnOK seatOK palisadelaw11_MachineNobody.fun) ⟨(palisadelaw11_MachineNobody.s9 Q I2 h2), (palisadelaw11_MachineNobody.s10 Q I2 h2), trivial⟩ palisadelaw11_MachineNobody.p8 (fuel := 3000) (by rw [← palisadelaw11_MachineNobody.e8]; exact hk) hm s f hp
  · exact hk.elim

theorem palisadelaw11_MachineNobody.p7 : (posC palisadelaw11_MachineNobody.code []).filter (fun p => Nat.beq p.1 7) = [(7, atPos (posC palisadelaw11_MachineNobody.code []) 7)] := by kernel_rfl

theorem palisadelaw11_MachineNobody.e7 : ∀ (I2 : Ptr → Sl → Int → Int → Heap → Prop) (a1 : Ptr) (a2 : Option Ptr) (a3 : Ptr) (a4 : Bool) (a5 : Ptr) (a6 : Int) (a7 : Ptr) (a8 : Int) (a9 : Sl) (a10 : Int) (a11 : Int) (Q : Bool → Heap → Prop) (h : Heap), palisadelaw11_MachineNobody.j7 I2 a1 a2 a3 a4 a5 a6 a7 a8 a9 a10 a11 Q h = pts (palisadelaw11_MachineNobody.E Q [(8, ([1, 4, 5, 6, 7, 8, 9, 10, 11, 12, 15, 16, 17], palisadelaw11_MachineNobody.k8 (fun a1 a2 a3 a4 a5 a6 a7 a8 a9 a10 a11 a12 a13 h => palisadelaw11_MachineNobody.j8 I2 a1 a2 a3 a4 a5 a6 a7 a8 a9 a10 a11 a12 a13 Q h)))]) 3000 true (atPos (posC palisadelaw11_MachineNobody.code []) 7) (frAt [1, 4, 5, 6, 7, 8, 9, 10, 15, 16, 17] [.ptr (some a1), .ptr a2, .ptr (some a3), .bool a4, .ptr (some a5), .int .i64 a6, .ptr (some a7), .int .i64 a8, .sl a9, .int .i64 a10, .int .i64 a11]) h := by
  intros; kernel_rfl

theorem palisadelaw11_MachineNobody.s7 {W0 : World} (Q : Bool → Heap → Prop) (I2 : Ptr → Sl → Int → Int → Heap → Prop) (h2 : CutOK sg W0 113 (entered 3) (Post sg W0 (palisadelaw11_MachineNobody.ret Q)) (posC palisadelaw11_MachineNobody.code []) 2 [1, 15, 16, 17] (palisadelaw11_MachineNobody.k2 I2)) : CutOK sg W0 113 (entered 3) (Post sg W0 (palisadelaw11_MachineNobody.ret Q)) (posC palisadelaw11_MachineNobody.code []) 7 [1, 4, 5, 6, 7, 8, 9, 10, 15, 16, 17] (palisadelaw11_MachineNobody.k7 (fun a1 a2 a3 a4 a5 a6 a7 a8 a9 a10 a11 h => palisadelaw11_MachineNobody.j7 I2 a1 a2 a3 a4 a5 a6 a7 a8 a9 a10 a11 Q h)) := by
  refine cutOK_head (fun vs h hk => ?_)
  unfold palisadelaw11_MachineNobody.k7 at hk
  split at hk
  · rename_i a1 a2 a3 a4 a5 a6 a7 a8 a9 a10 a11
    intro todo hm ρ a w s f hp
    exact piece (E := palisadelaw11_MachineNobody.E Q [(8, ([1, 4, 5, 6, 7, 8, 9, 10, 11, 12, 15, 16, 17], palisadelaw11_MachineNobody.k8 (fun a1 a2 a3 a4 a5 a6 a7 a8 a9 a10 a11 a12 a13 h => palisadelaw11_MachineNobody.j8 I2 a1 a2 a3 a4 a5 a6 a7 a8 a9 a10 a11 a12 a13 Q h)))]) (vs := [.ptr (some a1), .ptr a2, .ptr (some a3), .bool a4, .ptr (some a5), .int .i64 a6, .ptr (some a7), .int .i64 a8, .sl a9, .int .i64 a10, .int .i64 a11]) (envOK seatOK palisadelaw11_MachineNobody.callsOK noIfc_ok) (fnOK seatOK palisadelaw11_MachineNobody.fun) ⟨(palisadelaw11_MachineNobody.s8 Q I2 h2), trivial⟩ palisadelaw11_MachineNobody.p7 (fuel := 3000) (by rw [← palisadelaw11_MachineNobody.e7]; exact hk) hm s f hp
  · exact hk.elim

theorem palisadelaw11_MachineNobody.p6 : (posC palisadelaw11_MachineNobody.code []).filter (fun p => Nat.beq p.1 6) = [(6, atPos (posC palisadelaw11_MachineNobody.code []) 6)] := by kernel_rfl

theorem palisadelaw11_MachineNobody.e6 : ∀ (I2 : Ptr → Sl → Int → Int → Heap → Prop) (a1 : Ptr) (a2 : Option Ptr) (a3 : Ptr) (a4 : Bool) (a5 : Ptr) (a6 : Int) (a7 : Sl) (a8 : Int) (a9 : Int) (Q : Bool → Heap → Prop) (h : Heap), palisadelaw11_MachineNobody.j6 I2 a1 a2 a3 a4 a5 a6 a7 a8 a9 Q h = pts (palisadelaw11_MachineNobody.E Q [(7, ([1, 4, 5, 6, 7, 8, 9, 10, 15, 16, 17], palisadelaw11_MachineNobody.k7 (fun a1 a2 a3 a4 a5 a6 a7 a8 a9 a10 a11 h => palisadelaw11_MachineNobody.j7 I2 a1 a2 a3 a4 a5 a6 a7 a8 a9 a10 a11 Q h)))]) 3000 true (atPos (posC palisadelaw11_MachineNobody.code []) 6) (frAt [1, 4, 5, 6, 7, 8, 15, 16, 17] [.ptr (some a1), .ptr a2, .ptr (some a3), .bool a4, .ptr (some a5), .int .i64 a6, .sl a7, .int .i64 a8, .int .i64 a9]) h := by
  intros; kernel_rfl

theorem palisadelaw11_MachineNobody.s6 {W0 : World} (Q : Bool → Heap → Prop) (I2 : Ptr → Sl → Int → Int → Heap → Prop) (h2 : CutOK sg W0 113 (entered 3) (Post sg W0 (palisadelaw11_MachineNobody.ret Q)) (posC palisadelaw11_MachineNobody.code []) 2 [1, 15, 16, 17] (palisadelaw11_MachineNobody.k2 I2)) : CutOK sg W0 113 (entered 3) (Post sg W0 (palisadelaw11_MachineNobody.ret Q)) (posC palisadelaw11_MachineNobody.code []) 6 [1, 4, 5, 6, 7, 8, 15, 16, 17] (palisadelaw11_MachineNobody.k6 (fun a1 a2 a3 a4 a5 a6 a7 a8 a9 h => palisadelaw11_MachineNobody.j6 I2 a1 a2 a3 a4 a5 a6 a7 a8 a9 Q h)) := by
  refine cutOK_head (fun vs h hk => ?_)
  unfold palisadelaw11_MachineNobody.k6 at hk
  split at hk
  · rename_i a1 a2 a3 a4 a5 a6 a7 a8 a9
    intro todo hm ρ a w s f hp
    exact piece (E := palisadelaw11_MachineNobody.E Q [(7, ([1, 4, 5, 6, 7, 8, 9, 10, 15, 16, 17], palisadelaw11_MachineNobody.k7 (fun a1 a2 a3 a4 a5 a6 a7 a8 a9 a10 a11 h => palisadelaw11_MachineNobody.j7 I2 a1 a2 a3 a4 a5 a6 a7 a8 a9 a10 a11 Q h)))]) (vs := [.ptr (some a1), .ptr a2, .ptr (some a3), .bool a4, .ptr (some a5), .int .i64 a6, .sl a7, .int .i64 a8, .int .i64 a9]) (envOK seatOK palisadelaw11_MachineNobody.callsOK noIfc_ok) (fnOK seatOK palisadelaw11_MachineNobody.fun) ⟨(palisadelaw11_MachineNobody.s7 Q I2 h2), trivial⟩ palisadelaw11_MachineNobody.p6 (fuel := 3000) (by rw [← palisadelaw11_MachineNobody.e6]; exact hk) hm s f hp
  · exact hk.elim

theorem palisadelaw11_MachineNobody.p5 : (posC palisadelaw11_MachineNobody.code []).filter (fun p => Nat.beq p.1 5) = [(5, atPos (posC palisadelaw11_MachineNobody.code []) 5)] := by kernel_rfl

theorem palisadelaw11_MachineNobody.e5 : ∀ (I2 : Ptr → Sl → Int → Int → Heap → Prop) (a1 : Ptr) (a2 : Option Ptr) (a3 : Ptr) (a4 : Bool) (a5 : Sl) (a6 : Int) (a7 : Int) (Q : Bool → Heap → Prop) (h : Heap), palisadelaw11_MachineNobody.j5 I2 a1 a2 a3 a4 a5 a6 a7 Q h = pts (palisadelaw11_MachineNobody.E Q [(6, ([1, 4, 5, 6, 7, 8, 15, 16, 17], palisadelaw11_MachineNobody.k6 (fun a1 a2 a3 a4 a5 a6 a7 a8 a9 h => palisadelaw11_MachineNobody.j6 I2 a1 a2 a3 a4 a5 a6 a7 a8 a9 Q h)))]) 3000 true (atPos (posC palisadelaw11_MachineNobody.code []) 5) (frAt [1, 4, 5, 6, 15, 16, 17] [.ptr (some a1), .ptr a2, .ptr (some a3), .bool a4, .sl a5, .int .i64 a6, .int .i64 a7]) h := by
  intros; kernel_rfl

theorem palisadelaw11_MachineNobody.s5 {W0 : World} (Q : Bool → Heap → Prop) (I2 : Ptr → Sl → Int → Int → Heap → Prop) (h2 : CutOK sg W0 113 (entered 3) (Post sg W0 (palisadelaw11_MachineNobody.ret Q)) (posC palisadelaw11_MachineNobody.code []) 2 [1, 15, 16, 17] (palisadelaw11_MachineNobody.k2 I2)) : CutOK sg W0 113 (entered 3) (Post sg W0 (palisadelaw11_MachineNobody.ret Q)) (posC palisadelaw11_MachineNobody.code []) 5 [1, 4, 5, 6, 15, 16, 17] (palisadelaw11_MachineNobody.k5 (fun a1 a2 a3 a4 a5 a6 a7 h => palisadelaw11_MachineNobody.j5 I2 a1 a2 a3 a4 a5 a6 a7 Q h)) := by
  refine cutOK_head (fun vs h hk => ?_)
  unfold palisadelaw11_MachineNobody.k5 at hk
  split at hk
  · rename_i a1 a2 a3 a4 a5 a6 a7
    intro todo hm ρ a w s f hp
    exact piece (E := palisadelaw11_MachineNobody.E Q [(6, ([1, 4, 5, 6, 7, 8, 15, 16, 17], palisadelaw11_MachineNobody.k6 (fun a1 a2 a3 a4 a5 a6 a7 a8 a9 h => palisadelaw11_MachineNobody.j6 I2 a1 a2 a3 a4 a5 a6 a7 a8 a9 Q h)))]) (vs := [.ptr (some a1), .ptr a2, .ptr (some a3), .bool a4, .sl a5, .int .i64 a6, .int .i64 a7]) (envOK seatOK palisadelaw11_MachineNobody.callsOK noIfc_ok) (fnOK seatOK palisadelaw11_MachineNobody.fun) ⟨(palisadelaw11_MachineNobody.s6 Q I2 h2), trivial⟩ palisadelaw11_MachineNobody.p5 (fuel := 3000) (by rw [← palisadelaw11_MachineNobody.e5]; exact hk) hm s f hp
  · exact hk.elim

theorem palisadelaw11_MachineNobody.p2 : (posC palisadelaw11_MachineNobody.code []).filter (fun p => Nat.beq p.1 2) = [(2, atPos (posC palisadelaw11_MachineNobody.code []) 2)] := by kernel_rfl

theorem palisadelaw11_MachineNobody.e2 : ∀  (I2 : Ptr → Sl → Int → Int → Heap → Prop) (a1 : Ptr) (a2 : Sl) (a3 : Int) (a4 : Int) (Q : Bool → Heap → Prop) (h : Heap), palisadelaw11_MachineNobody.b2  I2 a1 a2 a3 a4 Q h = pts (palisadelaw11_MachineNobody.E Q [(5, ([1, 4, 5, 6, 15, 16, 17], palisadelaw11_MachineNobody.k5 (fun a1 a2 a3 a4 a5 a6 a7 h => palisadelaw11_MachineNobody.j5 I2 a1 a2 a3 a4 a5 a6 a7 Q h)))]) 3000 true (atPos (posC palisadelaw11_MachineNobody.code []) 2) (frAt [1, 15, 16, 17] [.ptr (some a1), .sl a2, .int .i64 a3, .int .i64 a4]) h := by
  intros; kernel_rfl

theorem palisadelaw11_MachineNobody.s2 {W0 : World} (Q : Bool → Heap → Prop)   : CutOK sg W0 113 (entered 3) (Post sg W0 (palisadelaw11_MachineNobody.ret Q)) (posC palisadelaw11_MachineNobody.code []) 2 [1, 15, 16, 17] (palisadelaw11_MachineNobody.k2 (fun a1 a2 a3 a4 h => palisadelaw11_MachineNobody.j2  a1 a2 a3 a4 Q h)) := by
  refine cutOK_head (fun vs h hk => ?_)
  unfold palisadelaw11_MachineNobody.k2 at hk
  split at hk
  · rename_i a1 a2 a3 a4
    refine hk (fun a1 a2 a3 a4 h => Head sg W0 113 (entered 3) (Post sg W0 (palisadelaw11_MachineNobody.ret Q)) (posC palisadelaw11_MachineNobody.code []) 2 [1, 15, 16, 17] [.ptr (some a1), .sl a2, .int .i64 a3, .int .i64 a4] h) ?_
    intro a1 a2 a3 a4 h hb todo hm ρ a w s f hp
    have hself : CutOK sg W0 113 (entered 3) (Post sg W0 (palisadelaw11_MachineNobody.ret Q)) (posC palisadelaw11_MachineNobody.code []) 2 [1, 15, 16, 17] (palisadelaw11_MachineNobody.k2 (fun a1 a2 a3 a4 h => Head sg W0 113 (entered 3) (Post sg W0 (palisadelaw11_MachineNobody.ret Q)) (posC palisadelaw11_MachineNobody.code []) 2 [1, 15, 16, 17] [.ptr (some a1), .sl a2, .int .i64 a3, .int .i64 a4] h)) := cutOK_head (fun vs h hk => by unfold palisadelaw11_MachineNobody.k2 at hk; split at hk; exact hk; exact hk.elim)
    exact piece (E := palisadelaw11_MachineNobody.E Q [(5, ([1, 4, 5, 6, 15, 16, 17], palisadelaw11_MachineNobody.k5 (fun a1 a2 a3 a4 a5 a6 a7 h => palisadelaw11_MachineNobody.j5 (fun a1 a2 a3 a4 h => Head sg W0 113 (entered 3) (Post sg W0 (palisadelaw11_MachineNobody.ret Q)) (posC palisadelaw11_MachineNobody.code []) 2 [1, 15, 16, 17] [.ptr (some a1), .sl a2, .int .i64 a3, .int .i64 a4] h) a1 a2 a3 a4 a5 a6 a7 Q h)))]) (vs := [.ptr (some a1), .sl a2, .int .i64 a3, .int .i64 a4]) (envOK seatOK palisadelaw11_MachineNobody.callsOK noIfc_ok) (fnOK seatOK palisadelaw11_MachineNobody.fun) ⟨(palisadelaw11_MachineNobody.s5 Q (fun a1 a2 a3 a4 h => Head sg W0 113 (entered 3) (Post sg W0 (palisadelaw11_MachineNobody.ret Q)) (posC palisadelaw11_MachineNobody.code []) 2 [1, 15, 16, 17] [.ptr (some a1), .sl a2, .int .i64 a3, .int .i64 a4] h) hself), trivial⟩ palisadelaw11_MachineNobody.p2 (fuel := 3000) (by rw [← palisadelaw11_MachineNobody.e2]; exact hb) hm s f hp
  · exact hk.elim

theorem palisadelaw11_MachineNobody.e : ∀ (a1 : Int) (a2 : Int) (a3 : Int) (a4 : Int) (a5 : Int) (Q : Bool → Heap → Prop) (h : Heap), palisadelaw11_MachineNobody a1 a2 a3 a4 a5 Q h = pts (palisadelaw11_MachineNobody.E Q [(2, ([1, 15, 16, 17], palisadelaw11_MachineNobody.k2 (fun a1 a2 a3 a4 h => palisadelaw11_MachineNobody.j2  a1 a2 a3 a4 Q h)))]) 3000 true [.code palisadelaw11_MachineNobody.code] (frOf 0 [.agg [.int .i64 a1, .int .i64 a2, .int .i64 a3, .int .u64 a4, .int .u64 a5]]) h := by
  intros; kernel_rfl

theorem palisadelaw11_MachineNobody.S {W0 : World} : FnS sg W0 144 palisadelaw11_MachineNobody.C := by
  intro vs κ h wv hx w s
  unfold palisadelaw11_MachineNobody.C at hx
  split at hx
  · rename_i a1 a2 a3 a4 a5
    refine postImp (ret := palisadelaw11_MachineNobody.ret (fun r1 h => κ (.bool r1) h)) (fun v h hr => by unfold palisadelaw11_MachineNobody.ret at hr; split at hr; exact hr; exact hr.elim) ?_
    exact calls_of_pts (E := palisadelaw11_MachineNobody.E (fun r1 h => κ (.bool r1) h) [(2, ([1, 15, 16, 17], palisadelaw11_MachineNobody.k2 (fun a1 a2 a3 a4 h => palisadelaw11_MachineNobody.j2  a1 a2 a3 a4 (fun r1 h => κ (.bool r1) h) h)))]) (envOK seatOK palisadelaw11_MachineNobody.callsOK noIfc_ok) seatOK.mixed palisadelaw11_MachineNobody.fun (Nat.le_of_ble_eq_true rfl) wv (cutL_ok ⟨(palisadelaw11_MachineNobody.s2 (fun r1 h => κ (.bool r1) h)), trivial⟩) s (fuel := 3000) (by rw [← palisadelaw11_MachineNobody.e]; exact hx)
  · exact hx.elim

end Go.Fn
