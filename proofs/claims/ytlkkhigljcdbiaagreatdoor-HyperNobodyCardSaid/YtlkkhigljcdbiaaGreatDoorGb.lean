/- The links of the shallow functions to the machine. PRINTED by lift.py. -/
import Derived.Test.YtlkkhigljcdbiaaGreatDoorGa
set_option linter.unusedVariables false
set_option maxRecDepth 100000
namespace Go.Fn
open Go.Lift

noncomputable def hyper_Hyper_none.code : Code := Go.Proofs.Tryz.f21.body.getD .skip

theorem hyper_Hyper_none.fun : Fun sg.P 21 12 [.tmp 2] hyper_Hyper_none.code := mkFun Go.Proofs.Tryz.func21 (by kernel_rfl) (by kernel_rfl) (by kernel_rfl) (by kernel_rfl)

def hyper_Hyper_none.ret (Q : Bool → Heap → Prop) (v : V) (h : Heap) : Prop :=
  match v with
  | .bool r1 => Q r1 h
  | _ => False

def hyper_Hyper_none.C (vs : List V) (κ : V → Heap → Prop) (h : Heap) : Prop :=
  match vs with
  | [.ptr a1] => hyper_Hyper_none a1 (fun r1 h => κ (.bool r1) h) h
  | _ => False

noncomputable def hyper_Hyper_none.calls : List (Nat × (List V → (V → Heap → Prop) → Heap → Prop)) := []

noncomputable def hyper_Hyper_none.E (Q : Bool → Heap → Prop) (cuts : List (Nat × (List Nat × (List V → Heap → Prop)))) : Env := { tis := tisT, fns := fnsT, tys := tysT, gls := [], rts := rtsT, unk := [], nxt := [], calls := hyper_Hyper_none.calls, ifc := noIfc, cuts := cuts, ret := hyper_Hyper_none.ret Q, rets := [.tmp 2], n := 12 }

theorem hyper_Hyper_none.callsOK {W0 : World} : CallsOK sg W0 hyper_Hyper_none.calls := trivial

theorem hyper_Hyper_none.e : ∀ (a1 : Option Ptr) (Q : Bool → Heap → Prop) (h : Heap), hyper_Hyper_none a1 Q h = pts (hyper_Hyper_none.E Q []) 3000 true [.code hyper_Hyper_none.code] (frOf 0 [.ptr a1]) h := by
  intros; kernel_rfl

theorem hyper_Hyper_none.S {W0 : World} : FnS sg W0 313 hyper_Hyper_none.C := by
  intro vs κ h wv hx w s
  unfold hyper_Hyper_none.C at hx
  split at hx
  · rename_i a1
    refine postImp (ret := hyper_Hyper_none.ret (fun r1 h => κ (.bool r1) h)) (fun v h hr => by unfold hyper_Hyper_none.ret at hr; split at hr; exact hr; exact hr.elim) ?_
    exact calls_of_pts (E := hyper_Hyper_none.E (fun r1 h => κ (.bool r1) h) []) (envOK seatOK hyper_Hyper_none.callsOK noIfc_ok) seatOK.mixed hyper_Hyper_none.fun (Nat.le_of_ble_eq_true rfl) wv (cutL_ok trivial) s (fuel := 3000) (by rw [← hyper_Hyper_none.e]; exact hx)
  · exact hx.elim

noncomputable def hyper_Hyper_Create.code : Code := Go.Proofs.Tryz.f4.body.getD .skip

theorem hyper_Hyper_Create.fun : Fun sg.P 4 141 [.tmp 4, .tmp 5] hyper_Hyper_Create.code := mkFun Go.Proofs.Tryz.func4 (by kernel_rfl) (by kernel_rfl) (by kernel_rfl) (by kernel_rfl)

def hyper_Hyper_Create.ret (Q : Int → Int → Heap → Prop) (v : V) (h : Heap) : Prop :=
  match v with
  | .tup [.int .i64 r1, .int .i64 r2] => Q r1 r2 h
  | _ => False

def hyper_Hyper_Create.C (vs : List V) (κ : V → Heap → Prop) (h : Heap) : Prop :=
  match vs with
  | [.ptr a1, .agg [.int .i64 a2, .int .i64 a3, .int .i64 a4, .int .i64 a5, .int .i64 a6, .int .i64 a7, .sl a8]] => hyper_Hyper_Create a1 a2 a3 a4 a5 a6 a7 a8 (fun r1 r2 h => κ (.tup [.int .i64 r1, .int .i64 r2]) h) h
  | _ => False

noncomputable def hyper_Hyper_Create.calls : List (Nat × (List V → (V → Heap → Prop) → Heap → Prop)) := [(313, hyper_Hyper_none.C)]

noncomputable def hyper_Hyper_Create.E (Q : Int → Int → Heap → Prop) (cuts : List (Nat × (List Nat × (List V → Heap → Prop)))) : Env := { tis := tisT, fns := fnsT, tys := tysT, gls := [], rts := rtsT, unk := [], nxt := [], calls := hyper_Hyper_Create.calls, ifc := noIfc, cuts := cuts, ret := hyper_Hyper_Create.ret Q, rets := [.tmp 4, .tmp 5], n := 141 }

theorem hyper_Hyper_Create.callsOK {W0 : World} : CallsOK sg W0 hyper_Hyper_Create.calls := ⟨hyper_Hyper_none.S, trivial⟩

theorem hyper_Hyper_Create.e : ∀ (a1 : Option Ptr) (a2 : Int) (a3 : Int) (a4 : Int) (a5 : Int) (a6 : Int) (a7 : Int) (a8 : Sl) (Q : Int → Int → Heap → Prop) (h : Heap), hyper_Hyper_Create a1 a2 a3 a4 a5 a6 a7 a8 Q h = pts (hyper_Hyper_Create.E Q []) 3000 true [.code hyper_Hyper_Create.code] (frOf 0 [.ptr a1, .agg [.int .i64 a2, .int .i64 a3, .int .i64 a4, .int .i64 a5, .int .i64 a6, .int .i64 a7, .sl a8]]) h := by
  intros; kernel_rfl

theorem hyper_Hyper_Create.S {W0 : World} : FnS sg W0 314 hyper_Hyper_Create.C := by
  intro vs κ h wv hx w s
  unfold hyper_Hyper_Create.C at hx
  split at hx
  · rename_i a1 a2 a3 a4 a5 a6 a7 a8
    refine postImp (ret := hyper_Hyper_Create.ret (fun r1 r2 h => κ (.tup [.int .i64 r1, .int .i64 r2]) h)) (fun v h hr => by unfold hyper_Hyper_Create.ret at hr; split at hr; exact hr; exact hr.elim) ?_
    exact calls_of_pts (E := hyper_Hyper_Create.E (fun r1 r2 h => κ (.tup [.int .i64 r1, .int .i64 r2]) h) []) (envOK seatOK hyper_Hyper_Create.callsOK noIfc_ok) seatOK.mixed hyper_Hyper_Create.fun (Nat.le_of_ble_eq_true rfl) wv (cutL_ok trivial) s (fuel := 3000) (by rw [← hyper_Hyper_Create.e]; exact hx)
  · exact hx.elim

noncomputable def hyper_Hyper_Step.code : Code := Go.Proofs.Tryz.f5.body.getD .skip

theorem hyper_Hyper_Step.fun : Fun sg.P 5 112 [.cell 4 45, .tmp 5] hyper_Hyper_Step.code := mkFun Go.Proofs.Tryz.func5 (by kernel_rfl) (by kernel_rfl) (by kernel_rfl) (by kernel_rfl)

def hyper_Hyper_Step.ret (Q : Int → Int → Int → Int → Int → Int → Int → Heap → Prop) (v : V) (h : Heap) : Prop :=
  match v with
  | .tup [.agg [.int .i64 r1, .int .i64 r2, .int .i64 r3, .int .i64 r4, .int .u64 r5, .int .u64 r6], .int .i64 r7] => Q r1 r2 r3 r4 r5 r6 r7 h
  | _ => False

def hyper_Hyper_Step.C (vs : List V) (κ : V → Heap → Prop) (h : Heap) : Prop :=
  match vs with
  | [.ptr a1, .int .i64 a2] => hyper_Hyper_Step a1 a2 (fun r1 r2 r3 r4 r5 r6 r7 h => κ (.tup [.agg [.int .i64 r1, .int .i64 r2, .int .i64 r3, .int .i64 r4, .int .u64 r5, .int .u64 r6], .int .i64 r7]) h) h
  | _ => False

noncomputable def hyper_Hyper_Step.calls : List (Nat × (List V → (V → Heap → Prop) → Heap → Prop)) := [(313, hyper_Hyper_none.C)]

noncomputable def hyper_Hyper_Step.E (Q : Int → Int → Int → Int → Int → Int → Int → Heap → Prop) (cuts : List (Nat × (List Nat × (List V → Heap → Prop)))) : Env := { tis := tisT, fns := fnsT, tys := tysT, gls := [], rts := rtsT, unk := [], nxt := [], calls := hyper_Hyper_Step.calls, ifc := noIfc, cuts := cuts, ret := hyper_Hyper_Step.ret Q, rets := [.cell 4 45, .tmp 5], n := 112 }

theorem hyper_Hyper_Step.callsOK {W0 : World} : CallsOK sg W0 hyper_Hyper_Step.calls := ⟨hyper_Hyper_none.S, trivial⟩

theorem hyper_Hyper_Step.e : ∀ (a1 : Option Ptr) (a2 : Int) (Q : Int → Int → Int → Int → Int → Int → Int → Heap → Prop) (h : Heap), hyper_Hyper_Step a1 a2 Q h = pts (hyper_Hyper_Step.E Q []) 3000 true [.code hyper_Hyper_Step.code] (frOf 0 [.ptr a1, .int .i64 a2]) h := by
  intros; kernel_rfl

theorem hyper_Hyper_Step.S {W0 : World} : FnS sg W0 315 hyper_Hyper_Step.C := by
  intro vs κ h wv hx w s
  unfold hyper_Hyper_Step.C at hx
  split at hx
  · rename_i a1 a2
    refine postImp (ret := hyper_Hyper_Step.ret (fun r1 r2 r3 r4 r5 r6 r7 h => κ (.tup [.agg [.int .i64 r1, .int .i64 r2, .int .i64 r3, .int .i64 r4, .int .u64 r5, .int .u64 r6], .int .i64 r7]) h)) (fun v h hr => by unfold hyper_Hyper_Step.ret at hr; split at hr; exact hr; exact hr.elim) ?_
    exact calls_of_pts (E := hyper_Hyper_Step.E (fun r1 r2 r3 r4 r5 r6 r7 h => κ (.tup [.agg [.int .i64 r1, .int .i64 r2, .int .i64 r3, .int .i64 r4, .int .u64 r5, .int .u64 r6], .int .i64 r7]) h) []) (envOK seatOK hyper_Hyper_Step.callsOK noIfc_ok) seatOK.mixed hyper_Hyper_Step.fun (Nat.le_of_ble_eq_true rfl) wv (cutL_ok trivial) s (fuel := 3000) (by rw [← hyper_Hyper_Step.e]; exact hx)
  · exact hx.elim

noncomputable def hyper_Hyper_of.code : Code := Go.Proofs.Tryz.f37.body.getD .skip

theorem hyper_Hyper_of.fun : Fun sg.P 37 40 [.tmp 6, .tmp 7] hyper_Hyper_of.code := mkFun Go.Proofs.Tryz.func37 (by kernel_rfl) (by kernel_rfl) (by kernel_rfl) (by kernel_rfl)

def hyper_Hyper_of.ret (Q : (Option Ptr) → (Option Ptr) → Heap → Prop) (v : V) (h : Heap) : Prop :=
  match v with
  | .tup [.ptr r1, .ptr r2] => Q r1 r2 h
  | _ => False

def hyper_Hyper_of.C (vs : List V) (κ : V → Heap → Prop) (h : Heap) : Prop :=
  match vs with
  | [.ptr a1, .int .i64 a2, .int .i64 a3] => hyper_Hyper_of a1 a2 a3 (fun r1 r2 h => κ (.tup [.ptr r1, .ptr r2]) h) h
  | _ => False

noncomputable def hyper_Hyper_of.calls : List (Nat × (List V → (V → Heap → Prop) → Heap → Prop)) := [(313, hyper_Hyper_none.C)]

noncomputable def hyper_Hyper_of.E (Q : (Option Ptr) → (Option Ptr) → Heap → Prop) (cuts : List (Nat × (List Nat × (List V → Heap → Prop)))) : Env := { tis := tisT, fns := fnsT, tys := tysT, gls := [], rts := rtsT, unk := [], nxt := [], calls := hyper_Hyper_of.calls, ifc := noIfc, cuts := cuts, ret := hyper_Hyper_of.ret Q, rets := [.tmp 6, .tmp 7], n := 40 }

theorem hyper_Hyper_of.callsOK {W0 : World} : CallsOK sg W0 hyper_Hyper_of.calls := ⟨hyper_Hyper_none.S, trivial⟩

def hyper_Hyper_of.k5 (I : Heap → Prop) (vs : List V) (h : Heap) : Prop :=
  match vs with
  | [] => I  h
  | _ => False

def hyper_Hyper_of.k6 (I : Int → (Option Ptr) → Heap → Prop) (vs : List V) (h : Heap) : Prop :=
  match vs with
  | [.int .i64 a1, .ptr a2] => I a1 a2 h
  | _ => False

theorem hyper_Hyper_of.p5 : (posC hyper_Hyper_of.code []).filter (fun p => Nat.beq p.1 5) = [(5, atPos (posC hyper_Hyper_of.code []) 5)] := by kernel_rfl

theorem hyper_Hyper_of.e5 : ∀   (Q : (Option Ptr) → (Option Ptr) → Heap → Prop) (h : Heap), hyper_Hyper_of.j5   Q h = pts (hyper_Hyper_of.E Q []) 3000 true (atPos (posC hyper_Hyper_of.code []) 5) (frAt [] []) h := by
  intros; kernel_rfl

theorem hyper_Hyper_of.s5 {W0 : World} (Q : (Option Ptr) → (Option Ptr) → Heap → Prop)   : CutOK sg W0 40 (entered 37) (Post sg W0 (hyper_Hyper_of.ret Q)) (posC hyper_Hyper_of.code []) 5 [] (hyper_Hyper_of.k5 (fun  h => hyper_Hyper_of.j5   Q h)) := by
  refine cutOK_head (fun vs h hk => ?_)
  unfold hyper_Hyper_of.k5 at hk
  split at hk
  · skip
    intro todo hm ρ a w s f hp
    exact piece (E := hyper_Hyper_of.E Q []) (vs := []) (envOK seatOK hyper_Hyper_of.callsOK noIfc_ok) (fnOK seatOK hyper_Hyper_of.fun) trivial hyper_Hyper_of.p5 (fuel := 3000) (by rw [← hyper_Hyper_of.e5]; exact hk) hm s f hp
  · exact hk.elim

theorem hyper_Hyper_of.p6 : (posC hyper_Hyper_of.code []).filter (fun p => Nat.beq p.1 6) = [(6, atPos (posC hyper_Hyper_of.code []) 6)] := by kernel_rfl

theorem hyper_Hyper_of.e6 : ∀  (a1 : Int) (a2 : Option Ptr) (Q : (Option Ptr) → (Option Ptr) → Heap → Prop) (h : Heap), hyper_Hyper_of.j6  a1 a2 Q h = pts (hyper_Hyper_of.E Q []) 3000 true (atPos (posC hyper_Hyper_of.code []) 6) (frAt [2, 8] [.int .i64 a1, .ptr a2]) h := by
  intros; kernel_rfl

theorem hyper_Hyper_of.s6 {W0 : World} (Q : (Option Ptr) → (Option Ptr) → Heap → Prop)   : CutOK sg W0 40 (entered 37) (Post sg W0 (hyper_Hyper_of.ret Q)) (posC hyper_Hyper_of.code []) 6 [2, 8] (hyper_Hyper_of.k6 (fun a1 a2 h => hyper_Hyper_of.j6  a1 a2 Q h)) := by
  refine cutOK_head (fun vs h hk => ?_)
  unfold hyper_Hyper_of.k6 at hk
  split at hk
  · rename_i a1 a2
    intro todo hm ρ a w s f hp
    exact piece (E := hyper_Hyper_of.E Q []) (vs := [.int .i64 a1, .ptr a2]) (envOK seatOK hyper_Hyper_of.callsOK noIfc_ok) (fnOK seatOK hyper_Hyper_of.fun) trivial hyper_Hyper_of.p6 (fuel := 3000) (by rw [← hyper_Hyper_of.e6]; exact hk) hm s f hp
  · exact hk.elim

theorem hyper_Hyper_of.e : ∀ (a1 : Option Ptr) (a2 : Int) (a3 : Int) (Q : (Option Ptr) → (Option Ptr) → Heap → Prop) (h : Heap), hyper_Hyper_of a1 a2 a3 Q h = pts (hyper_Hyper_of.E Q [(5, ([], hyper_Hyper_of.k5 (fun  h => hyper_Hyper_of.j5   Q h))), (6, ([2, 8], hyper_Hyper_of.k6 (fun a1 a2 h => hyper_Hyper_of.j6  a1 a2 Q h)))]) 3000 true [.code hyper_Hyper_of.code] (frOf 0 [.ptr a1, .int .i64 a2, .int .i64 a3]) h := by
  intros; kernel_rfl

theorem hyper_Hyper_of.S {W0 : World} : FnS sg W0 316 hyper_Hyper_of.C := by
  intro vs κ h wv hx w s
  unfold hyper_Hyper_of.C at hx
  split at hx
  · rename_i a1 a2 a3
    refine postImp (ret := hyper_Hyper_of.ret (fun r1 r2 h => κ (.tup [.ptr r1, .ptr r2]) h)) (fun v h hr => by unfold hyper_Hyper_of.ret at hr; split at hr; exact hr; exact hr.elim) ?_
    exact calls_of_pts (E := hyper_Hyper_of.E (fun r1 r2 h => κ (.tup [.ptr r1, .ptr r2]) h) [(5, ([], hyper_Hyper_of.k5 (fun  h => hyper_Hyper_of.j5   (fun r1 r2 h => κ (.tup [.ptr r1, .ptr r2]) h) h))), (6, ([2, 8], hyper_Hyper_of.k6 (fun a1 a2 h => hyper_Hyper_of.j6  a1 a2 (fun r1 r2 h => κ (.tup [.ptr r1, .ptr r2]) h) h)))]) (envOK seatOK hyper_Hyper_of.callsOK noIfc_ok) seatOK.mixed hyper_Hyper_of.fun (Nat.le_of_ble_eq_true rfl) wv (cutL_ok ⟨(hyper_Hyper_of.s5 (fun r1 r2 h => κ (.tup [.ptr r1, .ptr r2]) h)), (hyper_Hyper_of.s6 (fun r1 r2 h => κ (.tup [.ptr r1, .ptr r2]) h)), trivial⟩) s (fuel := 3000) (by rw [← hyper_Hyper_of.e]; exact hx)
  · exact hx.elim

noncomputable def hyper_Hyper_Input.code : Code := Go.Proofs.Tryz.f6.body.getD .skip

theorem hyper_Hyper_Input.fun : Fun sg.P 6 38 [.tmp 6, .tmp 7] hyper_Hyper_Input.code := mkFun Go.Proofs.Tryz.func6 (by kernel_rfl) (by kernel_rfl) (by kernel_rfl) (by kernel_rfl)

def hyper_Hyper_Input.ret (Q : Int → Int → Heap → Prop) (v : V) (h : Heap) : Prop :=
  match v with
  | .tup [.int .i64 r1, .int .i64 r2] => Q r1 r2 h
  | _ => False

def hyper_Hyper_Input.C (vs : List V) (κ : V → Heap → Prop) (h : Heap) : Prop :=
  match vs with
  | [.ptr a1, .int .i64 a2, .sl a3] => hyper_Hyper_Input a1 a2 a3 (fun r1 r2 h => κ (.tup [.int .i64 r1, .int .i64 r2]) h) h
  | _ => False

noncomputable def hyper_Hyper_Input.calls : List (Nat × (List V → (V → Heap → Prop) → Heap → Prop)) := [(313, hyper_Hyper_none.C), (316, hyper_Hyper_of.C)]

noncomputable def hyper_Hyper_Input.E (Q : Int → Int → Heap → Prop) (cuts : List (Nat × (List Nat × (List V → Heap → Prop)))) : Env := { tis := tisT, fns := fnsT, tys := tysT, gls := [], rts := rtsT, unk := [], nxt := [], calls := hyper_Hyper_Input.calls, ifc := noIfc, cuts := cuts, ret := hyper_Hyper_Input.ret Q, rets := [.tmp 6, .tmp 7], n := 38 }

theorem hyper_Hyper_Input.callsOK {W0 : World} : CallsOK sg W0 hyper_Hyper_Input.calls := ⟨hyper_Hyper_none.S, hyper_Hyper_of.S, trivial⟩

theorem hyper_Hyper_Input.e : ∀ (a1 : Option Ptr) (a2 : Int) (a3 : Sl) (Q : Int → Int → Heap → Prop) (h : Heap), hyper_Hyper_Input a1 a2 a3 Q h = pts (hyper_Hyper_Input.E Q []) 3000 true [.code hyper_Hyper_Input.code] (frOf 0 [.ptr a1, .int .i64 a2, .sl a3]) h := by
  intros; kernel_rfl

theorem hyper_Hyper_Input.S {W0 : World} : FnS sg W0 317 hyper_Hyper_Input.C := by
  intro vs κ h wv hx w s
  unfold hyper_Hyper_Input.C at hx
  split at hx
  · rename_i a1 a2 a3
    refine postImp (ret := hyper_Hyper_Input.ret (fun r1 r2 h => κ (.tup [.int .i64 r1, .int .i64 r2]) h)) (fun v h hr => by unfold hyper_Hyper_Input.ret at hr; split at hr; exact hr; exact hr.elim) ?_
    exact calls_of_pts (E := hyper_Hyper_Input.E (fun r1 r2 h => κ (.tup [.int .i64 r1, .int .i64 r2]) h) []) (envOK seatOK hyper_Hyper_Input.callsOK noIfc_ok) seatOK.mixed hyper_Hyper_Input.fun (Nat.le_of_ble_eq_true rfl) wv (cutL_ok trivial) s (fuel := 3000) (by rw [← hyper_Hyper_Input.e]; exact hx)
  · exact hx.elim

noncomputable def hyper_Hyper_Regs.code : Code := Go.Proofs.Tryz.f7.body.getD .skip

theorem hyper_Hyper_Regs.fun : Fun sg.P 7 29 [.cell 6 51, .tmp 7] hyper_Hyper_Regs.code := mkFun Go.Proofs.Tryz.func7 (by kernel_rfl) (by kernel_rfl) (by kernel_rfl) (by kernel_rfl)

def hyper_Hyper_Regs.ret (Q : (List V) → Bool → Heap → Prop) (v : V) (h : Heap) : Prop :=
  match v with
  | .tup [.ago r1, .bool r2] => Q r1 r2 h
  | _ => False

def hyper_Hyper_Regs.C (vs : List V) (κ : V → Heap → Prop) (h : Heap) : Prop :=
  match vs with
  | [.ptr a1, .int .i64 a2, .int .i64 a3] => hyper_Hyper_Regs a1 a2 a3 (fun r1 r2 h => κ (.tup [.ago r1, .bool r2]) h) h
  | _ => False

noncomputable def hyper_Hyper_Regs.calls : List (Nat × (List V → (V → Heap → Prop) → Heap → Prop)) := [(316, hyper_Hyper_of.C)]

noncomputable def hyper_Hyper_Regs.E (Q : (List V) → Bool → Heap → Prop) (cuts : List (Nat × (List Nat × (List V → Heap → Prop)))) : Env := { tis := tisT, fns := fnsT, tys := tysT, gls := [], rts := rtsT, unk := [], nxt := [], calls := hyper_Hyper_Regs.calls, ifc := noIfc, cuts := cuts, ret := hyper_Hyper_Regs.ret Q, rets := [.cell 6 51, .tmp 7], n := 29 }

theorem hyper_Hyper_Regs.callsOK {W0 : World} : CallsOK sg W0 hyper_Hyper_Regs.calls := ⟨hyper_Hyper_of.S, trivial⟩

theorem hyper_Hyper_Regs.e : ∀ (a1 : Option Ptr) (a2 : Int) (a3 : Int) (Q : (List V) → Bool → Heap → Prop) (h : Heap), hyper_Hyper_Regs a1 a2 a3 Q h = pts (hyper_Hyper_Regs.E Q []) 3000 true [.code hyper_Hyper_Regs.code] (frOf 0 [.ptr a1, .int .i64 a2, .int .i64 a3]) h := by
  intros; kernel_rfl

theorem hyper_Hyper_Regs.S {W0 : World} : FnS sg W0 318 hyper_Hyper_Regs.C := by
  intro vs κ h wv hx w s
  unfold hyper_Hyper_Regs.C at hx
  split at hx
  · rename_i a1 a2 a3
    refine postImp (ret := hyper_Hyper_Regs.ret (fun r1 r2 h => κ (.tup [.ago r1, .bool r2]) h)) (fun v h hr => by unfold hyper_Hyper_Regs.ret at hr; split at hr; exact hr; exact hr.elim) ?_
    exact calls_of_pts (E := hyper_Hyper_Regs.E (fun r1 r2 h => κ (.tup [.ago r1, .bool r2]) h) []) (envOK seatOK hyper_Hyper_Regs.callsOK noIfc_ok) seatOK.mixed hyper_Hyper_Regs.fun (Nat.le_of_ble_eq_true rfl) wv (cutL_ok trivial) s (fuel := 3000) (by rw [← hyper_Hyper_Regs.e]; exact hx)
  · exact hx.elim

noncomputable def hyper_Hyper_State.code : Code := Go.Proofs.Tryz.f8.body.getD .skip

theorem hyper_Hyper_State.fun : Fun sg.P 8 35 [.tmp 6, .tmp 7] hyper_Hyper_State.code := mkFun Go.Proofs.Tryz.func8 (by kernel_rfl) (by kernel_rfl) (by kernel_rfl) (by kernel_rfl)

def hyper_Hyper_State.ret (Q : Int → Bool → Heap → Prop) (v : V) (h : Heap) : Prop :=
  match v with
  | .tup [.int .i64 r1, .bool r2] => Q r1 r2 h
  | _ => False

def hyper_Hyper_State.C (vs : List V) (κ : V → Heap → Prop) (h : Heap) : Prop :=
  match vs with
  | [.ptr a1, .int .i64 a2, .int .i64 a3] => hyper_Hyper_State a1 a2 a3 (fun r1 r2 h => κ (.tup [.int .i64 r1, .bool r2]) h) h
  | _ => False

noncomputable def hyper_Hyper_State.calls : List (Nat × (List V → (V → Heap → Prop) → Heap → Prop)) := [(316, hyper_Hyper_of.C)]

noncomputable def hyper_Hyper_State.E (Q : Int → Bool → Heap → Prop) (cuts : List (Nat × (List Nat × (List V → Heap → Prop)))) : Env := { tis := tisT, fns := fnsT, tys := tysT, gls := [], rts := rtsT, unk := [], nxt := [], calls := hyper_Hyper_State.calls, ifc := noIfc, cuts := cuts, ret := hyper_Hyper_State.ret Q, rets := [.tmp 6, .tmp 7], n := 35 }

theorem hyper_Hyper_State.callsOK {W0 : World} : CallsOK sg W0 hyper_Hyper_State.calls := ⟨hyper_Hyper_of.S, trivial⟩

theorem hyper_Hyper_State.e : ∀ (a1 : Option Ptr) (a2 : Int) (a3 : Int) (Q : Int → Bool → Heap → Prop) (h : Heap), hyper_Hyper_State a1 a2 a3 Q h = pts (hyper_Hyper_State.E Q []) 3000 true [.code hyper_Hyper_State.code] (frOf 0 [.ptr a1, .int .i64 a2, .int .i64 a3]) h := by
  intros; kernel_rfl

theorem hyper_Hyper_State.S {W0 : World} : FnS sg W0 319 hyper_Hyper_State.C := by
  intro vs κ h wv hx w s
  unfold hyper_Hyper_State.C at hx
  split at hx
  · rename_i a1 a2 a3
    refine postImp (ret := hyper_Hyper_State.ret (fun r1 r2 h => κ (.tup [.int .i64 r1, .bool r2]) h)) (fun v h hr => by unfold hyper_Hyper_State.ret at hr; split at hr; exact hr; exact hr.elim) ?_
    exact calls_of_pts (E := hyper_Hyper_State.E (fun r1 r2 h => κ (.tup [.int .i64 r1, .bool r2]) h) []) (envOK seatOK hyper_Hyper_State.callsOK noIfc_ok) seatOK.mixed hyper_Hyper_State.fun (Nat.le_of_ble_eq_true rfl) wv (cutL_ok trivial) s (fuel := 3000) (by rw [← hyper_Hyper_State.e]; exact hx)
  · exact hx.elim

noncomputable def hyper_Hyper_Page.code : Code := Go.Proofs.Tryz.f9.body.getD .skip

theorem hyper_Hyper_Page.fun : Fun sg.P 9 50 [.tmp 6, .tmp 7, .tmp 8] hyper_Hyper_Page.code := mkFun Go.Proofs.Tryz.func9 (by kernel_rfl) (by kernel_rfl) (by kernel_rfl) (by kernel_rfl)

def hyper_Hyper_Page.ret (Q : Sl → Int → Bool → Heap → Prop) (v : V) (h : Heap) : Prop :=
  match v with
  | .tup [.sl r1, .int .i64 r2, .bool r3] => Q r1 r2 r3 h
  | _ => False

def hyper_Hyper_Page.C (vs : List V) (κ : V → Heap → Prop) (h : Heap) : Prop :=
  match vs with
  | [.ptr a1, .int .i64 a2, .int .i64 a3] => hyper_Hyper_Page a1 a2 a3 (fun r1 r2 r3 h => κ (.tup [.sl r1, .int .i64 r2, .bool r3]) h) h
  | _ => False

noncomputable def hyper_Hyper_Page.calls : List (Nat × (List V → (V → Heap → Prop) → Heap → Prop)) := [(316, hyper_Hyper_of.C)]

noncomputable def hyper_Hyper_Page.E (Q : Sl → Int → Bool → Heap → Prop) (cuts : List (Nat × (List Nat × (List V → Heap → Prop)))) : Env := { tis := tisT, fns := fnsT, tys := tysT, gls := [], rts := rtsT, unk := [], nxt := [], calls := hyper_Hyper_Page.calls, ifc := noIfc, cuts := cuts, ret := hyper_Hyper_Page.ret Q, rets := [.tmp 6, .tmp 7, .tmp 8], n := 50 }

theorem hyper_Hyper_Page.callsOK {W0 : World} : CallsOK sg W0 hyper_Hyper_Page.calls := ⟨hyper_Hyper_of.S, trivial⟩

theorem hyper_Hyper_Page.e : ∀ (a1 : Option Ptr) (a2 : Int) (a3 : Int) (Q : Sl → Int → Bool → Heap → Prop) (h : Heap), hyper_Hyper_Page a1 a2 a3 Q h = pts (hyper_Hyper_Page.E Q []) 3000 true [.code hyper_Hyper_Page.code] (frOf 0 [.ptr a1, .int .i64 a2, .int .i64 a3]) h := by
  intros; kernel_rfl

theorem hyper_Hyper_Page.S {W0 : World} : FnS sg W0 320 hyper_Hyper_Page.C := by
  intro vs κ h wv hx w s
  unfold hyper_Hyper_Page.C at hx
  split at hx
  · rename_i a1 a2 a3
    refine postImp (ret := hyper_Hyper_Page.ret (fun r1 r2 r3 h => κ (.tup [.sl r1, .int .i64 r2, .bool r3]) h)) (fun v h hr => by unfold hyper_Hyper_Page.ret at hr; split at hr; exact hr; exact hr.elim) ?_
    exact calls_of_pts (E := hyper_Hyper_Page.E (fun r1 r2 r3 h => κ (.tup [.sl r1, .int .i64 r2, .bool r3]) h) []) (envOK seatOK hyper_Hyper_Page.callsOK noIfc_ok) seatOK.mixed hyper_Hyper_Page.fun (Nat.le_of_ble_eq_true rfl) wv (cutL_ok trivial) s (fuel := 3000) (by rw [← hyper_Hyper_Page.e]; exact hx)
  · exact hx.elim

noncomputable def hyper_Hyper_Destroy.code : Code := Go.Proofs.Tryz.f10.body.getD .skip

theorem hyper_Hyper_Destroy.fun : Fun sg.P 10 106 [.tmp 4] hyper_Hyper_Destroy.code := mkFun Go.Proofs.Tryz.func10 (by kernel_rfl) (by kernel_rfl) (by kernel_rfl) (by kernel_rfl)

def hyper_Hyper_Destroy.ret (Q : Int → Heap → Prop) (v : V) (h : Heap) : Prop :=
  match v with
  | .int .i64 r1 => Q r1 h
  | _ => False

def hyper_Hyper_Destroy.C (vs : List V) (κ : V → Heap → Prop) (h : Heap) : Prop :=
  match vs with
  | [.ptr a1, .int .i64 a2] => hyper_Hyper_Destroy a1 a2 (fun r1 h => κ (.int .i64 r1) h) h
  | _ => False

noncomputable def hyper_Hyper_Destroy.calls : List (Nat × (List V → (V → Heap → Prop) → Heap → Prop)) := [(313, hyper_Hyper_none.C)]

noncomputable def hyper_Hyper_Destroy.E (Q : Int → Heap → Prop) (cuts : List (Nat × (List Nat × (List V → Heap → Prop)))) : Env := { tis := tisT, fns := fnsT, tys := tysT, gls := [], rts := rtsT, unk := [], nxt := [], calls := hyper_Hyper_Destroy.calls, ifc := noIfc, cuts := cuts, ret := hyper_Hyper_Destroy.ret Q, rets := [.tmp 4], n := 106 }

theorem hyper_Hyper_Destroy.callsOK {W0 : World} : CallsOK sg W0 hyper_Hyper_Destroy.calls := ⟨hyper_Hyper_none.S, trivial⟩

theorem hyper_Hyper_Destroy.e : ∀ (a1 : Option Ptr) (a2 : Int) (Q : Int → Heap → Prop) (h : Heap), hyper_Hyper_Destroy a1 a2 Q h = pts (hyper_Hyper_Destroy.E Q []) 3000 true [.code hyper_Hyper_Destroy.code] (frOf 0 [.ptr a1, .int .i64 a2]) h := by
  intros; kernel_rfl

theorem hyper_Hyper_Destroy.S {W0 : World} : FnS sg W0 321 hyper_Hyper_Destroy.C := by
  intro vs κ h wv hx w s
  unfold hyper_Hyper_Destroy.C at hx
  split at hx
  · rename_i a1 a2
    refine postImp (ret := hyper_Hyper_Destroy.ret (fun r1 h => κ (.int .i64 r1) h)) (fun v h hr => by unfold hyper_Hyper_Destroy.ret at hr; split at hr; exact hr; exact hr.elim) ?_
    exact calls_of_pts (E := hyper_Hyper_Destroy.E (fun r1 h => κ (.int .i64 r1) h) []) (envOK seatOK hyper_Hyper_Destroy.callsOK noIfc_ok) seatOK.mixed hyper_Hyper_Destroy.fun (Nat.le_of_ble_eq_true rfl) wv (cutL_ok trivial) s (fuel := 3000) (by rw [← hyper_Hyper_Destroy.e]; exact hx)
  · exact hx.elim

noncomputable def hyper_Hyper_Tick.code : Code := Go.Proofs.Tryz.f11.body.getD .skip

theorem hyper_Hyper_Tick.fun : Fun sg.P 11 83 [.tmp 4] hyper_Hyper_Tick.code := mkFun Go.Proofs.Tryz.func11 (by kernel_rfl) (by kernel_rfl) (by kernel_rfl) (by kernel_rfl)

def hyper_Hyper_Tick.ret (Q : Int → Heap → Prop) (v : V) (h : Heap) : Prop :=
  match v with
  | .int .i64 r1 => Q r1 h
  | _ => False

def hyper_Hyper_Tick.C (vs : List V) (κ : V → Heap → Prop) (h : Heap) : Prop :=
  match vs with
  | [.ptr a1, .int .i64 a2] => hyper_Hyper_Tick a1 a2 (fun r1 h => κ (.int .i64 r1) h) h
  | _ => False

noncomputable def hyper_Hyper_Tick.calls : List (Nat × (List V → (V → Heap → Prop) → Heap → Prop)) := [(313, hyper_Hyper_none.C)]

noncomputable def hyper_Hyper_Tick.E (Q : Int → Heap → Prop) (cuts : List (Nat × (List Nat × (List V → Heap → Prop)))) : Env := { tis := tisT, fns := fnsT, tys := tysT, gls := [], rts := rtsT, unk := [], nxt := [], calls := hyper_Hyper_Tick.calls, ifc := noIfc, cuts := cuts, ret := hyper_Hyper_Tick.ret Q, rets := [.tmp 4], n := 83 }

theorem hyper_Hyper_Tick.callsOK {W0 : World} : CallsOK sg W0 hyper_Hyper_Tick.calls := ⟨hyper_Hyper_none.S, trivial⟩

def hyper_Hyper_Tick.k4 (I : Heap → Prop) (vs : List V) (h : Heap) : Prop :=
  match vs with
  | [] => I  h
  | _ => False

def hyper_Hyper_Tick.k7 (I : (Option Ptr) → Int → Int → Heap → Prop) (vs : List V) (h : Heap) : Prop :=
  match vs with
  | [.ptr a1, .int .i64 a2, .int .u64 a3] => I a1 a2 a3 h
  | _ => False

theorem hyper_Hyper_Tick.p4 : (posC hyper_Hyper_Tick.code []).filter (fun p => Nat.beq p.1 4) = [(4, atPos (posC hyper_Hyper_Tick.code []) 4)] := by kernel_rfl

theorem hyper_Hyper_Tick.e4 : ∀   (Q : Int → Heap → Prop) (h : Heap), hyper_Hyper_Tick.j4   Q h = pts (hyper_Hyper_Tick.E Q []) 3000 true (atPos (posC hyper_Hyper_Tick.code []) 4) (frAt [] []) h := by
  intros; kernel_rfl

theorem hyper_Hyper_Tick.s4 {W0 : World} (Q : Int → Heap → Prop)   : CutOK sg W0 83 (entered 11) (Post sg W0 (hyper_Hyper_Tick.ret Q)) (posC hyper_Hyper_Tick.code []) 4 [] (hyper_Hyper_Tick.k4 (fun  h => hyper_Hyper_Tick.j4   Q h)) := by
  refine cutOK_head (fun vs h hk => ?_)
  unfold hyper_Hyper_Tick.k4 at hk
  split at hk
  · skip
    intro todo hm ρ a w s f hp
    exact piece (E := hyper_Hyper_Tick.E Q []) (vs := []) (envOK seatOK hyper_Hyper_Tick.callsOK noIfc_ok) (fnOK seatOK hyper_Hyper_Tick.fun) trivial hyper_Hyper_Tick.p4 (fuel := 3000) (by rw [← hyper_Hyper_Tick.e4]; exact hk) hm s f hp
  · exact hk.elim

theorem hyper_Hyper_Tick.p7 : (posC hyper_Hyper_Tick.code []).filter (fun p => Nat.beq p.1 7) = [(7, atPos (posC hyper_Hyper_Tick.code []) 7)] := by kernel_rfl

theorem hyper_Hyper_Tick.e7 : ∀  (a1 : Option Ptr) (a2 : Int) (a3 : Int) (Q : Int → Heap → Prop) (h : Heap), hyper_Hyper_Tick.j7  a1 a2 a3 Q h = pts (hyper_Hyper_Tick.E Q []) 3000 true (atPos (posC hyper_Hyper_Tick.code []) 7) (frAt [0, 1, 5] [.ptr a1, .int .i64 a2, .int .u64 a3]) h := by
  intros; kernel_rfl

theorem hyper_Hyper_Tick.s7 {W0 : World} (Q : Int → Heap → Prop)   : CutOK sg W0 83 (entered 11) (Post sg W0 (hyper_Hyper_Tick.ret Q)) (posC hyper_Hyper_Tick.code []) 7 [0, 1, 5] (hyper_Hyper_Tick.k7 (fun a1 a2 a3 h => hyper_Hyper_Tick.j7  a1 a2 a3 Q h)) := by
  refine cutOK_head (fun vs h hk => ?_)
  unfold hyper_Hyper_Tick.k7 at hk
  split at hk
  · rename_i a1 a2 a3
    intro todo hm ρ a w s f hp
    exact piece (E := hyper_Hyper_Tick.E Q []) (vs := [.ptr a1, .int .i64 a2, .int .u64 a3]) (envOK seatOK hyper_Hyper_Tick.callsOK noIfc_ok) (fnOK seatOK hyper_Hyper_Tick.fun) trivial hyper_Hyper_Tick.p7 (fuel := 3000) (by rw [← hyper_Hyper_Tick.e7]; exact hk) hm s f hp
  · exact hk.elim

theorem hyper_Hyper_Tick.e : ∀ (a1 : Option Ptr) (a2 : Int) (Q : Int → Heap → Prop) (h : Heap), hyper_Hyper_Tick a1 a2 Q h = pts (hyper_Hyper_Tick.E Q [(4, ([], hyper_Hyper_Tick.k4 (fun  h => hyper_Hyper_Tick.j4   Q h))), (7, ([0, 1, 5], hyper_Hyper_Tick.k7 (fun a1 a2 a3 h => hyper_Hyper_Tick.j7  a1 a2 a3 Q h)))]) 3000 true [.code hyper_Hyper_Tick.code] (frOf 0 [.ptr a1, .int .i64 a2]) h := by
  intros; kernel_rfl

theorem hyper_Hyper_Tick.S {W0 : World} : FnS sg W0 322 hyper_Hyper_Tick.C := by
  intro vs κ h wv hx w s
  unfold hyper_Hyper_Tick.C at hx
  split at hx
  · rename_i a1 a2
    refine postImp (ret := hyper_Hyper_Tick.ret (fun r1 h => κ (.int .i64 r1) h)) (fun v h hr => by unfold hyper_Hyper_Tick.ret at hr; split at hr; exact hr; exact hr.elim) ?_
    exact calls_of_pts (E := hyper_Hyper_Tick.E (fun r1 h => κ (.int .i64 r1) h) [(4, ([], hyper_Hyper_Tick.k4 (fun  h => hyper_Hyper_Tick.j4   (fun r1 h => κ (.int .i64 r1) h) h))), (7, ([0, 1, 5], hyper_Hyper_Tick.k7 (fun a1 a2 a3 h => hyper_Hyper_Tick.j7  a1 a2 a3 (fun r1 h => κ (.int .i64 r1) h) h)))]) (envOK seatOK hyper_Hyper_Tick.callsOK noIfc_ok) seatOK.mixed hyper_Hyper_Tick.fun (Nat.le_of_ble_eq_true rfl) wv (cutL_ok ⟨(hyper_Hyper_Tick.s4 (fun r1 h => κ (.int .i64 r1) h)), (hyper_Hyper_Tick.s7 (fun r1 h => κ (.int .i64 r1) h)), trivial⟩) s (fuel := 3000) (by rw [← hyper_Hyper_Tick.e]; exact hx)
  · exact hx.elim

noncomputable def hyper_Hyper_Complete.code : Code := Go.Proofs.Tryz.f12.body.getD .skip

theorem hyper_Hyper_Complete.fun : Fun sg.P 12 60 [.tmp 4] hyper_Hyper_Complete.code := mkFun Go.Proofs.Tryz.func12 (by kernel_rfl) (by kernel_rfl) (by kernel_rfl) (by kernel_rfl)

def hyper_Hyper_Complete.ret (Q : Int → Heap → Prop) (v : V) (h : Heap) : Prop :=
  match v with
  | .int .i64 r1 => Q r1 h
  | _ => False

def hyper_Hyper_Complete.C (vs : List V) (κ : V → Heap → Prop) (h : Heap) : Prop :=
  match vs with
  | [.ptr a1, .int .i64 a2] => hyper_Hyper_Complete a1 a2 (fun r1 h => κ (.int .i64 r1) h) h
  | _ => False

noncomputable def hyper_Hyper_Complete.calls : List (Nat × (List V → (V → Heap → Prop) → Heap → Prop)) := [(313, hyper_Hyper_none.C)]

noncomputable def hyper_Hyper_Complete.E (Q : Int → Heap → Prop) (cuts : List (Nat × (List Nat × (List V → Heap → Prop)))) : Env := { tis := tisT, fns := fnsT, tys := tysT, gls := [], rts := rtsT, unk := [], nxt := [], calls := hyper_Hyper_Complete.calls, ifc := noIfc, cuts := cuts, ret := hyper_Hyper_Complete.ret Q, rets := [.tmp 4], n := 60 }

theorem hyper_Hyper_Complete.callsOK {W0 : World} : CallsOK sg W0 hyper_Hyper_Complete.calls := ⟨hyper_Hyper_none.S, trivial⟩

theorem hyper_Hyper_Complete.e : ∀ (a1 : Option Ptr) (a2 : Int) (Q : Int → Heap → Prop) (h : Heap), hyper_Hyper_Complete a1 a2 Q h = pts (hyper_Hyper_Complete.E Q []) 3000 true [.code hyper_Hyper_Complete.code] (frOf 0 [.ptr a1, .int .i64 a2]) h := by
  intros; kernel_rfl

theorem hyper_Hyper_Complete.S {W0 : World} : FnS sg W0 323 hyper_Hyper_Complete.C := by
  intro vs κ h wv hx w s
  unfold hyper_Hyper_Complete.C at hx
  split at hx
  · rename_i a1 a2
    refine postImp (ret := hyper_Hyper_Complete.ret (fun r1 h => κ (.int .i64 r1) h)) (fun v h hr => by unfold hyper_Hyper_Complete.ret at hr; split at hr; exact hr; exact hr.elim) ?_
    exact calls_of_pts (E := hyper_Hyper_Complete.E (fun r1 h => κ (.int .i64 r1) h) []) (envOK seatOK hyper_Hyper_Complete.callsOK noIfc_ok) seatOK.mixed hyper_Hyper_Complete.fun (Nat.le_of_ble_eq_true rfl) wv (cutL_ok trivial) s (fuel := 3000) (by rw [← hyper_Hyper_Complete.e]; exact hx)
  · exact hx.elim

noncomputable def hyper_Hyper_Inject.code : Code := Go.Proofs.Tryz.f13.body.getD .skip

theorem hyper_Hyper_Inject.fun : Fun sg.P 13 35 [.tmp 6] hyper_Hyper_Inject.code := mkFun Go.Proofs.Tryz.func13 (by kernel_rfl) (by kernel_rfl) (by kernel_rfl) (by kernel_rfl)

def hyper_Hyper_Inject.ret (Q : Int → Heap → Prop) (v : V) (h : Heap) : Prop :=
  match v with
  | .int .i64 r1 => Q r1 h
  | _ => False

def hyper_Hyper_Inject.C (vs : List V) (κ : V → Heap → Prop) (h : Heap) : Prop :=
  match vs with
  | [.ptr a1, .int .i64 a2, .sl a3] => hyper_Hyper_Inject a1 a2 a3 (fun r1 h => κ (.int .i64 r1) h) h
  | _ => False

noncomputable def hyper_Hyper_Inject.calls : List (Nat × (List V → (V → Heap → Prop) → Heap → Prop)) := [(313, hyper_Hyper_none.C), (316, hyper_Hyper_of.C)]

noncomputable def hyper_Hyper_Inject.E (Q : Int → Heap → Prop) (cuts : List (Nat × (List Nat × (List V → Heap → Prop)))) : Env := { tis := tisT, fns := fnsT, tys := tysT, gls := [], rts := rtsT, unk := [], nxt := [], calls := hyper_Hyper_Inject.calls, ifc := noIfc, cuts := cuts, ret := hyper_Hyper_Inject.ret Q, rets := [.tmp 6], n := 35 }

theorem hyper_Hyper_Inject.callsOK {W0 : World} : CallsOK sg W0 hyper_Hyper_Inject.calls := ⟨hyper_Hyper_none.S, hyper_Hyper_of.S, trivial⟩

theorem hyper_Hyper_Inject.e : ∀ (a1 : Option Ptr) (a2 : Int) (a3 : Sl) (Q : Int → Heap → Prop) (h : Heap), hyper_Hyper_Inject a1 a2 a3 Q h = pts (hyper_Hyper_Inject.E Q []) 3000 true [.code hyper_Hyper_Inject.code] (frOf 0 [.ptr a1, .int .i64 a2, .sl a3]) h := by
  intros; kernel_rfl

theorem hyper_Hyper_Inject.S {W0 : World} : FnS sg W0 324 hyper_Hyper_Inject.C := by
  intro vs κ h wv hx w s
  unfold hyper_Hyper_Inject.C at hx
  split at hx
  · rename_i a1 a2 a3
    refine postImp (ret := hyper_Hyper_Inject.ret (fun r1 h => κ (.int .i64 r1) h)) (fun v h hr => by unfold hyper_Hyper_Inject.ret at hr; split at hr; exact hr; exact hr.elim) ?_
    exact calls_of_pts (E := hyper_Hyper_Inject.E (fun r1 h => κ (.int .i64 r1) h) []) (envOK seatOK hyper_Hyper_Inject.callsOK noIfc_ok) seatOK.mixed hyper_Hyper_Inject.fun (Nat.le_of_ble_eq_true rfl) wv (cutL_ok trivial) s (fuel := 3000) (by rw [← hyper_Hyper_Inject.e]; exact hx)
  · exact hx.elim

noncomputable def hyper_Hyper_Console.code : Code := Go.Proofs.Tryz.f14.body.getD .skip

theorem hyper_Hyper_Console.fun : Fun sg.P 14 19 [.tmp 4] hyper_Hyper_Console.code := mkFun Go.Proofs.Tryz.func14 (by kernel_rfl) (by kernel_rfl) (by kernel_rfl) (by kernel_rfl)

def hyper_Hyper_Console.ret (Q : (Option Ptr) → Heap → Prop) (v : V) (h : Heap) : Prop :=
  match v with
  | .ptr r1 => Q r1 h
  | _ => False

def hyper_Hyper_Console.C (vs : List V) (κ : V → Heap → Prop) (h : Heap) : Prop :=
  match vs with
  | [.ptr a1, .int .i64 a2] => hyper_Hyper_Console a1 a2 (fun r1 h => κ (.ptr r1) h) h
  | _ => False

noncomputable def hyper_Hyper_Console.calls : List (Nat × (List V → (V → Heap → Prop) → Heap → Prop)) := [(316, hyper_Hyper_of.C)]

noncomputable def hyper_Hyper_Console.E (Q : (Option Ptr) → Heap → Prop) (cuts : List (Nat × (List Nat × (List V → Heap → Prop)))) : Env := { tis := tisT, fns := fnsT, tys := tysT, gls := [], rts := rtsT, unk := [], nxt := [], calls := hyper_Hyper_Console.calls, ifc := noIfc, cuts := cuts, ret := hyper_Hyper_Console.ret Q, rets := [.tmp 4], n := 19 }

theorem hyper_Hyper_Console.callsOK {W0 : World} : CallsOK sg W0 hyper_Hyper_Console.calls := ⟨hyper_Hyper_of.S, trivial⟩

theorem hyper_Hyper_Console.e : ∀ (a1 : Option Ptr) (a2 : Int) (Q : (Option Ptr) → Heap → Prop) (h : Heap), hyper_Hyper_Console a1 a2 Q h = pts (hyper_Hyper_Console.E Q []) 3000 true [.code hyper_Hyper_Console.code] (frOf 0 [.ptr a1, .int .i64 a2]) h := by
  intros; kernel_rfl

theorem hyper_Hyper_Console.S {W0 : World} : FnS sg W0 325 hyper_Hyper_Console.C := by
  intro vs κ h wv hx w s
  unfold hyper_Hyper_Console.C at hx
  split at hx
  · rename_i a1 a2
    refine postImp (ret := hyper_Hyper_Console.ret (fun r1 h => κ (.ptr r1) h)) (fun v h hr => by unfold hyper_Hyper_Console.ret at hr; split at hr; exact hr; exact hr.elim) ?_
    exact calls_of_pts (E := hyper_Hyper_Console.E (fun r1 h => κ (.ptr r1) h) []) (envOK seatOK hyper_Hyper_Console.callsOK noIfc_ok) seatOK.mixed hyper_Hyper_Console.fun (Nat.le_of_ble_eq_true rfl) wv (cutL_ok trivial) s (fuel := 3000) (by rw [← hyper_Hyper_Console.e]; exact hx)
  · exact hx.elim

noncomputable def hyper_Hyper_Machine.code : Code := Go.Proofs.Tryz.f15.body.getD .skip

theorem hyper_Hyper_Machine.fun : Fun sg.P 15 9 [.tmp 2] hyper_Hyper_Machine.code := mkFun Go.Proofs.Tryz.func15 (by kernel_rfl) (by kernel_rfl) (by kernel_rfl) (by kernel_rfl)

def hyper_Hyper_Machine.ret (Q : (Option Ptr) → Heap → Prop) (v : V) (h : Heap) : Prop :=
  match v with
  | .ptr r1 => Q r1 h
  | _ => False

def hyper_Hyper_Machine.C (vs : List V) (κ : V → Heap → Prop) (h : Heap) : Prop :=
  match vs with
  | [.ptr a1] => hyper_Hyper_Machine a1 (fun r1 h => κ (.ptr r1) h) h
  | _ => False

noncomputable def hyper_Hyper_Machine.calls : List (Nat × (List V → (V → Heap → Prop) → Heap → Prop)) := [(313, hyper_Hyper_none.C)]

noncomputable def hyper_Hyper_Machine.E (Q : (Option Ptr) → Heap → Prop) (cuts : List (Nat × (List Nat × (List V → Heap → Prop)))) : Env := { tis := tisT, fns := fnsT, tys := tysT, gls := [], rts := rtsT, unk := [], nxt := [], calls := hyper_Hyper_Machine.calls, ifc := noIfc, cuts := cuts, ret := hyper_Hyper_Machine.ret Q, rets := [.tmp 2], n := 9 }

theorem hyper_Hyper_Machine.callsOK {W0 : World} : CallsOK sg W0 hyper_Hyper_Machine.calls := ⟨hyper_Hyper_none.S, trivial⟩

theorem hyper_Hyper_Machine.e : ∀ (a1 : Option Ptr) (Q : (Option Ptr) → Heap → Prop) (h : Heap), hyper_Hyper_Machine a1 Q h = pts (hyper_Hyper_Machine.E Q []) 3000 true [.code hyper_Hyper_Machine.code] (frOf 0 [.ptr a1]) h := by
  intros; kernel_rfl

theorem hyper_Hyper_Machine.S {W0 : World} : FnS sg W0 326 hyper_Hyper_Machine.C := by
  intro vs κ h wv hx w s
  unfold hyper_Hyper_Machine.C at hx
  split at hx
  · rename_i a1
    refine postImp (ret := hyper_Hyper_Machine.ret (fun r1 h => κ (.ptr r1) h)) (fun v h hr => by unfold hyper_Hyper_Machine.ret at hr; split at hr; exact hr; exact hr.elim) ?_
    exact calls_of_pts (E := hyper_Hyper_Machine.E (fun r1 h => κ (.ptr r1) h) []) (envOK seatOK hyper_Hyper_Machine.callsOK noIfc_ok) seatOK.mixed hyper_Hyper_Machine.fun (Nat.le_of_ble_eq_true rfl) wv (cutL_ok trivial) s (fuel := 3000) (by rw [← hyper_Hyper_Machine.e]; exact hx)
  · exact hx.elim

noncomputable def hyper_Hyper_Frames.code : Code := Go.Proofs.Tryz.f16.body.getD .skip

theorem hyper_Hyper_Frames.fun : Fun sg.P 16 9 [.tmp 2] hyper_Hyper_Frames.code := mkFun Go.Proofs.Tryz.func16 (by kernel_rfl) (by kernel_rfl) (by kernel_rfl) (by kernel_rfl)

def hyper_Hyper_Frames.ret (Q : (Option Ptr) → Heap → Prop) (v : V) (h : Heap) : Prop :=
  match v with
  | .ptr r1 => Q r1 h
  | _ => False

def hyper_Hyper_Frames.C (vs : List V) (κ : V → Heap → Prop) (h : Heap) : Prop :=
  match vs with
  | [.ptr a1] => hyper_Hyper_Frames a1 (fun r1 h => κ (.ptr r1) h) h
  | _ => False

noncomputable def hyper_Hyper_Frames.calls : List (Nat × (List V → (V → Heap → Prop) → Heap → Prop)) := [(313, hyper_Hyper_none.C)]

noncomputable def hyper_Hyper_Frames.E (Q : (Option Ptr) → Heap → Prop) (cuts : List (Nat × (List Nat × (List V → Heap → Prop)))) : Env := { tis := tisT, fns := fnsT, tys := tysT, gls := [], rts := rtsT, unk := [], nxt := [], calls := hyper_Hyper_Frames.calls, ifc := noIfc, cuts := cuts, ret := hyper_Hyper_Frames.ret Q, rets := [.tmp 2], n := 9 }

theorem hyper_Hyper_Frames.callsOK {W0 : World} : CallsOK sg W0 hyper_Hyper_Frames.calls := ⟨hyper_Hyper_none.S, trivial⟩

theorem hyper_Hyper_Frames.e : ∀ (a1 : Option Ptr) (Q : (Option Ptr) → Heap → Prop) (h : Heap), hyper_Hyper_Frames a1 Q h = pts (hyper_Hyper_Frames.E Q []) 3000 true [.code hyper_Hyper_Frames.code] (frOf 0 [.ptr a1]) h := by
  intros; kernel_rfl

theorem hyper_Hyper_Frames.S {W0 : World} : FnS sg W0 327 hyper_Hyper_Frames.C := by
  intro vs κ h wv hx w s
  unfold hyper_Hyper_Frames.C at hx
  split at hx
  · rename_i a1
    refine postImp (ret := hyper_Hyper_Frames.ret (fun r1 h => κ (.ptr r1) h)) (fun v h hr => by unfold hyper_Hyper_Frames.ret at hr; split at hr; exact hr; exact hr.elim) ?_
    exact calls_of_pts (E := hyper_Hyper_Frames.E (fun r1 h => κ (.ptr r1) h) []) (envOK seatOK hyper_Hyper_Frames.callsOK noIfc_ok) seatOK.mixed hyper_Hyper_Frames.fun (Nat.le_of_ble_eq_true rfl) wv (cutL_ok trivial) s (fuel := 3000) (by rw [← hyper_Hyper_Frames.e]; exact hx)
  · exact hx.elim

noncomputable def hyper_Hyper_Disk.code : Code := Go.Proofs.Tryz.f17.body.getD .skip

theorem hyper_Hyper_Disk.fun : Fun sg.P 17 9 [.tmp 2] hyper_Hyper_Disk.code := mkFun Go.Proofs.Tryz.func17 (by kernel_rfl) (by kernel_rfl) (by kernel_rfl) (by kernel_rfl)

def hyper_Hyper_Disk.ret (Q : (Option Ptr) → Heap → Prop) (v : V) (h : Heap) : Prop :=
  match v with
  | .ptr r1 => Q r1 h
  | _ => False

def hyper_Hyper_Disk.C (vs : List V) (κ : V → Heap → Prop) (h : Heap) : Prop :=
  match vs with
  | [.ptr a1] => hyper_Hyper_Disk a1 (fun r1 h => κ (.ptr r1) h) h
  | _ => False

noncomputable def hyper_Hyper_Disk.calls : List (Nat × (List V → (V → Heap → Prop) → Heap → Prop)) := [(313, hyper_Hyper_none.C)]

noncomputable def hyper_Hyper_Disk.E (Q : (Option Ptr) → Heap → Prop) (cuts : List (Nat × (List Nat × (List V → Heap → Prop)))) : Env := { tis := tisT, fns := fnsT, tys := tysT, gls := [], rts := rtsT, unk := [], nxt := [], calls := hyper_Hyper_Disk.calls, ifc := noIfc, cuts := cuts, ret := hyper_Hyper_Disk.ret Q, rets := [.tmp 2], n := 9 }

theorem hyper_Hyper_Disk.callsOK {W0 : World} : CallsOK sg W0 hyper_Hyper_Disk.calls := ⟨hyper_Hyper_none.S, trivial⟩

theorem hyper_Hyper_Disk.e : ∀ (a1 : Option Ptr) (Q : (Option Ptr) → Heap → Prop) (h : Heap), hyper_Hyper_Disk a1 Q h = pts (hyper_Hyper_Disk.E Q []) 3000 true [.code hyper_Hyper_Disk.code] (frOf 0 [.ptr a1]) h := by
  intros; kernel_rfl

theorem hyper_Hyper_Disk.S {W0 : World} : FnS sg W0 328 hyper_Hyper_Disk.C := by
  intro vs κ h wv hx w s
  unfold hyper_Hyper_Disk.C at hx
  split at hx
  · rename_i a1
    refine postImp (ret := hyper_Hyper_Disk.ret (fun r1 h => κ (.ptr r1) h)) (fun v h hr => by unfold hyper_Hyper_Disk.ret at hr; split at hr; exact hr; exact hr.elim) ?_
    exact calls_of_pts (E := hyper_Hyper_Disk.E (fun r1 h => κ (.ptr r1) h) []) (envOK seatOK hyper_Hyper_Disk.callsOK noIfc_ok) seatOK.mixed hyper_Hyper_Disk.fun (Nat.le_of_ble_eq_true rfl) wv (cutL_ok trivial) s (fuel := 3000) (by rw [← hyper_Hyper_Disk.e]; exact hx)
  · exact hx.elim

noncomputable def hyper_Hyper_Wire.code : Code := Go.Proofs.Tryz.f18.body.getD .skip

theorem hyper_Hyper_Wire.fun : Fun sg.P 18 9 [.tmp 2] hyper_Hyper_Wire.code := mkFun Go.Proofs.Tryz.func18 (by kernel_rfl) (by kernel_rfl) (by kernel_rfl) (by kernel_rfl)

def hyper_Hyper_Wire.ret (Q : (Option Ptr) → Heap → Prop) (v : V) (h : Heap) : Prop :=
  match v with
  | .ptr r1 => Q r1 h
  | _ => False

def hyper_Hyper_Wire.C (vs : List V) (κ : V → Heap → Prop) (h : Heap) : Prop :=
  match vs with
  | [.ptr a1] => hyper_Hyper_Wire a1 (fun r1 h => κ (.ptr r1) h) h
  | _ => False

noncomputable def hyper_Hyper_Wire.calls : List (Nat × (List V → (V → Heap → Prop) → Heap → Prop)) := [(313, hyper_Hyper_none.C)]

noncomputable def hyper_Hyper_Wire.E (Q : (Option Ptr) → Heap → Prop) (cuts : List (Nat × (List Nat × (List V → Heap → Prop)))) : Env := { tis := tisT, fns := fnsT, tys := tysT, gls := [], rts := rtsT, unk := [], nxt := [], calls := hyper_Hyper_Wire.calls, ifc := noIfc, cuts := cuts, ret := hyper_Hyper_Wire.ret Q, rets := [.tmp 2], n := 9 }

theorem hyper_Hyper_Wire.callsOK {W0 : World} : CallsOK sg W0 hyper_Hyper_Wire.calls := ⟨hyper_Hyper_none.S, trivial⟩

theorem hyper_Hyper_Wire.e : ∀ (a1 : Option Ptr) (Q : (Option Ptr) → Heap → Prop) (h : Heap), hyper_Hyper_Wire a1 Q h = pts (hyper_Hyper_Wire.E Q []) 3000 true [.code hyper_Hyper_Wire.code] (frOf 0 [.ptr a1]) h := by
  intros; kernel_rfl

theorem hyper_Hyper_Wire.S {W0 : World} : FnS sg W0 329 hyper_Hyper_Wire.C := by
  intro vs κ h wv hx w s
  unfold hyper_Hyper_Wire.C at hx
  split at hx
  · rename_i a1
    refine postImp (ret := hyper_Hyper_Wire.ret (fun r1 h => κ (.ptr r1) h)) (fun v h hr => by unfold hyper_Hyper_Wire.ret at hr; split at hr; exact hr; exact hr.elim) ?_
    exact calls_of_pts (E := hyper_Hyper_Wire.E (fun r1 h => κ (.ptr r1) h) []) (envOK seatOK hyper_Hyper_Wire.callsOK noIfc_ok) seatOK.mixed hyper_Hyper_Wire.fun (Nat.le_of_ble_eq_true rfl) wv (cutL_ok trivial) s (fuel := 3000) (by rw [← hyper_Hyper_Wire.e]; exact hx)
  · exact hx.elim

noncomputable def hyper_Hyper_Now.code : Code := Go.Proofs.Tryz.f19.body.getD .skip

theorem hyper_Hyper_Now.fun : Fun sg.P 19 9 [.tmp 2] hyper_Hyper_Now.code := mkFun Go.Proofs.Tryz.func19 (by kernel_rfl) (by kernel_rfl) (by kernel_rfl) (by kernel_rfl)

def hyper_Hyper_Now.ret (Q : Int → Heap → Prop) (v : V) (h : Heap) : Prop :=
  match v with
  | .int .u64 r1 => Q r1 h
  | _ => False

def hyper_Hyper_Now.C (vs : List V) (κ : V → Heap → Prop) (h : Heap) : Prop :=
  match vs with
  | [.ptr a1] => hyper_Hyper_Now a1 (fun r1 h => κ (.int .u64 r1) h) h
  | _ => False

noncomputable def hyper_Hyper_Now.calls : List (Nat × (List V → (V → Heap → Prop) → Heap → Prop)) := [(313, hyper_Hyper_none.C)]

noncomputable def hyper_Hyper_Now.E (Q : Int → Heap → Prop) (cuts : List (Nat × (List Nat × (List V → Heap → Prop)))) : Env := { tis := tisT, fns := fnsT, tys := tysT, gls := [], rts := rtsT, unk := [], nxt := [], calls := hyper_Hyper_Now.calls, ifc := noIfc, cuts := cuts, ret := hyper_Hyper_Now.ret Q, rets := [.tmp 2], n := 9 }

theorem hyper_Hyper_Now.callsOK {W0 : World} : CallsOK sg W0 hyper_Hyper_Now.calls := ⟨hyper_Hyper_none.S, trivial⟩

theorem hyper_Hyper_Now.e : ∀ (a1 : Option Ptr) (Q : Int → Heap → Prop) (h : Heap), hyper_Hyper_Now a1 Q h = pts (hyper_Hyper_Now.E Q []) 3000 true [.code hyper_Hyper_Now.code] (frOf 0 [.ptr a1]) h := by
  intros; kernel_rfl

theorem hyper_Hyper_Now.S {W0 : World} : FnS sg W0 330 hyper_Hyper_Now.C := by
  intro vs κ h wv hx w s
  unfold hyper_Hyper_Now.C at hx
  split at hx
  · rename_i a1
    refine postImp (ret := hyper_Hyper_Now.ret (fun r1 h => κ (.int .u64 r1) h)) (fun v h hr => by unfold hyper_Hyper_Now.ret at hr; split at hr; exact hr; exact hr.elim) ?_
    exact calls_of_pts (E := hyper_Hyper_Now.E (fun r1 h => κ (.int .u64 r1) h) []) (envOK seatOK hyper_Hyper_Now.callsOK noIfc_ok) seatOK.mixed hyper_Hyper_Now.fun (Nat.le_of_ble_eq_true rfl) wv (cutL_ok trivial) s (fuel := 3000) (by rw [← hyper_Hyper_Now.e]; exact hx)
  · exact hx.elim

noncomputable def hyper_Hyper_Guests.code : Code := Go.Proofs.Tryz.f20.body.getD .skip

theorem hyper_Hyper_Guests.fun : Fun sg.P 20 11 [.tmp 2] hyper_Hyper_Guests.code := mkFun Go.Proofs.Tryz.func20 (by kernel_rfl) (by kernel_rfl) (by kernel_rfl) (by kernel_rfl)

def hyper_Hyper_Guests.ret (Q : Sl → Heap → Prop) (v : V) (h : Heap) : Prop :=
  match v with
  | .sl r1 => Q r1 h
  | _ => False

def hyper_Hyper_Guests.C (vs : List V) (κ : V → Heap → Prop) (h : Heap) : Prop :=
  match vs with
  | [.ptr a1] => hyper_Hyper_Guests a1 (fun r1 h => κ (.sl r1) h) h
  | _ => False

noncomputable def hyper_Hyper_Guests.calls : List (Nat × (List V → (V → Heap → Prop) → Heap → Prop)) := [(313, hyper_Hyper_none.C)]

noncomputable def hyper_Hyper_Guests.E (Q : Sl → Heap → Prop) (cuts : List (Nat × (List Nat × (List V → Heap → Prop)))) : Env := { tis := tisT, fns := fnsT, tys := tysT, gls := [], rts := rtsT, unk := [], nxt := [], calls := hyper_Hyper_Guests.calls, ifc := noIfc, cuts := cuts, ret := hyper_Hyper_Guests.ret Q, rets := [.tmp 2], n := 11 }

theorem hyper_Hyper_Guests.callsOK {W0 : World} : CallsOK sg W0 hyper_Hyper_Guests.calls := ⟨hyper_Hyper_none.S, trivial⟩

theorem hyper_Hyper_Guests.e : ∀ (a1 : Option Ptr) (Q : Sl → Heap → Prop) (h : Heap), hyper_Hyper_Guests a1 Q h = pts (hyper_Hyper_Guests.E Q []) 3000 true [.code hyper_Hyper_Guests.code] (frOf 0 [.ptr a1]) h := by
  intros; kernel_rfl

theorem hyper_Hyper_Guests.S {W0 : World} : FnS sg W0 331 hyper_Hyper_Guests.C := by
  intro vs κ h wv hx w s
  unfold hyper_Hyper_Guests.C at hx
  split at hx
  · rename_i a1
    refine postImp (ret := hyper_Hyper_Guests.ret (fun r1 h => κ (.sl r1) h)) (fun v h hr => by unfold hyper_Hyper_Guests.ret at hr; split at hr; exact hr; exact hr.elim) ?_
    exact calls_of_pts (E := hyper_Hyper_Guests.E (fun r1 h => κ (.sl r1) h) []) (envOK seatOK hyper_Hyper_Guests.callsOK noIfc_ok) seatOK.mixed hyper_Hyper_Guests.fun (Nat.le_of_ble_eq_true rfl) wv (cutL_ok trivial) s (fuel := 3000) (by rw [← hyper_Hyper_Guests.e]; exact hx)
  · exact hx.elim

noncomputable def palisadelaw26_HyperNobody.code : Code := Go.Proofs.Tryz.f3.body.getD .skip

theorem palisadelaw26_HyperNobody.fun : Fun sg.P 3 175 [.tmp 4] palisadelaw26_HyperNobody.code := mkFun Go.Proofs.Tryz.func3 (by kernel_rfl) (by kernel_rfl) (by kernel_rfl) (by kernel_rfl)

def palisadelaw26_HyperNobody.ret (Q : Bool → Heap → Prop) (v : V) (h : Heap) : Prop :=
  match v with
  | .bool r1 => Q r1 h
  | _ => False

def palisadelaw26_HyperNobody.C (vs : List V) (κ : V → Heap → Prop) (h : Heap) : Prop :=
  match vs with
  | [.int .i64 a1, .sl a2] => palisadelaw26_HyperNobody a1 a2 (fun r1 h => κ (.bool r1) h) h
  | _ => False

noncomputable def palisadelaw26_HyperNobody.calls : List (Nat × (List V → (V → Heap → Prop) → Heap → Prop)) := [(314, hyper_Hyper_Create.C), (315, hyper_Hyper_Step.C), (317, hyper_Hyper_Input.C), (318, hyper_Hyper_Regs.C), (319, hyper_Hyper_State.C), (320, hyper_Hyper_Page.C), (321, hyper_Hyper_Destroy.C), (322, hyper_Hyper_Tick.C), (323, hyper_Hyper_Complete.C), (324, hyper_Hyper_Inject.C), (325, hyper_Hyper_Console.C), (326, hyper_Hyper_Machine.C), (327, hyper_Hyper_Frames.C), (328, hyper_Hyper_Disk.C), (329, hyper_Hyper_Wire.C), (330, hyper_Hyper_Now.C), (331, hyper_Hyper_Guests.C)]

noncomputable def palisadelaw26_HyperNobody.E (Q : Bool → Heap → Prop) (cuts : List (Nat × (List Nat × (List V → Heap → Prop)))) : Env := { tis := tisT, fns := fnsT, tys := tysT, gls := [], rts := rtsT, unk := [], nxt := [], calls := palisadelaw26_HyperNobody.calls, ifc := noIfc, cuts := cuts, ret := palisadelaw26_HyperNobody.ret Q, rets := [.tmp 4], n := 175 }

theorem palisadelaw26_HyperNobody.callsOK {W0 : World} : CallsOK sg W0 palisadelaw26_HyperNobody.calls := ⟨hyper_Hyper_Create.S, hyper_Hyper_Step.S, hyper_Hyper_Input.S, hyper_Hyper_Regs.S, hyper_Hyper_State.S, hyper_Hyper_Page.S, hyper_Hyper_Destroy.S, hyper_Hyper_Tick.S, hyper_Hyper_Complete.S, hyper_Hyper_Inject.S, hyper_Hyper_Console.S, hyper_Hyper_Machine.S, hyper_Hyper_Frames.S, hyper_Hyper_Disk.S, hyper_Hyper_Wire.S, hyper_Hyper_Now.S, hyper_Hyper_Guests.S, trivial⟩

def palisadelaw26_HyperNobody.k11 (I : Heap → Prop) (vs : List V) (h : Heap) : Prop :=
  match vs with
  | [] => I  h
  | _ => False

def palisadelaw26_HyperNobody.k13 (I : Heap → Prop) (vs : List V) (h : Heap) : Prop :=
  match vs with
  | [] => I  h
  | _ => False

def palisadelaw26_HyperNobody.k14 (I : Int → Sl → Sl → Int → Int → Heap → Prop) (vs : List V) (h : Heap) : Prop :=
  match vs with
  | [.int .i64 a1, .sl a2, .sl a3, .int .i64 a4, .int .i64 a5] => I a1 a2 a3 a4 a5 h
  | _ => False

def palisadelaw26_HyperNobody.k12 (I : Int → Sl → (Option Ptr) → Sl → Int → Int → Heap → Prop) (vs : List V) (h : Heap) : Prop :=
  match vs with
  | [.int .i64 a1, .sl a2, .ptr a3, .sl a4, .int .i64 a5, .int .i64 a6] => I a1 a2 a3 a4 a5 a6 h
  | _ => False

def palisadelaw26_HyperNobody.k10 (I : Int → Sl → (Option Ptr) → Int → Int → Ptr → Int → Int → Int → Ptr → Bool → Int → Bool → Sl → Int → Bool → Sl → Int → Int → Heap → Prop) (vs : List V) (h : Heap) : Prop :=
  match vs with
  | [.int .i64 a1, .sl a2, .ptr a3, .int .i64 a4, .int .i64 a5, .ptr (some a6), .int .i64 a7, .int .i64 a8, .int .i64 a9, .ptr (some a10), .bool a11, .int .i64 a12, .bool a13, .sl a14, .int .i64 a15, .bool a16, .sl a17, .int .i64 a18, .int .i64 a19] => I a1 a2 a3 a4 a5 a6 a7 a8 a9 a10 a11 a12 a13 a14 a15 a16 a17 a18 a19 h
  | _ => False

def palisadelaw26_HyperNobody.k7 (I : Int → Sl → (Option Ptr) → Int → Int → Ptr → Int → Int → Int → Sl → Int → Int → Heap → Prop) (vs : List V) (h : Heap) : Prop :=
  match vs with
  | [.int .i64 a1, .sl a2, .ptr a3, .int .i64 a4, .int .i64 a5, .ptr (some a6), .int .i64 a7, .int .i64 a8, .int .i64 a9, .sl a10, .int .i64 a11, .int .i64 a12] => I a1 a2 a3 a4 a5 a6 a7 a8 a9 a10 a11 a12 h
  | _ => False

def palisadelaw26_HyperNobody.k2 (I : Int → Sl → Sl → Int → Int → Heap → Prop) (vs : List V) (h : Heap) : Prop :=
  match vs with
  | [.int .i64 a1, .sl a2, .sl a3, .int .i64 a4, .int .i64 a5] => I a1 a2 a3 a4 a5 h
  | _ => False

theorem palisadelaw26_HyperNobody.p11 : (posC palisadelaw26_HyperNobody.code []).filter (fun p => Nat.beq p.1 11) = [(11, atPos (posC palisadelaw26_HyperNobody.code []) 11)] := by kernel_rfl

theorem palisadelaw26_HyperNobody.e11 : ∀ (I2 : Int → Sl → Sl → Int → Int → Heap → Prop)  (Q : Bool → Heap → Prop) (h : Heap), palisadelaw26_HyperNobody.j11 I2  Q h = pts (palisadelaw26_HyperNobody.E Q []) 3000 true (atPos (posC palisadelaw26_HyperNobody.code []) 11) (frAt [] []) h := by
  intros; kernel_rfl

theorem palisadelaw26_HyperNobody.s11 {W0 : World} (Q : Bool → Heap → Prop) (I2 : Int → Sl → Sl → Int → Int → Heap → Prop) (h2 : CutOK sg W0 175 (entered 3) (Post sg W0 (palisadelaw26_HyperNobody.ret Q)) (posC palisadelaw26_HyperNobody.code []) 2 [0, 1, 22, 23, 24] (palisadelaw26_HyperNobody.k2 I2)) : CutOK sg W0 175 (entered 3) (Post sg W0 (palisadelaw26_HyperNobody.ret Q)) (posC palisadelaw26_HyperNobody.code []) 11 [] (palisadelaw26_HyperNobody.k11 (fun  h => palisadelaw26_HyperNobody.j11 I2  Q h)) := by
  refine cutOK_head (fun vs h hk => ?_)
  unfold palisadelaw26_HyperNobody.k11 at hk
  split at hk
  · skip
    intro todo hm ρ a w s f hp
    exact piece (E := palisadelaw26_HyperNobody.E Q []) (vs := []) (envOK seatOK palisadelaw26_HyperNobody.callsOK noIfc_ok) (fnOK seatOK palisadelaw26_HyperNobody.fun) trivial palisadelaw26_HyperNobody.p11 (fuel := 3000) (by rw [← palisadelaw26_HyperNobody.e11]; exact hk) hm s f hp
  · exact hk.elim

theorem palisadelaw26_HyperNobody.p13 : (posC palisadelaw26_HyperNobody.code []).filter (fun p => Nat.beq p.1 13) = [(13, atPos (posC palisadelaw26_HyperNobody.code []) 13)] := by kernel_rfl

theorem palisadelaw26_HyperNobody.e13 : ∀ (I2 : Int → Sl → Sl → Int → Int → Heap → Prop)  (Q : Bool → Heap → Prop) (h : Heap), palisadelaw26_HyperNobody.j13 I2  Q h = pts (palisadelaw26_HyperNobody.E Q []) 3000 true (atPos (posC palisadelaw26_HyperNobody.code []) 13) (frAt [] []) h := by
  intros; kernel_rfl

theorem palisadelaw26_HyperNobody.s13 {W0 : World} (Q : Bool → Heap → Prop) (I2 : Int → Sl → Sl → Int → Int → Heap → Prop) (h2 : CutOK sg W0 175 (entered 3) (Post sg W0 (palisadelaw26_HyperNobody.ret Q)) (posC palisadelaw26_HyperNobody.code []) 2 [0, 1, 22, 23, 24] (palisadelaw26_HyperNobody.k2 I2)) : CutOK sg W0 175 (entered 3) (Post sg W0 (palisadelaw26_HyperNobody.ret Q)) (posC palisadelaw26_HyperNobody.code []) 13 [] (palisadelaw26_HyperNobody.k13 (fun  h => palisadelaw26_HyperNobody.j13 I2  Q h)) := by
  refine cutOK_head (fun vs h hk => ?_)
  unfold palisadelaw26_HyperNobody.k13 at hk
  split at hk
  · skip
    intro todo hm ρ a w s f hp
    exact piece (E := palisadelaw26_HyperNobody.E Q []) (vs := []) (envOK seatOK palisadelaw26_HyperNobody.callsOK noIfc_ok) (fnOK seatOK palisadelaw26_HyperNobody.fun) trivial palisadelaw26_HyperNobody.p13 (fuel := 3000) (by rw [← palisadelaw26_HyperNobody.e13]; exact hk) hm s f hp
  · exact hk.elim

theorem palisadelaw26_HyperNobody.p14 : (posC palisadelaw26_HyperNobody.code []).filter (fun p => Nat.beq p.1 14) = [(14, atPos (posC palisadelaw26_HyperNobody.code []) 14)] := by kernel_rfl

theorem palisadelaw26_HyperNobody.e14 : ∀ (I2 : Int → Sl → Sl → Int → Int → Heap → Prop) (a1 : Int) (a2 : Sl) (a3 : Sl) (a4 : Int) (a5 : Int) (Q : Bool → Heap → Prop) (h : Heap), palisadelaw26_HyperNobody.j14 I2 a1 a2 a3 a4 a5 Q h = pts (palisadelaw26_HyperNobody.E Q [(2, ([0, 1, 22, 23, 24], palisadelaw26_HyperNobody.k2 I2))]) 3000 true (atPos (posC palisadelaw26_HyperNobody.code []) 14) (frAt [0, 1, 22, 23, 24] [.int .i64 a1, .sl a2, .sl a3, .int .i64 a4, .int .i64 a5]) h := by
  intros; kernel_rfl

theorem palisadelaw26_HyperNobody.s14 {W0 : World} (Q : Bool → Heap → Prop) (I2 : Int → Sl → Sl → Int → Int → Heap → Prop) (h2 : CutOK sg W0 175 (entered 3) (Post sg W0 (palisadelaw26_HyperNobody.ret Q)) (posC palisadelaw26_HyperNobody.code []) 2 [0, 1, 22, 23, 24] (palisadelaw26_HyperNobody.k2 I2)) : CutOK sg W0 175 (entered 3) (Post sg W0 (palisadelaw26_HyperNobody.ret Q)) (posC palisadelaw26_HyperNobody.code []) 14 [0, 1, 22, 23, 24] (palisadelaw26_HyperNobody.k14 (fun a1 a2 a3 a4 a5 h => palisadelaw26_HyperNobody.j14 I2 a1 a2 a3 a4 a5 Q h)) := by
  refine cutOK_head (fun vs h hk => ?_)
  unfold palisadelaw26_HyperNobody.k14 at hk
  split at hk
  · rename_i a1 a2 a3 a4 a5
    intro todo hm ρ a w s f hp
    exact piece (E := palisadelaw26_HyperNobody.E Q [(2, ([0, 1, 22, 23, 24], palisadelaw26_HyperNobody.k2 I2))]) (vs := [.int .i64 a1, .sl a2, .sl a3, .int .i64 a4, .int .i64 a5]) (envOK seatOK palisadelaw26_HyperNobody.callsOK noIfc_ok) (fnOK seatOK palisadelaw26_HyperNobody.fun) ⟨h2, trivial⟩ palisadelaw26_HyperNobody.p14 (fuel := 3000) (by rw [← palisadelaw26_HyperNobody.e14]; exact hk) hm s f hp
  · exact hk.elim

theorem palisadelaw26_HyperNobody.p12 : (posC palisadelaw26_HyperNobody.code []).filter (fun p => Nat.beq p.1 12) = [(12, atPos (posC palisadelaw26_HyperNobody.code []) 12)] := by kernel_rfl

theorem palisadelaw26_HyperNobody.e12 : ∀ (I2 : Int → Sl → Sl → Int → Int → Heap → Prop) (a1 : Int) (a2 : Sl) (a3 : Option Ptr) (a4 : Sl) (a5 : Int) (a6 : Int) (Q : Bool → Heap → Prop) (h : Heap), palisadelaw26_HyperNobody.j12 I2 a1 a2 a3 a4 a5 a6 Q h = pts (palisadelaw26_HyperNobody.E Q [(13, ([], palisadelaw26_HyperNobody.k13 (fun  h => palisadelaw26_HyperNobody.j13 I2  Q h))), (14, ([0, 1, 22, 23, 24], palisadelaw26_HyperNobody.k14 (fun a1 a2 a3 a4 a5 h => palisadelaw26_HyperNobody.j14 I2 a1 a2 a3 a4 a5 Q h)))]) 3000 true (atPos (posC palisadelaw26_HyperNobody.code []) 12) (frAt [0, 1, 6, 22, 23, 24] [.int .i64 a1, .sl a2, .ptr a3, .sl a4, .int .i64 a5, .int .i64 a6]) h := by
  intros; kernel_rfl

theorem palisadelaw26_HyperNobody.s12 {W0 : World} (Q : Bool → Heap → Prop) (I2 : Int → Sl → Sl → Int → Int → Heap → Prop) (h2 : CutOK sg W0 175 (entered 3) (Post sg W0 (palisadelaw26_HyperNobody.ret Q)) (posC palisadelaw26_HyperNobody.code []) 2 [0, 1, 22, 23, 24] (palisadelaw26_HyperNobody.k2 I2)) : CutOK sg W0 175 (entered 3) (Post sg W0 (palisadelaw26_HyperNobody.ret Q)) (posC palisadelaw26_HyperNobody.code []) 12 [0, 1, 6, 22, 23, 24] (palisadelaw26_HyperNobody.k12 (fun a1 a2 a3 a4 a5 a6 h => palisadelaw26_HyperNobody.j12 I2 a1 a2 a3 a4 a5 a6 Q h)) := by
  refine cutOK_head (fun vs h hk => ?_)
  unfold palisadelaw26_HyperNobody.k12 at hk
  split at hk
  · rename_i a1 a2 a3 a4 a5 a6
    intro todo hm ρ a w s f hp
    exact piece (E := palisadelaw26_HyperNobody.E Q [(13, ([], palisadelaw26_HyperNobody.k13 (fun  h => palisadelaw26_HyperNobody.j13 I2  Q h))), (14, ([0, 1, 22, 23, 24], palisadelaw26_HyperNobody.k14 (fun a1 a2 a3 a4 a5 h => palisadelaw26_HyperNobody.j14 I2 a1 a2 a3 a4 a5 Q h)))]) (vs := [.int .i64 a1, .sl a2, .ptr a3, .sl a4, .int .i64 a5, .int .i64 a6]) (envOK seatOK palisadelaw26_HyperNobody.callsOK noIfc_ok) (fnOK seatOK palisadelaw26_HyperNobody.fun) ⟨(palisadelaw26_HyperNobody.s13 Q I2 h2), (palisadelaw26_HyperNobody.s14 Q I2 h2), trivial⟩ palisadelaw26_HyperNobody.p12 (fuel := 3000) (by rw [← palisadelaw26_HyperNobody.e12]; exact hk) hm s f hp
  · exact hk.elim

theorem palisadelaw26_HyperNobody.p10 : (posC palisadelaw26_HyperNobody.code []).filter (fun p => Nat.beq p.1 10) = [(10, atPos (posC palisadelaw26_HyperNobody.code []) 10)] := by kernel_rfl

theorem palisadelaw26_HyperNobody.e10 : ∀ (I2 : Int → Sl → Sl → Int → Int → Heap → Prop) (a1 : Int) (a2 : Sl) (a3 : Option Ptr) (a4 : Int) (a5 : Int) (a6 : Ptr) (a7 : Int) (a8 : Int) (a9 : Int) (a10 : Ptr) (a11 : Bool) (a12 : Int) (a13 : Bool) (a14 : Sl) (a15 : Int) (a16 : Bool) (a17 : Sl) (a18 : Int) (a19 : Int) (Q : Bool → Heap → Prop) (h : Heap), palisadelaw26_HyperNobody.j10 I2 a1 a2 a3 a4 a5 a6 a7 a8 a9 a10 a11 a12 a13 a14 a15 a16 a17 a18 a19 Q h = pts (palisadelaw26_HyperNobody.E Q [(11, ([], palisadelaw26_HyperNobody.k11 (fun  h => palisadelaw26_HyperNobody.j11 I2  Q h))), (12, ([0, 1, 6, 22, 23, 24], palisadelaw26_HyperNobody.k12 (fun a1 a2 a3 a4 a5 a6 h => palisadelaw26_HyperNobody.j12 I2 a1 a2 a3 a4 a5 a6 Q h)))]) 3000 true (atPos (posC palisadelaw26_HyperNobody.code []) 10) (frAt [0, 1, 6, 7, 8, 9, 10, 11, 12, 13, 14, 15, 16, 17, 18, 19, 22, 23, 24] [.int .i64 a1, .sl a2, .ptr a3, .int .i64 a4, .int .i64 a5, .ptr (some a6), .int .i64 a7, .int .i64 a8, .int .i64 a9, .ptr (some a10), .bool a11, .int .i64 a12, .bool a13, .sl a14, .int .i64 a15, .bool a16, .sl a17, .int .i64 a18, .int .i64 a19]) h := by
  intros; kernel_rfl

theorem palisadelaw26_HyperNobody.s10 {W0 : World} (Q : Bool → Heap → Prop) (I2 : Int → Sl → Sl → Int → Int → Heap → Prop) (h2 : CutOK sg W0 175 (entered 3) (Post sg W0 (palisadelaw26_HyperNobody.ret Q)) (posC palisadelaw26_HyperNobody.code []) 2 [0, 1, 22, 23, 24] (palisadelaw26_HyperNobody.k2 I2)) : CutOK sg W0 175 (entered 3) (Post sg W0 (palisadelaw26_HyperNobody.ret Q)) (posC palisadelaw26_HyperNobody.code []) 10 [0, 1, 6, 7, 8, 9, 10, 11, 12, 13, 14, 15, 16, 17, 18, 19, 22, 23, 24] (palisadelaw26_HyperNobody.k10 (fun a1 a2 a3 a4 a5 a6 a7 a8 a9 a10 a11 a12 a13 a14 a15 a16 a17 a18 a19 h => palisadelaw26_HyperNobody.j10 I2 a1 a2 a3 a4 a5 a6 a7 a8 a9 a10 a11 a12 a13 a14 a15 a16 a17 a18 a19 Q h)) := by
  refine cutOK_head (fun vs h hk => ?_)
  unfold palisadelaw26_HyperNobody.k10 at hk
  split at hk
  · rename_i a1 a2 a3 a4 a5 a6 a7 a8 a9 a10 a11 a12 a13 a14 a15 a16 a17 a18 a19
    intro todo hm ρ a w s f hp
    exact piece (E := palisadelaw26_HyperNobody.E Q [(11, ([], palisadelaw26_HyperNobody.k11 (fun  h => palisadelaw26_HyperNobody.j11 I2  Q h))), (12, ([0, 1, 6, 22, 23, 24], palisadelaw26_HyperNobody.k12 (fun a1 a2 a3 a4 a5 a6 h => palisadelaw26_HyperNobody.j12 I2 a1 a2 a3 a4 a5 a6 Q h)))]) (vs := [.int .i64 a1, .sl a2, .ptr a3, .int .i64 a4, .int .i64 a5, .ptr (some a6), .int .i64 a7, .int .i64 a8, .int .i64 a9, .ptr (some a10), .bool a11, .int .i64 a12, .bool a13, .sl a14, .int .i64 a15, .bool a16, .sl a17, .int .i64 a18, .int .i64 a19]) (envOK seatOK palisadelaw26_HyperNobody.callsOK noIfc_ok) (fnOK seatOK palisadelaw26_HyperNobody.fun) ⟨(palisadelaw26_HyperNobody.s11 Q I2 h2), (palisadelaw26_HyperNobody.s12 Q I2 h2), trivial⟩ palisadelaw26_HyperNobody.p10 (fuel := 3000) (by rw [← palisadelaw26_HyperNobody.e10]; exact hk) hm s f hp
  · exact hk.elim

theorem palisadelaw26_HyperNobody.p7 : (posC palisadelaw26_HyperNobody.code []).filter (fun p => Nat.beq p.1 7) = [(7, atPos (posC palisadelaw26_HyperNobody.code []) 7)] := by kernel_rfl

theorem palisadelaw26_HyperNobody.e7 : ∀ (I2 : Int → Sl → Sl → Int → Int → Heap → Prop) (a1 : Int) (a2 : Sl) (a3 : Option Ptr) (a4 : Int) (a5 : Int) (a6 : Ptr) (a7 : Int) (a8 : Int) (a9 : Int) (a10 : Sl) (a11 : Int) (a12 : Int) (Q : Bool → Heap → Prop) (h : Heap), palisadelaw26_HyperNobody.j7 I2 a1 a2 a3 a4 a5 a6 a7 a8 a9 a10 a11 a12 Q h = pts (palisadelaw26_HyperNobody.E Q [(10, ([0, 1, 6, 7, 8, 9, 10, 11, 12, 13, 14, 15, 16, 17, 18, 19, 22, 23, 24], palisadelaw26_HyperNobody.k10 (fun a1 a2 a3 a4 a5 a6 a7 a8 a9 a10 a11 a12 a13 a14 a15 a16 a17 a18 a19 h => palisadelaw26_HyperNobody.j10 I2 a1 a2 a3 a4 a5 a6 a7 a8 a9 a10 a11 a12 a13 a14 a15 a16 a17 a18 a19 Q h)))]) 3000 true (atPos (posC palisadelaw26_HyperNobody.code []) 7) (frAt [0, 1, 6, 7, 8, 9, 10, 11, 12, 22, 23, 24] [.int .i64 a1, .sl a2, .ptr a3, .int .i64 a4, .int .i64 a5, .ptr (some a6), .int .i64 a7, .int .i64 a8, .int .i64 a9, .sl a10, .int .i64 a11, .int .i64 a12]) h := by
  intros; kernel_rfl

theorem palisadelaw26_HyperNobody.s7 {W0 : World} (Q : Bool → Heap → Prop) (I2 : Int → Sl → Sl → Int → Int → Heap → Prop) (h2 : CutOK sg W0 175 (entered 3) (Post sg W0 (palisadelaw26_HyperNobody.ret Q)) (posC palisadelaw26_HyperNobody.code []) 2 [0, 1, 22, 23, 24] (palisadelaw26_HyperNobody.k2 I2)) : CutOK sg W0 175 (entered 3) (Post sg W0 (palisadelaw26_HyperNobody.ret Q)) (posC palisadelaw26_HyperNobody.code []) 7 [0, 1, 6, 7, 8, 9, 10, 11, 12, 22, 23, 24] (palisadelaw26_HyperNobody.k7 (fun a1 a2 a3 a4 a5 a6 a7 a8 a9 a10 a11 a12 h => palisadelaw26_HyperNobody.j7 I2 a1 a2 a3 a4 a5 a6 a7 a8 a9 a10 a11 a12 Q h)) := by
  refine cutOK_head (fun vs h hk => ?_)
  unfold palisadelaw26_HyperNobody.k7 at hk
  split at hk
  · rename_i a1 a2 a3 a4 a5 a6 a7 a8 a9 a10 a11 a12
    intro todo hm ρ a w s f hp
    exact piece (E := palisadelaw26_HyperNobody.E Q [(10, ([0, 1, 6, 7, 8, 9, 10, 11, 12, 13, 14, 15, 16, 17, 18, 19, 22, 23, 24], palisadelaw26_HyperNobody.k10 (fun a1 a2 a3 a4 a5 a6 a7 a8 a9 a10 a11 a12 a13 a14 a15 a16 a17 a18 a19 h => palisadelaw26_HyperNobody.j10 I2 a1 a2 a3 a4 a5 a6 a7 a8 a9 a10 a11 a12 a13 a14 a15 a16 a17 a18 a19 Q h)))]) (vs := [.int .i64 a1, .sl a2, .ptr a3, .int .i64 a4, .int .i64 a5, .ptr (some a6), .int .i64 a7, .int .i64 a8, .int .i64 a9, .sl a10, .int .i64 a11, .int .i64 a12]) (envOK seatOK palisadelaw26_HyperNobody.callsOK noIfc_ok) (fnOK seatOK palisadelaw26_HyperNobody.fun) ⟨(palisadelaw26_HyperNobody.s10 Q I2 h2), trivial⟩ palisadelaw26_HyperNobody.p7 (fuel := 3000) (by rw [← palisadelaw26_HyperNobody.e7]; exact hk) hm s f hp
  · exact hk.elim

theorem palisadelaw26_HyperNobody.p2 : (posC palisadelaw26_HyperNobody.code []).filter (fun p => Nat.beq p.1 2) = [(2, atPos (posC palisadelaw26_HyperNobody.code []) 2)] := by kernel_rfl

theorem palisadelaw26_HyperNobody.e2 : ∀  (I2 : Int → Sl → Sl → Int → Int → Heap → Prop) (a1 : Int) (a2 : Sl) (a3 : Sl) (a4 : Int) (a5 : Int) (Q : Bool → Heap → Prop) (h : Heap), palisadelaw26_HyperNobody.b2  I2 a1 a2 a3 a4 a5 Q h = pts (palisadelaw26_HyperNobody.E Q [(7, ([0, 1, 6, 7, 8, 9, 10, 11, 12, 22, 23, 24], palisadelaw26_HyperNobody.k7 (fun a1 a2 a3 a4 a5 a6 a7 a8 a9 a10 a11 a12 h => palisadelaw26_HyperNobody.j7 I2 a1 a2 a3 a4 a5 a6 a7 a8 a9 a10 a11 a12 Q h)))]) 3000 true (atPos (posC palisadelaw26_HyperNobody.code []) 2) (frAt [0, 1, 22, 23, 24] [.int .i64 a1, .sl a2, .sl a3, .int .i64 a4, .int .i64 a5]) h := by
  intros; kernel_rfl

theorem palisadelaw26_HyperNobody.s2 {W0 : World} (Q : Bool → Heap → Prop)   : CutOK sg W0 175 (entered 3) (Post sg W0 (palisadelaw26_HyperNobody.ret Q)) (posC palisadelaw26_HyperNobody.code []) 2 [0, 1, 22, 23, 24] (palisadelaw26_HyperNobody.k2 (fun a1 a2 a3 a4 a5 h => palisadelaw26_HyperNobody.j2  a1 a2 a3 a4 a5 Q h)) := by
  refine cutOK_head (fun vs h hk => ?_)
  unfold palisadelaw26_HyperNobody.k2 at hk
  split at hk
  · rename_i a1 a2 a3 a4 a5
    refine hk (fun a1 a2 a3 a4 a5 h => Head sg W0 175 (entered 3) (Post sg W0 (palisadelaw26_HyperNobody.ret Q)) (posC palisadelaw26_HyperNobody.code []) 2 [0, 1, 22, 23, 24] [.int .i64 a1, .sl a2, .sl a3, .int .i64 a4, .int .i64 a5] h) ?_
    intro a1 a2 a3 a4 a5 h hb todo hm ρ a w s f hp
    have hself : CutOK sg W0 175 (entered 3) (Post sg W0 (palisadelaw26_HyperNobody.ret Q)) (posC palisadelaw26_HyperNobody.code []) 2 [0, 1, 22, 23, 24] (palisadelaw26_HyperNobody.k2 (fun a1 a2 a3 a4 a5 h => Head sg W0 175 (entered 3) (Post sg W0 (palisadelaw26_HyperNobody.ret Q)) (posC palisadelaw26_HyperNobody.code []) 2 [0, 1, 22, 23, 24] [.int .i64 a1, .sl a2, .sl a3, .int .i64 a4, .int .i64 a5] h)) := cutOK_head (fun vs h hk => by unfold palisadelaw26_HyperNobody.k2 at hk; split at hk; exact hk; exact hk.elim)
    exact piece (E := palisadelaw26_HyperNobody.E Q [(7, ([0, 1, 6, 7, 8, 9, 10, 11, 12, 22, 23, 24], palisadelaw26_HyperNobody.k7 (fun a1 a2 a3 a4 a5 a6 a7 a8 a9 a10 a11 a12 h => palisadelaw26_HyperNobody.j7 (fun a1 a2 a3 a4 a5 h => Head sg W0 175 (entered 3) (Post sg W0 (palisadelaw26_HyperNobody.ret Q)) (posC palisadelaw26_HyperNobody.code []) 2 [0, 1, 22, 23, 24] [.int .i64 a1, .sl a2, .sl a3, .int .i64 a4, .int .i64 a5] h) a1 a2 a3 a4 a5 a6 a7 a8 a9 a10 a11 a12 Q h)))]) (vs := [.int .i64 a1, .sl a2, .sl a3, .int .i64 a4, .int .i64 a5]) (envOK seatOK palisadelaw26_HyperNobody.callsOK noIfc_ok) (fnOK seatOK palisadelaw26_HyperNobody.fun) ⟨(palisadelaw26_HyperNobody.s7 Q (fun a1 a2 a3 a4 a5 h => Head sg W0 175 (entered 3) (Post sg W0 (palisadelaw26_HyperNobody.ret Q)) (posC palisadelaw26_HyperNobody.code []) 2 [0, 1, 22, 23, 24] [.int .i64 a1, .sl a2, .sl a3, .int .i64 a4, .int .i64 a5] h) hself), trivial⟩ palisadelaw26_HyperNobody.p2 (fuel := 3000) (by rw [← palisadelaw26_HyperNobody.e2]; exact hb) hm s f hp
  · exact hk.elim

theorem palisadelaw26_HyperNobody.e : ∀ (a1 : Int) (a2 : Sl) (Q : Bool → Heap → Prop) (h : Heap), palisadelaw26_HyperNobody a1 a2 Q h = pts (palisadelaw26_HyperNobody.E Q [(2, ([0, 1, 22, 23, 24], palisadelaw26_HyperNobody.k2 (fun a1 a2 a3 a4 a5 h => palisadelaw26_HyperNobody.j2  a1 a2 a3 a4 a5 Q h)))]) 3000 true [.code palisadelaw26_HyperNobody.code] (frOf 0 [.int .i64 a1, .sl a2]) h := by
  intros; kernel_rfl

theorem palisadelaw26_HyperNobody.S {W0 : World} : FnS sg W0 332 palisadelaw26_HyperNobody.C := by
  intro vs κ h wv hx w s
  unfold palisadelaw26_HyperNobody.C at hx
  split at hx
  · rename_i a1 a2
    refine postImp (ret := palisadelaw26_HyperNobody.ret (fun r1 h => κ (.bool r1) h)) (fun v h hr => by unfold palisadelaw26_HyperNobody.ret at hr; split at hr; exact hr; exact hr.elim) ?_
    exact calls_of_pts (E := palisadelaw26_HyperNobody.E (fun r1 h => κ (.bool r1) h) [(2, ([0, 1, 22, 23, 24], palisadelaw26_HyperNobody.k2 (fun a1 a2 a3 a4 a5 h => palisadelaw26_HyperNobody.j2  a1 a2 a3 a4 a5 (fun r1 h => κ (.bool r1) h) h)))]) (envOK seatOK palisadelaw26_HyperNobody.callsOK noIfc_ok) seatOK.mixed palisadelaw26_HyperNobody.fun (Nat.le_of_ble_eq_true rfl) wv (cutL_ok ⟨(palisadelaw26_HyperNobody.s2 (fun r1 h => κ (.bool r1) h)), trivial⟩) s (fuel := 3000) (by rw [← palisadelaw26_HyperNobody.e]; exact hx)
  · exact hx.elim

end Go.Fn
