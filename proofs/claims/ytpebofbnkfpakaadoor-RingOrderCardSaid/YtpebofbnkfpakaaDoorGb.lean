/- The links of the shallow functions to the machine. PRINTED by lift.py. -/
import Derived.Test.YtpebofbnkfpakaaDoorGa
set_option linter.unusedVariables false
set_option maxRecDepth 100000
namespace Go.Fn
open Go.Lift

noncomputable def mem_New.code : Code := Go.Proofs.Tryd.f5.body.getD .skip

theorem mem_New.fun : Fun sg.P 5 15 [.tmp 2, .tmp 3] mem_New.code := mkFun Go.Proofs.Tryd.func5 (by kernel_rfl) (by kernel_rfl) (by kernel_rfl) (by kernel_rfl)

def mem_New.ret (Q : (Option Ptr) → Int → Heap → Prop) (v : V) (h : Heap) : Prop :=
  match v with
  | .tup [.ptr r1, .int .i64 r2] => Q r1 r2 h
  | _ => False

def mem_New.C (vs : List V) (κ : V → Heap → Prop) (h : Heap) : Prop :=
  match vs with
  | [.int .i64 a1] => mem_New a1 (fun r1 r2 h => κ (.tup [.ptr r1, .int .i64 r2]) h) h
  | _ => False

noncomputable def mem_New.calls : List (Nat × (List V → (V → Heap → Prop) → Heap → Prop)) := []

noncomputable def mem_New.E (Q : (Option Ptr) → Int → Heap → Prop) (cuts : List (Nat × (List Nat × (List V → Heap → Prop)))) : Env := { tis := tisT, fns := fnsT, tys := tysT, gls := [], rts := rtsT, unk := [], nxt := [], calls := mem_New.calls, ifc := noIfc, cuts := cuts, ret := mem_New.ret Q, rets := [.tmp 2, .tmp 3], n := 15 }

theorem mem_New.callsOK {W0 : World} : CallsOK sg W0 mem_New.calls := trivial

theorem mem_New.e : ∀ (a1 : Int) (Q : (Option Ptr) → Int → Heap → Prop) (h : Heap), mem_New a1 Q h = pts (mem_New.E Q []) 3000 true [.code mem_New.code] (frOf 0 [.int .i64 a1]) h := by
  intros; kernel_rfl

theorem mem_New.S {W0 : World} : FnS sg W0 28 mem_New.C := by
  intro vs κ h wv hx w s
  unfold mem_New.C at hx
  split at hx
  · rename_i a1
    refine postImp (ret := mem_New.ret (fun r1 r2 h => κ (.tup [.ptr r1, .int .i64 r2]) h)) (fun v h hr => by unfold mem_New.ret at hr; split at hr; exact hr; exact hr.elim) ?_
    exact calls_of_pts (E := mem_New.E (fun r1 r2 h => κ (.tup [.ptr r1, .int .i64 r2]) h) []) (envOK seatOK mem_New.callsOK noIfc_ok) seatOK.mixed mem_New.fun (Nat.le_of_ble_eq_true rfl) wv (cutL_ok trivial) s (fuel := 3000) (by rw [← mem_New.e]; exact hx)
  · exact hx.elim

noncomputable def ring_right.code : Code := Go.Proofs.Tryd.f13.body.getD .skip

theorem ring_right.fun : Fun sg.P 13 16 [.tmp 2] ring_right.code := mkFun Go.Proofs.Tryd.func13 (by kernel_rfl) (by kernel_rfl) (by kernel_rfl) (by kernel_rfl)

def ring_right.ret (Q : Bool → Heap → Prop) (v : V) (h : Heap) : Prop :=
  match v with
  | .bool r1 => Q r1 h
  | _ => False

def ring_right.C (vs : List V) (κ : V → Heap → Prop) (h : Heap) : Prop :=
  match vs with
  | [.int .i64 a1] => ring_right a1 (fun r1 h => κ (.bool r1) h) h
  | _ => False

noncomputable def ring_right.calls : List (Nat × (List V → (V → Heap → Prop) → Heap → Prop)) := []

noncomputable def ring_right.E (Q : Bool → Heap → Prop) (cuts : List (Nat × (List Nat × (List V → Heap → Prop)))) : Env := { tis := tisT, fns := fnsT, tys := tysT, gls := [], rts := rtsT, unk := [], nxt := [], calls := ring_right.calls, ifc := noIfc, cuts := cuts, ret := ring_right.ret Q, rets := [.tmp 2], n := 16 }

theorem ring_right.callsOK {W0 : World} : CallsOK sg W0 ring_right.calls := trivial

theorem ring_right.e : ∀ (a1 : Int) (Q : Bool → Heap → Prop) (h : Heap), ring_right a1 Q h = pts (ring_right.E Q []) 3000 true [.code ring_right.code] (frOf 0 [.int .i64 a1]) h := by
  intros; kernel_rfl

theorem ring_right.S {W0 : World} : FnS sg W0 34 ring_right.C := by
  intro vs κ h wv hx w s
  unfold ring_right.C at hx
  split at hx
  · rename_i a1
    refine postImp (ret := ring_right.ret (fun r1 h => κ (.bool r1) h)) (fun v h hr => by unfold ring_right.ret at hr; split at hr; exact hr; exact hr.elim) ?_
    exact calls_of_pts (E := ring_right.E (fun r1 h => κ (.bool r1) h) []) (envOK seatOK ring_right.callsOK noIfc_ok) seatOK.mixed ring_right.fun (Nat.le_of_ble_eq_true rfl) wv (cutL_ok trivial) s (fuel := 3000) (by rw [← ring_right.e]; exact hx)
  · exact hx.elim

noncomputable def ring_New.code : Code := Go.Proofs.Tryd.f6.body.getD .skip

theorem ring_New.fun : Fun sg.P 6 23 [.tmp 4, .tmp 5] ring_New.code := mkFun Go.Proofs.Tryd.func6 (by kernel_rfl) (by kernel_rfl) (by kernel_rfl) (by kernel_rfl)

def ring_New.ret (Q : (Option Ptr) → Int → Heap → Prop) (v : V) (h : Heap) : Prop :=
  match v with
  | .tup [.ptr r1, .int .i64 r2] => Q r1 r2 h
  | _ => False

def ring_New.C (vs : List V) (κ : V → Heap → Prop) (h : Heap) : Prop :=
  match vs with
  | [.int .u64 a1, .int .i64 a2] => ring_New a1 a2 (fun r1 r2 h => κ (.tup [.ptr r1, .int .i64 r2]) h) h
  | _ => False

noncomputable def ring_New.calls : List (Nat × (List V → (V → Heap → Prop) → Heap → Prop)) := [(34, ring_right.C)]

noncomputable def ring_New.E (Q : (Option Ptr) → Int → Heap → Prop) (cuts : List (Nat × (List Nat × (List V → Heap → Prop)))) : Env := { tis := tisT, fns := fnsT, tys := tysT, gls := [], rts := rtsT, unk := [], nxt := [], calls := ring_New.calls, ifc := noIfc, cuts := cuts, ret := ring_New.ret Q, rets := [.tmp 4, .tmp 5], n := 23 }

theorem ring_New.callsOK {W0 : World} : CallsOK sg W0 ring_New.calls := ⟨ring_right.S, trivial⟩

theorem ring_New.e : ∀ (a1 : Int) (a2 : Int) (Q : (Option Ptr) → Int → Heap → Prop) (h : Heap), ring_New a1 a2 Q h = pts (ring_New.E Q []) 3000 true [.code ring_New.code] (frOf 0 [.int .u64 a1, .int .i64 a2]) h := by
  intros; kernel_rfl

theorem ring_New.S {W0 : World} : FnS sg W0 35 ring_New.C := by
  intro vs κ h wv hx w s
  unfold ring_New.C at hx
  split at hx
  · rename_i a1 a2
    refine postImp (ret := ring_New.ret (fun r1 r2 h => κ (.tup [.ptr r1, .int .i64 r2]) h)) (fun v h hr => by unfold ring_New.ret at hr; split at hr; exact hr; exact hr.elim) ?_
    exact calls_of_pts (E := ring_New.E (fun r1 r2 h => κ (.tup [.ptr r1, .int .i64 r2]) h) []) (envOK seatOK ring_New.callsOK noIfc_ok) seatOK.mixed ring_New.fun (Nat.le_of_ble_eq_true rfl) wv (cutL_ok trivial) s (fuel := 3000) (by rw [← ring_New.e]; exact hx)
  · exact hx.elim

noncomputable def mem_Memory_none.code : Code := Go.Proofs.Tryd.f20.body.getD .skip

theorem mem_Memory_none.fun : Fun sg.P 20 12 [.tmp 2] mem_Memory_none.code := mkFun Go.Proofs.Tryd.func20 (by kernel_rfl) (by kernel_rfl) (by kernel_rfl) (by kernel_rfl)

def mem_Memory_none.ret (Q : Bool → Heap → Prop) (v : V) (h : Heap) : Prop :=
  match v with
  | .bool r1 => Q r1 h
  | _ => False

def mem_Memory_none.C (vs : List V) (κ : V → Heap → Prop) (h : Heap) : Prop :=
  match vs with
  | [.ptr a1] => mem_Memory_none a1 (fun r1 h => κ (.bool r1) h) h
  | _ => False

noncomputable def mem_Memory_none.calls : List (Nat × (List V → (V → Heap → Prop) → Heap → Prop)) := []

noncomputable def mem_Memory_none.E (Q : Bool → Heap → Prop) (cuts : List (Nat × (List Nat × (List V → Heap → Prop)))) : Env := { tis := tisT, fns := fnsT, tys := tysT, gls := [], rts := rtsT, unk := [], nxt := [], calls := mem_Memory_none.calls, ifc := noIfc, cuts := cuts, ret := mem_Memory_none.ret Q, rets := [.tmp 2], n := 12 }

theorem mem_Memory_none.callsOK {W0 : World} : CallsOK sg W0 mem_Memory_none.calls := trivial

theorem mem_Memory_none.e : ∀ (a1 : Option Ptr) (Q : Bool → Heap → Prop) (h : Heap), mem_Memory_none a1 Q h = pts (mem_Memory_none.E Q []) 3000 true [.code mem_Memory_none.code] (frOf 0 [.ptr a1]) h := by
  intros; kernel_rfl

theorem mem_Memory_none.S {W0 : World} : FnS sg W0 31 mem_Memory_none.C := by
  intro vs κ h wv hx w s
  unfold mem_Memory_none.C at hx
  split at hx
  · rename_i a1
    refine postImp (ret := mem_Memory_none.ret (fun r1 h => κ (.bool r1) h)) (fun v h hr => by unfold mem_Memory_none.ret at hr; split at hr; exact hr; exact hr.elim) ?_
    exact calls_of_pts (E := mem_Memory_none.E (fun r1 h => κ (.bool r1) h) []) (envOK seatOK mem_Memory_none.callsOK noIfc_ok) seatOK.mixed mem_Memory_none.fun (Nat.le_of_ble_eq_true rfl) wv (cutL_ok trivial) s (fuel := 3000) (by rw [← mem_Memory_none.e]; exact hx)
  · exact hx.elim

noncomputable def mem_Memory_part_c1.code : Code := Go.Proofs.Tryd.f24.body.getD .skip

theorem mem_Memory_part_c1.fun : Fun sg.P 24 23 [.tmp 3] mem_Memory_part_c1.code := mkFun Go.Proofs.Tryd.func24 (by kernel_rfl) (by kernel_rfl) (by kernel_rfl) (by kernel_rfl)

def mem_Memory_part_c1.ret (Q : Bool → Heap → Prop) (v : V) (h : Heap) : Prop :=
  match v with
  | .bool r1 => Q r1 h
  | _ => False

def mem_Memory_part_c1.C (vs : List V) (κ : V → Heap → Prop) (h : Heap) : Prop :=
  match vs with
  | [.ptr (some a1), .ptr (some a2), .ptr (some a3)] => mem_Memory_part_c1 a1 a2 a3 (fun r1 h => κ (.bool r1) h) h
  | _ => False

noncomputable def mem_Memory_part_c1.calls : List (Nat × (List V → (V → Heap → Prop) → Heap → Prop)) := []

noncomputable def mem_Memory_part_c1.E (Q : Bool → Heap → Prop) (cuts : List (Nat × (List Nat × (List V → Heap → Prop)))) : Env := { tis := tisT, fns := fnsT, tys := tysT, gls := [], rts := rtsT, unk := [], nxt := [], calls := mem_Memory_part_c1.calls, ifc := noIfc, cuts := cuts, ret := mem_Memory_part_c1.ret Q, rets := [.tmp 3], n := 23 }

theorem mem_Memory_part_c1.callsOK {W0 : World} : CallsOK sg W0 mem_Memory_part_c1.calls := trivial

theorem mem_Memory_part_c1.e : ∀ (a1 : Ptr) (a2 : Ptr) (a3 : Ptr) (Q : Bool → Heap → Prop) (h : Heap), mem_Memory_part_c1 a1 a2 a3 Q h = pts (mem_Memory_part_c1.E Q []) 3000 true [.code mem_Memory_part_c1.code] (frOf 0 [.ptr (some a1), .ptr (some a2), .ptr (some a3)]) h := by
  intros; kernel_rfl

theorem mem_Memory_part_c1.S {W0 : World} : FnS sg W0 2 mem_Memory_part_c1.C := by
  intro vs κ h wv hx w s
  unfold mem_Memory_part_c1.C at hx
  split at hx
  · rename_i a1 a2 a3
    refine postImp (ret := mem_Memory_part_c1.ret (fun r1 h => κ (.bool r1) h)) (fun v h hr => by unfold mem_Memory_part_c1.ret at hr; split at hr; exact hr; exact hr.elim) ?_
    exact calls_of_pts (E := mem_Memory_part_c1.E (fun r1 h => κ (.bool r1) h) []) (envOK seatOK mem_Memory_part_c1.callsOK noIfc_ok) seatOK.mixed mem_Memory_part_c1.fun (Nat.le_of_ble_eq_true rfl) wv (cutL_ok trivial) s (fuel := 3000) (by rw [← mem_Memory_part_c1.e]; exact hx)
  · exact hx.elim

noncomputable def mem_Memory_part.code : Code := Go.Proofs.Tryd.f21.body.getD .skip

theorem mem_Memory_part.fun : Fun sg.P 21 33 [.tmp 6, .tmp 7] mem_Memory_part.code := mkFun Go.Proofs.Tryd.func21 (by kernel_rfl) (by kernel_rfl) (by kernel_rfl) (by kernel_rfl)

def mem_Memory_part.ret (Q : Sl → Int → Heap → Prop) (v : V) (h : Heap) : Prop :=
  match v with
  | .tup [.sl r1, .int .i64 r2] => Q r1 r2 h
  | _ => False

def mem_Memory_part.C (vs : List V) (κ : V → Heap → Prop) (h : Heap) : Prop :=
  match vs with
  | [.ptr a1, .int .u64 a2, .int .i64 a3] => mem_Memory_part a1 a2 a3 (fun r1 r2 h => κ (.tup [.sl r1, .int .i64 r2]) h) h
  | _ => False

noncomputable def mem_Memory_part.calls : List (Nat × (List V → (V → Heap → Prop) → Heap → Prop)) := [(31, mem_Memory_none.C), (2, mem_Memory_part_c1.C)]

noncomputable def mem_Memory_part.E (Q : Sl → Int → Heap → Prop) (cuts : List (Nat × (List Nat × (List V → Heap → Prop)))) : Env := { tis := tisT, fns := fnsT, tys := tysT, gls := [], rts := rtsT, unk := [], nxt := [], calls := mem_Memory_part.calls, ifc := noIfc, cuts := cuts, ret := mem_Memory_part.ret Q, rets := [.tmp 6, .tmp 7], n := 33 }

theorem mem_Memory_part.callsOK {W0 : World} : CallsOK sg W0 mem_Memory_part.calls := ⟨mem_Memory_none.S, mem_Memory_part_c1.S, trivial⟩

theorem mem_Memory_part.e : ∀ (a1 : Option Ptr) (a2 : Int) (a3 : Int) (Q : Sl → Int → Heap → Prop) (h : Heap), mem_Memory_part a1 a2 a3 Q h = pts (mem_Memory_part.E Q []) 3000 true [.code mem_Memory_part.code] (frOf 0 [.ptr a1, .int .u64 a2, .int .i64 a3]) h := by
  intros; kernel_rfl

theorem mem_Memory_part.S {W0 : World} : FnS sg W0 32 mem_Memory_part.C := by
  intro vs κ h wv hx w s
  unfold mem_Memory_part.C at hx
  split at hx
  · rename_i a1 a2 a3
    refine postImp (ret := mem_Memory_part.ret (fun r1 r2 h => κ (.tup [.sl r1, .int .i64 r2]) h)) (fun v h hr => by unfold mem_Memory_part.ret at hr; split at hr; exact hr; exact hr.elim) ?_
    exact calls_of_pts (E := mem_Memory_part.E (fun r1 r2 h => κ (.tup [.sl r1, .int .i64 r2]) h) []) (envOK seatOK mem_Memory_part.callsOK noIfc_ok) seatOK.mixed mem_Memory_part.fun (Nat.le_of_ble_eq_true rfl) wv (cutL_ok trivial) s (fuel := 3000) (by rw [← mem_Memory_part.e]; exact hx)
  · exact hx.elim

noncomputable def mem_Memory_number.code : Code := Go.Proofs.Tryd.f14.body.getD .skip

theorem mem_Memory_number.fun : Fun sg.P 14 34 [.tmp 6, .tmp 7] mem_Memory_number.code := mkFun Go.Proofs.Tryd.func14 (by kernel_rfl) (by kernel_rfl) (by kernel_rfl) (by kernel_rfl)

def mem_Memory_number.ret (Q : Sl → Int → Heap → Prop) (v : V) (h : Heap) : Prop :=
  match v with
  | .tup [.sl r1, .int .i64 r2] => Q r1 r2 h
  | _ => False

def mem_Memory_number.C (vs : List V) (κ : V → Heap → Prop) (h : Heap) : Prop :=
  match vs with
  | [.ptr a1, .int .u64 a2, .int .i64 a3] => mem_Memory_number a1 a2 a3 (fun r1 r2 h => κ (.tup [.sl r1, .int .i64 r2]) h) h
  | _ => False

noncomputable def mem_Memory_number.calls : List (Nat × (List V → (V → Heap → Prop) → Heap → Prop)) := [(31, mem_Memory_none.C), (32, mem_Memory_part.C)]

noncomputable def mem_Memory_number.E (Q : Sl → Int → Heap → Prop) (cuts : List (Nat × (List Nat × (List V → Heap → Prop)))) : Env := { tis := tisT, fns := fnsT, tys := tysT, gls := [], rts := rtsT, unk := [], nxt := [], calls := mem_Memory_number.calls, ifc := noIfc, cuts := cuts, ret := mem_Memory_number.ret Q, rets := [.tmp 6, .tmp 7], n := 34 }

theorem mem_Memory_number.callsOK {W0 : World} : CallsOK sg W0 mem_Memory_number.calls := ⟨mem_Memory_none.S, mem_Memory_part.S, trivial⟩

def mem_Memory_number.k5 (I : (Option Ptr) → Int → Int → Heap → Prop) (vs : List V) (h : Heap) : Prop :=
  match vs with
  | [.ptr a1, .int .u64 a2, .int .i64 a3] => I a1 a2 a3 h
  | _ => False

theorem mem_Memory_number.p5 : (posC mem_Memory_number.code []).filter (fun p => Nat.beq p.1 5) = [(5, atPos (posC mem_Memory_number.code []) 5)] := by kernel_rfl

theorem mem_Memory_number.e5 : ∀  (a1 : Option Ptr) (a2 : Int) (a3 : Int) (Q : Sl → Int → Heap → Prop) (h : Heap), mem_Memory_number.j5  a1 a2 a3 Q h = pts (mem_Memory_number.E Q []) 3000 true (atPos (posC mem_Memory_number.code []) 5) (frAt [0, 1, 2] [.ptr a1, .int .u64 a2, .int .i64 a3]) h := by
  intros; kernel_rfl

theorem mem_Memory_number.s5 {W0 : World} (Q : Sl → Int → Heap → Prop)   : CutOK sg W0 34 (entered 14) (Post sg W0 (mem_Memory_number.ret Q)) (posC mem_Memory_number.code []) 5 [0, 1, 2] (mem_Memory_number.k5 (fun a1 a2 a3 h => mem_Memory_number.j5  a1 a2 a3 Q h)) := by
  refine cutOK_head (fun vs h hk => ?_)
  unfold mem_Memory_number.k5 at hk
  split at hk
  · rename_i a1 a2 a3
    intro todo hm ρ a w s f hp
    exact piece (E := mem_Memory_number.E Q []) (vs := [.ptr a1, .int .u64 a2, .int .i64 a3]) (envOK seatOK mem_Memory_number.callsOK noIfc_ok) (fnOK seatOK mem_Memory_number.fun) trivial mem_Memory_number.p5 (fuel := 3000) (by rw [← mem_Memory_number.e5]; exact hk) hm s f hp
  · exact hk.elim

theorem mem_Memory_number.e : ∀ (a1 : Option Ptr) (a2 : Int) (a3 : Int) (Q : Sl → Int → Heap → Prop) (h : Heap), mem_Memory_number a1 a2 a3 Q h = pts (mem_Memory_number.E Q [(5, ([0, 1, 2], mem_Memory_number.k5 (fun a1 a2 a3 h => mem_Memory_number.j5  a1 a2 a3 Q h)))]) 3000 true [.code mem_Memory_number.code] (frOf 0 [.ptr a1, .int .u64 a2, .int .i64 a3]) h := by
  intros; kernel_rfl

theorem mem_Memory_number.S {W0 : World} : FnS sg W0 59 mem_Memory_number.C := by
  intro vs κ h wv hx w s
  unfold mem_Memory_number.C at hx
  split at hx
  · rename_i a1 a2 a3
    refine postImp (ret := mem_Memory_number.ret (fun r1 r2 h => κ (.tup [.sl r1, .int .i64 r2]) h)) (fun v h hr => by unfold mem_Memory_number.ret at hr; split at hr; exact hr; exact hr.elim) ?_
    exact calls_of_pts (E := mem_Memory_number.E (fun r1 r2 h => κ (.tup [.sl r1, .int .i64 r2]) h) [(5, ([0, 1, 2], mem_Memory_number.k5 (fun a1 a2 a3 h => mem_Memory_number.j5  a1 a2 a3 (fun r1 r2 h => κ (.tup [.sl r1, .int .i64 r2]) h) h)))]) (envOK seatOK mem_Memory_number.callsOK noIfc_ok) seatOK.mixed mem_Memory_number.fun (Nat.le_of_ble_eq_true rfl) wv (cutL_ok ⟨(mem_Memory_number.s5 (fun r1 r2 h => κ (.tup [.sl r1, .int .i64 r2]) h)), trivial⟩) s (fuel := 3000) (by rw [← mem_Memory_number.e]; exact hx)
  · exact hx.elim

noncomputable def word_known.code : Code := Go.Proofs.Tryd.f22.body.getD .skip

theorem word_known.fun : Fun sg.P 22 17 [.tmp 2] word_known.code := mkFun Go.Proofs.Tryd.func22 (by kernel_rfl) (by kernel_rfl) (by kernel_rfl) (by kernel_rfl)

def word_known.ret (Q : Bool → Heap → Prop) (v : V) (h : Heap) : Prop :=
  match v with
  | .bool r1 => Q r1 h
  | _ => False

def word_known.C (U : Ifc) (vs : List V) (κ : V → Heap → Prop) (h : Heap) : Prop :=
  match vs with
  | [.int .i64 a1] => word_known U a1 (fun r1 h => κ (.bool r1) h) h
  | _ => False

noncomputable def word_known.calls (U : Ifc) : List (Nat × (List V → (V → Heap → Prop) → Heap → Prop)) := []

noncomputable def word_known.E (U : Ifc) (Q : Bool → Heap → Prop) (cuts : List (Nat × (List Nat × (List V → Heap → Prop)))) : Env := { tis := tisT, fns := fnsT, tys := tysT, gls := glsT, rts := rtsT, unk := [], nxt := [], calls := word_known.calls U, ifc := U, cuts := cuts, ret := word_known.ret Q, rets := [.tmp 2], n := 17 }

theorem word_known.callsOK {W0 : World} {U : Ifc} (hU : IfcOK sg W0 glsT U) : CallsOK sg W0 (word_known.calls U) := trivial

def word_known.k6 (I : Int → Int → Int → Int → Int → Int → Heap → Prop) (vs : List V) (h : Heap) : Prop :=
  match vs with
  | [.int .i64 a1, .agg [.int .i64 a2, .int .i64 a3, .int .i64 a4, .int .i64 a5], .int .i64 a6] => I a1 a2 a3 a4 a5 a6 h
  | _ => False

def word_known.k2 (I : Int → Int → Int → Int → Int → Int → Heap → Prop) (vs : List V) (h : Heap) : Prop :=
  match vs with
  | [.int .i64 a1, .agg [.int .i64 a2, .int .i64 a3, .int .i64 a4, .int .i64 a5], .int .i64 a6] => I a1 a2 a3 a4 a5 a6 h
  | _ => False

theorem word_known.p6 : (posC word_known.code []).filter (fun p => Nat.beq p.1 6) = [(6, atPos (posC word_known.code []) 6)] := by kernel_rfl

theorem word_known.e6 : ∀ (U : Ifc) (I2 : Int → Int → Int → Int → Int → Int → Heap → Prop) (a1 : Int) (a2 : Int) (a3 : Int) (a4 : Int) (a5 : Int) (a6 : Int) (Q : Bool → Heap → Prop) (h : Heap), word_known.j6 U I2 a1 a2 a3 a4 a5 a6 Q h = pts (word_known.E U Q [(2, ([0, 5, 6], word_known.k2 I2))]) 3000 true (atPos (posC word_known.code []) 6) (frAt [0, 5, 6] [.int .i64 a1, .agg [.int .i64 a2, .int .i64 a3, .int .i64 a4, .int .i64 a5], .int .i64 a6]) h := by
  intros; kernel_rfl

theorem word_known.s6 {W0 : World} {U : Ifc} (hU : IfcOK sg W0 glsT U) (Q : Bool → Heap → Prop) (I2 : Int → Int → Int → Int → Int → Int → Heap → Prop) (h2 : CutOK sg W0 17 (entered 22) (Post sg W0 (word_known.ret Q)) (posC word_known.code []) 2 [0, 5, 6] (word_known.k2 I2)) : CutOK sg W0 17 (entered 22) (Post sg W0 (word_known.ret Q)) (posC word_known.code []) 6 [0, 5, 6] (word_known.k6 (fun a1 a2 a3 a4 a5 a6 h => word_known.j6 U I2 a1 a2 a3 a4 a5 a6 Q h)) := by
  refine cutOK_head (fun vs h hk => ?_)
  unfold word_known.k6 at hk
  split at hk
  · rename_i a1 a2 a3 a4 a5 a6
    intro todo hm ρ a w s f hp
    exact piece (E := word_known.E U Q [(2, ([0, 5, 6], word_known.k2 I2))]) (vs := [.int .i64 a1, .agg [.int .i64 a2, .int .i64 a3, .int .i64 a4, .int .i64 a5], .int .i64 a6]) (envOK seatOK (word_known.callsOK hU) hU) (fnOK seatOK word_known.fun) ⟨h2, trivial⟩ word_known.p6 (fuel := 3000) (by rw [← word_known.e6]; exact hk) hm s f hp
  · exact hk.elim

theorem word_known.p2 : (posC word_known.code []).filter (fun p => Nat.beq p.1 2) = [(2, atPos (posC word_known.code []) 2)] := by kernel_rfl

theorem word_known.e2 : ∀ (U : Ifc)  (I2 : Int → Int → Int → Int → Int → Int → Heap → Prop) (a1 : Int) (a2 : Int) (a3 : Int) (a4 : Int) (a5 : Int) (a6 : Int) (Q : Bool → Heap → Prop) (h : Heap), word_known.b2 U  I2 a1 a2 a3 a4 a5 a6 Q h = pts (word_known.E U Q [(6, ([0, 5, 6], word_known.k6 (fun a1 a2 a3 a4 a5 a6 h => word_known.j6 U I2 a1 a2 a3 a4 a5 a6 Q h)))]) 3000 true (atPos (posC word_known.code []) 2) (frAt [0, 5, 6] [.int .i64 a1, .agg [.int .i64 a2, .int .i64 a3, .int .i64 a4, .int .i64 a5], .int .i64 a6]) h := by
  intros; kernel_rfl

theorem word_known.s2 {W0 : World} {U : Ifc} (hU : IfcOK sg W0 glsT U) (Q : Bool → Heap → Prop)   : CutOK sg W0 17 (entered 22) (Post sg W0 (word_known.ret Q)) (posC word_known.code []) 2 [0, 5, 6] (word_known.k2 (fun a1 a2 a3 a4 a5 a6 h => word_known.j2 U  a1 a2 a3 a4 a5 a6 Q h)) := by
  refine cutOK_head (fun vs h hk => ?_)
  unfold word_known.k2 at hk
  split at hk
  · rename_i a1 a2 a3 a4 a5 a6
    refine hk (fun a1 a2 a3 a4 a5 a6 h => Head sg W0 17 (entered 22) (Post sg W0 (word_known.ret Q)) (posC word_known.code []) 2 [0, 5, 6] [.int .i64 a1, .agg [.int .i64 a2, .int .i64 a3, .int .i64 a4, .int .i64 a5], .int .i64 a6] h) ?_
    intro a1 a2 a3 a4 a5 a6 h hb todo hm ρ a w s f hp
    have hself : CutOK sg W0 17 (entered 22) (Post sg W0 (word_known.ret Q)) (posC word_known.code []) 2 [0, 5, 6] (word_known.k2 (fun a1 a2 a3 a4 a5 a6 h => Head sg W0 17 (entered 22) (Post sg W0 (word_known.ret Q)) (posC word_known.code []) 2 [0, 5, 6] [.int .i64 a1, .agg [.int .i64 a2, .int .i64 a3, .int .i64 a4, .int .i64 a5], .int .i64 a6] h)) := cutOK_head (fun vs h hk => by unfold word_known.k2 at hk; split at hk; exact hk; exact hk.elim)
    exact piece (E := word_known.E U Q [(6, ([0, 5, 6], word_known.k6 (fun a1 a2 a3 a4 a5 a6 h => word_known.j6 U (fun a1 a2 a3 a4 a5 a6 h => Head sg W0 17 (entered 22) (Post sg W0 (word_known.ret Q)) (posC word_known.code []) 2 [0, 5, 6] [.int .i64 a1, .agg [.int .i64 a2, .int .i64 a3, .int .i64 a4, .int .i64 a5], .int .i64 a6] h) a1 a2 a3 a4 a5 a6 Q h)))]) (vs := [.int .i64 a1, .agg [.int .i64 a2, .int .i64 a3, .int .i64 a4, .int .i64 a5], .int .i64 a6]) (envOK seatOK (word_known.callsOK hU) hU) (fnOK seatOK word_known.fun) ⟨(word_known.s6 hU Q (fun a1 a2 a3 a4 a5 a6 h => Head sg W0 17 (entered 22) (Post sg W0 (word_known.ret Q)) (posC word_known.code []) 2 [0, 5, 6] [.int .i64 a1, .agg [.int .i64 a2, .int .i64 a3, .int .i64 a4, .int .i64 a5], .int .i64 a6] h) hself), trivial⟩ word_known.p2 (fuel := 3000) (by rw [← word_known.e2]; exact hb) hm s f hp
  · exact hk.elim

theorem word_known.e : ∀ (U : Ifc) (a1 : Int) (Q : Bool → Heap → Prop) (h : Heap), word_known U a1 Q h = pts (word_known.E U Q [(2, ([0, 5, 6], word_known.k2 (fun a1 a2 a3 a4 a5 a6 h => word_known.j2 U  a1 a2 a3 a4 a5 a6 Q h)))]) 3000 true [.code word_known.code] (frOf 0 [.int .i64 a1]) h := by
  intros; kernel_rfl

theorem word_known.S {W0 : World} {U : Ifc} (hU : IfcOK sg W0 glsT U) : FnS sg W0 93 (word_known.C U) := by
  intro vs κ h wv hx w s
  unfold word_known.C at hx
  split at hx
  · rename_i a1
    refine postImp (ret := word_known.ret (fun r1 h => κ (.bool r1) h)) (fun v h hr => by unfold word_known.ret at hr; split at hr; exact hr; exact hr.elim) ?_
    exact calls_of_pts (E := word_known.E U (fun r1 h => κ (.bool r1) h) [(2, ([0, 5, 6], word_known.k2 (fun a1 a2 a3 a4 a5 a6 h => word_known.j2 U  a1 a2 a3 a4 a5 a6 (fun r1 h => κ (.bool r1) h) h)))]) (envOK seatOK (word_known.callsOK hU) hU) seatOK.mixed word_known.fun (Nat.le_of_ble_eq_true rfl) wv (cutL_ok ⟨(word_known.s2 hU (fun r1 h => κ (.bool r1) h)), trivial⟩) s (fuel := 3000) (by rw [← word_known.e]; exact hx)
  · exact hx.elim

noncomputable def word_Store.code : Code := Go.Proofs.Tryd.f15.body.getD .skip

theorem word_Store.fun : Fun sg.P 15 27 [.tmp 4] word_Store.code := mkFun Go.Proofs.Tryd.func15 (by kernel_rfl) (by kernel_rfl) (by kernel_rfl) (by kernel_rfl)

def word_Store.ret (Q : Sl → Heap → Prop) (v : V) (h : Heap) : Prop :=
  match v with
  | .sl r1 => Q r1 h
  | _ => False

def word_Store.C (U : Ifc) (vs : List V) (κ : V → Heap → Prop) (h : Heap) : Prop :=
  match vs with
  | [.int .u64 a1, .int .i64 a2] => word_Store U a1 a2 (fun r1 h => κ (.sl r1) h) h
  | _ => False

noncomputable def word_Store.calls (U : Ifc) : List (Nat × (List V → (V → Heap → Prop) → Heap → Prop)) := [(93, word_known.C U)]

noncomputable def word_Store.E (U : Ifc) (Q : Sl → Heap → Prop) (cuts : List (Nat × (List Nat × (List V → Heap → Prop)))) : Env := { tis := tisT, fns := fnsT, tys := tysT, gls := glsT, rts := rtsT, unk := [], nxt := [], calls := word_Store.calls U, ifc := U, cuts := cuts, ret := word_Store.ret Q, rets := [.tmp 4], n := 27 }

theorem word_Store.callsOK {W0 : World} {U : Ifc} (hU : IfcOK sg W0 glsT U) : CallsOK sg W0 (word_Store.calls U) := ⟨(word_known.S hU), trivial⟩

def word_Store.k5 (I : Int → Sl → Int → Int → Heap → Prop) (vs : List V) (h : Heap) : Prop :=
  match vs with
  | [.int .u64 a1, .sl a2, .int .i64 a3, .int .i64 a4] => I a1 a2 a3 a4 h
  | _ => False

theorem word_Store.p5 : (posC word_Store.code []).filter (fun p => Nat.beq p.1 5) = [(5, atPos (posC word_Store.code []) 5)] := by kernel_rfl

theorem word_Store.e5 : ∀ (U : Ifc)  (I5 : Int → Sl → Int → Int → Heap → Prop) (a1 : Int) (a2 : Sl) (a3 : Int) (a4 : Int) (Q : Sl → Heap → Prop) (h : Heap), word_Store.b5 U  I5 a1 a2 a3 a4 Q h = pts (word_Store.E U Q [(5, ([0, 5, 13, 14], word_Store.k5 I5))]) 3000 true (atPos (posC word_Store.code []) 5) (frAt [0, 5, 13, 14] [.int .u64 a1, .sl a2, .int .i64 a3, .int .i64 a4]) h := by
  intros; kernel_rfl

theorem word_Store.s5 {W0 : World} {U : Ifc} (hU : IfcOK sg W0 glsT U) (Q : Sl → Heap → Prop)   : CutOK sg W0 27 (entered 15) (Post sg W0 (word_Store.ret Q)) (posC word_Store.code []) 5 [0, 5, 13, 14] (word_Store.k5 (fun a1 a2 a3 a4 h => word_Store.j5 U  a1 a2 a3 a4 Q h)) := by
  refine cutOK_head (fun vs h hk => ?_)
  unfold word_Store.k5 at hk
  split at hk
  · rename_i a1 a2 a3 a4
    refine hk (fun a1 a2 a3 a4 h => Head sg W0 27 (entered 15) (Post sg W0 (word_Store.ret Q)) (posC word_Store.code []) 5 [0, 5, 13, 14] [.int .u64 a1, .sl a2, .int .i64 a3, .int .i64 a4] h) ?_
    intro a1 a2 a3 a4 h hb todo hm ρ a w s f hp
    have hself : CutOK sg W0 27 (entered 15) (Post sg W0 (word_Store.ret Q)) (posC word_Store.code []) 5 [0, 5, 13, 14] (word_Store.k5 (fun a1 a2 a3 a4 h => Head sg W0 27 (entered 15) (Post sg W0 (word_Store.ret Q)) (posC word_Store.code []) 5 [0, 5, 13, 14] [.int .u64 a1, .sl a2, .int .i64 a3, .int .i64 a4] h)) := cutOK_head (fun vs h hk => by unfold word_Store.k5 at hk; split at hk; exact hk; exact hk.elim)
    exact piece (E := word_Store.E U Q [(5, ([0, 5, 13, 14], word_Store.k5 (fun a1 a2 a3 a4 h => Head sg W0 27 (entered 15) (Post sg W0 (word_Store.ret Q)) (posC word_Store.code []) 5 [0, 5, 13, 14] [.int .u64 a1, .sl a2, .int .i64 a3, .int .i64 a4] h)))]) (vs := [.int .u64 a1, .sl a2, .int .i64 a3, .int .i64 a4]) (envOK seatOK (word_Store.callsOK hU) hU) (fnOK seatOK word_Store.fun) ⟨hself, trivial⟩ word_Store.p5 (fuel := 3000) (by rw [← word_Store.e5]; exact hb) hm s f hp
  · exact hk.elim

theorem word_Store.e : ∀ (U : Ifc) (a1 : Int) (a2 : Int) (Q : Sl → Heap → Prop) (h : Heap), word_Store U a1 a2 Q h = pts (word_Store.E U Q [(5, ([0, 5, 13, 14], word_Store.k5 (fun a1 a2 a3 a4 h => word_Store.j5 U  a1 a2 a3 a4 Q h)))]) 3000 true [.code word_Store.code] (frOf 0 [.int .u64 a1, .int .i64 a2]) h := by
  intros; kernel_rfl

theorem word_Store.S {W0 : World} {U : Ifc} (hU : IfcOK sg W0 glsT U) : FnS sg W0 96 (word_Store.C U) := by
  intro vs κ h wv hx w s
  unfold word_Store.C at hx
  split at hx
  · rename_i a1 a2
    refine postImp (ret := word_Store.ret (fun r1 h => κ (.sl r1) h)) (fun v h hr => by unfold word_Store.ret at hr; split at hr; exact hr; exact hr.elim) ?_
    exact calls_of_pts (E := word_Store.E U (fun r1 h => κ (.sl r1) h) [(5, ([0, 5, 13, 14], word_Store.k5 (fun a1 a2 a3 a4 h => word_Store.j5 U  a1 a2 a3 a4 (fun r1 h => κ (.sl r1) h) h)))]) (envOK seatOK (word_Store.callsOK hU) hU) seatOK.mixed word_Store.fun (Nat.le_of_ble_eq_true rfl) wv (cutL_ok ⟨(word_Store.s5 hU (fun r1 h => κ (.sl r1) h)), trivial⟩) s (fuel := 3000) (by rw [← word_Store.e]; exact hx)
  · exact hx.elim

noncomputable def mem_Memory_Store.code : Code := Go.Proofs.Tryd.f8.body.getD .skip

theorem mem_Memory_Store.fun : Fun sg.P 8 26 [.tmp 8] mem_Memory_Store.code := mkFun Go.Proofs.Tryd.func8 (by kernel_rfl) (by kernel_rfl) (by kernel_rfl) (by kernel_rfl)

def mem_Memory_Store.ret (Q : Int → Heap → Prop) (v : V) (h : Heap) : Prop :=
  match v with
  | .int .i64 r1 => Q r1 h
  | _ => False

def mem_Memory_Store.C (U : Ifc) (vs : List V) (κ : V → Heap → Prop) (h : Heap) : Prop :=
  match vs with
  | [.ptr a1, .int .u64 a2, .int .i64 a3, .int .u64 a4] => mem_Memory_Store U a1 a2 a3 a4 (fun r1 h => κ (.int .i64 r1) h) h
  | _ => False

noncomputable def mem_Memory_Store.calls (U : Ifc) : List (Nat × (List V → (V → Heap → Prop) → Heap → Prop)) := [(59, mem_Memory_number.C), (96, word_Store.C U)]

noncomputable def mem_Memory_Store.E (U : Ifc) (Q : Int → Heap → Prop) (cuts : List (Nat × (List Nat × (List V → Heap → Prop)))) : Env := { tis := tisT, fns := fnsT, tys := tysT, gls := glsT, rts := rtsT, unk := [], nxt := [], calls := mem_Memory_Store.calls U, ifc := U, cuts := cuts, ret := mem_Memory_Store.ret Q, rets := [.tmp 8], n := 26 }

theorem mem_Memory_Store.callsOK {W0 : World} {U : Ifc} (hU : IfcOK sg W0 glsT U) : CallsOK sg W0 (mem_Memory_Store.calls U) := ⟨mem_Memory_number.S, (word_Store.S hU), trivial⟩

theorem mem_Memory_Store.e : ∀ (U : Ifc) (a1 : Option Ptr) (a2 : Int) (a3 : Int) (a4 : Int) (Q : Int → Heap → Prop) (h : Heap), mem_Memory_Store U a1 a2 a3 a4 Q h = pts (mem_Memory_Store.E U Q []) 3000 true [.code mem_Memory_Store.code] (frOf 0 [.ptr a1, .int .u64 a2, .int .i64 a3, .int .u64 a4]) h := by
  intros; kernel_rfl

theorem mem_Memory_Store.S {W0 : World} {U : Ifc} (hU : IfcOK sg W0 glsT U) : FnS sg W0 97 (mem_Memory_Store.C U) := by
  intro vs κ h wv hx w s
  unfold mem_Memory_Store.C at hx
  split at hx
  · rename_i a1 a2 a3 a4
    refine postImp (ret := mem_Memory_Store.ret (fun r1 h => κ (.int .i64 r1) h)) (fun v h hr => by unfold mem_Memory_Store.ret at hr; split at hr; exact hr; exact hr.elim) ?_
    exact calls_of_pts (E := mem_Memory_Store.E U (fun r1 h => κ (.int .i64 r1) h) []) (envOK seatOK (mem_Memory_Store.callsOK hU) hU) seatOK.mixed mem_Memory_Store.fun (Nat.le_of_ble_eq_true rfl) wv (cutL_ok trivial) s (fuel := 3000) (by rw [← mem_Memory_Store.e]; exact hx)
  · exact hx.elim

noncomputable def palisadelaw23_RingOrder_c1.code : Code := Go.Proofs.Tryd.f7.body.getD .skip

theorem palisadelaw23_RingOrder_c1.fun : Fun sg.P 7 35 [] palisadelaw23_RingOrder_c1.code := mkFun Go.Proofs.Tryd.func7 (by kernel_rfl) (by kernel_rfl) (by kernel_rfl) (by kernel_rfl)

def palisadelaw23_RingOrder_c1.ret (Q : Heap → Prop) (v : V) (h : Heap) : Prop :=
  match v with
  | .tup [] => Q  h
  | _ => False

def palisadelaw23_RingOrder_c1.C (U : Ifc) (vs : List V) (κ : V → Heap → Prop) (h : Heap) : Prop :=
  match vs with
  | [.int .i64 a1, .int .u64 a2, .int .u64 a3, .int .u64 a4, .int .u64 a5, .ptr (some a6)] => palisadelaw23_RingOrder_c1 U a1 a2 a3 a4 a5 a6 (fun  h => κ (.tup []) h) h
  | _ => False

noncomputable def palisadelaw23_RingOrder_c1.calls (U : Ifc) : List (Nat × (List V → (V → Heap → Prop) → Heap → Prop)) := [(97, mem_Memory_Store.C U)]

noncomputable def palisadelaw23_RingOrder_c1.E (U : Ifc) (Q : Heap → Prop) (cuts : List (Nat × (List Nat × (List V → Heap → Prop)))) : Env := { tis := tisT, fns := fnsT, tys := tysT, gls := glsT, rts := rtsT, unk := [], nxt := [], calls := palisadelaw23_RingOrder_c1.calls U, ifc := U, cuts := cuts, ret := palisadelaw23_RingOrder_c1.ret Q, rets := [], n := 35 }

theorem palisadelaw23_RingOrder_c1.callsOK {W0 : World} {U : Ifc} (hU : IfcOK sg W0 glsT U) : CallsOK sg W0 (palisadelaw23_RingOrder_c1.calls U) := ⟨(mem_Memory_Store.S hU), trivial⟩

theorem palisadelaw23_RingOrder_c1.e : ∀ (U : Ifc) (a1 : Int) (a2 : Int) (a3 : Int) (a4 : Int) (a5 : Int) (a6 : Ptr) (Q : Heap → Prop) (h : Heap), palisadelaw23_RingOrder_c1 U a1 a2 a3 a4 a5 a6 Q h = pts (palisadelaw23_RingOrder_c1.E U Q []) 3000 true [.code palisadelaw23_RingOrder_c1.code] (frOf 0 [.int .i64 a1, .int .u64 a2, .int .u64 a3, .int .u64 a4, .int .u64 a5, .ptr (some a6)]) h := by
  intros; kernel_rfl

theorem palisadelaw23_RingOrder_c1.S {W0 : World} {U : Ifc} (hU : IfcOK sg W0 glsT U) : FnS sg W0 218 (palisadelaw23_RingOrder_c1.C U) := by
  intro vs κ h wv hx w s
  unfold palisadelaw23_RingOrder_c1.C at hx
  split at hx
  · rename_i a1 a2 a3 a4 a5 a6
    refine postImp (ret := palisadelaw23_RingOrder_c1.ret (fun  h => κ (.tup []) h)) (fun v h hr => by unfold palisadelaw23_RingOrder_c1.ret at hr; split at hr; exact hr; exact hr.elim) ?_
    exact calls_of_pts (E := palisadelaw23_RingOrder_c1.E U (fun  h => κ (.tup []) h) []) (envOK seatOK (palisadelaw23_RingOrder_c1.callsOK hU) hU) seatOK.mixed palisadelaw23_RingOrder_c1.fun (Nat.le_of_ble_eq_true rfl) wv (cutL_ok trivial) s (fuel := 3000) (by rw [← palisadelaw23_RingOrder_c1.e]; exact hx)
  · exact hx.elim

noncomputable def ring_Ring_usable.code : Code := Go.Proofs.Tryd.f16.body.getD .skip

theorem ring_Ring_usable.fun : Fun sg.P 16 24 [.tmp 4] ring_Ring_usable.code := mkFun Go.Proofs.Tryd.func16 (by kernel_rfl) (by kernel_rfl) (by kernel_rfl) (by kernel_rfl)

def ring_Ring_usable.ret (Q : Int → Heap → Prop) (v : V) (h : Heap) : Prop :=
  match v with
  | .int .i64 r1 => Q r1 h
  | _ => False

def ring_Ring_usable.C (vs : List V) (κ : V → Heap → Prop) (h : Heap) : Prop :=
  match vs with
  | [.ptr a1, a2] => ring_Ring_usable a1 a2 (fun r1 h => κ (.int .i64 r1) h) h
  | _ => False

noncomputable def ring_Ring_usable.calls : List (Nat × (List V → (V → Heap → Prop) → Heap → Prop)) := []

noncomputable def ring_Ring_usable.E (Q : Int → Heap → Prop) (cuts : List (Nat × (List Nat × (List V → Heap → Prop)))) : Env := { tis := tisT, fns := fnsT, tys := tysT, gls := [], rts := rtsT, unk := [], nxt := [], calls := ring_Ring_usable.calls, ifc := noIfc, cuts := cuts, ret := ring_Ring_usable.ret Q, rets := [.tmp 4], n := 24 }

theorem ring_Ring_usable.callsOK {W0 : World} : CallsOK sg W0 ring_Ring_usable.calls := trivial

theorem ring_Ring_usable.e : ∀ (a1 : Option Ptr) (a2 : V) (Q : Int → Heap → Prop) (h : Heap), ring_Ring_usable a1 a2 Q h = pts (ring_Ring_usable.E Q []) 3000 true [.code ring_Ring_usable.code] (frOf 0 [.ptr a1, a2]) h := by
  intros; kernel_rfl

theorem ring_Ring_usable.S {W0 : World} : FnS sg W0 30 ring_Ring_usable.C := by
  intro vs κ h wv hx w s
  unfold ring_Ring_usable.C at hx
  split at hx
  · rename_i a1 a2
    refine postImp (ret := ring_Ring_usable.ret (fun r1 h => κ (.int .i64 r1) h)) (fun v h hr => by unfold ring_Ring_usable.ret at hr; split at hr; exact hr; exact hr.elim) ?_
    exact calls_of_pts (E := ring_Ring_usable.E (fun r1 h => κ (.int .i64 r1) h) []) (envOK seatOK ring_Ring_usable.callsOK noIfc_ok) seatOK.mixed ring_Ring_usable.fun (Nat.le_of_ble_eq_true rfl) wv (cutL_ok trivial) s (fuel := 3000) (by rw [← ring_Ring_usable.e]; exact hx)
  · exact hx.elim

noncomputable def ring_reader_number.code : Code := Go.Proofs.Tryd.f17.body.getD .skip

theorem ring_reader_number.fun : Fun sg.P 17 28 [.tmp 4] ring_reader_number.code := mkFun Go.Proofs.Tryd.func17 (by kernel_rfl) (by kernel_rfl) (by kernel_rfl) (by kernel_rfl)

def ring_reader_number.ret (Q : Int → Heap → Prop) (v : V) (h : Heap) : Prop :=
  match v with
  | .int .u64 r1 => Q r1 h
  | _ => False

def ring_reader_number.C (U : Ifc) (vs : List V) (κ : V → Heap → Prop) (h : Heap) : Prop :=
  match vs with
  | [.ptr a1, .int .u64 a2] => ring_reader_number U a1 a2 (fun r1 h => κ (.int .u64 r1) h) h
  | _ => False

noncomputable def ring_reader_number.calls (U : Ifc) : List (Nat × (List V → (V → Heap → Prop) → Heap → Prop)) := []

noncomputable def ring_reader_number.E (U : Ifc) (Q : Int → Heap → Prop) (cuts : List (Nat × (List Nat × (List V → Heap → Prop)))) : Env := { tis := tisT, fns := fnsT, tys := tysT, gls := glsT, rts := rtsT, unk := [], nxt := [], calls := ring_reader_number.calls U, ifc := U, cuts := cuts, ret := ring_reader_number.ret Q, rets := [.tmp 4], n := 28 }

theorem ring_reader_number.callsOK {W0 : World} {U : Ifc} (hU : IfcOK sg W0 glsT U) : CallsOK sg W0 (ring_reader_number.calls U) := trivial

theorem ring_reader_number.e : ∀ (U : Ifc) (a1 : Option Ptr) (a2 : Int) (Q : Int → Heap → Prop) (h : Heap), ring_reader_number U a1 a2 Q h = pts (ring_reader_number.E U Q []) 3000 true [.code ring_reader_number.code] (frOf 0 [.ptr a1, .int .u64 a2]) h := by
  intros; kernel_rfl

theorem ring_reader_number.S {W0 : World} {U : Ifc} (hU : IfcOK sg W0 glsT U) : FnS sg W0 74 (ring_reader_number.C U) := by
  intro vs κ h wv hx w s
  unfold ring_reader_number.C at hx
  split at hx
  · rename_i a1 a2
    refine postImp (ret := ring_reader_number.ret (fun r1 h => κ (.int .u64 r1) h)) (fun v h hr => by unfold ring_reader_number.ret at hr; split at hr; exact hr; exact hr.elim) ?_
    exact calls_of_pts (E := ring_reader_number.E U (fun r1 h => κ (.int .u64 r1) h) []) (envOK seatOK (ring_reader_number.callsOK hU) hU) seatOK.mixed ring_reader_number.fun (Nat.le_of_ble_eq_true rfl) wv (cutL_ok trivial) s (fuel := 3000) (by rw [← ring_reader_number.e]; exact hx)
  · exact hx.elim

noncomputable def ring_reader_part.code : Code := Go.Proofs.Tryd.f23.body.getD .skip

theorem ring_reader_part.fun : Fun sg.P 23 68 [.cell 4 40, .tmp 5, .tmp 6] ring_reader_part.code := mkFun Go.Proofs.Tryd.func23 (by kernel_rfl) (by kernel_rfl) (by kernel_rfl) (by kernel_rfl)

def ring_reader_part.ret (Q : Int → Int → Bool → Int → Bool → Heap → Prop) (v : V) (h : Heap) : Prop :=
  match v with
  | .tup [.agg [.int .u64 r1, .int .i64 r2, .bool r3], .int .u64 r4, .bool r5] => Q r1 r2 r3 r4 r5 h
  | _ => False

def ring_reader_part.C (U : Ifc) (vs : List V) (κ : V → Heap → Prop) (h : Heap) : Prop :=
  match vs with
  | [.ptr a1, .int .u64 a2] => ring_reader_part U a1 a2 (fun r1 r2 r3 r4 r5 h => κ (.tup [.agg [.int .u64 r1, .int .i64 r2, .bool r3], .int .u64 r4, .bool r5]) h) h
  | _ => False

noncomputable def ring_reader_part.calls (U : Ifc) : List (Nat × (List V → (V → Heap → Prop) → Heap → Prop)) := [(74, ring_reader_number.C U)]

noncomputable def ring_reader_part.E (U : Ifc) (Q : Int → Int → Bool → Int → Bool → Heap → Prop) (cuts : List (Nat × (List Nat × (List V → Heap → Prop)))) : Env := { tis := tisT, fns := fnsT, tys := tysT, gls := glsT, rts := rtsT, unk := [], nxt := [], calls := ring_reader_part.calls U, ifc := U, cuts := cuts, ret := ring_reader_part.ret Q, rets := [.cell 4 40, .tmp 5, .tmp 6], n := 68 }

theorem ring_reader_part.callsOK {W0 : World} {U : Ifc} (hU : IfcOK sg W0 glsT U) : CallsOK sg W0 (ring_reader_part.calls U) := ⟨(ring_reader_number.S hU), trivial⟩

def ring_reader_part.k7 (I : (Option Ptr) → Int → Ptr → Ptr → Int → Heap → Prop) (vs : List V) (h : Heap) : Prop :=
  match vs with
  | [.ptr a1, .int .u64 a2, .ptr (some a3), .ptr (some a4), .int .i64 a5] => I a1 a2 a3 a4 a5 h
  | _ => False

def ring_reader_part.k9 (I : (Option Ptr) → Ptr → Heap → Prop) (vs : List V) (h : Heap) : Prop :=
  match vs with
  | [.ptr a1, .ptr (some a2)] => I a1 a2 h
  | _ => False

def ring_reader_part.k3 (I : (Option Ptr) → Int → Ptr → Ptr → Int → Heap → Prop) (vs : List V) (h : Heap) : Prop :=
  match vs with
  | [.ptr a1, .int .u64 a2, .ptr (some a3), .ptr (some a4), .int .i64 a5] => I a1 a2 a3 a4 a5 h
  | _ => False

theorem ring_reader_part.p7 : (posC ring_reader_part.code []).filter (fun p => Nat.beq p.1 7) = [(7, atPos (posC ring_reader_part.code []) 7)] := by kernel_rfl

theorem ring_reader_part.e7 : ∀ (U : Ifc) (I3 : (Option Ptr) → Int → Ptr → Ptr → Int → Heap → Prop) (a1 : Option Ptr) (a2 : Int) (a3 : Ptr) (a4 : Ptr) (a5 : Int) (Q : Int → Int → Bool → Int → Bool → Heap → Prop) (h : Heap), ring_reader_part.j7 U I3 a1 a2 a3 a4 a5 Q h = pts (ring_reader_part.E U Q [(3, ([0, 1, 4, 7, 9], ring_reader_part.k3 I3))]) 3000 true (atPos (posC ring_reader_part.code []) 7) (frAt [0, 1, 4, 7, 9] [.ptr a1, .int .u64 a2, .ptr (some a3), .ptr (some a4), .int .i64 a5]) h := by
  intros; kernel_rfl

theorem ring_reader_part.s7 {W0 : World} {U : Ifc} (hU : IfcOK sg W0 glsT U) (Q : Int → Int → Bool → Int → Bool → Heap → Prop) (I3 : (Option Ptr) → Int → Ptr → Ptr → Int → Heap → Prop) (h3 : CutOK sg W0 68 (entered 23) (Post sg W0 (ring_reader_part.ret Q)) (posC ring_reader_part.code []) 3 [0, 1, 4, 7, 9] (ring_reader_part.k3 I3)) : CutOK sg W0 68 (entered 23) (Post sg W0 (ring_reader_part.ret Q)) (posC ring_reader_part.code []) 7 [0, 1, 4, 7, 9] (ring_reader_part.k7 (fun a1 a2 a3 a4 a5 h => ring_reader_part.j7 U I3 a1 a2 a3 a4 a5 Q h)) := by
  refine cutOK_head (fun vs h hk => ?_)
  unfold ring_reader_part.k7 at hk
  split at hk
  · rename_i a1 a2 a3 a4 a5
    intro todo hm ρ a w s f hp
    exact piece (E := ring_reader_part.E U Q [(3, ([0, 1, 4, 7, 9], ring_reader_part.k3 I3))]) (vs := [.ptr a1, .int .u64 a2, .ptr (some a3), .ptr (some a4), .int .i64 a5]) (envOK seatOK (ring_reader_part.callsOK hU) hU) (fnOK seatOK ring_reader_part.fun) ⟨h3, trivial⟩ ring_reader_part.p7 (fuel := 3000) (by rw [← ring_reader_part.e7]; exact hk) hm s f hp
  · exact hk.elim

theorem ring_reader_part.p9 : (posC ring_reader_part.code []).filter (fun p => Nat.beq p.1 9) = [(9, atPos (posC ring_reader_part.code []) 9)] := by kernel_rfl

theorem ring_reader_part.e9 : ∀ (U : Ifc)  (a1 : Option Ptr) (a2 : Ptr) (Q : Int → Int → Bool → Int → Bool → Heap → Prop) (h : Heap), ring_reader_part.j9 U  a1 a2 Q h = pts (ring_reader_part.E U Q []) 3000 true (atPos (posC ring_reader_part.code []) 9) (frAt [0, 4] [.ptr a1, .ptr (some a2)]) h := by
  intros; kernel_rfl

theorem ring_reader_part.s9 {W0 : World} {U : Ifc} (hU : IfcOK sg W0 glsT U) (Q : Int → Int → Bool → Int → Bool → Heap → Prop)   : CutOK sg W0 68 (entered 23) (Post sg W0 (ring_reader_part.ret Q)) (posC ring_reader_part.code []) 9 [0, 4] (ring_reader_part.k9 (fun a1 a2 h => ring_reader_part.j9 U  a1 a2 Q h)) := by
  refine cutOK_head (fun vs h hk => ?_)
  unfold ring_reader_part.k9 at hk
  split at hk
  · rename_i a1 a2
    intro todo hm ρ a w s f hp
    exact piece (E := ring_reader_part.E U Q []) (vs := [.ptr a1, .ptr (some a2)]) (envOK seatOK (ring_reader_part.callsOK hU) hU) (fnOK seatOK ring_reader_part.fun) trivial ring_reader_part.p9 (fuel := 3000) (by rw [← ring_reader_part.e9]; exact hk) hm s f hp
  · exact hk.elim

theorem ring_reader_part.p3 : (posC ring_reader_part.code []).filter (fun p => Nat.beq p.1 3) = [(3, atPos (posC ring_reader_part.code []) 3)] := by kernel_rfl

theorem ring_reader_part.e3 : ∀ (U : Ifc)  (I3 : (Option Ptr) → Int → Ptr → Ptr → Int → Heap → Prop) (a1 : Option Ptr) (a2 : Int) (a3 : Ptr) (a4 : Ptr) (a5 : Int) (Q : Int → Int → Bool → Int → Bool → Heap → Prop) (h : Heap), ring_reader_part.b3 U  I3 a1 a2 a3 a4 a5 Q h = pts (ring_reader_part.E U Q [(7, ([0, 1, 4, 7, 9], ring_reader_part.k7 (fun a1 a2 a3 a4 a5 h => ring_reader_part.j7 U I3 a1 a2 a3 a4 a5 Q h))), (9, ([0, 4], ring_reader_part.k9 (fun a1 a2 h => ring_reader_part.j9 U  a1 a2 Q h)))]) 3000 true (atPos (posC ring_reader_part.code []) 3) (frAt [0, 1, 4, 7, 9] [.ptr a1, .int .u64 a2, .ptr (some a3), .ptr (some a4), .int .i64 a5]) h := by
  intros; kernel_rfl

theorem ring_reader_part.s3 {W0 : World} {U : Ifc} (hU : IfcOK sg W0 glsT U) (Q : Int → Int → Bool → Int → Bool → Heap → Prop)   : CutOK sg W0 68 (entered 23) (Post sg W0 (ring_reader_part.ret Q)) (posC ring_reader_part.code []) 3 [0, 1, 4, 7, 9] (ring_reader_part.k3 (fun a1 a2 a3 a4 a5 h => ring_reader_part.j3 U  a1 a2 a3 a4 a5 Q h)) := by
  refine cutOK_head (fun vs h hk => ?_)
  unfold ring_reader_part.k3 at hk
  split at hk
  · rename_i a1 a2 a3 a4 a5
    refine hk (fun a1 a2 a3 a4 a5 h => Head sg W0 68 (entered 23) (Post sg W0 (ring_reader_part.ret Q)) (posC ring_reader_part.code []) 3 [0, 1, 4, 7, 9] [.ptr a1, .int .u64 a2, .ptr (some a3), .ptr (some a4), .int .i64 a5] h) ?_
    intro a1 a2 a3 a4 a5 h hb todo hm ρ a w s f hp
    have hself : CutOK sg W0 68 (entered 23) (Post sg W0 (ring_reader_part.ret Q)) (posC ring_reader_part.code []) 3 [0, 1, 4, 7, 9] (ring_reader_part.k3 (fun a1 a2 a3 a4 a5 h => Head sg W0 68 (entered 23) (Post sg W0 (ring_reader_part.ret Q)) (posC ring_reader_part.code []) 3 [0, 1, 4, 7, 9] [.ptr a1, .int .u64 a2, .ptr (some a3), .ptr (some a4), .int .i64 a5] h)) := cutOK_head (fun vs h hk => by unfold ring_reader_part.k3 at hk; split at hk; exact hk; exact hk.elim)
    exact piece (E := ring_reader_part.E U Q [(7, ([0, 1, 4, 7, 9], ring_reader_part.k7 (fun a1 a2 a3 a4 a5 h => ring_reader_part.j7 U (fun a1 a2 a3 a4 a5 h => Head sg W0 68 (entered 23) (Post sg W0 (ring_reader_part.ret Q)) (posC ring_reader_part.code []) 3 [0, 1, 4, 7, 9] [.ptr a1, .int .u64 a2, .ptr (some a3), .ptr (some a4), .int .i64 a5] h) a1 a2 a3 a4 a5 Q h))), (9, ([0, 4], ring_reader_part.k9 (fun a1 a2 h => ring_reader_part.j9 U  a1 a2 Q h)))]) (vs := [.ptr a1, .int .u64 a2, .ptr (some a3), .ptr (some a4), .int .i64 a5]) (envOK seatOK (ring_reader_part.callsOK hU) hU) (fnOK seatOK ring_reader_part.fun) ⟨(ring_reader_part.s7 hU Q (fun a1 a2 a3 a4 a5 h => Head sg W0 68 (entered 23) (Post sg W0 (ring_reader_part.ret Q)) (posC ring_reader_part.code []) 3 [0, 1, 4, 7, 9] [.ptr a1, .int .u64 a2, .ptr (some a3), .ptr (some a4), .int .i64 a5] h) hself), (ring_reader_part.s9 hU Q  ), trivial⟩ ring_reader_part.p3 (fuel := 3000) (by rw [← ring_reader_part.e3]; exact hb) hm s f hp
  · exact hk.elim

theorem ring_reader_part.e : ∀ (U : Ifc) (a1 : Option Ptr) (a2 : Int) (Q : Int → Int → Bool → Int → Bool → Heap → Prop) (h : Heap), ring_reader_part U a1 a2 Q h = pts (ring_reader_part.E U Q [(3, ([0, 1, 4, 7, 9], ring_reader_part.k3 (fun a1 a2 a3 a4 a5 h => ring_reader_part.j3 U  a1 a2 a3 a4 a5 Q h)))]) 3000 true [.code ring_reader_part.code] (frOf 0 [.ptr a1, .int .u64 a2]) h := by
  intros; kernel_rfl

theorem ring_reader_part.S {W0 : World} {U : Ifc} (hU : IfcOK sg W0 glsT U) : FnS sg W0 75 (ring_reader_part.C U) := by
  intro vs κ h wv hx w s
  unfold ring_reader_part.C at hx
  split at hx
  · rename_i a1 a2
    refine postImp (ret := ring_reader_part.ret (fun r1 r2 r3 r4 r5 h => κ (.tup [.agg [.int .u64 r1, .int .i64 r2, .bool r3], .int .u64 r4, .bool r5]) h)) (fun v h hr => by unfold ring_reader_part.ret at hr; split at hr; exact hr; exact hr.elim) ?_
    exact calls_of_pts (E := ring_reader_part.E U (fun r1 r2 r3 r4 r5 h => κ (.tup [.agg [.int .u64 r1, .int .i64 r2, .bool r3], .int .u64 r4, .bool r5]) h) [(3, ([0, 1, 4, 7, 9], ring_reader_part.k3 (fun a1 a2 a3 a4 a5 h => ring_reader_part.j3 U  a1 a2 a3 a4 a5 (fun r1 r2 r3 r4 r5 h => κ (.tup [.agg [.int .u64 r1, .int .i64 r2, .bool r3], .int .u64 r4, .bool r5]) h) h)))]) (envOK seatOK (ring_reader_part.callsOK hU) hU) seatOK.mixed ring_reader_part.fun (Nat.le_of_ble_eq_true rfl) wv (cutL_ok ⟨(ring_reader_part.s3 hU (fun r1 r2 r3 r4 r5 h => κ (.tup [.agg [.int .u64 r1, .int .i64 r2, .bool r3], .int .u64 r4, .bool r5]) h)), trivial⟩) s (fuel := 3000) (by rw [← ring_reader_part.e]; exact hx)
  · exact hx.elim

noncomputable def ring_Ring_chain.code : Code := Go.Proofs.Tryd.f18.body.getD .skip

theorem ring_Ring_chain.fun : Fun sg.P 18 82 [.cell 6 36, .tmp 7] ring_Ring_chain.code := mkFun Go.Proofs.Tryd.func18 (by kernel_rfl) (by kernel_rfl) (by kernel_rfl) (by kernel_rfl)

def ring_Ring_chain.ret (Q : Int → Sl → Bool → Heap → Prop) (v : V) (h : Heap) : Prop :=
  match v with
  | .tup [.agg [.int .i64 r1, .sl r2], .bool r3] => Q r1 r2 r3 h
  | _ => False

def ring_Ring_chain.C (U : Ifc) (vs : List V) (κ : V → Heap → Prop) (h : Heap) : Prop :=
  match vs with
  | [.ptr a1, .ptr a2, .int .u64 a3] => ring_Ring_chain U a1 a2 a3 (fun r1 r2 r3 h => κ (.tup [.agg [.int .i64 r1, .sl r2], .bool r3]) h) h
  | _ => False

noncomputable def ring_Ring_chain.calls (U : Ifc) : List (Nat × (List V → (V → Heap → Prop) → Heap → Prop)) := [(75, ring_reader_part.C U)]

noncomputable def ring_Ring_chain.E (U : Ifc) (Q : Int → Sl → Bool → Heap → Prop) (cuts : List (Nat × (List Nat × (List V → Heap → Prop)))) : Env := { tis := tisT, fns := fnsT, tys := tysT, gls := glsT, rts := rtsT, unk := [], nxt := [], calls := ring_Ring_chain.calls U, ifc := U, cuts := cuts, ret := ring_Ring_chain.ret Q, rets := [.cell 6 36, .tmp 7], n := 82 }

theorem ring_Ring_chain.callsOK {W0 : World} {U : Ifc} (hU : IfcOK sg W0 glsT U) : CallsOK sg W0 (ring_Ring_chain.calls U) := ⟨(ring_reader_part.S hU), trivial⟩

def ring_Ring_chain.k9 (I : Ptr → Heap → Prop) (vs : List V) (h : Heap) : Prop :=
  match vs with
  | [.ptr (some a1)] => I a1 h
  | _ => False

def ring_Ring_chain.k10 (I : (Option Ptr) → (Option Ptr) → Int → Ptr → Ptr → Int → Bool → Int → Int → Heap → Prop) (vs : List V) (h : Heap) : Prop :=
  match vs with
  | [.ptr a1, .ptr a2, .int .u64 a3, .ptr (some a4), .ptr (some a5), .int .u64 a6, .bool a7, .int .u64 a8, .int .u64 a9] => I a1 a2 a3 a4 a5 a6 a7 a8 a9 h
  | _ => False

def ring_Ring_chain.k8 (I : (Option Ptr) → (Option Ptr) → Int → Ptr → Ptr → Int → Bool → Int → Int → Int → Heap → Prop) (vs : List V) (h : Heap) : Prop :=
  match vs with
  | [.ptr a1, .ptr a2, .int .u64 a3, .ptr (some a4), .ptr (some a5), .int .u64 a6, .bool a7, .int .i64 a8, .int .u64 a9, .int .u64 a10] => I a1 a2 a3 a4 a5 a6 a7 a8 a9 a10 h
  | _ => False

def ring_Ring_chain.k3 (I : (Option Ptr) → (Option Ptr) → Int → Ptr → Bool → Int → Int → Int → Heap → Prop) (vs : List V) (h : Heap) : Prop :=
  match vs with
  | [.ptr a1, .ptr a2, .int .u64 a3, .ptr (some a4), .bool a5, .int .u64 a6, .int .u64 a7, .int .u64 a8] => I a1 a2 a3 a4 a5 a6 a7 a8 h
  | _ => False

theorem ring_Ring_chain.p9 : (posC ring_Ring_chain.code []).filter (fun p => Nat.beq p.1 9) = [(9, atPos (posC ring_Ring_chain.code []) 9)] := by kernel_rfl

theorem ring_Ring_chain.e9 : ∀ (U : Ifc) (I3 : (Option Ptr) → (Option Ptr) → Int → Ptr → Bool → Int → Int → Int → Heap → Prop) (a1 : Ptr) (Q : Int → Sl → Bool → Heap → Prop) (h : Heap), ring_Ring_chain.j9 U I3 a1 Q h = pts (ring_Ring_chain.E U Q []) 3000 true (atPos (posC ring_Ring_chain.code []) 9) (frAt [6] [.ptr (some a1)]) h := by
  intros; kernel_rfl

theorem ring_Ring_chain.s9 {W0 : World} {U : Ifc} (hU : IfcOK sg W0 glsT U) (Q : Int → Sl → Bool → Heap → Prop) (I3 : (Option Ptr) → (Option Ptr) → Int → Ptr → Bool → Int → Int → Int → Heap → Prop) (h3 : CutOK sg W0 82 (entered 18) (Post sg W0 (ring_Ring_chain.ret Q)) (posC ring_Ring_chain.code []) 3 [0, 1, 2, 6, 7, 8, 17, 18] (ring_Ring_chain.k3 I3)) : CutOK sg W0 82 (entered 18) (Post sg W0 (ring_Ring_chain.ret Q)) (posC ring_Ring_chain.code []) 9 [6] (ring_Ring_chain.k9 (fun a1 h => ring_Ring_chain.j9 U I3 a1 Q h)) := by
  refine cutOK_head (fun vs h hk => ?_)
  unfold ring_Ring_chain.k9 at hk
  split at hk
  · rename_i a1
    intro todo hm ρ a w s f hp
    exact piece (E := ring_Ring_chain.E U Q []) (vs := [.ptr (some a1)]) (envOK seatOK (ring_Ring_chain.callsOK hU) hU) (fnOK seatOK ring_Ring_chain.fun) trivial ring_Ring_chain.p9 (fuel := 3000) (by rw [← ring_Ring_chain.e9]; exact hk) hm s f hp
  · exact hk.elim

theorem ring_Ring_chain.p10 : (posC ring_Ring_chain.code []).filter (fun p => Nat.beq p.1 10) = [(10, atPos (posC ring_Ring_chain.code []) 10)] := by kernel_rfl

theorem ring_Ring_chain.e10 : ∀ (U : Ifc) (I3 : (Option Ptr) → (Option Ptr) → Int → Ptr → Bool → Int → Int → Int → Heap → Prop) (a1 : Option Ptr) (a2 : Option Ptr) (a3 : Int) (a4 : Ptr) (a5 : Ptr) (a6 : Int) (a7 : Bool) (a8 : Int) (a9 : Int) (Q : Int → Sl → Bool → Heap → Prop) (h : Heap), ring_Ring_chain.j10 U I3 a1 a2 a3 a4 a5 a6 a7 a8 a9 Q h = pts (ring_Ring_chain.E U Q [(3, ([0, 1, 2, 6, 7, 8, 17, 18], ring_Ring_chain.k3 I3))]) 3000 true (atPos (posC ring_Ring_chain.code []) 10) (frAt [0, 1, 2, 6, 9, 10, 11, 17, 18] [.ptr a1, .ptr a2, .int .u64 a3, .ptr (some a4), .ptr (some a5), .int .u64 a6, .bool a7, .int .u64 a8, .int .u64 a9]) h := by
  intros; kernel_rfl

theorem ring_Ring_chain.s10 {W0 : World} {U : Ifc} (hU : IfcOK sg W0 glsT U) (Q : Int → Sl → Bool → Heap → Prop) (I3 : (Option Ptr) → (Option Ptr) → Int → Ptr → Bool → Int → Int → Int → Heap → Prop) (h3 : CutOK sg W0 82 (entered 18) (Post sg W0 (ring_Ring_chain.ret Q)) (posC ring_Ring_chain.code []) 3 [0, 1, 2, 6, 7, 8, 17, 18] (ring_Ring_chain.k3 I3)) : CutOK sg W0 82 (entered 18) (Post sg W0 (ring_Ring_chain.ret Q)) (posC ring_Ring_chain.code []) 10 [0, 1, 2, 6, 9, 10, 11, 17, 18] (ring_Ring_chain.k10 (fun a1 a2 a3 a4 a5 a6 a7 a8 a9 h => ring_Ring_chain.j10 U I3 a1 a2 a3 a4 a5 a6 a7 a8 a9 Q h)) := by
  refine cutOK_head (fun vs h hk => ?_)
  unfold ring_Ring_chain.k10 at hk
  split at hk
  · rename_i a1 a2 a3 a4 a5 a6 a7 a8 a9
    intro todo hm ρ a w s f hp
    exact piece (E := ring_Ring_chain.E U Q [(3, ([0, 1, 2, 6, 7, 8, 17, 18], ring_Ring_chain.k3 I3))]) (vs := [.ptr a1, .ptr a2, .int .u64 a3, .ptr (some a4), .ptr (some a5), .int .u64 a6, .bool a7, .int .u64 a8, .int .u64 a9]) (envOK seatOK (ring_Ring_chain.callsOK hU) hU) (fnOK seatOK ring_Ring_chain.fun) ⟨h3, trivial⟩ ring_Ring_chain.p10 (fuel := 3000) (by rw [← ring_Ring_chain.e10]; exact hk) hm s f hp
  · exact hk.elim

theorem ring_Ring_chain.p8 : (posC ring_Ring_chain.code []).filter (fun p => Nat.beq p.1 8) = [(8, atPos (posC ring_Ring_chain.code []) 8)] := by kernel_rfl

theorem ring_Ring_chain.e8 : ∀ (U : Ifc) (I3 : (Option Ptr) → (Option Ptr) → Int → Ptr → Bool → Int → Int → Int → Heap → Prop) (a1 : Option Ptr) (a2 : Option Ptr) (a3 : Int) (a4 : Ptr) (a5 : Ptr) (a6 : Int) (a7 : Bool) (a8 : Int) (a9 : Int) (a10 : Int) (Q : Int → Sl → Bool → Heap → Prop) (h : Heap), ring_Ring_chain.j8 U I3 a1 a2 a3 a4 a5 a6 a7 a8 a9 a10 Q h = pts (ring_Ring_chain.E U Q [(9, ([6], ring_Ring_chain.k9 (fun a1 h => ring_Ring_chain.j9 U I3 a1 Q h))), (10, ([0, 1, 2, 6, 9, 10, 11, 17, 18], ring_Ring_chain.k10 (fun a1 a2 a3 a4 a5 a6 a7 a8 a9 h => ring_Ring_chain.j10 U I3 a1 a2 a3 a4 a5 a6 a7 a8 a9 Q h)))]) 3000 true (atPos (posC ring_Ring_chain.code []) 8) (frAt [0, 1, 2, 6, 9, 10, 11, 12, 17, 18] [.ptr a1, .ptr a2, .int .u64 a3, .ptr (some a4), .ptr (some a5), .int .u64 a6, .bool a7, .int .i64 a8, .int .u64 a9, .int .u64 a10]) h := by
  intros; kernel_rfl

theorem ring_Ring_chain.s8 {W0 : World} {U : Ifc} (hU : IfcOK sg W0 glsT U) (Q : Int → Sl → Bool → Heap → Prop) (I3 : (Option Ptr) → (Option Ptr) → Int → Ptr → Bool → Int → Int → Int → Heap → Prop) (h3 : CutOK sg W0 82 (entered 18) (Post sg W0 (ring_Ring_chain.ret Q)) (posC ring_Ring_chain.code []) 3 [0, 1, 2, 6, 7, 8, 17, 18] (ring_Ring_chain.k3 I3)) : CutOK sg W0 82 (entered 18) (Post sg W0 (ring_Ring_chain.ret Q)) (posC ring_Ring_chain.code []) 8 [0, 1, 2, 6, 9, 10, 11, 12, 17, 18] (ring_Ring_chain.k8 (fun a1 a2 a3 a4 a5 a6 a7 a8 a9 a10 h => ring_Ring_chain.j8 U I3 a1 a2 a3 a4 a5 a6 a7 a8 a9 a10 Q h)) := by
  refine cutOK_head (fun vs h hk => ?_)
  unfold ring_Ring_chain.k8 at hk
  split at hk
  · rename_i a1 a2 a3 a4 a5 a6 a7 a8 a9 a10
    intro todo hm ρ a w s f hp
    exact piece (E := ring_Ring_chain.E U Q [(9, ([6], ring_Ring_chain.k9 (fun a1 h => ring_Ring_chain.j9 U I3 a1 Q h))), (10, ([0, 1, 2, 6, 9, 10, 11, 17, 18], ring_Ring_chain.k10 (fun a1 a2 a3 a4 a5 a6 a7 a8 a9 h => ring_Ring_chain.j10 U I3 a1 a2 a3 a4 a5 a6 a7 a8 a9 Q h)))]) (vs := [.ptr a1, .ptr a2, .int .u64 a3, .ptr (some a4), .ptr (some a5), .int .u64 a6, .bool a7, .int .i64 a8, .int .u64 a9, .int .u64 a10]) (envOK seatOK (ring_Ring_chain.callsOK hU) hU) (fnOK seatOK ring_Ring_chain.fun) ⟨(ring_Ring_chain.s9 hU Q I3 h3), (ring_Ring_chain.s10 hU Q I3 h3), trivial⟩ ring_Ring_chain.p8 (fuel := 3000) (by rw [← ring_Ring_chain.e8]; exact hk) hm s f hp
  · exact hk.elim

theorem ring_Ring_chain.p3 : (posC ring_Ring_chain.code []).filter (fun p => Nat.beq p.1 3) = [(3, atPos (posC ring_Ring_chain.code []) 3)] := by kernel_rfl

theorem ring_Ring_chain.e3 : ∀ (U : Ifc)  (I3 : (Option Ptr) → (Option Ptr) → Int → Ptr → Bool → Int → Int → Int → Heap → Prop) (a1 : Option Ptr) (a2 : Option Ptr) (a3 : Int) (a4 : Ptr) (a5 : Bool) (a6 : Int) (a7 : Int) (a8 : Int) (Q : Int → Sl → Bool → Heap → Prop) (h : Heap), ring_Ring_chain.b3 U  I3 a1 a2 a3 a4 a5 a6 a7 a8 Q h = pts (ring_Ring_chain.E U Q [(8, ([0, 1, 2, 6, 9, 10, 11, 12, 17, 18], ring_Ring_chain.k8 (fun a1 a2 a3 a4 a5 a6 a7 a8 a9 a10 h => ring_Ring_chain.j8 U I3 a1 a2 a3 a4 a5 a6 a7 a8 a9 a10 Q h)))]) 3000 true (atPos (posC ring_Ring_chain.code []) 3) (frAt [0, 1, 2, 6, 7, 8, 17, 18] [.ptr a1, .ptr a2, .int .u64 a3, .ptr (some a4), .bool a5, .int .u64 a6, .int .u64 a7, .int .u64 a8]) h := by
  intros; kernel_rfl

theorem ring_Ring_chain.s3 {W0 : World} {U : Ifc} (hU : IfcOK sg W0 glsT U) (Q : Int → Sl → Bool → Heap → Prop)   : CutOK sg W0 82 (entered 18) (Post sg W0 (ring_Ring_chain.ret Q)) (posC ring_Ring_chain.code []) 3 [0, 1, 2, 6, 7, 8, 17, 18] (ring_Ring_chain.k3 (fun a1 a2 a3 a4 a5 a6 a7 a8 h => ring_Ring_chain.j3 U  a1 a2 a3 a4 a5 a6 a7 a8 Q h)) := by
  refine cutOK_head (fun vs h hk => ?_)
  unfold ring_Ring_chain.k3 at hk
  split at hk
  · rename_i a1 a2 a3 a4 a5 a6 a7 a8
    refine hk (fun a1 a2 a3 a4 a5 a6 a7 a8 h => Head sg W0 82 (entered 18) (Post sg W0 (ring_Ring_chain.ret Q)) (posC ring_Ring_chain.code []) 3 [0, 1, 2, 6, 7, 8, 17, 18] [.ptr a1, .ptr a2, .int .u64 a3, .ptr (some a4), .bool a5, .int .u64 a6, .int .u64 a7, .int .u64 a8] h) ?_
    intro a1 a2 a3 a4 a5 a6 a7 a8 h hb todo hm ρ a w s f hp
    have hself : CutOK sg W0 82 (entered 18) (Post sg W0 (ring_Ring_chain.ret Q)) (posC ring_Ring_chain.code []) 3 [0, 1, 2, 6, 7, 8, 17, 18] (ring_Ring_chain.k3 (fun a1 a2 a3 a4 a5 a6 a7 a8 h => Head sg W0 82 (entered 18) (Post sg W0 (ring_Ring_chain.ret Q)) (posC ring_Ring_chain.code []) 3 [0, 1, 2, 6, 7, 8, 17, 18] [.ptr a1, .ptr a2, .int .u64 a3, .ptr (some a4), .bool a5, .int .u64 a6, .int .u64 a7, .int .u64 a8] h)) := cutOK_head (fun vs h hk => by unfold ring_Ring_chain.k3 at hk; split at hk; exact hk; exact hk.elim)
    exact piece (E := ring_Ring_chain.E U Q [(8, ([0, 1, 2, 6, 9, 10, 11, 12, 17, 18], ring_Ring_chain.k8 (fun a1 a2 a3 a4 a5 a6 a7 a8 a9 a10 h => ring_Ring_chain.j8 U (fun a1 a2 a3 a4 a5 a6 a7 a8 h => Head sg W0 82 (entered 18) (Post sg W0 (ring_Ring_chain.ret Q)) (posC ring_Ring_chain.code []) 3 [0, 1, 2, 6, 7, 8, 17, 18] [.ptr a1, .ptr a2, .int .u64 a3, .ptr (some a4), .bool a5, .int .u64 a6, .int .u64 a7, .int .u64 a8] h) a1 a2 a3 a4 a5 a6 a7 a8 a9 a10 Q h)))]) (vs := [.ptr a1, .ptr a2, .int .u64 a3, .ptr (some a4), .bool a5, .int .u64 a6, .int .u64 a7, .int .u64 a8]) (envOK seatOK (ring_Ring_chain.callsOK hU) hU) (fnOK seatOK ring_Ring_chain.fun) ⟨(ring_Ring_chain.s8 hU Q (fun a1 a2 a3 a4 a5 a6 a7 a8 h => Head sg W0 82 (entered 18) (Post sg W0 (ring_Ring_chain.ret Q)) (posC ring_Ring_chain.code []) 3 [0, 1, 2, 6, 7, 8, 17, 18] [.ptr a1, .ptr a2, .int .u64 a3, .ptr (some a4), .bool a5, .int .u64 a6, .int .u64 a7, .int .u64 a8] h) hself), trivial⟩ ring_Ring_chain.p3 (fuel := 3000) (by rw [← ring_Ring_chain.e3]; exact hb) hm s f hp
  · exact hk.elim

theorem ring_Ring_chain.e : ∀ (U : Ifc) (a1 : Option Ptr) (a2 : Option Ptr) (a3 : Int) (Q : Int → Sl → Bool → Heap → Prop) (h : Heap), ring_Ring_chain U a1 a2 a3 Q h = pts (ring_Ring_chain.E U Q [(3, ([0, 1, 2, 6, 7, 8, 17, 18], ring_Ring_chain.k3 (fun a1 a2 a3 a4 a5 a6 a7 a8 h => ring_Ring_chain.j3 U  a1 a2 a3 a4 a5 a6 a7 a8 Q h)))]) 3000 true [.code ring_Ring_chain.code] (frOf 0 [.ptr a1, .ptr a2, .int .u64 a3]) h := by
  intros; kernel_rfl

theorem ring_Ring_chain.S {W0 : World} {U : Ifc} (hU : IfcOK sg W0 glsT U) : FnS sg W0 76 (ring_Ring_chain.C U) := by
  intro vs κ h wv hx w s
  unfold ring_Ring_chain.C at hx
  split at hx
  · rename_i a1 a2 a3
    refine postImp (ret := ring_Ring_chain.ret (fun r1 r2 r3 h => κ (.tup [.agg [.int .i64 r1, .sl r2], .bool r3]) h)) (fun v h hr => by unfold ring_Ring_chain.ret at hr; split at hr; exact hr; exact hr.elim) ?_
    exact calls_of_pts (E := ring_Ring_chain.E U (fun r1 r2 r3 h => κ (.tup [.agg [.int .i64 r1, .sl r2], .bool r3]) h) [(3, ([0, 1, 2, 6, 7, 8, 17, 18], ring_Ring_chain.k3 (fun a1 a2 a3 a4 a5 a6 a7 a8 h => ring_Ring_chain.j3 U  a1 a2 a3 a4 a5 a6 a7 a8 (fun r1 r2 r3 h => κ (.tup [.agg [.int .i64 r1, .sl r2], .bool r3]) h) h)))]) (envOK seatOK (ring_Ring_chain.callsOK hU) hU) seatOK.mixed ring_Ring_chain.fun (Nat.le_of_ble_eq_true rfl) wv (cutL_ok ⟨(ring_Ring_chain.s3 hU (fun r1 r2 r3 h => κ (.tup [.agg [.int .i64 r1, .sl r2], .bool r3]) h)), trivial⟩) s (fuel := 3000) (by rw [← ring_Ring_chain.e]; exact hx)
  · exact hx.elim

noncomputable def ring_Ring_Next.code : Code := Go.Proofs.Tryd.f9.body.getD .skip

theorem ring_Ring_Next.fun : Fun sg.P 9 109 [.cell 4 36, .tmp 5, .tmp 6] ring_Ring_Next.code := mkFun Go.Proofs.Tryd.func9 (by kernel_rfl) (by kernel_rfl) (by kernel_rfl) (by kernel_rfl)

def ring_Ring_Next.ret (Q : Int → Sl → Bool → Int → Heap → Prop) (v : V) (h : Heap) : Prop :=
  match v with
  | .tup [.agg [.int .i64 r1, .sl r2], .bool r3, .int .i64 r4] => Q r1 r2 r3 r4 h
  | _ => False

def ring_Ring_Next.C (U : Ifc) (vs : List V) (κ : V → Heap → Prop) (h : Heap) : Prop :=
  match vs with
  | [.ptr a1, a2] => ring_Ring_Next U a1 a2 (fun r1 r2 r3 r4 h => κ (.tup [.agg [.int .i64 r1, .sl r2], .bool r3, .int .i64 r4]) h) h
  | _ => False

noncomputable def ring_Ring_Next.calls (U : Ifc) : List (Nat × (List V → (V → Heap → Prop) → Heap → Prop)) := [(30, ring_Ring_usable.C), (74, ring_reader_number.C U), (76, ring_Ring_chain.C U)]

noncomputable def ring_Ring_Next.E (U : Ifc) (Q : Int → Sl → Bool → Int → Heap → Prop) (cuts : List (Nat × (List Nat × (List V → Heap → Prop)))) : Env := { tis := tisT, fns := fnsT, tys := tysT, gls := glsT, rts := rtsT, unk := [], nxt := [], calls := ring_Ring_Next.calls U, ifc := U, cuts := cuts, ret := ring_Ring_Next.ret Q, rets := [.cell 4 36, .tmp 5, .tmp 6], n := 109 }

theorem ring_Ring_Next.callsOK {W0 : World} {U : Ifc} (hU : IfcOK sg W0 glsT U) : CallsOK sg W0 (ring_Ring_Next.calls U) := ⟨ring_Ring_usable.S, (ring_reader_number.S hU), (ring_Ring_chain.S hU), trivial⟩

def ring_Ring_Next.k11 (I : (Option Ptr) → Ptr → Ptr → Int → Heap → Prop) (vs : List V) (h : Heap) : Prop :=
  match vs with
  | [.ptr a1, .ptr (some a2), .ptr (some a3), .int .u64 a4] => I a1 a2 a3 a4 h
  | _ => False

def ring_Ring_Next.k9 (I : (Option Ptr) → Ptr → Ptr → Int → Int → Heap → Prop) (vs : List V) (h : Heap) : Prop :=
  match vs with
  | [.ptr a1, .ptr (some a2), .ptr (some a3), .int .u64 a4, .int .u64 a5] => I a1 a2 a3 a4 a5 h
  | _ => False

def ring_Ring_Next.k7 (I : (Option Ptr) → Ptr → Ptr → Int → Int → Heap → Prop) (vs : List V) (h : Heap) : Prop :=
  match vs with
  | [.ptr a1, .ptr (some a2), .ptr (some a3), .int .u64 a4, .int .u64 a5] => I a1 a2 a3 a4 a5 h
  | _ => False

theorem ring_Ring_Next.p11 : (posC ring_Ring_Next.code []).filter (fun p => Nat.beq p.1 11) = [(11, atPos (posC ring_Ring_Next.code []) 11)] := by kernel_rfl

theorem ring_Ring_Next.e11 : ∀ (U : Ifc)  (a1 : Option Ptr) (a2 : Ptr) (a3 : Ptr) (a4 : Int) (Q : Int → Sl → Bool → Int → Heap → Prop) (h : Heap), ring_Ring_Next.j11 U  a1 a2 a3 a4 Q h = pts (ring_Ring_Next.E U Q []) 3000 true (atPos (posC ring_Ring_Next.code []) 11) (frAt [0, 4, 8, 11] [.ptr a1, .ptr (some a2), .ptr (some a3), .int .u64 a4]) h := by
  intros; kernel_rfl

theorem ring_Ring_Next.s11 {W0 : World} {U : Ifc} (hU : IfcOK sg W0 glsT U) (Q : Int → Sl → Bool → Int → Heap → Prop)   : CutOK sg W0 109 (entered 9) (Post sg W0 (ring_Ring_Next.ret Q)) (posC ring_Ring_Next.code []) 11 [0, 4, 8, 11] (ring_Ring_Next.k11 (fun a1 a2 a3 a4 h => ring_Ring_Next.j11 U  a1 a2 a3 a4 Q h)) := by
  refine cutOK_head (fun vs h hk => ?_)
  unfold ring_Ring_Next.k11 at hk
  split at hk
  · rename_i a1 a2 a3 a4
    intro todo hm ρ a w s f hp
    exact piece (E := ring_Ring_Next.E U Q []) (vs := [.ptr a1, .ptr (some a2), .ptr (some a3), .int .u64 a4]) (envOK seatOK (ring_Ring_Next.callsOK hU) hU) (fnOK seatOK ring_Ring_Next.fun) trivial ring_Ring_Next.p11 (fuel := 3000) (by rw [← ring_Ring_Next.e11]; exact hk) hm s f hp
  · exact hk.elim

theorem ring_Ring_Next.p9 : (posC ring_Ring_Next.code []).filter (fun p => Nat.beq p.1 9) = [(9, atPos (posC ring_Ring_Next.code []) 9)] := by kernel_rfl

theorem ring_Ring_Next.e9 : ∀ (U : Ifc)  (a1 : Option Ptr) (a2 : Ptr) (a3 : Ptr) (a4 : Int) (a5 : Int) (Q : Int → Sl → Bool → Int → Heap → Prop) (h : Heap), ring_Ring_Next.j9 U  a1 a2 a3 a4 a5 Q h = pts (ring_Ring_Next.E U Q [(11, ([0, 4, 8, 11], ring_Ring_Next.k11 (fun a1 a2 a3 a4 h => ring_Ring_Next.j11 U  a1 a2 a3 a4 Q h)))]) 3000 true (atPos (posC ring_Ring_Next.code []) 9) (frAt [0, 4, 8, 9, 10] [.ptr a1, .ptr (some a2), .ptr (some a3), .int .u64 a4, .int .u64 a5]) h := by
  intros; kernel_rfl

theorem ring_Ring_Next.s9 {W0 : World} {U : Ifc} (hU : IfcOK sg W0 glsT U) (Q : Int → Sl → Bool → Int → Heap → Prop)   : CutOK sg W0 109 (entered 9) (Post sg W0 (ring_Ring_Next.ret Q)) (posC ring_Ring_Next.code []) 9 [0, 4, 8, 9, 10] (ring_Ring_Next.k9 (fun a1 a2 a3 a4 a5 h => ring_Ring_Next.j9 U  a1 a2 a3 a4 a5 Q h)) := by
  refine cutOK_head (fun vs h hk => ?_)
  unfold ring_Ring_Next.k9 at hk
  split at hk
  · rename_i a1 a2 a3 a4 a5
    intro todo hm ρ a w s f hp
    exact piece (E := ring_Ring_Next.E U Q [(11, ([0, 4, 8, 11], ring_Ring_Next.k11 (fun a1 a2 a3 a4 h => ring_Ring_Next.j11 U  a1 a2 a3 a4 Q h)))]) (vs := [.ptr a1, .ptr (some a2), .ptr (some a3), .int .u64 a4, .int .u64 a5]) (envOK seatOK (ring_Ring_Next.callsOK hU) hU) (fnOK seatOK ring_Ring_Next.fun) ⟨(ring_Ring_Next.s11 hU Q  ), trivial⟩ ring_Ring_Next.p9 (fuel := 3000) (by rw [← ring_Ring_Next.e9]; exact hk) hm s f hp
  · exact hk.elim

theorem ring_Ring_Next.p7 : (posC ring_Ring_Next.code []).filter (fun p => Nat.beq p.1 7) = [(7, atPos (posC ring_Ring_Next.code []) 7)] := by kernel_rfl

theorem ring_Ring_Next.e7 : ∀ (U : Ifc)  (a1 : Option Ptr) (a2 : Ptr) (a3 : Ptr) (a4 : Int) (a5 : Int) (Q : Int → Sl → Bool → Int → Heap → Prop) (h : Heap), ring_Ring_Next.j7 U  a1 a2 a3 a4 a5 Q h = pts (ring_Ring_Next.E U Q [(9, ([0, 4, 8, 9, 10], ring_Ring_Next.k9 (fun a1 a2 a3 a4 a5 h => ring_Ring_Next.j9 U  a1 a2 a3 a4 a5 Q h)))]) 3000 true (atPos (posC ring_Ring_Next.code []) 7) (frAt [0, 4, 8, 9, 10] [.ptr a1, .ptr (some a2), .ptr (some a3), .int .u64 a4, .int .u64 a5]) h := by
  intros; kernel_rfl

theorem ring_Ring_Next.s7 {W0 : World} {U : Ifc} (hU : IfcOK sg W0 glsT U) (Q : Int → Sl → Bool → Int → Heap → Prop)   : CutOK sg W0 109 (entered 9) (Post sg W0 (ring_Ring_Next.ret Q)) (posC ring_Ring_Next.code []) 7 [0, 4, 8, 9, 10] (ring_Ring_Next.k7 (fun a1 a2 a3 a4 a5 h => ring_Ring_Next.j7 U  a1 a2 a3 a4 a5 Q h)) := by
  refine cutOK_head (fun vs h hk => ?_)
  unfold ring_Ring_Next.k7 at hk
  split at hk
  · rename_i a1 a2 a3 a4 a5
    intro todo hm ρ a w s f hp
    exact piece (E := ring_Ring_Next.E U Q [(9, ([0, 4, 8, 9, 10], ring_Ring_Next.k9 (fun a1 a2 a3 a4 a5 h => ring_Ring_Next.j9 U  a1 a2 a3 a4 a5 Q h)))]) (vs := [.ptr a1, .ptr (some a2), .ptr (some a3), .int .u64 a4, .int .u64 a5]) (envOK seatOK (ring_Ring_Next.callsOK hU) hU) (fnOK seatOK ring_Ring_Next.fun) ⟨(ring_Ring_Next.s9 hU Q  ), trivial⟩ ring_Ring_Next.p7 (fuel := 3000) (by rw [← ring_Ring_Next.e7]; exact hk) hm s f hp
  · exact hk.elim

theorem ring_Ring_Next.e : ∀ (U : Ifc) (a1 : Option Ptr) (a2 : V) (Q : Int → Sl → Bool → Int → Heap → Prop) (h : Heap), ring_Ring_Next U a1 a2 Q h = pts (ring_Ring_Next.E U Q [(7, ([0, 4, 8, 9, 10], ring_Ring_Next.k7 (fun a1 a2 a3 a4 a5 h => ring_Ring_Next.j7 U  a1 a2 a3 a4 a5 Q h)))]) 3000 true [.code ring_Ring_Next.code] (frOf 0 [.ptr a1, a2]) h := by
  intros; kernel_rfl

theorem ring_Ring_Next.S {W0 : World} {U : Ifc} (hU : IfcOK sg W0 glsT U) : FnS sg W0 77 (ring_Ring_Next.C U) := by
  intro vs κ h wv hx w s
  unfold ring_Ring_Next.C at hx
  split at hx
  · rename_i a1 a2
    refine postImp (ret := ring_Ring_Next.ret (fun r1 r2 r3 r4 h => κ (.tup [.agg [.int .i64 r1, .sl r2], .bool r3, .int .i64 r4]) h)) (fun v h hr => by unfold ring_Ring_Next.ret at hr; split at hr; exact hr; exact hr.elim) ?_
    exact calls_of_pts (E := ring_Ring_Next.E U (fun r1 r2 r3 r4 h => κ (.tup [.agg [.int .i64 r1, .sl r2], .bool r3, .int .i64 r4]) h) [(7, ([0, 4, 8, 9, 10], ring_Ring_Next.k7 (fun a1 a2 a3 a4 a5 h => ring_Ring_Next.j7 U  a1 a2 a3 a4 a5 (fun r1 r2 r3 r4 h => κ (.tup [.agg [.int .i64 r1, .sl r2], .bool r3, .int .i64 r4]) h) h)))]) (envOK seatOK (ring_Ring_Next.callsOK hU) hU) seatOK.mixed ring_Ring_Next.fun (Nat.le_of_ble_eq_true rfl) wv (cutL_ok ⟨(ring_Ring_Next.s7 hU (fun r1 r2 r3 r4 h => κ (.tup [.agg [.int .i64 r1, .sl r2], .bool r3, .int .i64 r4]) h)), trivial⟩) s (fuel := 3000) (by rw [← ring_Ring_Next.e]; exact hx)
  · exact hx.elim

noncomputable def ring_Ring_Push.code : Code := Go.Proofs.Tryd.f10.body.getD .skip

theorem ring_Ring_Push.fun : Fun sg.P 10 111 [.tmp 8] ring_Ring_Push.code := mkFun Go.Proofs.Tryd.func10 (by kernel_rfl) (by kernel_rfl) (by kernel_rfl) (by kernel_rfl)

def ring_Ring_Push.ret (Q : Int → Heap → Prop) (v : V) (h : Heap) : Prop :=
  match v with
  | .int .i64 r1 => Q r1 h
  | _ => False

def ring_Ring_Push.C (U : Ifc) (vs : List V) (κ : V → Heap → Prop) (h : Heap) : Prop :=
  match vs with
  | [.ptr a1, a2, .int .i64 a3, .int .i64 a4] => ring_Ring_Push U a1 a2 a3 a4 (fun r1 h => κ (.int .i64 r1) h) h
  | _ => False

noncomputable def ring_Ring_Push.calls (U : Ifc) : List (Nat × (List V → (V → Heap → Prop) → Heap → Prop)) := [(30, ring_Ring_usable.C)]

noncomputable def ring_Ring_Push.E (U : Ifc) (Q : Int → Heap → Prop) (cuts : List (Nat × (List Nat × (List V → Heap → Prop)))) : Env := { tis := tisT, fns := fnsT, tys := tysT, gls := glsT, rts := rtsT, unk := [], nxt := [], calls := ring_Ring_Push.calls U, ifc := U, cuts := cuts, ret := ring_Ring_Push.ret Q, rets := [.tmp 8], n := 111 }

theorem ring_Ring_Push.callsOK {W0 : World} {U : Ifc} (hU : IfcOK sg W0 glsT U) : CallsOK sg W0 (ring_Ring_Push.calls U) := ⟨ring_Ring_usable.S, trivial⟩

def ring_Ring_Push.k5 (I : Heap → Prop) (vs : List V) (h : Heap) : Prop :=
  match vs with
  | [] => I  h
  | _ => False

def ring_Ring_Push.k7 (I : Heap → Prop) (vs : List V) (h : Heap) : Prop :=
  match vs with
  | [] => I  h
  | _ => False

def ring_Ring_Push.k11 (I : (Option Ptr) → V → Sl → Int → Int → Heap → Prop) (vs : List V) (h : Heap) : Prop :=
  match vs with
  | [.ptr a1, a2, .sl a3, .int .i64 a4, .int .i64 a5] => I a1 a2 a3 a4 a5 h
  | _ => False

def ring_Ring_Push.k10 (I : (Option Ptr) → V → Int → Int → Int → Int → Heap → Prop) (vs : List V) (h : Heap) : Prop :=
  match vs with
  | [.ptr a1, a2, .int .i64 a3, .int .i64 a4, .int .u64 a5, .int .u64 a6] => I a1 a2 a3 a4 a5 a6 h
  | _ => False

def ring_Ring_Push.k8 (I : (Option Ptr) → V → Int → Int → Heap → Prop) (vs : List V) (h : Heap) : Prop :=
  match vs with
  | [.ptr a1, a2, .int .i64 a3, .int .i64 a4] => I a1 a2 a3 a4 h
  | _ => False

theorem ring_Ring_Push.p5 : (posC ring_Ring_Push.code []).filter (fun p => Nat.beq p.1 5) = [(5, atPos (posC ring_Ring_Push.code []) 5)] := by kernel_rfl

theorem ring_Ring_Push.e5 : ∀ (U : Ifc)   (Q : Int → Heap → Prop) (h : Heap), ring_Ring_Push.j5 U   Q h = pts (ring_Ring_Push.E U Q []) 3000 true (atPos (posC ring_Ring_Push.code []) 5) (frAt [] []) h := by
  intros; kernel_rfl

theorem ring_Ring_Push.s5 {W0 : World} {U : Ifc} (hU : IfcOK sg W0 glsT U) (Q : Int → Heap → Prop)   : CutOK sg W0 111 (entered 10) (Post sg W0 (ring_Ring_Push.ret Q)) (posC ring_Ring_Push.code []) 5 [] (ring_Ring_Push.k5 (fun  h => ring_Ring_Push.j5 U   Q h)) := by
  refine cutOK_head (fun vs h hk => ?_)
  unfold ring_Ring_Push.k5 at hk
  split at hk
  · skip
    intro todo hm ρ a w s f hp
    exact piece (E := ring_Ring_Push.E U Q []) (vs := []) (envOK seatOK (ring_Ring_Push.callsOK hU) hU) (fnOK seatOK ring_Ring_Push.fun) trivial ring_Ring_Push.p5 (fuel := 3000) (by rw [← ring_Ring_Push.e5]; exact hk) hm s f hp
  · exact hk.elim

theorem ring_Ring_Push.p7 : (posC ring_Ring_Push.code []).filter (fun p => Nat.beq p.1 7) = [(7, atPos (posC ring_Ring_Push.code []) 7)] := by kernel_rfl

theorem ring_Ring_Push.e7 : ∀ (U : Ifc)   (Q : Int → Heap → Prop) (h : Heap), ring_Ring_Push.j7 U   Q h = pts (ring_Ring_Push.E U Q []) 3000 true (atPos (posC ring_Ring_Push.code []) 7) (frAt [] []) h := by
  intros; kernel_rfl

theorem ring_Ring_Push.s7 {W0 : World} {U : Ifc} (hU : IfcOK sg W0 glsT U) (Q : Int → Heap → Prop)   : CutOK sg W0 111 (entered 10) (Post sg W0 (ring_Ring_Push.ret Q)) (posC ring_Ring_Push.code []) 7 [] (ring_Ring_Push.k7 (fun  h => ring_Ring_Push.j7 U   Q h)) := by
  refine cutOK_head (fun vs h hk => ?_)
  unfold ring_Ring_Push.k7 at hk
  split at hk
  · skip
    intro todo hm ρ a w s f hp
    exact piece (E := ring_Ring_Push.E U Q []) (vs := []) (envOK seatOK (ring_Ring_Push.callsOK hU) hU) (fnOK seatOK ring_Ring_Push.fun) trivial ring_Ring_Push.p7 (fuel := 3000) (by rw [← ring_Ring_Push.e7]; exact hk) hm s f hp
  · exact hk.elim

theorem ring_Ring_Push.p11 : (posC ring_Ring_Push.code []).filter (fun p => Nat.beq p.1 11) = [(11, atPos (posC ring_Ring_Push.code []) 11)] := by kernel_rfl

theorem ring_Ring_Push.e11 : ∀ (U : Ifc)  (I11 : (Option Ptr) → V → Sl → Int → Int → Heap → Prop) (a1 : Option Ptr) (a2 : V) (a3 : Sl) (a4 : Int) (a5 : Int) (Q : Int → Heap → Prop) (h : Heap), ring_Ring_Push.b11 U  I11 a1 a2 a3 a4 a5 Q h = pts (ring_Ring_Push.E U Q [(11, ([0, 1, 87, 88, 89], ring_Ring_Push.k11 I11))]) 3000 true (atPos (posC ring_Ring_Push.code []) 11) (frAt [0, 1, 87, 88, 89] [.ptr a1, a2, .sl a3, .int .i64 a4, .int .i64 a5]) h := by
  intros; kernel_rfl

theorem ring_Ring_Push.s11 {W0 : World} {U : Ifc} (hU : IfcOK sg W0 glsT U) (Q : Int → Heap → Prop)   : CutOK sg W0 111 (entered 10) (Post sg W0 (ring_Ring_Push.ret Q)) (posC ring_Ring_Push.code []) 11 [0, 1, 87, 88, 89] (ring_Ring_Push.k11 (fun a1 a2 a3 a4 a5 h => ring_Ring_Push.j11 U  a1 a2 a3 a4 a5 Q h)) := by
  refine cutOK_head (fun vs h hk => ?_)
  unfold ring_Ring_Push.k11 at hk
  split at hk
  · rename_i a1 a2 a3 a4 a5
    refine hk (fun a1 a2 a3 a4 a5 h => Head sg W0 111 (entered 10) (Post sg W0 (ring_Ring_Push.ret Q)) (posC ring_Ring_Push.code []) 11 [0, 1, 87, 88, 89] [.ptr a1, a2, .sl a3, .int .i64 a4, .int .i64 a5] h) ?_
    intro a1 a2 a3 a4 a5 h hb todo hm ρ a w s f hp
    have hself : CutOK sg W0 111 (entered 10) (Post sg W0 (ring_Ring_Push.ret Q)) (posC ring_Ring_Push.code []) 11 [0, 1, 87, 88, 89] (ring_Ring_Push.k11 (fun a1 a2 a3 a4 a5 h => Head sg W0 111 (entered 10) (Post sg W0 (ring_Ring_Push.ret Q)) (posC ring_Ring_Push.code []) 11 [0, 1, 87, 88, 89] [.ptr a1, a2, .sl a3, .int .i64 a4, .int .i64 a5] h)) := cutOK_head (fun vs h hk => by unfold ring_Ring_Push.k11 at hk; split at hk; exact hk; exact hk.elim)
    exact piece (E := ring_Ring_Push.E U Q [(11, ([0, 1, 87, 88, 89], ring_Ring_Push.k11 (fun a1 a2 a3 a4 a5 h => Head sg W0 111 (entered 10) (Post sg W0 (ring_Ring_Push.ret Q)) (posC ring_Ring_Push.code []) 11 [0, 1, 87, 88, 89] [.ptr a1, a2, .sl a3, .int .i64 a4, .int .i64 a5] h)))]) (vs := [.ptr a1, a2, .sl a3, .int .i64 a4, .int .i64 a5]) (envOK seatOK (ring_Ring_Push.callsOK hU) hU) (fnOK seatOK ring_Ring_Push.fun) ⟨hself, trivial⟩ ring_Ring_Push.p11 (fuel := 3000) (by rw [← ring_Ring_Push.e11]; exact hb) hm s f hp
  · exact hk.elim

theorem ring_Ring_Push.p10 : (posC ring_Ring_Push.code []).filter (fun p => Nat.beq p.1 10) = [(10, atPos (posC ring_Ring_Push.code []) 10)] := by kernel_rfl

theorem ring_Ring_Push.e10 : ∀ (U : Ifc)  (a1 : Option Ptr) (a2 : V) (a3 : Int) (a4 : Int) (a5 : Int) (a6 : Int) (Q : Int → Heap → Prop) (h : Heap), ring_Ring_Push.j10 U  a1 a2 a3 a4 a5 a6 Q h = pts (ring_Ring_Push.E U Q [(11, ([0, 1, 87, 88, 89], ring_Ring_Push.k11 (fun a1 a2 a3 a4 a5 h => ring_Ring_Push.j11 U  a1 a2 a3 a4 a5 Q h)))]) 3000 true (atPos (posC ring_Ring_Push.code []) 10) (frAt [0, 1, 2, 3, 10, 11] [.ptr a1, a2, .int .i64 a3, .int .i64 a4, .int .u64 a5, .int .u64 a6]) h := by
  intros; kernel_rfl

theorem ring_Ring_Push.s10 {W0 : World} {U : Ifc} (hU : IfcOK sg W0 glsT U) (Q : Int → Heap → Prop)   : CutOK sg W0 111 (entered 10) (Post sg W0 (ring_Ring_Push.ret Q)) (posC ring_Ring_Push.code []) 10 [0, 1, 2, 3, 10, 11] (ring_Ring_Push.k10 (fun a1 a2 a3 a4 a5 a6 h => ring_Ring_Push.j10 U  a1 a2 a3 a4 a5 a6 Q h)) := by
  refine cutOK_head (fun vs h hk => ?_)
  unfold ring_Ring_Push.k10 at hk
  split at hk
  · rename_i a1 a2 a3 a4 a5 a6
    intro todo hm ρ a w s f hp
    exact piece (E := ring_Ring_Push.E U Q [(11, ([0, 1, 87, 88, 89], ring_Ring_Push.k11 (fun a1 a2 a3 a4 a5 h => ring_Ring_Push.j11 U  a1 a2 a3 a4 a5 Q h)))]) (vs := [.ptr a1, a2, .int .i64 a3, .int .i64 a4, .int .u64 a5, .int .u64 a6]) (envOK seatOK (ring_Ring_Push.callsOK hU) hU) (fnOK seatOK ring_Ring_Push.fun) ⟨(ring_Ring_Push.s11 hU Q  ), trivial⟩ ring_Ring_Push.p10 (fuel := 3000) (by rw [← ring_Ring_Push.e10]; exact hk) hm s f hp
  · exact hk.elim

theorem ring_Ring_Push.p8 : (posC ring_Ring_Push.code []).filter (fun p => Nat.beq p.1 8) = [(8, atPos (posC ring_Ring_Push.code []) 8)] := by kernel_rfl

theorem ring_Ring_Push.e8 : ∀ (U : Ifc)  (a1 : Option Ptr) (a2 : V) (a3 : Int) (a4 : Int) (Q : Int → Heap → Prop) (h : Heap), ring_Ring_Push.j8 U  a1 a2 a3 a4 Q h = pts (ring_Ring_Push.E U Q [(10, ([0, 1, 2, 3, 10, 11], ring_Ring_Push.k10 (fun a1 a2 a3 a4 a5 a6 h => ring_Ring_Push.j10 U  a1 a2 a3 a4 a5 a6 Q h)))]) 3000 true (atPos (posC ring_Ring_Push.code []) 8) (frAt [0, 1, 2, 3] [.ptr a1, a2, .int .i64 a3, .int .i64 a4]) h := by
  intros; kernel_rfl

theorem ring_Ring_Push.s8 {W0 : World} {U : Ifc} (hU : IfcOK sg W0 glsT U) (Q : Int → Heap → Prop)   : CutOK sg W0 111 (entered 10) (Post sg W0 (ring_Ring_Push.ret Q)) (posC ring_Ring_Push.code []) 8 [0, 1, 2, 3] (ring_Ring_Push.k8 (fun a1 a2 a3 a4 h => ring_Ring_Push.j8 U  a1 a2 a3 a4 Q h)) := by
  refine cutOK_head (fun vs h hk => ?_)
  unfold ring_Ring_Push.k8 at hk
  split at hk
  · rename_i a1 a2 a3 a4
    intro todo hm ρ a w s f hp
    exact piece (E := ring_Ring_Push.E U Q [(10, ([0, 1, 2, 3, 10, 11], ring_Ring_Push.k10 (fun a1 a2 a3 a4 a5 a6 h => ring_Ring_Push.j10 U  a1 a2 a3 a4 a5 a6 Q h)))]) (vs := [.ptr a1, a2, .int .i64 a3, .int .i64 a4]) (envOK seatOK (ring_Ring_Push.callsOK hU) hU) (fnOK seatOK ring_Ring_Push.fun) ⟨(ring_Ring_Push.s10 hU Q  ), trivial⟩ ring_Ring_Push.p8 (fuel := 3000) (by rw [← ring_Ring_Push.e8]; exact hk) hm s f hp
  · exact hk.elim

theorem ring_Ring_Push.e : ∀ (U : Ifc) (a1 : Option Ptr) (a2 : V) (a3 : Int) (a4 : Int) (Q : Int → Heap → Prop) (h : Heap), ring_Ring_Push U a1 a2 a3 a4 Q h = pts (ring_Ring_Push.E U Q [(5, ([], ring_Ring_Push.k5 (fun  h => ring_Ring_Push.j5 U   Q h))), (7, ([], ring_Ring_Push.k7 (fun  h => ring_Ring_Push.j7 U   Q h))), (8, ([0, 1, 2, 3], ring_Ring_Push.k8 (fun a1 a2 a3 a4 h => ring_Ring_Push.j8 U  a1 a2 a3 a4 Q h)))]) 3000 true [.code ring_Ring_Push.code] (frOf 0 [.ptr a1, a2, .int .i64 a3, .int .i64 a4]) h := by
  intros; kernel_rfl

theorem ring_Ring_Push.S {W0 : World} {U : Ifc} (hU : IfcOK sg W0 glsT U) : FnS sg W0 78 (ring_Ring_Push.C U) := by
  intro vs κ h wv hx w s
  unfold ring_Ring_Push.C at hx
  split at hx
  · rename_i a1 a2 a3 a4
    refine postImp (ret := ring_Ring_Push.ret (fun r1 h => κ (.int .i64 r1) h)) (fun v h hr => by unfold ring_Ring_Push.ret at hr; split at hr; exact hr; exact hr.elim) ?_
    exact calls_of_pts (E := ring_Ring_Push.E U (fun r1 h => κ (.int .i64 r1) h) [(5, ([], ring_Ring_Push.k5 (fun  h => ring_Ring_Push.j5 U   (fun r1 h => κ (.int .i64 r1) h) h))), (7, ([], ring_Ring_Push.k7 (fun  h => ring_Ring_Push.j7 U   (fun r1 h => κ (.int .i64 r1) h) h))), (8, ([0, 1, 2, 3], ring_Ring_Push.k8 (fun a1 a2 a3 a4 h => ring_Ring_Push.j8 U  a1 a2 a3 a4 (fun r1 h => κ (.int .i64 r1) h) h)))]) (envOK seatOK (ring_Ring_Push.callsOK hU) hU) seatOK.mixed ring_Ring_Push.fun (Nat.le_of_ble_eq_true rfl) wv (cutL_ok ⟨(ring_Ring_Push.s5 hU (fun r1 h => κ (.int .i64 r1) h)), (ring_Ring_Push.s7 hU (fun r1 h => κ (.int .i64 r1) h)), (ring_Ring_Push.s8 hU (fun r1 h => κ (.int .i64 r1) h)), trivial⟩) s (fuel := 3000) (by rw [← ring_Ring_Push.e]; exact hx)
  · exact hx.elim

noncomputable def word_Load.code : Code := Go.Proofs.Tryd.f19.body.getD .skip

theorem word_Load.fun : Fun sg.P 19 53 [.tmp 6, .tmp 7] word_Load.code := mkFun Go.Proofs.Tryd.func19 (by kernel_rfl) (by kernel_rfl) (by kernel_rfl) (by kernel_rfl)

def word_Load.ret (Q : Int → Bool → Heap → Prop) (v : V) (h : Heap) : Prop :=
  match v with
  | .tup [.int .u64 r1, .bool r2] => Q r1 r2 h
  | _ => False

def word_Load.C (U : Ifc) (vs : List V) (κ : V → Heap → Prop) (h : Heap) : Prop :=
  match vs with
  | [.sl a1, .int .i64 a2, .int .i64 a3] => word_Load U a1 a2 a3 (fun r1 r2 h => κ (.tup [.int .u64 r1, .bool r2]) h) h
  | _ => False

noncomputable def word_Load.calls (U : Ifc) : List (Nat × (List V → (V → Heap → Prop) → Heap → Prop)) := [(93, word_known.C U)]

noncomputable def word_Load.E (U : Ifc) (Q : Int → Bool → Heap → Prop) (cuts : List (Nat × (List Nat × (List V → Heap → Prop)))) : Env := { tis := tisT, fns := fnsT, tys := tysT, gls := glsT, rts := rtsT, unk := [], nxt := [], calls := word_Load.calls U, ifc := U, cuts := cuts, ret := word_Load.ret Q, rets := [.tmp 6, .tmp 7], n := 53 }

theorem word_Load.callsOK {W0 : World} {U : Ifc} (hU : IfcOK sg W0 glsT U) : CallsOK sg W0 (word_Load.calls U) := ⟨(word_known.S hU), trivial⟩

def word_Load.k2 (I : Heap → Prop) (vs : List V) (h : Heap) : Prop :=
  match vs with
  | [] => I  h
  | _ => False

def word_Load.k5 (I : Int → Int → Sl → Int → Int → Heap → Prop) (vs : List V) (h : Heap) : Prop :=
  match vs with
  | [.int .i64 a1, .int .u64 a2, .sl a3, .int .i64 a4, .int .i64 a5] => I a1 a2 a3 a4 a5 h
  | _ => False

theorem word_Load.p2 : (posC word_Load.code []).filter (fun p => Nat.beq p.1 2) = [(2, atPos (posC word_Load.code []) 2)] := by kernel_rfl

theorem word_Load.e2 : ∀ (U : Ifc)   (Q : Int → Bool → Heap → Prop) (h : Heap), word_Load.j2 U   Q h = pts (word_Load.E U Q []) 3000 true (atPos (posC word_Load.code []) 2) (frAt [] []) h := by
  intros; kernel_rfl

theorem word_Load.s2 {W0 : World} {U : Ifc} (hU : IfcOK sg W0 glsT U) (Q : Int → Bool → Heap → Prop)   : CutOK sg W0 53 (entered 19) (Post sg W0 (word_Load.ret Q)) (posC word_Load.code []) 2 [] (word_Load.k2 (fun  h => word_Load.j2 U   Q h)) := by
  refine cutOK_head (fun vs h hk => ?_)
  unfold word_Load.k2 at hk
  split at hk
  · skip
    intro todo hm ρ a w s f hp
    exact piece (E := word_Load.E U Q []) (vs := []) (envOK seatOK (word_Load.callsOK hU) hU) (fnOK seatOK word_Load.fun) trivial word_Load.p2 (fuel := 3000) (by rw [← word_Load.e2]; exact hk) hm s f hp
  · exact hk.elim

theorem word_Load.p5 : (posC word_Load.code []).filter (fun p => Nat.beq p.1 5) = [(5, atPos (posC word_Load.code []) 5)] := by kernel_rfl

theorem word_Load.e5 : ∀ (U : Ifc)  (I5 : Int → Int → Sl → Int → Int → Heap → Prop) (a1 : Int) (a2 : Int) (a3 : Sl) (a4 : Int) (a5 : Int) (Q : Int → Bool → Heap → Prop) (h : Heap), word_Load.b5 U  I5 a1 a2 a3 a4 a5 Q h = pts (word_Load.E U Q [(5, ([2, 8, 31, 32, 33], word_Load.k5 I5))]) 3000 true (atPos (posC word_Load.code []) 5) (frAt [2, 8, 31, 32, 33] [.int .i64 a1, .int .u64 a2, .sl a3, .int .i64 a4, .int .i64 a5]) h := by
  intros; kernel_rfl

theorem word_Load.s5 {W0 : World} {U : Ifc} (hU : IfcOK sg W0 glsT U) (Q : Int → Bool → Heap → Prop)   : CutOK sg W0 53 (entered 19) (Post sg W0 (word_Load.ret Q)) (posC word_Load.code []) 5 [2, 8, 31, 32, 33] (word_Load.k5 (fun a1 a2 a3 a4 a5 h => word_Load.j5 U  a1 a2 a3 a4 a5 Q h)) := by
  refine cutOK_head (fun vs h hk => ?_)
  unfold word_Load.k5 at hk
  split at hk
  · rename_i a1 a2 a3 a4 a5
    refine hk (fun a1 a2 a3 a4 a5 h => Head sg W0 53 (entered 19) (Post sg W0 (word_Load.ret Q)) (posC word_Load.code []) 5 [2, 8, 31, 32, 33] [.int .i64 a1, .int .u64 a2, .sl a3, .int .i64 a4, .int .i64 a5] h) ?_
    intro a1 a2 a3 a4 a5 h hb todo hm ρ a w s f hp
    have hself : CutOK sg W0 53 (entered 19) (Post sg W0 (word_Load.ret Q)) (posC word_Load.code []) 5 [2, 8, 31, 32, 33] (word_Load.k5 (fun a1 a2 a3 a4 a5 h => Head sg W0 53 (entered 19) (Post sg W0 (word_Load.ret Q)) (posC word_Load.code []) 5 [2, 8, 31, 32, 33] [.int .i64 a1, .int .u64 a2, .sl a3, .int .i64 a4, .int .i64 a5] h)) := cutOK_head (fun vs h hk => by unfold word_Load.k5 at hk; split at hk; exact hk; exact hk.elim)
    exact piece (E := word_Load.E U Q [(5, ([2, 8, 31, 32, 33], word_Load.k5 (fun a1 a2 a3 a4 a5 h => Head sg W0 53 (entered 19) (Post sg W0 (word_Load.ret Q)) (posC word_Load.code []) 5 [2, 8, 31, 32, 33] [.int .i64 a1, .int .u64 a2, .sl a3, .int .i64 a4, .int .i64 a5] h)))]) (vs := [.int .i64 a1, .int .u64 a2, .sl a3, .int .i64 a4, .int .i64 a5]) (envOK seatOK (word_Load.callsOK hU) hU) (fnOK seatOK word_Load.fun) ⟨hself, trivial⟩ word_Load.p5 (fuel := 3000) (by rw [← word_Load.e5]; exact hb) hm s f hp
  · exact hk.elim

theorem word_Load.e : ∀ (U : Ifc) (a1 : Sl) (a2 : Int) (a3 : Int) (Q : Int → Bool → Heap → Prop) (h : Heap), word_Load U a1 a2 a3 Q h = pts (word_Load.E U Q [(2, ([], word_Load.k2 (fun  h => word_Load.j2 U   Q h))), (5, ([2, 8, 31, 32, 33], word_Load.k5 (fun a1 a2 a3 a4 a5 h => word_Load.j5 U  a1 a2 a3 a4 a5 Q h)))]) 3000 true [.code word_Load.code] (frOf 0 [.sl a1, .int .i64 a2, .int .i64 a3]) h := by
  intros; kernel_rfl

theorem word_Load.S {W0 : World} {U : Ifc} (hU : IfcOK sg W0 glsT U) : FnS sg W0 94 (word_Load.C U) := by
  intro vs κ h wv hx w s
  unfold word_Load.C at hx
  split at hx
  · rename_i a1 a2 a3
    refine postImp (ret := word_Load.ret (fun r1 r2 h => κ (.tup [.int .u64 r1, .bool r2]) h)) (fun v h hr => by unfold word_Load.ret at hr; split at hr; exact hr; exact hr.elim) ?_
    exact calls_of_pts (E := word_Load.E U (fun r1 r2 h => κ (.tup [.int .u64 r1, .bool r2]) h) [(2, ([], word_Load.k2 (fun  h => word_Load.j2 U   (fun r1 r2 h => κ (.tup [.int .u64 r1, .bool r2]) h) h))), (5, ([2, 8, 31, 32, 33], word_Load.k5 (fun a1 a2 a3 a4 a5 h => word_Load.j5 U  a1 a2 a3 a4 a5 (fun r1 r2 h => κ (.tup [.int .u64 r1, .bool r2]) h) h)))]) (envOK seatOK (word_Load.callsOK hU) hU) seatOK.mixed word_Load.fun (Nat.le_of_ble_eq_true rfl) wv (cutL_ok ⟨(word_Load.s2 hU (fun r1 r2 h => κ (.tup [.int .u64 r1, .bool r2]) h)), (word_Load.s5 hU (fun r1 r2 h => κ (.tup [.int .u64 r1, .bool r2]) h)), trivial⟩) s (fuel := 3000) (by rw [← word_Load.e]; exact hx)
  · exact hx.elim

noncomputable def mem_Memory_Load.code : Code := Go.Proofs.Tryd.f11.body.getD .skip

theorem mem_Memory_Load.fun : Fun sg.P 11 29 [.tmp 6, .tmp 7] mem_Memory_Load.code := mkFun Go.Proofs.Tryd.func11 (by kernel_rfl) (by kernel_rfl) (by kernel_rfl) (by kernel_rfl)

def mem_Memory_Load.ret (Q : Int → Int → Heap → Prop) (v : V) (h : Heap) : Prop :=
  match v with
  | .tup [.int .u64 r1, .int .i64 r2] => Q r1 r2 h
  | _ => False

def mem_Memory_Load.C (U : Ifc) (vs : List V) (κ : V → Heap → Prop) (h : Heap) : Prop :=
  match vs with
  | [.ptr a1, .int .u64 a2, .int .i64 a3] => mem_Memory_Load U a1 a2 a3 (fun r1 r2 h => κ (.tup [.int .u64 r1, .int .i64 r2]) h) h
  | _ => False

noncomputable def mem_Memory_Load.calls (U : Ifc) : List (Nat × (List V → (V → Heap → Prop) → Heap → Prop)) := [(59, mem_Memory_number.C), (94, word_Load.C U)]

noncomputable def mem_Memory_Load.E (U : Ifc) (Q : Int → Int → Heap → Prop) (cuts : List (Nat × (List Nat × (List V → Heap → Prop)))) : Env := { tis := tisT, fns := fnsT, tys := tysT, gls := glsT, rts := rtsT, unk := [], nxt := [], calls := mem_Memory_Load.calls U, ifc := U, cuts := cuts, ret := mem_Memory_Load.ret Q, rets := [.tmp 6, .tmp 7], n := 29 }

theorem mem_Memory_Load.callsOK {W0 : World} {U : Ifc} (hU : IfcOK sg W0 glsT U) : CallsOK sg W0 (mem_Memory_Load.calls U) := ⟨mem_Memory_number.S, (word_Load.S hU), trivial⟩

theorem mem_Memory_Load.e : ∀ (U : Ifc) (a1 : Option Ptr) (a2 : Int) (a3 : Int) (Q : Int → Int → Heap → Prop) (h : Heap), mem_Memory_Load U a1 a2 a3 Q h = pts (mem_Memory_Load.E U Q []) 3000 true [.code mem_Memory_Load.code] (frOf 0 [.ptr a1, .int .u64 a2, .int .i64 a3]) h := by
  intros; kernel_rfl

theorem mem_Memory_Load.S {W0 : World} {U : Ifc} (hU : IfcOK sg W0 glsT U) : FnS sg W0 95 (mem_Memory_Load.C U) := by
  intro vs κ h wv hx w s
  unfold mem_Memory_Load.C at hx
  split at hx
  · rename_i a1 a2 a3
    refine postImp (ret := mem_Memory_Load.ret (fun r1 r2 h => κ (.tup [.int .u64 r1, .int .i64 r2]) h)) (fun v h hr => by unfold mem_Memory_Load.ret at hr; split at hr; exact hr; exact hr.elim) ?_
    exact calls_of_pts (E := mem_Memory_Load.E U (fun r1 r2 h => κ (.tup [.int .u64 r1, .int .i64 r2]) h) []) (envOK seatOK (mem_Memory_Load.callsOK hU) hU) seatOK.mixed mem_Memory_Load.fun (Nat.le_of_ble_eq_true rfl) wv (cutL_ok trivial) s (fuel := 3000) (by rw [← mem_Memory_Load.e]; exact hx)
  · exact hx.elim

noncomputable def palisadelaw23_RingOrder.code : Code := Go.Proofs.Tryd.f3.body.getD .skip

theorem palisadelaw23_RingOrder.fun : Fun sg.P 3 275 [.tmp 4] palisadelaw23_RingOrder.code := mkFun Go.Proofs.Tryd.func3 (by kernel_rfl) (by kernel_rfl) (by kernel_rfl) (by kernel_rfl)

def palisadelaw23_RingOrder.ret (Q : Bool → Heap → Prop) (v : V) (h : Heap) : Prop :=
  match v with
  | .bool r1 => Q r1 h
  | _ => False

def palisadelaw23_RingOrder.C (U : Ifc) (vs : List V) (κ : V → Heap → Prop) (h : Heap) : Prop :=
  match vs with
  | [.int .i64 a1, .sl a2] => palisadelaw23_RingOrder U a1 a2 (fun r1 h => κ (.bool r1) h) h
  | _ => False

noncomputable def palisadelaw23_RingOrder.calls (U : Ifc) : List (Nat × (List V → (V → Heap → Prop) → Heap → Prop)) := [(28, mem_New.C), (35, ring_New.C), (218, palisadelaw23_RingOrder_c1.C U), (97, mem_Memory_Store.C U), (77, ring_Ring_Next.C U), (78, ring_Ring_Push.C U), (95, mem_Memory_Load.C U)]

noncomputable def palisadelaw23_RingOrder.E (U : Ifc) (Q : Bool → Heap → Prop) (cuts : List (Nat × (List Nat × (List V → Heap → Prop)))) : Env := { tis := tisT, fns := fnsT, tys := tysT, gls := glsT, rts := rtsT, unk := [], nxt := [], calls := palisadelaw23_RingOrder.calls U, ifc := U, cuts := cuts, ret := palisadelaw23_RingOrder.ret Q, rets := [.tmp 4], n := 275 }

theorem palisadelaw23_RingOrder.callsOK {W0 : World} {U : Ifc} (hU : IfcOK sg W0 glsT U) : CallsOK sg W0 (palisadelaw23_RingOrder.calls U) := ⟨mem_New.S, ring_New.S, (palisadelaw23_RingOrder_c1.S hU), (mem_Memory_Store.S hU), (ring_Ring_Next.S hU), (ring_Ring_Push.S hU), (mem_Memory_Load.S hU), trivial⟩

def palisadelaw23_RingOrder.k5 (I : Heap → Prop) (vs : List V) (h : Heap) : Prop :=
  match vs with
  | [] => I  h
  | _ => False

def palisadelaw23_RingOrder.k26 (I : Heap → Prop) (vs : List V) (h : Heap) : Prop :=
  match vs with
  | [] => I  h
  | _ => False

def palisadelaw23_RingOrder.k29 (I : Heap → Prop) (vs : List V) (h : Heap) : Prop :=
  match vs with
  | [] => I  h
  | _ => False

def palisadelaw23_RingOrder.k31 (I : Heap → Prop) (vs : List V) (h : Heap) : Prop :=
  match vs with
  | [] => I  h
  | _ => False

def palisadelaw23_RingOrder.k36 (I : Heap → Prop) (vs : List V) (h : Heap) : Prop :=
  match vs with
  | [] => I  h
  | _ => False

def palisadelaw23_RingOrder.k10 (I : Sl → Int → Ptr → (Option Ptr) → Int → Int → Int → Heap → Prop) (vs : List V) (h : Heap) : Prop :=
  match vs with
  | [.sl a1, .int .i64 a2, .ptr (some a3), .ptr a4, .int .u64 a5, .int .u64 a6, .int .i64 a7] => I a1 a2 a3 a4 a5 a6 a7 h
  | _ => False

def palisadelaw23_RingOrder.k35 (I : Sl → Int → Ptr → (Option Ptr) → Int → Int → Int → Int → Int → Int → Int → Int → Heap → Prop) (vs : List V) (h : Heap) : Prop :=
  match vs with
  | [.sl a1, .int .i64 a2, .ptr (some a3), .ptr a4, .int .u64 a5, .int .u64 a6, .int .i64 a7, .int .i64 a8, .int .i64 a9, .int .u64 a10, .int .u64 a11, .int .u64 a12] => I a1 a2 a3 a4 a5 a6 a7 a8 a9 a10 a11 a12 h
  | _ => False

def palisadelaw23_RingOrder.k32 (I : Sl → Int → Ptr → (Option Ptr) → Int → Int → Int → Int → Int → Heap → Prop) (vs : List V) (h : Heap) : Prop :=
  match vs with
  | [.sl a1, .int .i64 a2, .ptr (some a3), .ptr a4, .int .u64 a5, .int .u64 a6, .int .i64 a7, .int .i64 a8, .int .i64 a9] => I a1 a2 a3 a4 a5 a6 a7 a8 a9 h
  | _ => False

def palisadelaw23_RingOrder.k27 (I : Sl → Int → Ptr → (Option Ptr) → Int → Int → Int → Int → Int → Heap → Prop) (vs : List V) (h : Heap) : Prop :=
  match vs with
  | [.sl a1, .int .i64 a2, .ptr (some a3), .ptr a4, .int .u64 a5, .int .u64 a6, .int .i64 a7, .int .i64 a8, .int .i64 a9] => I a1 a2 a3 a4 a5 a6 a7 a8 a9 h
  | _ => False

def palisadelaw23_RingOrder.k25 (I : Sl → Int → Ptr → (Option Ptr) → Int → Int → Int → Int → Int → Bool → Ptr → Bool → Int → Heap → Prop) (vs : List V) (h : Heap) : Prop :=
  match vs with
  | [.sl a1, .int .i64 a2, .ptr (some a3), .ptr a4, .int .u64 a5, .int .u64 a6, .int .i64 a7, .int .i64 a8, .int .i64 a9, .bool a10, .ptr (some a11), .bool a12, .int .i64 a13] => I a1 a2 a3 a4 a5 a6 a7 a8 a9 a10 a11 a12 a13 h
  | _ => False

def palisadelaw23_RingOrder.k22 (I : Sl → Int → Ptr → (Option Ptr) → Int → Int → Int → Int → Int → Bool → Heap → Prop) (vs : List V) (h : Heap) : Prop :=
  match vs with
  | [.sl a1, .int .i64 a2, .ptr (some a3), .ptr a4, .int .u64 a5, .int .u64 a6, .int .i64 a7, .int .i64 a8, .int .i64 a9, .bool a10] => I a1 a2 a3 a4 a5 a6 a7 a8 a9 a10 h
  | _ => False

def palisadelaw23_RingOrder.k17 (I : Sl → Int → Ptr → (Option Ptr) → Int → Int → Int → Int → Int → Bool → Int → Heap → Prop) (vs : List V) (h : Heap) : Prop :=
  match vs with
  | [.sl a1, .int .i64 a2, .ptr (some a3), .ptr a4, .int .u64 a5, .int .u64 a6, .int .i64 a7, .int .i64 a8, .int .i64 a9, .bool a10, .int .u64 a11] => I a1 a2 a3 a4 a5 a6 a7 a8 a9 a10 a11 h
  | _ => False

def palisadelaw23_RingOrder.k14 (I : Sl → Int → Ptr → (Option Ptr) → Int → Int → Int → Int → Int → Bool → Heap → Prop) (vs : List V) (h : Heap) : Prop :=
  match vs with
  | [.sl a1, .int .i64 a2, .ptr (some a3), .ptr a4, .int .u64 a5, .int .u64 a6, .int .i64 a7, .int .i64 a8, .int .i64 a9, .bool a10] => I a1 a2 a3 a4 a5 a6 a7 a8 a9 a10 h
  | _ => False

def palisadelaw23_RingOrder.k9 (I : Sl → Int → Ptr → (Option Ptr) → Int → Int → Int → Heap → Prop) (vs : List V) (h : Heap) : Prop :=
  match vs with
  | [.sl a1, .int .i64 a2, .ptr (some a3), .ptr a4, .int .u64 a5, .int .u64 a6, .int .i64 a7] => I a1 a2 a3 a4 a5 a6 a7 h
  | _ => False

def palisadelaw23_RingOrder.k6 (I : Sl → Int → Ptr → (Option Ptr) → Heap → Prop) (vs : List V) (h : Heap) : Prop :=
  match vs with
  | [.sl a1, .int .i64 a2, .ptr (some a3), .ptr a4] => I a1 a2 a3 a4 h
  | _ => False

theorem palisadelaw23_RingOrder.p5 : (posC palisadelaw23_RingOrder.code []).filter (fun p => Nat.beq p.1 5) = [(5, atPos (posC palisadelaw23_RingOrder.code []) 5)] := by kernel_rfl

theorem palisadelaw23_RingOrder.e5 : ∀ (U : Ifc)   (Q : Bool → Heap → Prop) (h : Heap), palisadelaw23_RingOrder.j5 U   Q h = pts (palisadelaw23_RingOrder.E U Q []) 3000 true (atPos (posC palisadelaw23_RingOrder.code []) 5) (frAt [] []) h := by
  intros; kernel_rfl

theorem palisadelaw23_RingOrder.s5 {W0 : World} {U : Ifc} (hU : IfcOK sg W0 glsT U) (Q : Bool → Heap → Prop)   : CutOK sg W0 275 (entered 3) (Post sg W0 (palisadelaw23_RingOrder.ret Q)) (posC palisadelaw23_RingOrder.code []) 5 [] (palisadelaw23_RingOrder.k5 (fun  h => palisadelaw23_RingOrder.j5 U   Q h)) := by
  refine cutOK_head (fun vs h hk => ?_)
  unfold palisadelaw23_RingOrder.k5 at hk
  split at hk
  · skip
    intro todo hm ρ a w s f hp
    exact piece (E := palisadelaw23_RingOrder.E U Q []) (vs := []) (envOK seatOK (palisadelaw23_RingOrder.callsOK hU) hU) (fnOK seatOK palisadelaw23_RingOrder.fun) trivial palisadelaw23_RingOrder.p5 (fuel := 3000) (by rw [← palisadelaw23_RingOrder.e5]; exact hk) hm s f hp
  · exact hk.elim

theorem palisadelaw23_RingOrder.p26 : (posC palisadelaw23_RingOrder.code []).filter (fun p => Nat.beq p.1 26) = [(26, atPos (posC palisadelaw23_RingOrder.code []) 26)] := by kernel_rfl

theorem palisadelaw23_RingOrder.e26 : ∀ (U : Ifc) (I9 : Sl → Int → Ptr → (Option Ptr) → Int → Int → Int → Heap → Prop)  (Q : Bool → Heap → Prop) (h : Heap), palisadelaw23_RingOrder.j26 U I9  Q h = pts (palisadelaw23_RingOrder.E U Q []) 3000 true (atPos (posC palisadelaw23_RingOrder.code []) 26) (frAt [] []) h := by
  intros; kernel_rfl

theorem palisadelaw23_RingOrder.s26 {W0 : World} {U : Ifc} (hU : IfcOK sg W0 glsT U) (Q : Bool → Heap → Prop) (I9 : Sl → Int → Ptr → (Option Ptr) → Int → Int → Int → Heap → Prop) (h9 : CutOK sg W0 275 (entered 3) (Post sg W0 (palisadelaw23_RingOrder.ret Q)) (posC palisadelaw23_RingOrder.code []) 9 [1, 5, 6, 8, 10, 11, 12] (palisadelaw23_RingOrder.k9 I9)) : CutOK sg W0 275 (entered 3) (Post sg W0 (palisadelaw23_RingOrder.ret Q)) (posC palisadelaw23_RingOrder.code []) 26 [] (palisadelaw23_RingOrder.k26 (fun  h => palisadelaw23_RingOrder.j26 U I9  Q h)) := by
  refine cutOK_head (fun vs h hk => ?_)
  unfold palisadelaw23_RingOrder.k26 at hk
  split at hk
  · skip
    intro todo hm ρ a w s f hp
    exact piece (E := palisadelaw23_RingOrder.E U Q []) (vs := []) (envOK seatOK (palisadelaw23_RingOrder.callsOK hU) hU) (fnOK seatOK palisadelaw23_RingOrder.fun) trivial palisadelaw23_RingOrder.p26 (fuel := 3000) (by rw [← palisadelaw23_RingOrder.e26]; exact hk) hm s f hp
  · exact hk.elim

theorem palisadelaw23_RingOrder.p29 : (posC palisadelaw23_RingOrder.code []).filter (fun p => Nat.beq p.1 29) = [(29, atPos (posC palisadelaw23_RingOrder.code []) 29)] := by kernel_rfl

theorem palisadelaw23_RingOrder.e29 : ∀ (U : Ifc) (I9 : Sl → Int → Ptr → (Option Ptr) → Int → Int → Int → Heap → Prop)  (Q : Bool → Heap → Prop) (h : Heap), palisadelaw23_RingOrder.j29 U I9  Q h = pts (palisadelaw23_RingOrder.E U Q []) 3000 true (atPos (posC palisadelaw23_RingOrder.code []) 29) (frAt [] []) h := by
  intros; kernel_rfl

theorem palisadelaw23_RingOrder.s29 {W0 : World} {U : Ifc} (hU : IfcOK sg W0 glsT U) (Q : Bool → Heap → Prop) (I9 : Sl → Int → Ptr → (Option Ptr) → Int → Int → Int → Heap → Prop) (h9 : CutOK sg W0 275 (entered 3) (Post sg W0 (palisadelaw23_RingOrder.ret Q)) (posC palisadelaw23_RingOrder.code []) 9 [1, 5, 6, 8, 10, 11, 12] (palisadelaw23_RingOrder.k9 I9)) : CutOK sg W0 275 (entered 3) (Post sg W0 (palisadelaw23_RingOrder.ret Q)) (posC palisadelaw23_RingOrder.code []) 29 [] (palisadelaw23_RingOrder.k29 (fun  h => palisadelaw23_RingOrder.j29 U I9  Q h)) := by
  refine cutOK_head (fun vs h hk => ?_)
  unfold palisadelaw23_RingOrder.k29 at hk
  split at hk
  · skip
    intro todo hm ρ a w s f hp
    exact piece (E := palisadelaw23_RingOrder.E U Q []) (vs := []) (envOK seatOK (palisadelaw23_RingOrder.callsOK hU) hU) (fnOK seatOK palisadelaw23_RingOrder.fun) trivial palisadelaw23_RingOrder.p29 (fuel := 3000) (by rw [← palisadelaw23_RingOrder.e29]; exact hk) hm s f hp
  · exact hk.elim

theorem palisadelaw23_RingOrder.p31 : (posC palisadelaw23_RingOrder.code []).filter (fun p => Nat.beq p.1 31) = [(31, atPos (posC palisadelaw23_RingOrder.code []) 31)] := by kernel_rfl

theorem palisadelaw23_RingOrder.e31 : ∀ (U : Ifc) (I9 : Sl → Int → Ptr → (Option Ptr) → Int → Int → Int → Heap → Prop)  (Q : Bool → Heap → Prop) (h : Heap), palisadelaw23_RingOrder.j31 U I9  Q h = pts (palisadelaw23_RingOrder.E U Q []) 3000 true (atPos (posC palisadelaw23_RingOrder.code []) 31) (frAt [] []) h := by
  intros; kernel_rfl

theorem palisadelaw23_RingOrder.s31 {W0 : World} {U : Ifc} (hU : IfcOK sg W0 glsT U) (Q : Bool → Heap → Prop) (I9 : Sl → Int → Ptr → (Option Ptr) → Int → Int → Int → Heap → Prop) (h9 : CutOK sg W0 275 (entered 3) (Post sg W0 (palisadelaw23_RingOrder.ret Q)) (posC palisadelaw23_RingOrder.code []) 9 [1, 5, 6, 8, 10, 11, 12] (palisadelaw23_RingOrder.k9 I9)) : CutOK sg W0 275 (entered 3) (Post sg W0 (palisadelaw23_RingOrder.ret Q)) (posC palisadelaw23_RingOrder.code []) 31 [] (palisadelaw23_RingOrder.k31 (fun  h => palisadelaw23_RingOrder.j31 U I9  Q h)) := by
  refine cutOK_head (fun vs h hk => ?_)
  unfold palisadelaw23_RingOrder.k31 at hk
  split at hk
  · skip
    intro todo hm ρ a w s f hp
    exact piece (E := palisadelaw23_RingOrder.E U Q []) (vs := []) (envOK seatOK (palisadelaw23_RingOrder.callsOK hU) hU) (fnOK seatOK palisadelaw23_RingOrder.fun) trivial palisadelaw23_RingOrder.p31 (fuel := 3000) (by rw [← palisadelaw23_RingOrder.e31]; exact hk) hm s f hp
  · exact hk.elim

theorem palisadelaw23_RingOrder.p36 : (posC palisadelaw23_RingOrder.code []).filter (fun p => Nat.beq p.1 36) = [(36, atPos (posC palisadelaw23_RingOrder.code []) 36)] := by kernel_rfl

theorem palisadelaw23_RingOrder.e36 : ∀ (U : Ifc) (I9 : Sl → Int → Ptr → (Option Ptr) → Int → Int → Int → Heap → Prop)  (Q : Bool → Heap → Prop) (h : Heap), palisadelaw23_RingOrder.j36 U I9  Q h = pts (palisadelaw23_RingOrder.E U Q []) 3000 true (atPos (posC palisadelaw23_RingOrder.code []) 36) (frAt [] []) h := by
  intros; kernel_rfl

theorem palisadelaw23_RingOrder.s36 {W0 : World} {U : Ifc} (hU : IfcOK sg W0 glsT U) (Q : Bool → Heap → Prop) (I9 : Sl → Int → Ptr → (Option Ptr) → Int → Int → Int → Heap → Prop) (h9 : CutOK sg W0 275 (entered 3) (Post sg W0 (palisadelaw23_RingOrder.ret Q)) (posC palisadelaw23_RingOrder.code []) 9 [1, 5, 6, 8, 10, 11, 12] (palisadelaw23_RingOrder.k9 I9)) : CutOK sg W0 275 (entered 3) (Post sg W0 (palisadelaw23_RingOrder.ret Q)) (posC palisadelaw23_RingOrder.code []) 36 [] (palisadelaw23_RingOrder.k36 (fun  h => palisadelaw23_RingOrder.j36 U I9  Q h)) := by
  refine cutOK_head (fun vs h hk => ?_)
  unfold palisadelaw23_RingOrder.k36 at hk
  split at hk
  · skip
    intro todo hm ρ a w s f hp
    exact piece (E := palisadelaw23_RingOrder.E U Q []) (vs := []) (envOK seatOK (palisadelaw23_RingOrder.callsOK hU) hU) (fnOK seatOK palisadelaw23_RingOrder.fun) trivial palisadelaw23_RingOrder.p36 (fuel := 3000) (by rw [← palisadelaw23_RingOrder.e36]; exact hk) hm s f hp
  · exact hk.elim

theorem palisadelaw23_RingOrder.p10 : (posC palisadelaw23_RingOrder.code []).filter (fun p => Nat.beq p.1 10) = [(10, atPos (posC palisadelaw23_RingOrder.code []) 10)] := by kernel_rfl

theorem palisadelaw23_RingOrder.e10 : ∀ (U : Ifc) (I9 : Sl → Int → Ptr → (Option Ptr) → Int → Int → Int → Heap → Prop) (a1 : Sl) (a2 : Int) (a3 : Ptr) (a4 : Option Ptr) (a5 : Int) (a6 : Int) (a7 : Int) (Q : Bool → Heap → Prop) (h : Heap), palisadelaw23_RingOrder.j10 U I9 a1 a2 a3 a4 a5 a6 a7 Q h = pts (palisadelaw23_RingOrder.E U Q [(9, ([1, 5, 6, 8, 10, 11, 12], palisadelaw23_RingOrder.k9 I9))]) 3000 true (atPos (posC palisadelaw23_RingOrder.code []) 10) (frAt [1, 5, 6, 8, 10, 11, 12] [.sl a1, .int .i64 a2, .ptr (some a3), .ptr a4, .int .u64 a5, .int .u64 a6, .int .i64 a7]) h := by
  intros; kernel_rfl

theorem palisadelaw23_RingOrder.s10 {W0 : World} {U : Ifc} (hU : IfcOK sg W0 glsT U) (Q : Bool → Heap → Prop) (I9 : Sl → Int → Ptr → (Option Ptr) → Int → Int → Int → Heap → Prop) (h9 : CutOK sg W0 275 (entered 3) (Post sg W0 (palisadelaw23_RingOrder.ret Q)) (posC palisadelaw23_RingOrder.code []) 9 [1, 5, 6, 8, 10, 11, 12] (palisadelaw23_RingOrder.k9 I9)) : CutOK sg W0 275 (entered 3) (Post sg W0 (palisadelaw23_RingOrder.ret Q)) (posC palisadelaw23_RingOrder.code []) 10 [1, 5, 6, 8, 10, 11, 12] (palisadelaw23_RingOrder.k10 (fun a1 a2 a3 a4 a5 a6 a7 h => palisadelaw23_RingOrder.j10 U I9 a1 a2 a3 a4 a5 a6 a7 Q h)) := by
  refine cutOK_head (fun vs h hk => ?_)
  unfold palisadelaw23_RingOrder.k10 at hk
  split at hk
  · rename_i a1 a2 a3 a4 a5 a6 a7
    intro todo hm ρ a w s f hp
    exact piece (E := palisadelaw23_RingOrder.E U Q [(9, ([1, 5, 6, 8, 10, 11, 12], palisadelaw23_RingOrder.k9 I9))]) (vs := [.sl a1, .int .i64 a2, .ptr (some a3), .ptr a4, .int .u64 a5, .int .u64 a6, .int .i64 a7]) (envOK seatOK (palisadelaw23_RingOrder.callsOK hU) hU) (fnOK seatOK palisadelaw23_RingOrder.fun) ⟨h9, trivial⟩ palisadelaw23_RingOrder.p10 (fuel := 3000) (by rw [← palisadelaw23_RingOrder.e10]; exact hk) hm s f hp
  · exact hk.elim

theorem palisadelaw23_RingOrder.p35 : (posC palisadelaw23_RingOrder.code []).filter (fun p => Nat.beq p.1 35) = [(35, atPos (posC palisadelaw23_RingOrder.code []) 35)] := by kernel_rfl

theorem palisadelaw23_RingOrder.e35 : ∀ (U : Ifc) (I9 : Sl → Int → Ptr → (Option Ptr) → Int → Int → Int → Heap → Prop) (a1 : Sl) (a2 : Int) (a3 : Ptr) (a4 : Option Ptr) (a5 : Int) (a6 : Int) (a7 : Int) (a8 : Int) (a9 : Int) (a10 : Int) (a11 : Int) (a12 : Int) (Q : Bool → Heap → Prop) (h : Heap), palisadelaw23_RingOrder.j35 U I9 a1 a2 a3 a4 a5 a6 a7 a8 a9 a10 a11 a12 Q h = pts (palisadelaw23_RingOrder.E U Q [(36, ([], palisadelaw23_RingOrder.k36 (fun  h => palisadelaw23_RingOrder.j36 U I9  Q h))), (10, ([1, 5, 6, 8, 10, 11, 12], palisadelaw23_RingOrder.k10 (fun a1 a2 a3 a4 a5 a6 a7 h => palisadelaw23_RingOrder.j10 U I9 a1 a2 a3 a4 a5 a6 a7 Q h)))]) 3000 true (atPos (posC palisadelaw23_RingOrder.code []) 35) (frAt [1, 5, 6, 8, 10, 11, 12, 13, 14, 25, 27, 29] [.sl a1, .int .i64 a2, .ptr (some a3), .ptr a4, .int .u64 a5, .int .u64 a6, .int .i64 a7, .int .i64 a8, .int .i64 a9, .int .u64 a10, .int .u64 a11, .int .u64 a12]) h := by
  intros; kernel_rfl

theorem palisadelaw23_RingOrder.s35 {W0 : World} {U : Ifc} (hU : IfcOK sg W0 glsT U) (Q : Bool → Heap → Prop) (I9 : Sl → Int → Ptr → (Option Ptr) → Int → Int → Int → Heap → Prop) (h9 : CutOK sg W0 275 (entered 3) (Post sg W0 (palisadelaw23_RingOrder.ret Q)) (posC palisadelaw23_RingOrder.code []) 9 [1, 5, 6, 8, 10, 11, 12] (palisadelaw23_RingOrder.k9 I9)) : CutOK sg W0 275 (entered 3) (Post sg W0 (palisadelaw23_RingOrder.ret Q)) (posC palisadelaw23_RingOrder.code []) 35 [1, 5, 6, 8, 10, 11, 12, 13, 14, 25, 27, 29] (palisadelaw23_RingOrder.k35 (fun a1 a2 a3 a4 a5 a6 a7 a8 a9 a10 a11 a12 h => palisadelaw23_RingOrder.j35 U I9 a1 a2 a3 a4 a5 a6 a7 a8 a9 a10 a11 a12 Q h)) := by
  refine cutOK_head (fun vs h hk => ?_)
  unfold palisadelaw23_RingOrder.k35 at hk
  split at hk
  · rename_i a1 a2 a3 a4 a5 a6 a7 a8 a9 a10 a11 a12
    intro todo hm ρ a w s f hp
    exact piece (E := palisadelaw23_RingOrder.E U Q [(36, ([], palisadelaw23_RingOrder.k36 (fun  h => palisadelaw23_RingOrder.j36 U I9  Q h))), (10, ([1, 5, 6, 8, 10, 11, 12], palisadelaw23_RingOrder.k10 (fun a1 a2 a3 a4 a5 a6 a7 h => palisadelaw23_RingOrder.j10 U I9 a1 a2 a3 a4 a5 a6 a7 Q h)))]) (vs := [.sl a1, .int .i64 a2, .ptr (some a3), .ptr a4, .int .u64 a5, .int .u64 a6, .int .i64 a7, .int .i64 a8, .int .i64 a9, .int .u64 a10, .int .u64 a11, .int .u64 a12]) (envOK seatOK (palisadelaw23_RingOrder.callsOK hU) hU) (fnOK seatOK palisadelaw23_RingOrder.fun) ⟨(palisadelaw23_RingOrder.s36 hU Q I9 h9), (palisadelaw23_RingOrder.s10 hU Q I9 h9), trivial⟩ palisadelaw23_RingOrder.p35 (fuel := 3000) (by rw [← palisadelaw23_RingOrder.e35]; exact hk) hm s f hp
  · exact hk.elim

theorem palisadelaw23_RingOrder.p32 : (posC palisadelaw23_RingOrder.code []).filter (fun p => Nat.beq p.1 32) = [(32, atPos (posC palisadelaw23_RingOrder.code []) 32)] := by kernel_rfl

theorem palisadelaw23_RingOrder.e32 : ∀ (U : Ifc) (I9 : Sl → Int → Ptr → (Option Ptr) → Int → Int → Int → Heap → Prop) (a1 : Sl) (a2 : Int) (a3 : Ptr) (a4 : Option Ptr) (a5 : Int) (a6 : Int) (a7 : Int) (a8 : Int) (a9 : Int) (Q : Bool → Heap → Prop) (h : Heap), palisadelaw23_RingOrder.j32 U I9 a1 a2 a3 a4 a5 a6 a7 a8 a9 Q h = pts (palisadelaw23_RingOrder.E U Q [(35, ([1, 5, 6, 8, 10, 11, 12, 13, 14, 25, 27, 29], palisadelaw23_RingOrder.k35 (fun a1 a2 a3 a4 a5 a6 a7 a8 a9 a10 a11 a12 h => palisadelaw23_RingOrder.j35 U I9 a1 a2 a3 a4 a5 a6 a7 a8 a9 a10 a11 a12 Q h)))]) 3000 true (atPos (posC palisadelaw23_RingOrder.code []) 32) (frAt [1, 5, 6, 8, 10, 11, 12, 13, 14] [.sl a1, .int .i64 a2, .ptr (some a3), .ptr a4, .int .u64 a5, .int .u64 a6, .int .i64 a7, .int .i64 a8, .int .i64 a9]) h := by
  intros; kernel_rfl

theorem palisadelaw23_RingOrder.s32 {W0 : World} {U : Ifc} (hU : IfcOK sg W0 glsT U) (Q : Bool → Heap → Prop) (I9 : Sl → Int → Ptr → (Option Ptr) → Int → Int → Int → Heap → Prop) (h9 : CutOK sg W0 275 (entered 3) (Post sg W0 (palisadelaw23_RingOrder.ret Q)) (posC palisadelaw23_RingOrder.code []) 9 [1, 5, 6, 8, 10, 11, 12] (palisadelaw23_RingOrder.k9 I9)) : CutOK sg W0 275 (entered 3) (Post sg W0 (palisadelaw23_RingOrder.ret Q)) (posC palisadelaw23_RingOrder.code []) 32 [1, 5, 6, 8, 10, 11, 12, 13, 14] (palisadelaw23_RingOrder.k32 (fun a1 a2 a3 a4 a5 a6 a7 a8 a9 h => palisadelaw23_RingOrder.j32 U I9 a1 a2 a3 a4 a5 a6 a7 a8 a9 Q h)) := by
  refine cutOK_head (fun vs h hk => ?_)
  unfold palisadelaw23_RingOrder.k32 at hk
  split at hk
  · rename_i a1 a2 a3 a4 a5 a6 a7 a8 a9
    intro todo hm ρ a w s f hp
    exact piece (E := palisadelaw23_RingOrder.E U Q [(35, ([1, 5, 6, 8, 10, 11, 12, 13, 14, 25, 27, 29], palisadelaw23_RingOrder.k35 (fun a1 a2 a3 a4 a5 a6 a7 a8 a9 a10 a11 a12 h => palisadelaw23_RingOrder.j35 U I9 a1 a2 a3 a4 a5 a6 a7 a8 a9 a10 a11 a12 Q h)))]) (vs := [.sl a1, .int .i64 a2, .ptr (some a3), .ptr a4, .int .u64 a5, .int .u64 a6, .int .i64 a7, .int .i64 a8, .int .i64 a9]) (envOK seatOK (palisadelaw23_RingOrder.callsOK hU) hU) (fnOK seatOK palisadelaw23_RingOrder.fun) ⟨(palisadelaw23_RingOrder.s35 hU Q I9 h9), trivial⟩ palisadelaw23_RingOrder.p32 (fuel := 3000) (by rw [← palisadelaw23_RingOrder.e32]; exact hk) hm s f hp
  · exact hk.elim

theorem palisadelaw23_RingOrder.p27 : (posC palisadelaw23_RingOrder.code []).filter (fun p => Nat.beq p.1 27) = [(27, atPos (posC palisadelaw23_RingOrder.code []) 27)] := by kernel_rfl

theorem palisadelaw23_RingOrder.e27 : ∀ (U : Ifc) (I9 : Sl → Int → Ptr → (Option Ptr) → Int → Int → Int → Heap → Prop) (a1 : Sl) (a2 : Int) (a3 : Ptr) (a4 : Option Ptr) (a5 : Int) (a6 : Int) (a7 : Int) (a8 : Int) (a9 : Int) (Q : Bool → Heap → Prop) (h : Heap), palisadelaw23_RingOrder.j27 U I9 a1 a2 a3 a4 a5 a6 a7 a8 a9 Q h = pts (palisadelaw23_RingOrder.E U Q [(29, ([], palisadelaw23_RingOrder.k29 (fun  h => palisadelaw23_RingOrder.j29 U I9  Q h))), (31, ([], palisadelaw23_RingOrder.k31 (fun  h => palisadelaw23_RingOrder.j31 U I9  Q h))), (32, ([1, 5, 6, 8, 10, 11, 12, 13, 14], palisadelaw23_RingOrder.k32 (fun a1 a2 a3 a4 a5 a6 a7 a8 a9 h => palisadelaw23_RingOrder.j32 U I9 a1 a2 a3 a4 a5 a6 a7 a8 a9 Q h)))]) 3000 true (atPos (posC palisadelaw23_RingOrder.code []) 27) (frAt [1, 5, 6, 8, 10, 11, 12, 13, 14] [.sl a1, .int .i64 a2, .ptr (some a3), .ptr a4, .int .u64 a5, .int .u64 a6, .int .i64 a7, .int .i64 a8, .int .i64 a9]) h := by
  intros; kernel_rfl

theorem palisadelaw23_RingOrder.s27 {W0 : World} {U : Ifc} (hU : IfcOK sg W0 glsT U) (Q : Bool → Heap → Prop) (I9 : Sl → Int → Ptr → (Option Ptr) → Int → Int → Int → Heap → Prop) (h9 : CutOK sg W0 275 (entered 3) (Post sg W0 (palisadelaw23_RingOrder.ret Q)) (posC palisadelaw23_RingOrder.code []) 9 [1, 5, 6, 8, 10, 11, 12] (palisadelaw23_RingOrder.k9 I9)) : CutOK sg W0 275 (entered 3) (Post sg W0 (palisadelaw23_RingOrder.ret Q)) (posC palisadelaw23_RingOrder.code []) 27 [1, 5, 6, 8, 10, 11, 12, 13, 14] (palisadelaw23_RingOrder.k27 (fun a1 a2 a3 a4 a5 a6 a7 a8 a9 h => palisadelaw23_RingOrder.j27 U I9 a1 a2 a3 a4 a5 a6 a7 a8 a9 Q h)) := by
  refine cutOK_head (fun vs h hk => ?_)
  unfold palisadelaw23_RingOrder.k27 at hk
  split at hk
  · rename_i a1 a2 a3 a4 a5 a6 a7 a8 a9
    intro todo hm ρ a w s f hp
    exact piece (E := palisadelaw23_RingOrder.E U Q [(29, ([], palisadelaw23_RingOrder.k29 (fun  h => palisadelaw23_RingOrder.j29 U I9  Q h))), (31, ([], palisadelaw23_RingOrder.k31 (fun  h => palisadelaw23_RingOrder.j31 U I9  Q h))), (32, ([1, 5, 6, 8, 10, 11, 12, 13, 14], palisadelaw23_RingOrder.k32 (fun a1 a2 a3 a4 a5 a6 a7 a8 a9 h => palisadelaw23_RingOrder.j32 U I9 a1 a2 a3 a4 a5 a6 a7 a8 a9 Q h)))]) (vs := [.sl a1, .int .i64 a2, .ptr (some a3), .ptr a4, .int .u64 a5, .int .u64 a6, .int .i64 a7, .int .i64 a8, .int .i64 a9]) (envOK seatOK (palisadelaw23_RingOrder.callsOK hU) hU) (fnOK seatOK palisadelaw23_RingOrder.fun) ⟨(palisadelaw23_RingOrder.s29 hU Q I9 h9), (palisadelaw23_RingOrder.s31 hU Q I9 h9), (palisadelaw23_RingOrder.s32 hU Q I9 h9), trivial⟩ palisadelaw23_RingOrder.p27 (fuel := 3000) (by rw [← palisadelaw23_RingOrder.e27]; exact hk) hm s f hp
  · exact hk.elim

theorem palisadelaw23_RingOrder.p25 : (posC palisadelaw23_RingOrder.code []).filter (fun p => Nat.beq p.1 25) = [(25, atPos (posC palisadelaw23_RingOrder.code []) 25)] := by kernel_rfl

theorem palisadelaw23_RingOrder.e25 : ∀ (U : Ifc) (I9 : Sl → Int → Ptr → (Option Ptr) → Int → Int → Int → Heap → Prop) (a1 : Sl) (a2 : Int) (a3 : Ptr) (a4 : Option Ptr) (a5 : Int) (a6 : Int) (a7 : Int) (a8 : Int) (a9 : Int) (a10 : Bool) (a11 : Ptr) (a12 : Bool) (a13 : Int) (Q : Bool → Heap → Prop) (h : Heap), palisadelaw23_RingOrder.j25 U I9 a1 a2 a3 a4 a5 a6 a7 a8 a9 a10 a11 a12 a13 Q h = pts (palisadelaw23_RingOrder.E U Q [(26, ([], palisadelaw23_RingOrder.k26 (fun  h => palisadelaw23_RingOrder.j26 U I9  Q h))), (27, ([1, 5, 6, 8, 10, 11, 12, 13, 14], palisadelaw23_RingOrder.k27 (fun a1 a2 a3 a4 a5 a6 a7 a8 a9 h => palisadelaw23_RingOrder.j27 U I9 a1 a2 a3 a4 a5 a6 a7 a8 a9 Q h)))]) 3000 true (atPos (posC palisadelaw23_RingOrder.code []) 25) (frAt [1, 5, 6, 8, 10, 11, 12, 13, 14, 15, 19, 20, 21] [.sl a1, .int .i64 a2, .ptr (some a3), .ptr a4, .int .u64 a5, .int .u64 a6, .int .i64 a7, .int .i64 a8, .int .i64 a9, .bool a10, .ptr (some a11), .bool a12, .int .i64 a13]) h := by
  intros; kernel_rfl

theorem palisadelaw23_RingOrder.s25 {W0 : World} {U : Ifc} (hU : IfcOK sg W0 glsT U) (Q : Bool → Heap → Prop) (I9 : Sl → Int → Ptr → (Option Ptr) → Int → Int → Int → Heap → Prop) (h9 : CutOK sg W0 275 (entered 3) (Post sg W0 (palisadelaw23_RingOrder.ret Q)) (posC palisadelaw23_RingOrder.code []) 9 [1, 5, 6, 8, 10, 11, 12] (palisadelaw23_RingOrder.k9 I9)) : CutOK sg W0 275 (entered 3) (Post sg W0 (palisadelaw23_RingOrder.ret Q)) (posC palisadelaw23_RingOrder.code []) 25 [1, 5, 6, 8, 10, 11, 12, 13, 14, 15, 19, 20, 21] (palisadelaw23_RingOrder.k25 (fun a1 a2 a3 a4 a5 a6 a7 a8 a9 a10 a11 a12 a13 h => palisadelaw23_RingOrder.j25 U I9 a1 a2 a3 a4 a5 a6 a7 a8 a9 a10 a11 a12 a13 Q h)) := by
  refine cutOK_head (fun vs h hk => ?_)
  unfold palisadelaw23_RingOrder.k25 at hk
  split at hk
  · rename_i a1 a2 a3 a4 a5 a6 a7 a8 a9 a10 a11 a12 a13
    intro todo hm ρ a w s f hp
    exact piece (E := palisadelaw23_RingOrder.E U Q [(26, ([], palisadelaw23_RingOrder.k26 (fun  h => palisadelaw23_RingOrder.j26 U I9  Q h))), (27, ([1, 5, 6, 8, 10, 11, 12, 13, 14], palisadelaw23_RingOrder.k27 (fun a1 a2 a3 a4 a5 a6 a7 a8 a9 h => palisadelaw23_RingOrder.j27 U I9 a1 a2 a3 a4 a5 a6 a7 a8 a9 Q h)))]) (vs := [.sl a1, .int .i64 a2, .ptr (some a3), .ptr a4, .int .u64 a5, .int .u64 a6, .int .i64 a7, .int .i64 a8, .int .i64 a9, .bool a10, .ptr (some a11), .bool a12, .int .i64 a13]) (envOK seatOK (palisadelaw23_RingOrder.callsOK hU) hU) (fnOK seatOK palisadelaw23_RingOrder.fun) ⟨(palisadelaw23_RingOrder.s26 hU Q I9 h9), (palisadelaw23_RingOrder.s27 hU Q I9 h9), trivial⟩ palisadelaw23_RingOrder.p25 (fuel := 3000) (by rw [← palisadelaw23_RingOrder.e25]; exact hk) hm s f hp
  · exact hk.elim

theorem palisadelaw23_RingOrder.p22 : (posC palisadelaw23_RingOrder.code []).filter (fun p => Nat.beq p.1 22) = [(22, atPos (posC palisadelaw23_RingOrder.code []) 22)] := by kernel_rfl

theorem palisadelaw23_RingOrder.e22 : ∀ (U : Ifc) (I9 : Sl → Int → Ptr → (Option Ptr) → Int → Int → Int → Heap → Prop) (a1 : Sl) (a2 : Int) (a3 : Ptr) (a4 : Option Ptr) (a5 : Int) (a6 : Int) (a7 : Int) (a8 : Int) (a9 : Int) (a10 : Bool) (Q : Bool → Heap → Prop) (h : Heap), palisadelaw23_RingOrder.j22 U I9 a1 a2 a3 a4 a5 a6 a7 a8 a9 a10 Q h = pts (palisadelaw23_RingOrder.E U Q [(25, ([1, 5, 6, 8, 10, 11, 12, 13, 14, 15, 19, 20, 21], palisadelaw23_RingOrder.k25 (fun a1 a2 a3 a4 a5 a6 a7 a8 a9 a10 a11 a12 a13 h => palisadelaw23_RingOrder.j25 U I9 a1 a2 a3 a4 a5 a6 a7 a8 a9 a10 a11 a12 a13 Q h)))]) 3000 true (atPos (posC palisadelaw23_RingOrder.code []) 22) (frAt [1, 5, 6, 8, 10, 11, 12, 13, 14, 15] [.sl a1, .int .i64 a2, .ptr (some a3), .ptr a4, .int .u64 a5, .int .u64 a6, .int .i64 a7, .int .i64 a8, .int .i64 a9, .bool a10]) h := by
  intros; kernel_rfl

theorem palisadelaw23_RingOrder.s22 {W0 : World} {U : Ifc} (hU : IfcOK sg W0 glsT U) (Q : Bool → Heap → Prop) (I9 : Sl → Int → Ptr → (Option Ptr) → Int → Int → Int → Heap → Prop) (h9 : CutOK sg W0 275 (entered 3) (Post sg W0 (palisadelaw23_RingOrder.ret Q)) (posC palisadelaw23_RingOrder.code []) 9 [1, 5, 6, 8, 10, 11, 12] (palisadelaw23_RingOrder.k9 I9)) : CutOK sg W0 275 (entered 3) (Post sg W0 (palisadelaw23_RingOrder.ret Q)) (posC palisadelaw23_RingOrder.code []) 22 [1, 5, 6, 8, 10, 11, 12, 13, 14, 15] (palisadelaw23_RingOrder.k22 (fun a1 a2 a3 a4 a5 a6 a7 a8 a9 a10 h => palisadelaw23_RingOrder.j22 U I9 a1 a2 a3 a4 a5 a6 a7 a8 a9 a10 Q h)) := by
  refine cutOK_head (fun vs h hk => ?_)
  unfold palisadelaw23_RingOrder.k22 at hk
  split at hk
  · rename_i a1 a2 a3 a4 a5 a6 a7 a8 a9 a10
    intro todo hm ρ a w s f hp
    exact piece (E := palisadelaw23_RingOrder.E U Q [(25, ([1, 5, 6, 8, 10, 11, 12, 13, 14, 15, 19, 20, 21], palisadelaw23_RingOrder.k25 (fun a1 a2 a3 a4 a5 a6 a7 a8 a9 a10 a11 a12 a13 h => palisadelaw23_RingOrder.j25 U I9 a1 a2 a3 a4 a5 a6 a7 a8 a9 a10 a11 a12 a13 Q h)))]) (vs := [.sl a1, .int .i64 a2, .ptr (some a3), .ptr a4, .int .u64 a5, .int .u64 a6, .int .i64 a7, .int .i64 a8, .int .i64 a9, .bool a10]) (envOK seatOK (palisadelaw23_RingOrder.callsOK hU) hU) (fnOK seatOK palisadelaw23_RingOrder.fun) ⟨(palisadelaw23_RingOrder.s25 hU Q I9 h9), trivial⟩ palisadelaw23_RingOrder.p22 (fuel := 3000) (by rw [← palisadelaw23_RingOrder.e22]; exact hk) hm s f hp
  · exact hk.elim

theorem palisadelaw23_RingOrder.p17 : (posC palisadelaw23_RingOrder.code []).filter (fun p => Nat.beq p.1 17) = [(17, atPos (posC palisadelaw23_RingOrder.code []) 17)] := by kernel_rfl

theorem palisadelaw23_RingOrder.e17 : ∀ (U : Ifc) (I9 : Sl → Int → Ptr → (Option Ptr) → Int → Int → Int → Heap → Prop) (a1 : Sl) (a2 : Int) (a3 : Ptr) (a4 : Option Ptr) (a5 : Int) (a6 : Int) (a7 : Int) (a8 : Int) (a9 : Int) (a10 : Bool) (a11 : Int) (Q : Bool → Heap → Prop) (h : Heap), palisadelaw23_RingOrder.j17 U I9 a1 a2 a3 a4 a5 a6 a7 a8 a9 a10 a11 Q h = pts (palisadelaw23_RingOrder.E U Q [(22, ([1, 5, 6, 8, 10, 11, 12, 13, 14, 15], palisadelaw23_RingOrder.k22 (fun a1 a2 a3 a4 a5 a6 a7 a8 a9 a10 h => palisadelaw23_RingOrder.j22 U I9 a1 a2 a3 a4 a5 a6 a7 a8 a9 a10 Q h)))]) 3000 true (atPos (posC palisadelaw23_RingOrder.code []) 17) (frAt [1, 5, 6, 8, 10, 11, 12, 13, 14, 15, 16] [.sl a1, .int .i64 a2, .ptr (some a3), .ptr a4, .int .u64 a5, .int .u64 a6, .int .i64 a7, .int .i64 a8, .int .i64 a9, .bool a10, .int .u64 a11]) h := by
  intros; kernel_rfl

theorem palisadelaw23_RingOrder.s17 {W0 : World} {U : Ifc} (hU : IfcOK sg W0 glsT U) (Q : Bool → Heap → Prop) (I9 : Sl → Int → Ptr → (Option Ptr) → Int → Int → Int → Heap → Prop) (h9 : CutOK sg W0 275 (entered 3) (Post sg W0 (palisadelaw23_RingOrder.ret Q)) (posC palisadelaw23_RingOrder.code []) 9 [1, 5, 6, 8, 10, 11, 12] (palisadelaw23_RingOrder.k9 I9)) : CutOK sg W0 275 (entered 3) (Post sg W0 (palisadelaw23_RingOrder.ret Q)) (posC palisadelaw23_RingOrder.code []) 17 [1, 5, 6, 8, 10, 11, 12, 13, 14, 15, 16] (palisadelaw23_RingOrder.k17 (fun a1 a2 a3 a4 a5 a6 a7 a8 a9 a10 a11 h => palisadelaw23_RingOrder.j17 U I9 a1 a2 a3 a4 a5 a6 a7 a8 a9 a10 a11 Q h)) := by
  refine cutOK_head (fun vs h hk => ?_)
  unfold palisadelaw23_RingOrder.k17 at hk
  split at hk
  · rename_i a1 a2 a3 a4 a5 a6 a7 a8 a9 a10 a11
    intro todo hm ρ a w s f hp
    exact piece (E := palisadelaw23_RingOrder.E U Q [(22, ([1, 5, 6, 8, 10, 11, 12, 13, 14, 15], palisadelaw23_RingOrder.k22 (fun a1 a2 a3 a4 a5 a6 a7 a8 a9 a10 h => palisadelaw23_RingOrder.j22 U I9 a1 a2 a3 a4 a5 a6 a7 a8 a9 a10 Q h)))]) (vs := [.sl a1, .int .i64 a2, .ptr (some a3), .ptr a4, .int .u64 a5, .int .u64 a6, .int .i64 a7, .int .i64 a8, .int .i64 a9, .bool a10, .int .u64 a11]) (envOK seatOK (palisadelaw23_RingOrder.callsOK hU) hU) (fnOK seatOK palisadelaw23_RingOrder.fun) ⟨(palisadelaw23_RingOrder.s22 hU Q I9 h9), trivial⟩ palisadelaw23_RingOrder.p17 (fuel := 3000) (by rw [← palisadelaw23_RingOrder.e17]; exact hk) hm s f hp
  · exact hk.elim

theorem palisadelaw23_RingOrder.p14 : (posC palisadelaw23_RingOrder.code []).filter (fun p => Nat.beq p.1 14) = [(14, atPos (posC palisadelaw23_RingOrder.code []) 14)] := by kernel_rfl

theorem palisadelaw23_RingOrder.e14 : ∀ (U : Ifc) (I9 : Sl → Int → Ptr → (Option Ptr) → Int → Int → Int → Heap → Prop) (a1 : Sl) (a2 : Int) (a3 : Ptr) (a4 : Option Ptr) (a5 : Int) (a6 : Int) (a7 : Int) (a8 : Int) (a9 : Int) (a10 : Bool) (Q : Bool → Heap → Prop) (h : Heap), palisadelaw23_RingOrder.j14 U I9 a1 a2 a3 a4 a5 a6 a7 a8 a9 a10 Q h = pts (palisadelaw23_RingOrder.E U Q [(17, ([1, 5, 6, 8, 10, 11, 12, 13, 14, 15, 16], palisadelaw23_RingOrder.k17 (fun a1 a2 a3 a4 a5 a6 a7 a8 a9 a10 a11 h => palisadelaw23_RingOrder.j17 U I9 a1 a2 a3 a4 a5 a6 a7 a8 a9 a10 a11 Q h)))]) 3000 true (atPos (posC palisadelaw23_RingOrder.code []) 14) (frAt [1, 5, 6, 8, 10, 11, 12, 13, 14, 15] [.sl a1, .int .i64 a2, .ptr (some a3), .ptr a4, .int .u64 a5, .int .u64 a6, .int .i64 a7, .int .i64 a8, .int .i64 a9, .bool a10]) h := by
  intros; kernel_rfl

theorem palisadelaw23_RingOrder.s14 {W0 : World} {U : Ifc} (hU : IfcOK sg W0 glsT U) (Q : Bool → Heap → Prop) (I9 : Sl → Int → Ptr → (Option Ptr) → Int → Int → Int → Heap → Prop) (h9 : CutOK sg W0 275 (entered 3) (Post sg W0 (palisadelaw23_RingOrder.ret Q)) (posC palisadelaw23_RingOrder.code []) 9 [1, 5, 6, 8, 10, 11, 12] (palisadelaw23_RingOrder.k9 I9)) : CutOK sg W0 275 (entered 3) (Post sg W0 (palisadelaw23_RingOrder.ret Q)) (posC palisadelaw23_RingOrder.code []) 14 [1, 5, 6, 8, 10, 11, 12, 13, 14, 15] (palisadelaw23_RingOrder.k14 (fun a1 a2 a3 a4 a5 a6 a7 a8 a9 a10 h => palisadelaw23_RingOrder.j14 U I9 a1 a2 a3 a4 a5 a6 a7 a8 a9 a10 Q h)) := by
  refine cutOK_head (fun vs h hk => ?_)
  unfold palisadelaw23_RingOrder.k14 at hk
  split at hk
  · rename_i a1 a2 a3 a4 a5 a6 a7 a8 a9 a10
    intro todo hm ρ a w s f hp
    exact piece (E := palisadelaw23_RingOrder.E U Q [(17, ([1, 5, 6, 8, 10, 11, 12, 13, 14, 15, 16], palisadelaw23_RingOrder.k17 (fun a1 a2 a3 a4 a5 a6 a7 a8 a9 a10 a11 h => palisadelaw23_RingOrder.j17 U I9 a1 a2 a3 a4 a5 a6 a7 a8 a9 a10 a11 Q h)))]) (vs := [.sl a1, .int .i64 a2, .ptr (some a3), .ptr a4, .int .u64 a5, .int .u64 a6, .int .i64 a7, .int .i64 a8, .int .i64 a9, .bool a10]) (envOK seatOK (palisadelaw23_RingOrder.callsOK hU) hU) (fnOK seatOK palisadelaw23_RingOrder.fun) ⟨(palisadelaw23_RingOrder.s17 hU Q I9 h9), trivial⟩ palisadelaw23_RingOrder.p14 (fuel := 3000) (by rw [← palisadelaw23_RingOrder.e14]; exact hk) hm s f hp
  · exact hk.elim

theorem palisadelaw23_RingOrder.p9 : (posC palisadelaw23_RingOrder.code []).filter (fun p => Nat.beq p.1 9) = [(9, atPos (posC palisadelaw23_RingOrder.code []) 9)] := by kernel_rfl

theorem palisadelaw23_RingOrder.e9 : ∀ (U : Ifc)  (I9 : Sl → Int → Ptr → (Option Ptr) → Int → Int → Int → Heap → Prop) (a1 : Sl) (a2 : Int) (a3 : Ptr) (a4 : Option Ptr) (a5 : Int) (a6 : Int) (a7 : Int) (Q : Bool → Heap → Prop) (h : Heap), palisadelaw23_RingOrder.b9 U  I9 a1 a2 a3 a4 a5 a6 a7 Q h = pts (palisadelaw23_RingOrder.E U Q [(14, ([1, 5, 6, 8, 10, 11, 12, 13, 14, 15], palisadelaw23_RingOrder.k14 (fun a1 a2 a3 a4 a5 a6 a7 a8 a9 a10 h => palisadelaw23_RingOrder.j14 U I9 a1 a2 a3 a4 a5 a6 a7 a8 a9 a10 Q h)))]) 3000 true (atPos (posC palisadelaw23_RingOrder.code []) 9) (frAt [1, 5, 6, 8, 10, 11, 12] [.sl a1, .int .i64 a2, .ptr (some a3), .ptr a4, .int .u64 a5, .int .u64 a6, .int .i64 a7]) h := by
  intros; kernel_rfl

theorem palisadelaw23_RingOrder.s9 {W0 : World} {U : Ifc} (hU : IfcOK sg W0 glsT U) (Q : Bool → Heap → Prop)   : CutOK sg W0 275 (entered 3) (Post sg W0 (palisadelaw23_RingOrder.ret Q)) (posC palisadelaw23_RingOrder.code []) 9 [1, 5, 6, 8, 10, 11, 12] (palisadelaw23_RingOrder.k9 (fun a1 a2 a3 a4 a5 a6 a7 h => palisadelaw23_RingOrder.j9 U  a1 a2 a3 a4 a5 a6 a7 Q h)) := by
  refine cutOK_head (fun vs h hk => ?_)
  unfold palisadelaw23_RingOrder.k9 at hk
  split at hk
  · rename_i a1 a2 a3 a4 a5 a6 a7
    refine hk (fun a1 a2 a3 a4 a5 a6 a7 h => Head sg W0 275 (entered 3) (Post sg W0 (palisadelaw23_RingOrder.ret Q)) (posC palisadelaw23_RingOrder.code []) 9 [1, 5, 6, 8, 10, 11, 12] [.sl a1, .int .i64 a2, .ptr (some a3), .ptr a4, .int .u64 a5, .int .u64 a6, .int .i64 a7] h) ?_
    intro a1 a2 a3 a4 a5 a6 a7 h hb todo hm ρ a w s f hp
    have hself : CutOK sg W0 275 (entered 3) (Post sg W0 (palisadelaw23_RingOrder.ret Q)) (posC palisadelaw23_RingOrder.code []) 9 [1, 5, 6, 8, 10, 11, 12] (palisadelaw23_RingOrder.k9 (fun a1 a2 a3 a4 a5 a6 a7 h => Head sg W0 275 (entered 3) (Post sg W0 (palisadelaw23_RingOrder.ret Q)) (posC palisadelaw23_RingOrder.code []) 9 [1, 5, 6, 8, 10, 11, 12] [.sl a1, .int .i64 a2, .ptr (some a3), .ptr a4, .int .u64 a5, .int .u64 a6, .int .i64 a7] h)) := cutOK_head (fun vs h hk => by unfold palisadelaw23_RingOrder.k9 at hk; split at hk; exact hk; exact hk.elim)
    exact piece (E := palisadelaw23_RingOrder.E U Q [(14, ([1, 5, 6, 8, 10, 11, 12, 13, 14, 15], palisadelaw23_RingOrder.k14 (fun a1 a2 a3 a4 a5 a6 a7 a8 a9 a10 h => palisadelaw23_RingOrder.j14 U (fun a1 a2 a3 a4 a5 a6 a7 h => Head sg W0 275 (entered 3) (Post sg W0 (palisadelaw23_RingOrder.ret Q)) (posC palisadelaw23_RingOrder.code []) 9 [1, 5, 6, 8, 10, 11, 12] [.sl a1, .int .i64 a2, .ptr (some a3), .ptr a4, .int .u64 a5, .int .u64 a6, .int .i64 a7] h) a1 a2 a3 a4 a5 a6 a7 a8 a9 a10 Q h)))]) (vs := [.sl a1, .int .i64 a2, .ptr (some a3), .ptr a4, .int .u64 a5, .int .u64 a6, .int .i64 a7]) (envOK seatOK (palisadelaw23_RingOrder.callsOK hU) hU) (fnOK seatOK palisadelaw23_RingOrder.fun) ⟨(palisadelaw23_RingOrder.s14 hU Q (fun a1 a2 a3 a4 a5 a6 a7 h => Head sg W0 275 (entered 3) (Post sg W0 (palisadelaw23_RingOrder.ret Q)) (posC palisadelaw23_RingOrder.code []) 9 [1, 5, 6, 8, 10, 11, 12] [.sl a1, .int .i64 a2, .ptr (some a3), .ptr a4, .int .u64 a5, .int .u64 a6, .int .i64 a7] h) hself), trivial⟩ palisadelaw23_RingOrder.p9 (fuel := 3000) (by rw [← palisadelaw23_RingOrder.e9]; exact hb) hm s f hp
  · exact hk.elim

theorem palisadelaw23_RingOrder.p6 : (posC palisadelaw23_RingOrder.code []).filter (fun p => Nat.beq p.1 6) = [(6, atPos (posC palisadelaw23_RingOrder.code []) 6)] := by kernel_rfl

theorem palisadelaw23_RingOrder.e6 : ∀ (U : Ifc)  (a1 : Sl) (a2 : Int) (a3 : Ptr) (a4 : Option Ptr) (Q : Bool → Heap → Prop) (h : Heap), palisadelaw23_RingOrder.j6 U  a1 a2 a3 a4 Q h = pts (palisadelaw23_RingOrder.E U Q [(9, ([1, 5, 6, 8, 10, 11, 12], palisadelaw23_RingOrder.k9 (fun a1 a2 a3 a4 a5 a6 a7 h => palisadelaw23_RingOrder.j9 U  a1 a2 a3 a4 a5 a6 a7 Q h)))]) 3000 true (atPos (posC palisadelaw23_RingOrder.code []) 6) (frAt [1, 5, 6, 8] [.sl a1, .int .i64 a2, .ptr (some a3), .ptr a4]) h := by
  intros; kernel_rfl

theorem palisadelaw23_RingOrder.s6 {W0 : World} {U : Ifc} (hU : IfcOK sg W0 glsT U) (Q : Bool → Heap → Prop)   : CutOK sg W0 275 (entered 3) (Post sg W0 (palisadelaw23_RingOrder.ret Q)) (posC palisadelaw23_RingOrder.code []) 6 [1, 5, 6, 8] (palisadelaw23_RingOrder.k6 (fun a1 a2 a3 a4 h => palisadelaw23_RingOrder.j6 U  a1 a2 a3 a4 Q h)) := by
  refine cutOK_head (fun vs h hk => ?_)
  unfold palisadelaw23_RingOrder.k6 at hk
  split at hk
  · rename_i a1 a2 a3 a4
    intro todo hm ρ a w s f hp
    exact piece (E := palisadelaw23_RingOrder.E U Q [(9, ([1, 5, 6, 8, 10, 11, 12], palisadelaw23_RingOrder.k9 (fun a1 a2 a3 a4 a5 a6 a7 h => palisadelaw23_RingOrder.j9 U  a1 a2 a3 a4 a5 a6 a7 Q h)))]) (vs := [.sl a1, .int .i64 a2, .ptr (some a3), .ptr a4]) (envOK seatOK (palisadelaw23_RingOrder.callsOK hU) hU) (fnOK seatOK palisadelaw23_RingOrder.fun) ⟨(palisadelaw23_RingOrder.s9 hU Q  ), trivial⟩ palisadelaw23_RingOrder.p6 (fuel := 3000) (by rw [← palisadelaw23_RingOrder.e6]; exact hk) hm s f hp
  · exact hk.elim

theorem palisadelaw23_RingOrder.e : ∀ (U : Ifc) (a1 : Int) (a2 : Sl) (Q : Bool → Heap → Prop) (h : Heap), palisadelaw23_RingOrder U a1 a2 Q h = pts (palisadelaw23_RingOrder.E U Q [(5, ([], palisadelaw23_RingOrder.k5 (fun  h => palisadelaw23_RingOrder.j5 U   Q h))), (6, ([1, 5, 6, 8], palisadelaw23_RingOrder.k6 (fun a1 a2 a3 a4 h => palisadelaw23_RingOrder.j6 U  a1 a2 a3 a4 Q h)))]) 3000 true [.code palisadelaw23_RingOrder.code] (frOf 0 [.int .i64 a1, .sl a2]) h := by
  intros; kernel_rfl

theorem palisadelaw23_RingOrder.S {W0 : World} {U : Ifc} (hU : IfcOK sg W0 glsT U) : FnS sg W0 219 (palisadelaw23_RingOrder.C U) := by
  intro vs κ h wv hx w s
  unfold palisadelaw23_RingOrder.C at hx
  split at hx
  · rename_i a1 a2
    refine postImp (ret := palisadelaw23_RingOrder.ret (fun r1 h => κ (.bool r1) h)) (fun v h hr => by unfold palisadelaw23_RingOrder.ret at hr; split at hr; exact hr; exact hr.elim) ?_
    exact calls_of_pts (E := palisadelaw23_RingOrder.E U (fun r1 h => κ (.bool r1) h) [(5, ([], palisadelaw23_RingOrder.k5 (fun  h => palisadelaw23_RingOrder.j5 U   (fun r1 h => κ (.bool r1) h) h))), (6, ([1, 5, 6, 8], palisadelaw23_RingOrder.k6 (fun a1 a2 a3 a4 h => palisadelaw23_RingOrder.j6 U  a1 a2 a3 a4 (fun r1 h => κ (.bool r1) h) h)))]) (envOK seatOK (palisadelaw23_RingOrder.callsOK hU) hU) seatOK.mixed palisadelaw23_RingOrder.fun (Nat.le_of_ble_eq_true rfl) wv (cutL_ok ⟨(palisadelaw23_RingOrder.s5 hU (fun r1 h => κ (.bool r1) h)), (palisadelaw23_RingOrder.s6 hU (fun r1 h => κ (.bool r1) h)), trivial⟩) s (fuel := 3000) (by rw [← palisadelaw23_RingOrder.e]; exact hx)
  · exact hx.elim

noncomputable def ring_Ring_Told.code : Code := Go.Proofs.Tryd.f12.body.getD .skip

theorem ring_Ring_Told.fun : Fun sg.P 12 19 [.tmp 2, .tmp 3, .tmp 4] ring_Ring_Told.code := mkFun Go.Proofs.Tryd.func12 (by kernel_rfl) (by kernel_rfl) (by kernel_rfl) (by kernel_rfl)

def ring_Ring_Told.ret (Q : Int → Int → Bool → Heap → Prop) (v : V) (h : Heap) : Prop :=
  match v with
  | .tup [.int .u64 r1, .int .u64 r2, .bool r3] => Q r1 r2 r3 h
  | _ => False

def ring_Ring_Told.C (vs : List V) (κ : V → Heap → Prop) (h : Heap) : Prop :=
  match vs with
  | [.ptr a1] => ring_Ring_Told a1 (fun r1 r2 r3 h => κ (.tup [.int .u64 r1, .int .u64 r2, .bool r3]) h) h
  | _ => False

noncomputable def ring_Ring_Told.calls : List (Nat × (List V → (V → Heap → Prop) → Heap → Prop)) := []

noncomputable def ring_Ring_Told.E (Q : Int → Int → Bool → Heap → Prop) (cuts : List (Nat × (List Nat × (List V → Heap → Prop)))) : Env := { tis := tisT, fns := fnsT, tys := tysT, gls := [], rts := rtsT, unk := [], nxt := [], calls := ring_Ring_Told.calls, ifc := noIfc, cuts := cuts, ret := ring_Ring_Told.ret Q, rets := [.tmp 2, .tmp 3, .tmp 4], n := 19 }

theorem ring_Ring_Told.callsOK {W0 : World} : CallsOK sg W0 ring_Ring_Told.calls := trivial

theorem ring_Ring_Told.e : ∀ (a1 : Option Ptr) (Q : Int → Int → Bool → Heap → Prop) (h : Heap), ring_Ring_Told a1 Q h = pts (ring_Ring_Told.E Q []) 3000 true [.code ring_Ring_Told.code] (frOf 0 [.ptr a1]) h := by
  intros; kernel_rfl

theorem ring_Ring_Told.S {W0 : World} : FnS sg W0 52 ring_Ring_Told.C := by
  intro vs κ h wv hx w s
  unfold ring_Ring_Told.C at hx
  split at hx
  · rename_i a1
    refine postImp (ret := ring_Ring_Told.ret (fun r1 r2 r3 h => κ (.tup [.int .u64 r1, .int .u64 r2, .bool r3]) h)) (fun v h hr => by unfold ring_Ring_Told.ret at hr; split at hr; exact hr; exact hr.elim) ?_
    exact calls_of_pts (E := ring_Ring_Told.E (fun r1 r2 r3 h => κ (.tup [.int .u64 r1, .int .u64 r2, .bool r3]) h) []) (envOK seatOK ring_Ring_Told.callsOK noIfc_ok) seatOK.mixed ring_Ring_Told.fun (Nat.le_of_ble_eq_true rfl) wv (cutL_ok trivial) s (fuel := 3000) (by rw [← ring_Ring_Told.e]; exact hx)
  · exact hx.elim

end Go.Fn
