/- The links of the shallow functions to the machine. PRINTED by lift.py. -/
import Derived.Test.YtkfgkcdehmjmcaaGreatDoorGb2
set_option linter.unusedVariables false
set_option maxRecDepth 100000
namespace Go.Fn
open Go.Lift

noncomputable def hart_hart_width.code : Code := Go.Proofs.Tryz.f85.body.getD .skip

theorem hart_hart_width.fun : Fun sg.P 85 14 [.tmp 2] hart_hart_width.code := mkFun Go.Proofs.Tryz.func85 (by kernel_rfl) (by kernel_rfl) (by kernel_rfl) (by kernel_rfl)

def hart_hart_width.ret (Q : Int → Heap → Prop) (v : V) (h : Heap) : Prop :=
  match v with
  | .int .i64 r1 => Q r1 h
  | _ => False

def hart_hart_width.C (vs : List V) (κ : V → Heap → Prop) (h : Heap) : Prop :=
  match vs with
  | [.ptr a1] => hart_hart_width a1 (fun r1 h => κ (.int .i64 r1) h) h
  | _ => False

noncomputable def hart_hart_width.calls : List (Nat × (List V → (V → Heap → Prop) → Heap → Prop)) := []

noncomputable def hart_hart_width.E (Q : Int → Heap → Prop) (cuts : List (Nat × (List Nat × (List V → Heap → Prop)))) : Env := { tis := tisT, fns := fnsT, tys := tysT, gls := [], rts := rtsT, unk := [], nxt := [], calls := hart_hart_width.calls, ifc := noIfc, cuts := cuts, ret := hart_hart_width.ret Q, rets := [.tmp 2], n := 14 }

theorem hart_hart_width.callsOK {W0 : World} : CallsOK sg W0 hart_hart_width.calls := trivial

theorem hart_hart_width.e : ∀ (a1 : Option Ptr) (Q : Int → Heap → Prop) (h : Heap), hart_hart_width a1 Q h = pts (hart_hart_width.E Q []) 3000 true [.code hart_hart_width.code] (frOf 0 [.ptr a1]) h := by
  intros; kernel_rfl

theorem hart_hart_width.S {W0 : World} : FnS sg W0 198 hart_hart_width.C := by
  intro vs κ h wv hx w s
  unfold hart_hart_width.C at hx
  split at hx
  · rename_i a1
    refine postImp (ret := hart_hart_width.ret (fun r1 h => κ (.int .i64 r1) h)) (fun v h hr => by unfold hart_hart_width.ret at hr; split at hr; exact hr; exact hr.elim) ?_
    exact calls_of_pts (E := hart_hart_width.E (fun r1 h => κ (.int .i64 r1) h) []) (envOK seatOK hart_hart_width.callsOK noIfc_ok) seatOK.mixed hart_hart_width.fun (Nat.le_of_ble_eq_true rfl) wv (cutL_ok trivial) s (fuel := 3000) (by rw [← hart_hart_width.e]; exact hx)
  · exact hx.elim

noncomputable def hart_hart_reach.code : Code := Go.Proofs.Tryz.f77.body.getD .skip

theorem hart_hart_reach.fun : Fun sg.P 77 45 [.tmp 8, .cell 9 86] hart_hart_reach.code := mkFun Go.Proofs.Tryz.func77 (by kernel_rfl) (by kernel_rfl) (by kernel_rfl) (by kernel_rfl)

def hart_hart_reach.ret (Q : Int → Int → Int → Int → Bool → Int → Heap → Prop) (v : V) (h : Heap) : Prop :=
  match v with
  | .tup [.int .u64 r1, .agg [.int .i64 r2, .int .u64 r3, .int .u64 r4, .bool r5, .int .i64 r6]] => Q r1 r2 r3 r4 r5 r6 h
  | _ => False

def hart_hart_reach.C (U : Ifc) (vs : List V) (κ : V → Heap → Prop) (h : Heap) : Prop :=
  match vs with
  | [.ptr a1, .int .u64 a2, .int .i64 a3, .int .i64 a4] => hart_hart_reach U a1 a2 a3 a4 (fun r1 r2 r3 r4 r5 r6 h => κ (.tup [.int .u64 r1, .agg [.int .i64 r2, .int .u64 r3, .int .u64 r4, .bool r5, .int .i64 r6]]) h) h
  | _ => False

noncomputable def hart_hart_reach.calls (U : Ifc) : List (Nat × (List V → (V → Heap → Prop) → Heap → Prop)) := [(165, hart_trap.C), (166, csr_File_Root.C), (167, hart_hart_user.C), (168, hart_of.C)]

noncomputable def hart_hart_reach.E (U : Ifc) (Q : Int → Int → Int → Int → Bool → Int → Heap → Prop) (cuts : List (Nat × (List Nat × (List V → Heap → Prop)))) : Env := { tis := tisT, fns := fnsT, tys := tysT, gls := glsT, rts := rtsT, unk := [], nxt := [], calls := hart_hart_reach.calls U, ifc := U, cuts := cuts, ret := hart_hart_reach.ret Q, rets := [.tmp 8, .cell 9 86], n := 45 }

theorem hart_hart_reach.callsOK {W0 : World} {U : Ifc} (hU : IfcOK sg W0 glsT U) : CallsOK sg W0 (hart_hart_reach.calls U) := ⟨hart_trap.S, csr_File_Root.S, hart_hart_user.S, hart_of.S, trivial⟩

def hart_hart_reach.k5 (I : Int → Ptr → Int → Heap → Prop) (vs : List V) (h : Heap) : Prop :=
  match vs with
  | [.int .u64 a1, .ptr (some a2), .int .i64 a3] => I a1 a2 a3 h
  | _ => False

def hart_hart_reach.k7 (I : Ptr → Int → Ptr → Heap → Prop) (vs : List V) (h : Heap) : Prop :=
  match vs with
  | [.ptr (some a1), .int .u64 a2, .ptr (some a3)] => I a1 a2 a3 h
  | _ => False

theorem hart_hart_reach.p5 : (posC hart_hart_reach.code []).filter (fun p => Nat.beq p.1 5) = [(5, atPos (posC hart_hart_reach.code []) 5)] := by kernel_rfl

theorem hart_hart_reach.e5 : ∀ (U : Ifc)  (a1 : Int) (a2 : Ptr) (a3 : Int) (Q : Int → Int → Int → Int → Bool → Int → Heap → Prop) (h : Heap), hart_hart_reach.j5 U  a1 a2 a3 Q h = pts (hart_hart_reach.E U Q []) 3000 true (atPos (posC hart_hart_reach.code []) 5) (frAt [1, 9, 10] [.int .u64 a1, .ptr (some a2), .int .i64 a3]) h := by
  intros; kernel_rfl

theorem hart_hart_reach.s5 {W0 : World} {U : Ifc} (hU : IfcOK sg W0 glsT U) (Q : Int → Int → Int → Int → Bool → Int → Heap → Prop)   : CutOK sg W0 45 (entered 77) (Post sg W0 (hart_hart_reach.ret Q)) (posC hart_hart_reach.code []) 5 [1, 9, 10] (hart_hart_reach.k5 (fun a1 a2 a3 h => hart_hart_reach.j5 U  a1 a2 a3 Q h)) := by
  refine cutOK_head (fun vs h hk => ?_)
  unfold hart_hart_reach.k5 at hk
  split at hk
  · rename_i a1 a2 a3
    intro todo hm ρ a w s f hp
    exact piece (E := hart_hart_reach.E U Q []) (vs := [.int .u64 a1, .ptr (some a2), .int .i64 a3]) (envOK seatOK (hart_hart_reach.callsOK hU) hU) (fnOK seatOK hart_hart_reach.fun) trivial hart_hart_reach.p5 (fuel := 3000) (by rw [← hart_hart_reach.e5]; exact hk) hm s f hp
  · exact hk.elim

theorem hart_hart_reach.p7 : (posC hart_hart_reach.code []).filter (fun p => Nat.beq p.1 7) = [(7, atPos (posC hart_hart_reach.code []) 7)] := by kernel_rfl

theorem hart_hart_reach.e7 : ∀ (U : Ifc)  (a1 : Ptr) (a2 : Int) (a3 : Ptr) (Q : Int → Int → Int → Int → Bool → Int → Heap → Prop) (h : Heap), hart_hart_reach.j7 U  a1 a2 a3 Q h = pts (hart_hart_reach.E U Q []) 3000 true (atPos (posC hart_hart_reach.code []) 7) (frAt [9, 11, 12] [.ptr (some a1), .int .u64 a2, .ptr (some a3)]) h := by
  intros; kernel_rfl

theorem hart_hart_reach.s7 {W0 : World} {U : Ifc} (hU : IfcOK sg W0 glsT U) (Q : Int → Int → Int → Int → Bool → Int → Heap → Prop)   : CutOK sg W0 45 (entered 77) (Post sg W0 (hart_hart_reach.ret Q)) (posC hart_hart_reach.code []) 7 [9, 11, 12] (hart_hart_reach.k7 (fun a1 a2 a3 h => hart_hart_reach.j7 U  a1 a2 a3 Q h)) := by
  refine cutOK_head (fun vs h hk => ?_)
  unfold hart_hart_reach.k7 at hk
  split at hk
  · rename_i a1 a2 a3
    intro todo hm ρ a w s f hp
    exact piece (E := hart_hart_reach.E U Q []) (vs := [.ptr (some a1), .int .u64 a2, .ptr (some a3)]) (envOK seatOK (hart_hart_reach.callsOK hU) hU) (fnOK seatOK hart_hart_reach.fun) trivial hart_hart_reach.p7 (fuel := 3000) (by rw [← hart_hart_reach.e7]; exact hk) hm s f hp
  · exact hk.elim

theorem hart_hart_reach.e : ∀ (U : Ifc) (a1 : Option Ptr) (a2 : Int) (a3 : Int) (a4 : Int) (Q : Int → Int → Int → Int → Bool → Int → Heap → Prop) (h : Heap), hart_hart_reach U a1 a2 a3 a4 Q h = pts (hart_hart_reach.E U Q [(5, ([1, 9, 10], hart_hart_reach.k5 (fun a1 a2 a3 h => hart_hart_reach.j5 U  a1 a2 a3 Q h))), (7, ([9, 11, 12], hart_hart_reach.k7 (fun a1 a2 a3 h => hart_hart_reach.j7 U  a1 a2 a3 Q h)))]) 3000 true [.code hart_hart_reach.code] (frOf 0 [.ptr a1, .int .u64 a2, .int .i64 a3, .int .i64 a4]) h := by
  intros; kernel_rfl

theorem hart_hart_reach.S {W0 : World} {U : Ifc} (hU : IfcOK sg W0 glsT U) : FnS sg W0 199 (hart_hart_reach.C U) := by
  intro vs κ h wv hx w s
  unfold hart_hart_reach.C at hx
  split at hx
  · rename_i a1 a2 a3 a4
    refine postImp (ret := hart_hart_reach.ret (fun r1 r2 r3 r4 r5 r6 h => κ (.tup [.int .u64 r1, .agg [.int .i64 r2, .int .u64 r3, .int .u64 r4, .bool r5, .int .i64 r6]]) h)) (fun v h hr => by unfold hart_hart_reach.ret at hr; split at hr; exact hr; exact hr.elim) ?_
    exact calls_of_pts (E := hart_hart_reach.E U (fun r1 r2 r3 r4 r5 r6 h => κ (.tup [.int .u64 r1, .agg [.int .i64 r2, .int .u64 r3, .int .u64 r4, .bool r5, .int .i64 r6]]) h) [(5, ([1, 9, 10], hart_hart_reach.k5 (fun a1 a2 a3 h => hart_hart_reach.j5 U  a1 a2 a3 (fun r1 r2 r3 r4 r5 r6 h => κ (.tup [.int .u64 r1, .agg [.int .i64 r2, .int .u64 r3, .int .u64 r4, .bool r5, .int .i64 r6]]) h) h))), (7, ([9, 11, 12], hart_hart_reach.k7 (fun a1 a2 a3 h => hart_hart_reach.j7 U  a1 a2 a3 (fun r1 r2 r3 r4 r5 r6 h => κ (.tup [.int .u64 r1, .agg [.int .i64 r2, .int .u64 r3, .int .u64 r4, .bool r5, .int .i64 r6]]) h) h)))]) (envOK seatOK (hart_hart_reach.callsOK hU) hU) seatOK.mixed hart_hart_reach.fun (Nat.le_of_ble_eq_true rfl) wv (cutL_ok ⟨(hart_hart_reach.s5 hU (fun r1 r2 r3 r4 r5 r6 h => κ (.tup [.int .u64 r1, .agg [.int .i64 r2, .int .u64 r3, .int .u64 r4, .bool r5, .int .i64 r6]]) h)), (hart_hart_reach.s7 hU (fun r1 r2 r3 r4 r5 r6 h => κ (.tup [.int .u64 r1, .agg [.int .i64 r2, .int .u64 r3, .int .u64 r4, .bool r5, .int .i64 r6]]) h)), trivial⟩) s (fuel := 3000) (by rw [← hart_hart_reach.e]; exact hx)
  · exact hx.elim

noncomputable def hart_gone_at.code : Code := Go.Proofs.Tryz.f96.body.getD .skip

theorem hart_gone_at.fun : Fun sg.P 96 11 [.cell 4 86] hart_gone_at.code := mkFun Go.Proofs.Tryz.func96 (by kernel_rfl) (by kernel_rfl) (by kernel_rfl) (by kernel_rfl)

def hart_gone_at.ret (Q : Int → Int → Int → Bool → Int → Heap → Prop) (v : V) (h : Heap) : Prop :=
  match v with
  | .agg [.int .i64 r1, .int .u64 r2, .int .u64 r3, .bool r4, .int .i64 r5] => Q r1 r2 r3 r4 r5 h
  | _ => False

def hart_gone_at.C (vs : List V) (κ : V → Heap → Prop) (h : Heap) : Prop :=
  match vs with
  | [.agg [.int .i64 a1, .int .u64 a2, .int .u64 a3, .bool a4, .int .i64 a5], .int .i64 a6] => hart_gone_at a1 a2 a3 a4 a5 a6 (fun r1 r2 r3 r4 r5 h => κ (.agg [.int .i64 r1, .int .u64 r2, .int .u64 r3, .bool r4, .int .i64 r5]) h) h
  | _ => False

noncomputable def hart_gone_at.calls : List (Nat × (List V → (V → Heap → Prop) → Heap → Prop)) := []

noncomputable def hart_gone_at.E (Q : Int → Int → Int → Bool → Int → Heap → Prop) (cuts : List (Nat × (List Nat × (List V → Heap → Prop)))) : Env := { tis := tisT, fns := fnsT, tys := tysT, gls := [], rts := rtsT, unk := [], nxt := [], calls := hart_gone_at.calls, ifc := noIfc, cuts := cuts, ret := hart_gone_at.ret Q, rets := [.cell 4 86], n := 11 }

theorem hart_gone_at.callsOK {W0 : World} : CallsOK sg W0 hart_gone_at.calls := trivial

theorem hart_gone_at.e : ∀ (a1 : Int) (a2 : Int) (a3 : Int) (a4 : Bool) (a5 : Int) (a6 : Int) (Q : Int → Int → Int → Bool → Int → Heap → Prop) (h : Heap), hart_gone_at a1 a2 a3 a4 a5 a6 Q h = pts (hart_gone_at.E Q []) 3000 true [.code hart_gone_at.code] (frOf 0 [.agg [.int .i64 a1, .int .u64 a2, .int .u64 a3, .bool a4, .int .i64 a5], .int .i64 a6]) h := by
  intros; kernel_rfl

theorem hart_gone_at.S {W0 : World} : FnS sg W0 200 hart_gone_at.C := by
  intro vs κ h wv hx w s
  unfold hart_gone_at.C at hx
  split at hx
  · rename_i a1 a2 a3 a4 a5 a6
    refine postImp (ret := hart_gone_at.ret (fun r1 r2 r3 r4 r5 h => κ (.agg [.int .i64 r1, .int .u64 r2, .int .u64 r3, .bool r4, .int .i64 r5]) h)) (fun v h hr => by unfold hart_gone_at.ret at hr; split at hr; exact hr; exact hr.elim) ?_
    exact calls_of_pts (E := hart_gone_at.E (fun r1 r2 r3 r4 r5 h => κ (.agg [.int .i64 r1, .int .u64 r2, .int .u64 r3, .bool r4, .int .i64 r5]) h) []) (envOK seatOK hart_gone_at.callsOK noIfc_ok) seatOK.mixed hart_gone_at.fun (Nat.le_of_ble_eq_true rfl) wv (cutL_ok trivial) s (fuel := 3000) (by rw [← hart_gone_at.e]; exact hx)
  · exact hx.elim

noncomputable def hart_hart_get.code : Code := Go.Proofs.Tryz.f76.body.getD .skip

theorem hart_hart_get.fun : Fun sg.P 76 46 [.tmp 6, .tmp 7, .cell 8 86] hart_hart_get.code := mkFun Go.Proofs.Tryz.func76 (by kernel_rfl) (by kernel_rfl) (by kernel_rfl) (by kernel_rfl)

def hart_hart_get.ret (Q : Int → Int → Int → Int → Int → Bool → Int → Heap → Prop) (v : V) (h : Heap) : Prop :=
  match v with
  | .tup [.int .u64 r1, .int .u64 r2, .agg [.int .i64 r3, .int .u64 r4, .int .u64 r5, .bool r6, .int .i64 r7]] => Q r1 r2 r3 r4 r5 r6 r7 h
  | _ => False

def hart_hart_get.C (U : Ifc) (vs : List V) (κ : V → Heap → Prop) (h : Heap) : Prop :=
  match vs with
  | [.ptr a1, .int .u64 a2, .int .i64 a3] => hart_hart_get U a1 a2 a3 (fun r1 r2 r3 r4 r5 r6 r7 h => κ (.tup [.int .u64 r1, .int .u64 r2, .agg [.int .i64 r3, .int .u64 r4, .int .u64 r5, .bool r6, .int .i64 r7]]) h) h
  | _ => False

noncomputable def hart_hart_get.calls (U : Ifc) : List (Nat × (List V → (V → Heap → Prop) → Heap → Prop)) := [(165, hart_trap.C), (199, hart_hart_reach.C U), (198, hart_hart_width.C), (200, hart_gone_at.C)]

noncomputable def hart_hart_get.E (U : Ifc) (Q : Int → Int → Int → Int → Int → Bool → Int → Heap → Prop) (cuts : List (Nat × (List Nat × (List V → Heap → Prop)))) : Env := { tis := tisT, fns := fnsT, tys := tysT, gls := glsT, rts := rtsT, unk := [], nxt := [], calls := hart_hart_get.calls U, ifc := U, cuts := cuts, ret := hart_hart_get.ret Q, rets := [.tmp 6, .tmp 7, .cell 8 86], n := 46 }

theorem hart_hart_get.callsOK {W0 : World} {U : Ifc} (hU : IfcOK sg W0 glsT U) : CallsOK sg W0 (hart_hart_get.calls U) := ⟨hart_trap.S, (hart_hart_reach.S hU), hart_hart_width.S, hart_gone_at.S, trivial⟩

def hart_hart_get.k5 (I : Int → Int → Int → Int → Ptr → Int → Heap → Prop) (vs : List V) (h : Heap) : Prop :=
  match vs with
  | [.int .u64 a1, .int .i64 a2, .int .u64 a3, .int .u64 a4, .ptr (some a5), .int .i64 a6] => I a1 a2 a3 a4 a5 a6 h
  | _ => False

theorem hart_hart_get.p5 : (posC hart_hart_get.code []).filter (fun p => Nat.beq p.1 5) = [(5, atPos (posC hart_hart_get.code []) 5)] := by kernel_rfl

theorem hart_hart_get.e5 : ∀ (U : Ifc)  (a1 : Int) (a2 : Int) (a3 : Int) (a4 : Int) (a5 : Ptr) (a6 : Int) (Q : Int → Int → Int → Int → Int → Bool → Int → Heap → Prop) (h : Heap), hart_hart_get.j5 U  a1 a2 a3 a4 a5 a6 Q h = pts (hart_hart_get.E U Q []) 3000 true (atPos (posC hart_hart_get.code []) 5) (frAt [1, 2, 6, 7, 8, 9] [.int .u64 a1, .int .i64 a2, .int .u64 a3, .int .u64 a4, .ptr (some a5), .int .i64 a6]) h := by
  intros; kernel_rfl

theorem hart_hart_get.s5 {W0 : World} {U : Ifc} (hU : IfcOK sg W0 glsT U) (Q : Int → Int → Int → Int → Int → Bool → Int → Heap → Prop)   : CutOK sg W0 46 (entered 76) (Post sg W0 (hart_hart_get.ret Q)) (posC hart_hart_get.code []) 5 [1, 2, 6, 7, 8, 9] (hart_hart_get.k5 (fun a1 a2 a3 a4 a5 a6 h => hart_hart_get.j5 U  a1 a2 a3 a4 a5 a6 Q h)) := by
  refine cutOK_head (fun vs h hk => ?_)
  unfold hart_hart_get.k5 at hk
  split at hk
  · rename_i a1 a2 a3 a4 a5 a6
    intro todo hm ρ a w s f hp
    exact piece (E := hart_hart_get.E U Q []) (vs := [.int .u64 a1, .int .i64 a2, .int .u64 a3, .int .u64 a4, .ptr (some a5), .int .i64 a6]) (envOK seatOK (hart_hart_get.callsOK hU) hU) (fnOK seatOK hart_hart_get.fun) trivial hart_hart_get.p5 (fuel := 3000) (by rw [← hart_hart_get.e5]; exact hk) hm s f hp
  · exact hk.elim

theorem hart_hart_get.e : ∀ (U : Ifc) (a1 : Option Ptr) (a2 : Int) (a3 : Int) (Q : Int → Int → Int → Int → Int → Bool → Int → Heap → Prop) (h : Heap), hart_hart_get U a1 a2 a3 Q h = pts (hart_hart_get.E U Q [(5, ([1, 2, 6, 7, 8, 9], hart_hart_get.k5 (fun a1 a2 a3 a4 a5 a6 h => hart_hart_get.j5 U  a1 a2 a3 a4 a5 a6 Q h)))]) 3000 true [.code hart_hart_get.code] (frOf 0 [.ptr a1, .int .u64 a2, .int .i64 a3]) h := by
  intros; kernel_rfl

theorem hart_hart_get.S {W0 : World} {U : Ifc} (hU : IfcOK sg W0 glsT U) : FnS sg W0 201 (hart_hart_get.C U) := by
  intro vs κ h wv hx w s
  unfold hart_hart_get.C at hx
  split at hx
  · rename_i a1 a2 a3
    refine postImp (ret := hart_hart_get.ret (fun r1 r2 r3 r4 r5 r6 r7 h => κ (.tup [.int .u64 r1, .int .u64 r2, .agg [.int .i64 r3, .int .u64 r4, .int .u64 r5, .bool r6, .int .i64 r7]]) h)) (fun v h hr => by unfold hart_hart_get.ret at hr; split at hr; exact hr; exact hr.elim) ?_
    exact calls_of_pts (E := hart_hart_get.E U (fun r1 r2 r3 r4 r5 r6 r7 h => κ (.tup [.int .u64 r1, .int .u64 r2, .agg [.int .i64 r3, .int .u64 r4, .int .u64 r5, .bool r6, .int .i64 r7]]) h) [(5, ([1, 2, 6, 7, 8, 9], hart_hart_get.k5 (fun a1 a2 a3 a4 a5 a6 h => hart_hart_get.j5 U  a1 a2 a3 a4 a5 a6 (fun r1 r2 r3 r4 r5 r6 r7 h => κ (.tup [.int .u64 r1, .int .u64 r2, .agg [.int .i64 r3, .int .u64 r4, .int .u64 r5, .bool r6, .int .i64 r7]]) h) h)))]) (envOK seatOK (hart_hart_get.callsOK hU) hU) seatOK.mixed hart_hart_get.fun (Nat.le_of_ble_eq_true rfl) wv (cutL_ok ⟨(hart_hart_get.s5 hU (fun r1 r2 r3 r4 r5 r6 r7 h => κ (.tup [.int .u64 r1, .int .u64 r2, .agg [.int .i64 r3, .int .u64 r4, .int .u64 r5, .bool r6, .int .i64 r7]]) h)), trivial⟩) s (fuel := 3000) (by rw [← hart_hart_get.e]; exact hx)
  · exact hx.elim

noncomputable def hart_hart_lr.code : Code := Go.Proofs.Tryz.f49.body.getD .skip

theorem hart_hart_lr.fun : Fun sg.P 49 27 [.cell 2 86] hart_hart_lr.code := mkFun Go.Proofs.Tryz.func49 (by kernel_rfl) (by kernel_rfl) (by kernel_rfl) (by kernel_rfl)

def hart_hart_lr.ret (Q : Int → Int → Int → Bool → Int → Heap → Prop) (v : V) (h : Heap) : Prop :=
  match v with
  | .agg [.int .i64 r1, .int .u64 r2, .int .u64 r3, .bool r4, .int .i64 r5] => Q r1 r2 r3 r4 r5 h
  | _ => False

def hart_hart_lr.C (U : Ifc) (vs : List V) (κ : V → Heap → Prop) (h : Heap) : Prop :=
  match vs with
  | [.ptr a1] => hart_hart_lr U a1 (fun r1 r2 r3 r4 r5 h => κ (.agg [.int .i64 r1, .int .u64 r2, .int .u64 r3, .bool r4, .int .i64 r5]) h) h
  | _ => False

noncomputable def hart_hart_lr.calls (U : Ifc) : List (Nat × (List V → (V → Heap → Prop) → Heap → Prop)) := [(196, hart_hart_set.C), (197, hart_hart_a.C), (201, hart_hart_get.C U)]

noncomputable def hart_hart_lr.E (U : Ifc) (Q : Int → Int → Int → Bool → Int → Heap → Prop) (cuts : List (Nat × (List Nat × (List V → Heap → Prop)))) : Env := { tis := tisT, fns := fnsT, tys := tysT, gls := glsT, rts := rtsT, unk := [], nxt := [], calls := hart_hart_lr.calls U, ifc := U, cuts := cuts, ret := hart_hart_lr.ret Q, rets := [.cell 2 86], n := 27 }

theorem hart_hart_lr.callsOK {W0 : World} {U : Ifc} (hU : IfcOK sg W0 glsT U) : CallsOK sg W0 (hart_hart_lr.calls U) := ⟨hart_hart_set.S, hart_hart_a.S, (hart_hart_get.S hU), trivial⟩

def hart_hart_lr.k5 (I : Ptr → Ptr → Heap → Prop) (vs : List V) (h : Heap) : Prop :=
  match vs with
  | [.ptr (some a1), .ptr (some a2)] => I a1 a2 h
  | _ => False

theorem hart_hart_lr.p5 : (posC hart_hart_lr.code []).filter (fun p => Nat.beq p.1 5) = [(5, atPos (posC hart_hart_lr.code []) 5)] := by kernel_rfl

theorem hart_hart_lr.e5 : ∀ (U : Ifc)  (a1 : Ptr) (a2 : Ptr) (Q : Int → Int → Int → Bool → Int → Heap → Prop) (h : Heap), hart_hart_lr.j5 U  a1 a2 Q h = pts (hart_hart_lr.E U Q []) 3000 true (atPos (posC hart_hart_lr.code []) 5) (frAt [2, 5] [.ptr (some a1), .ptr (some a2)]) h := by
  intros; kernel_rfl

theorem hart_hart_lr.s5 {W0 : World} {U : Ifc} (hU : IfcOK sg W0 glsT U) (Q : Int → Int → Int → Bool → Int → Heap → Prop)   : CutOK sg W0 27 (entered 49) (Post sg W0 (hart_hart_lr.ret Q)) (posC hart_hart_lr.code []) 5 [2, 5] (hart_hart_lr.k5 (fun a1 a2 h => hart_hart_lr.j5 U  a1 a2 Q h)) := by
  refine cutOK_head (fun vs h hk => ?_)
  unfold hart_hart_lr.k5 at hk
  split at hk
  · rename_i a1 a2
    intro todo hm ρ a w s f hp
    exact piece (E := hart_hart_lr.E U Q []) (vs := [.ptr (some a1), .ptr (some a2)]) (envOK seatOK (hart_hart_lr.callsOK hU) hU) (fnOK seatOK hart_hart_lr.fun) trivial hart_hart_lr.p5 (fuel := 3000) (by rw [← hart_hart_lr.e5]; exact hk) hm s f hp
  · exact hk.elim

theorem hart_hart_lr.e : ∀ (U : Ifc) (a1 : Option Ptr) (Q : Int → Int → Int → Bool → Int → Heap → Prop) (h : Heap), hart_hart_lr U a1 Q h = pts (hart_hart_lr.E U Q [(5, ([2, 5], hart_hart_lr.k5 (fun a1 a2 h => hart_hart_lr.j5 U  a1 a2 Q h)))]) 3000 true [.code hart_hart_lr.code] (frOf 0 [.ptr a1]) h := by
  intros; kernel_rfl

theorem hart_hart_lr.S {W0 : World} {U : Ifc} (hU : IfcOK sg W0 glsT U) : FnS sg W0 149 (hart_hart_lr.C U) := by
  intro vs κ h wv hx w s
  unfold hart_hart_lr.C at hx
  split at hx
  · rename_i a1
    refine postImp (ret := hart_hart_lr.ret (fun r1 r2 r3 r4 r5 h => κ (.agg [.int .i64 r1, .int .u64 r2, .int .u64 r3, .bool r4, .int .i64 r5]) h)) (fun v h hr => by unfold hart_hart_lr.ret at hr; split at hr; exact hr; exact hr.elim) ?_
    exact calls_of_pts (E := hart_hart_lr.E U (fun r1 r2 r3 r4 r5 h => κ (.agg [.int .i64 r1, .int .u64 r2, .int .u64 r3, .bool r4, .int .i64 r5]) h) [(5, ([2, 5], hart_hart_lr.k5 (fun a1 a2 h => hart_hart_lr.j5 U  a1 a2 (fun r1 r2 r3 r4 r5 h => κ (.agg [.int .i64 r1, .int .u64 r2, .int .u64 r3, .bool r4, .int .i64 r5]) h) h)))]) (envOK seatOK (hart_hart_lr.callsOK hU) hU) seatOK.mixed hart_hart_lr.fun (Nat.le_of_ble_eq_true rfl) wv (cutL_ok ⟨(hart_hart_lr.s5 hU (fun r1 r2 r3 r4 r5 h => κ (.agg [.int .i64 r1, .int .u64 r2, .int .u64 r3, .bool r4, .int .i64 r5]) h)), trivial⟩) s (fuel := 3000) (by rw [← hart_hart_lr.e]; exact hx)
  · exact hx.elim

noncomputable def hart_hart_bb.code : Code := Go.Proofs.Tryz.f79.body.getD .skip

theorem hart_hart_bb.fun : Fun sg.P 79 16 [.tmp 2] hart_hart_bb.code := mkFun Go.Proofs.Tryz.func79 (by kernel_rfl) (by kernel_rfl) (by kernel_rfl) (by kernel_rfl)

def hart_hart_bb.ret (Q : Int → Heap → Prop) (v : V) (h : Heap) : Prop :=
  match v with
  | .int .u64 r1 => Q r1 h
  | _ => False

def hart_hart_bb.C (vs : List V) (κ : V → Heap → Prop) (h : Heap) : Prop :=
  match vs with
  | [.ptr a1] => hart_hart_bb a1 (fun r1 h => κ (.int .u64 r1) h) h
  | _ => False

noncomputable def hart_hart_bb.calls : List (Nat × (List V → (V → Heap → Prop) → Heap → Prop)) := []

noncomputable def hart_hart_bb.E (Q : Int → Heap → Prop) (cuts : List (Nat × (List Nat × (List V → Heap → Prop)))) : Env := { tis := tisT, fns := fnsT, tys := tysT, gls := [], rts := rtsT, unk := [], nxt := [], calls := hart_hart_bb.calls, ifc := noIfc, cuts := cuts, ret := hart_hart_bb.ret Q, rets := [.tmp 2], n := 16 }

theorem hart_hart_bb.callsOK {W0 : World} : CallsOK sg W0 hart_hart_bb.calls := trivial

theorem hart_hart_bb.e : ∀ (a1 : Option Ptr) (Q : Int → Heap → Prop) (h : Heap), hart_hart_bb a1 Q h = pts (hart_hart_bb.E Q []) 3000 true [.code hart_hart_bb.code] (frOf 0 [.ptr a1]) h := by
  intros; kernel_rfl

theorem hart_hart_bb.S {W0 : World} : FnS sg W0 202 hart_hart_bb.C := by
  intro vs κ h wv hx w s
  unfold hart_hart_bb.C at hx
  split at hx
  · rename_i a1
    refine postImp (ret := hart_hart_bb.ret (fun r1 h => κ (.int .u64 r1) h)) (fun v h hr => by unfold hart_hart_bb.ret at hr; split at hr; exact hr; exact hr.elim) ?_
    exact calls_of_pts (E := hart_hart_bb.E (fun r1 h => κ (.int .u64 r1) h) []) (envOK seatOK hart_hart_bb.callsOK noIfc_ok) seatOK.mixed hart_hart_bb.fun (Nat.le_of_ble_eq_true rfl) wv (cutL_ok trivial) s (fuel := 3000) (by rw [← hart_hart_bb.e]; exact hx)
  · exact hx.elim

noncomputable def hart_hart_put.code : Code := Go.Proofs.Tryz.f78.body.getD .skip

theorem hart_hart_put.fun : Fun sg.P 78 24 [.cell 8 86] hart_hart_put.code := mkFun Go.Proofs.Tryz.func78 (by kernel_rfl) (by kernel_rfl) (by kernel_rfl) (by kernel_rfl)

def hart_hart_put.ret (Q : Int → Int → Int → Bool → Int → Heap → Prop) (v : V) (h : Heap) : Prop :=
  match v with
  | .agg [.int .i64 r1, .int .u64 r2, .int .u64 r3, .bool r4, .int .i64 r5] => Q r1 r2 r3 r4 r5 h
  | _ => False

def hart_hart_put.C (U : Ifc) (vs : List V) (κ : V → Heap → Prop) (h : Heap) : Prop :=
  match vs with
  | [.ptr a1, .int .u64 a2, .int .u64 a3, .int .u64 a4] => hart_hart_put U a1 a2 a3 a4 (fun r1 r2 r3 r4 r5 h => κ (.agg [.int .i64 r1, .int .u64 r2, .int .u64 r3, .bool r4, .int .i64 r5]) h) h
  | _ => False

noncomputable def hart_hart_put.calls (U : Ifc) : List (Nat × (List V → (V → Heap → Prop) → Heap → Prop)) := [(165, hart_trap.C), (198, hart_hart_width.C)]

noncomputable def hart_hart_put.E (U : Ifc) (Q : Int → Int → Int → Bool → Int → Heap → Prop) (cuts : List (Nat × (List Nat × (List V → Heap → Prop)))) : Env := { tis := tisT, fns := fnsT, tys := tysT, gls := glsT, rts := rtsT, unk := [], nxt := [], calls := hart_hart_put.calls U, ifc := U, cuts := cuts, ret := hart_hart_put.ret Q, rets := [.cell 8 86], n := 24 }

theorem hart_hart_put.callsOK {W0 : World} {U : Ifc} (hU : IfcOK sg W0 glsT U) : CallsOK sg W0 (hart_hart_put.calls U) := ⟨hart_trap.S, hart_hart_width.S, trivial⟩

theorem hart_hart_put.e : ∀ (U : Ifc) (a1 : Option Ptr) (a2 : Int) (a3 : Int) (a4 : Int) (Q : Int → Int → Int → Bool → Int → Heap → Prop) (h : Heap), hart_hart_put U a1 a2 a3 a4 Q h = pts (hart_hart_put.E U Q []) 3000 true [.code hart_hart_put.code] (frOf 0 [.ptr a1, .int .u64 a2, .int .u64 a3, .int .u64 a4]) h := by
  intros; kernel_rfl

theorem hart_hart_put.S {W0 : World} {U : Ifc} (hU : IfcOK sg W0 glsT U) : FnS sg W0 203 (hart_hart_put.C U) := by
  intro vs κ h wv hx w s
  unfold hart_hart_put.C at hx
  split at hx
  · rename_i a1 a2 a3 a4
    refine postImp (ret := hart_hart_put.ret (fun r1 r2 r3 r4 r5 h => κ (.agg [.int .i64 r1, .int .u64 r2, .int .u64 r3, .bool r4, .int .i64 r5]) h)) (fun v h hr => by unfold hart_hart_put.ret at hr; split at hr; exact hr; exact hr.elim) ?_
    exact calls_of_pts (E := hart_hart_put.E U (fun r1 r2 r3 r4 r5 h => κ (.agg [.int .i64 r1, .int .u64 r2, .int .u64 r3, .bool r4, .int .i64 r5]) h) []) (envOK seatOK (hart_hart_put.callsOK hU) hU) seatOK.mixed hart_hart_put.fun (Nat.le_of_ble_eq_true rfl) wv (cutL_ok trivial) s (fuel := 3000) (by rw [← hart_hart_put.e]; exact hx)
  · exact hx.elim

noncomputable def hart_hart_sc.code : Code := Go.Proofs.Tryz.f50.body.getD .skip

theorem hart_hart_sc.fun : Fun sg.P 50 39 [.cell 2 86] hart_hart_sc.code := mkFun Go.Proofs.Tryz.func50 (by kernel_rfl) (by kernel_rfl) (by kernel_rfl) (by kernel_rfl)

def hart_hart_sc.ret (Q : Int → Int → Int → Bool → Int → Heap → Prop) (v : V) (h : Heap) : Prop :=
  match v with
  | .agg [.int .i64 r1, .int .u64 r2, .int .u64 r3, .bool r4, .int .i64 r5] => Q r1 r2 r3 r4 r5 h
  | _ => False

def hart_hart_sc.C (U : Ifc) (vs : List V) (κ : V → Heap → Prop) (h : Heap) : Prop :=
  match vs with
  | [.ptr a1] => hart_hart_sc U a1 (fun r1 r2 r3 r4 r5 h => κ (.agg [.int .i64 r1, .int .u64 r2, .int .u64 r3, .bool r4, .int .i64 r5]) h) h
  | _ => False

noncomputable def hart_hart_sc.calls (U : Ifc) : List (Nat × (List V → (V → Heap → Prop) → Heap → Prop)) := [(196, hart_hart_set.C), (197, hart_hart_a.C), (199, hart_hart_reach.C U), (203, hart_hart_put.C U), (202, hart_hart_bb.C)]

noncomputable def hart_hart_sc.E (U : Ifc) (Q : Int → Int → Int → Bool → Int → Heap → Prop) (cuts : List (Nat × (List Nat × (List V → Heap → Prop)))) : Env := { tis := tisT, fns := fnsT, tys := tysT, gls := glsT, rts := rtsT, unk := [], nxt := [], calls := hart_hart_sc.calls U, ifc := U, cuts := cuts, ret := hart_hart_sc.ret Q, rets := [.cell 2 86], n := 39 }

theorem hart_hart_sc.callsOK {W0 : World} {U : Ifc} (hU : IfcOK sg W0 glsT U) : CallsOK sg W0 (hart_hart_sc.calls U) := ⟨hart_hart_set.S, hart_hart_a.S, (hart_hart_reach.S hU), (hart_hart_put.S hU), hart_hart_bb.S, trivial⟩

def hart_hart_sc.k9 (I : (Option Ptr) → Ptr → Ptr → Heap → Prop) (vs : List V) (h : Heap) : Prop :=
  match vs with
  | [.ptr a1, .ptr (some a2), .ptr (some a3)] => I a1 a2 a3 h
  | _ => False

theorem hart_hart_sc.p9 : (posC hart_hart_sc.code []).filter (fun p => Nat.beq p.1 9) = [(9, atPos (posC hart_hart_sc.code []) 9)] := by kernel_rfl

theorem hart_hart_sc.e9 : ∀ (U : Ifc)  (a1 : Option Ptr) (a2 : Ptr) (a3 : Ptr) (Q : Int → Int → Int → Bool → Int → Heap → Prop) (h : Heap), hart_hart_sc.j9 U  a1 a2 a3 Q h = pts (hart_hart_sc.E U Q []) 3000 true (atPos (posC hart_hart_sc.code []) 9) (frAt [0, 2, 5] [.ptr a1, .ptr (some a2), .ptr (some a3)]) h := by
  intros; kernel_rfl

theorem hart_hart_sc.s9 {W0 : World} {U : Ifc} (hU : IfcOK sg W0 glsT U) (Q : Int → Int → Int → Bool → Int → Heap → Prop)   : CutOK sg W0 39 (entered 50) (Post sg W0 (hart_hart_sc.ret Q)) (posC hart_hart_sc.code []) 9 [0, 2, 5] (hart_hart_sc.k9 (fun a1 a2 a3 h => hart_hart_sc.j9 U  a1 a2 a3 Q h)) := by
  refine cutOK_head (fun vs h hk => ?_)
  unfold hart_hart_sc.k9 at hk
  split at hk
  · rename_i a1 a2 a3
    intro todo hm ρ a w s f hp
    exact piece (E := hart_hart_sc.E U Q []) (vs := [.ptr a1, .ptr (some a2), .ptr (some a3)]) (envOK seatOK (hart_hart_sc.callsOK hU) hU) (fnOK seatOK hart_hart_sc.fun) trivial hart_hart_sc.p9 (fuel := 3000) (by rw [← hart_hart_sc.e9]; exact hk) hm s f hp
  · exact hk.elim

theorem hart_hart_sc.e : ∀ (U : Ifc) (a1 : Option Ptr) (Q : Int → Int → Int → Bool → Int → Heap → Prop) (h : Heap), hart_hart_sc U a1 Q h = pts (hart_hart_sc.E U Q [(9, ([0, 2, 5], hart_hart_sc.k9 (fun a1 a2 a3 h => hart_hart_sc.j9 U  a1 a2 a3 Q h)))]) 3000 true [.code hart_hart_sc.code] (frOf 0 [.ptr a1]) h := by
  intros; kernel_rfl

theorem hart_hart_sc.S {W0 : World} {U : Ifc} (hU : IfcOK sg W0 glsT U) : FnS sg W0 150 (hart_hart_sc.C U) := by
  intro vs κ h wv hx w s
  unfold hart_hart_sc.C at hx
  split at hx
  · rename_i a1
    refine postImp (ret := hart_hart_sc.ret (fun r1 r2 r3 r4 r5 h => κ (.agg [.int .i64 r1, .int .u64 r2, .int .u64 r3, .bool r4, .int .i64 r5]) h)) (fun v h hr => by unfold hart_hart_sc.ret at hr; split at hr; exact hr; exact hr.elim) ?_
    exact calls_of_pts (E := hart_hart_sc.E U (fun r1 r2 r3 r4 r5 h => κ (.agg [.int .i64 r1, .int .u64 r2, .int .u64 r3, .bool r4, .int .i64 r5]) h) [(9, ([0, 2, 5], hart_hart_sc.k9 (fun a1 a2 a3 h => hart_hart_sc.j9 U  a1 a2 a3 (fun r1 r2 r3 r4 r5 h => κ (.agg [.int .i64 r1, .int .u64 r2, .int .u64 r3, .bool r4, .int .i64 r5]) h) h)))]) (envOK seatOK (hart_hart_sc.callsOK hU) hU) seatOK.mixed hart_hart_sc.fun (Nat.le_of_ble_eq_true rfl) wv (cutL_ok ⟨(hart_hart_sc.s9 hU (fun r1 r2 r3 r4 r5 h => κ (.agg [.int .i64 r1, .int .u64 r2, .int .u64 r3, .bool r4, .int .i64 r5]) h)), trivial⟩) s (fuel := 3000) (by rw [← hart_hart_sc.e]; exact hx)
  · exact hx.elim

noncomputable def hart_hart_amo.code : Code := Go.Proofs.Tryz.f51.body.getD .skip

theorem hart_hart_amo.fun : Fun sg.P 51 43 [.cell 2 86] hart_hart_amo.code := mkFun Go.Proofs.Tryz.func51 (by kernel_rfl) (by kernel_rfl) (by kernel_rfl) (by kernel_rfl)

def hart_hart_amo.ret (Q : Int → Int → Int → Bool → Int → Heap → Prop) (v : V) (h : Heap) : Prop :=
  match v with
  | .agg [.int .i64 r1, .int .u64 r2, .int .u64 r3, .bool r4, .int .i64 r5] => Q r1 r2 r3 r4 r5 h
  | _ => False

def hart_hart_amo.C (U : Ifc) (vs : List V) (κ : V → Heap → Prop) (h : Heap) : Prop :=
  match vs with
  | [.ptr a1] => hart_hart_amo U a1 (fun r1 r2 r3 r4 r5 h => κ (.agg [.int .i64 r1, .int .u64 r2, .int .u64 r3, .bool r4, .int .i64 r5]) h) h
  | _ => False

noncomputable def hart_hart_amo.calls (U : Ifc) : List (Nat × (List V → (V → Heap → Prop) → Heap → Prop)) := [(196, hart_hart_set.C), (197, hart_hart_a.C), (201, hart_hart_get.C U), (203, hart_hart_put.C U), (202, hart_hart_bb.C)]

noncomputable def hart_hart_amo.E (U : Ifc) (Q : Int → Int → Int → Bool → Int → Heap → Prop) (cuts : List (Nat × (List Nat × (List V → Heap → Prop)))) : Env := { tis := tisT, fns := fnsT, tys := tysT, gls := glsT, rts := rtsT, unk := [], nxt := [], calls := hart_hart_amo.calls U, ifc := U, cuts := cuts, ret := hart_hart_amo.ret Q, rets := [.cell 2 86], n := 43 }

theorem hart_hart_amo.callsOK {W0 : World} {U : Ifc} (hU : IfcOK sg W0 glsT U) : CallsOK sg W0 (hart_hart_amo.calls U) := ⟨hart_hart_set.S, hart_hart_a.S, (hart_hart_get.S hU), (hart_hart_put.S hU), hart_hart_bb.S, trivial⟩

def hart_hart_amo.k7 (I : (Option Ptr) → Ptr → Int → Int → Int → Int → Ptr → Heap → Prop) (vs : List V) (h : Heap) : Prop :=
  match vs with
  | [.ptr a1, .ptr (some a2), .int .u64 a3, .int .u64 a4, .int .u64 a5, .int .u64 a6, .ptr (some a7)] => I a1 a2 a3 a4 a5 a6 a7 h
  | _ => False

def hart_hart_amo.k6 (I : (Option Ptr) → Ptr → Int → Int → Int → Int → Ptr → Heap → Prop) (vs : List V) (h : Heap) : Prop :=
  match vs with
  | [.ptr a1, .ptr (some a2), .int .u64 a3, .int .u64 a4, .int .u64 a5, .int .u64 a6, .ptr (some a7)] => I a1 a2 a3 a4 a5 a6 a7 h
  | _ => False

theorem hart_hart_amo.p7 : (posC hart_hart_amo.code []).filter (fun p => Nat.beq p.1 7) = [(7, atPos (posC hart_hart_amo.code []) 7)] := by kernel_rfl

theorem hart_hart_amo.e7 : ∀ (U : Ifc)  (a1 : Option Ptr) (a2 : Ptr) (a3 : Int) (a4 : Int) (a5 : Int) (a6 : Int) (a7 : Ptr) (Q : Int → Int → Int → Bool → Int → Heap → Prop) (h : Heap), hart_hart_amo.j7 U  a1 a2 a3 a4 a5 a6 a7 Q h = pts (hart_hart_amo.E U Q []) 3000 true (atPos (posC hart_hart_amo.code []) 7) (frAt [0, 2, 3, 4, 5, 6, 7] [.ptr a1, .ptr (some a2), .int .u64 a3, .int .u64 a4, .int .u64 a5, .int .u64 a6, .ptr (some a7)]) h := by
  intros; kernel_rfl

theorem hart_hart_amo.s7 {W0 : World} {U : Ifc} (hU : IfcOK sg W0 glsT U) (Q : Int → Int → Int → Bool → Int → Heap → Prop)   : CutOK sg W0 43 (entered 51) (Post sg W0 (hart_hart_amo.ret Q)) (posC hart_hart_amo.code []) 7 [0, 2, 3, 4, 5, 6, 7] (hart_hart_amo.k7 (fun a1 a2 a3 a4 a5 a6 a7 h => hart_hart_amo.j7 U  a1 a2 a3 a4 a5 a6 a7 Q h)) := by
  refine cutOK_head (fun vs h hk => ?_)
  unfold hart_hart_amo.k7 at hk
  split at hk
  · rename_i a1 a2 a3 a4 a5 a6 a7
    intro todo hm ρ a w s f hp
    exact piece (E := hart_hart_amo.E U Q []) (vs := [.ptr a1, .ptr (some a2), .int .u64 a3, .int .u64 a4, .int .u64 a5, .int .u64 a6, .ptr (some a7)]) (envOK seatOK (hart_hart_amo.callsOK hU) hU) (fnOK seatOK hart_hart_amo.fun) trivial hart_hart_amo.p7 (fuel := 3000) (by rw [← hart_hart_amo.e7]; exact hk) hm s f hp
  · exact hk.elim

theorem hart_hart_amo.p6 : (posC hart_hart_amo.code []).filter (fun p => Nat.beq p.1 6) = [(6, atPos (posC hart_hart_amo.code []) 6)] := by kernel_rfl

theorem hart_hart_amo.e6 : ∀ (U : Ifc)  (a1 : Option Ptr) (a2 : Ptr) (a3 : Int) (a4 : Int) (a5 : Int) (a6 : Int) (a7 : Ptr) (Q : Int → Int → Int → Bool → Int → Heap → Prop) (h : Heap), hart_hart_amo.j6 U  a1 a2 a3 a4 a5 a6 a7 Q h = pts (hart_hart_amo.E U Q [(7, ([0, 2, 3, 4, 5, 6, 7], hart_hart_amo.k7 (fun a1 a2 a3 a4 a5 a6 a7 h => hart_hart_amo.j7 U  a1 a2 a3 a4 a5 a6 a7 Q h)))]) 3000 true (atPos (posC hart_hart_amo.code []) 6) (frAt [0, 2, 3, 4, 5, 6, 7] [.ptr a1, .ptr (some a2), .int .u64 a3, .int .u64 a4, .int .u64 a5, .int .u64 a6, .ptr (some a7)]) h := by
  intros; kernel_rfl

theorem hart_hart_amo.s6 {W0 : World} {U : Ifc} (hU : IfcOK sg W0 glsT U) (Q : Int → Int → Int → Bool → Int → Heap → Prop)   : CutOK sg W0 43 (entered 51) (Post sg W0 (hart_hart_amo.ret Q)) (posC hart_hart_amo.code []) 6 [0, 2, 3, 4, 5, 6, 7] (hart_hart_amo.k6 (fun a1 a2 a3 a4 a5 a6 a7 h => hart_hart_amo.j6 U  a1 a2 a3 a4 a5 a6 a7 Q h)) := by
  refine cutOK_head (fun vs h hk => ?_)
  unfold hart_hart_amo.k6 at hk
  split at hk
  · rename_i a1 a2 a3 a4 a5 a6 a7
    intro todo hm ρ a w s f hp
    exact piece (E := hart_hart_amo.E U Q [(7, ([0, 2, 3, 4, 5, 6, 7], hart_hart_amo.k7 (fun a1 a2 a3 a4 a5 a6 a7 h => hart_hart_amo.j7 U  a1 a2 a3 a4 a5 a6 a7 Q h)))]) (vs := [.ptr a1, .ptr (some a2), .int .u64 a3, .int .u64 a4, .int .u64 a5, .int .u64 a6, .ptr (some a7)]) (envOK seatOK (hart_hart_amo.callsOK hU) hU) (fnOK seatOK hart_hart_amo.fun) ⟨(hart_hart_amo.s7 hU Q  ), trivial⟩ hart_hart_amo.p6 (fuel := 3000) (by rw [← hart_hart_amo.e6]; exact hk) hm s f hp
  · exact hk.elim

theorem hart_hart_amo.e : ∀ (U : Ifc) (a1 : Option Ptr) (Q : Int → Int → Int → Bool → Int → Heap → Prop) (h : Heap), hart_hart_amo U a1 Q h = pts (hart_hart_amo.E U Q [(6, ([0, 2, 3, 4, 5, 6, 7], hart_hart_amo.k6 (fun a1 a2 a3 a4 a5 a6 a7 h => hart_hart_amo.j6 U  a1 a2 a3 a4 a5 a6 a7 Q h))), (7, ([0, 2, 3, 4, 5, 6, 7], hart_hart_amo.k7 (fun a1 a2 a3 a4 a5 a6 a7 h => hart_hart_amo.j7 U  a1 a2 a3 a4 a5 a6 a7 Q h)))]) 3000 true [.code hart_hart_amo.code] (frOf 0 [.ptr a1]) h := by
  intros; kernel_rfl

theorem hart_hart_amo.S {W0 : World} {U : Ifc} (hU : IfcOK sg W0 glsT U) : FnS sg W0 151 (hart_hart_amo.C U) := by
  intro vs κ h wv hx w s
  unfold hart_hart_amo.C at hx
  split at hx
  · rename_i a1
    refine postImp (ret := hart_hart_amo.ret (fun r1 r2 r3 r4 r5 h => κ (.agg [.int .i64 r1, .int .u64 r2, .int .u64 r3, .bool r4, .int .i64 r5]) h)) (fun v h hr => by unfold hart_hart_amo.ret at hr; split at hr; exact hr; exact hr.elim) ?_
    exact calls_of_pts (E := hart_hart_amo.E U (fun r1 r2 r3 r4 r5 h => κ (.agg [.int .i64 r1, .int .u64 r2, .int .u64 r3, .bool r4, .int .i64 r5]) h) [(6, ([0, 2, 3, 4, 5, 6, 7], hart_hart_amo.k6 (fun a1 a2 a3 a4 a5 a6 a7 h => hart_hart_amo.j6 U  a1 a2 a3 a4 a5 a6 a7 (fun r1 r2 r3 r4 r5 h => κ (.agg [.int .i64 r1, .int .u64 r2, .int .u64 r3, .bool r4, .int .i64 r5]) h) h))), (7, ([0, 2, 3, 4, 5, 6, 7], hart_hart_amo.k7 (fun a1 a2 a3 a4 a5 a6 a7 h => hart_hart_amo.j7 U  a1 a2 a3 a4 a5 a6 a7 (fun r1 r2 r3 r4 r5 h => κ (.agg [.int .i64 r1, .int .u64 r2, .int .u64 r3, .bool r4, .int .i64 r5]) h) h)))]) (envOK seatOK (hart_hart_amo.callsOK hU) hU) seatOK.mixed hart_hart_amo.fun (Nat.le_of_ble_eq_true rfl) wv (cutL_ok ⟨(hart_hart_amo.s6 hU (fun r1 r2 r3 r4 r5 h => κ (.agg [.int .i64 r1, .int .u64 r2, .int .u64 r3, .bool r4, .int .i64 r5]) h)), (hart_hart_amo.s7 hU (fun r1 r2 r3 r4 r5 h => κ (.agg [.int .i64 r1, .int .u64 r2, .int .u64 r3, .bool r4, .int .i64 r5]) h)), trivial⟩) s (fuel := 3000) (by rw [← hart_hart_amo.e]; exact hx)
  · exact hx.elim

noncomputable def hart_hart_nothing.code : Code := Go.Proofs.Tryz.f52.body.getD .skip

theorem hart_hart_nothing.fun : Fun sg.P 52 4 [.cell 2 86] hart_hart_nothing.code := mkFun Go.Proofs.Tryz.func52 (by kernel_rfl) (by kernel_rfl) (by kernel_rfl) (by kernel_rfl)

def hart_hart_nothing.ret (Q : Int → Int → Int → Bool → Int → Heap → Prop) (v : V) (h : Heap) : Prop :=
  match v with
  | .agg [.int .i64 r1, .int .u64 r2, .int .u64 r3, .bool r4, .int .i64 r5] => Q r1 r2 r3 r4 r5 h
  | _ => False

def hart_hart_nothing.C (vs : List V) (κ : V → Heap → Prop) (h : Heap) : Prop :=
  match vs with
  | [.ptr a1] => hart_hart_nothing a1 (fun r1 r2 r3 r4 r5 h => κ (.agg [.int .i64 r1, .int .u64 r2, .int .u64 r3, .bool r4, .int .i64 r5]) h) h
  | _ => False

noncomputable def hart_hart_nothing.calls : List (Nat × (List V → (V → Heap → Prop) → Heap → Prop)) := []

noncomputable def hart_hart_nothing.E (Q : Int → Int → Int → Bool → Int → Heap → Prop) (cuts : List (Nat × (List Nat × (List V → Heap → Prop)))) : Env := { tis := tisT, fns := fnsT, tys := tysT, gls := [], rts := rtsT, unk := [], nxt := [], calls := hart_hart_nothing.calls, ifc := noIfc, cuts := cuts, ret := hart_hart_nothing.ret Q, rets := [.cell 2 86], n := 4 }

theorem hart_hart_nothing.callsOK {W0 : World} : CallsOK sg W0 hart_hart_nothing.calls := trivial

theorem hart_hart_nothing.e : ∀ (a1 : Option Ptr) (Q : Int → Int → Int → Bool → Int → Heap → Prop) (h : Heap), hart_hart_nothing a1 Q h = pts (hart_hart_nothing.E Q []) 3000 true [.code hart_hart_nothing.code] (frOf 0 [.ptr a1]) h := by
  intros; kernel_rfl

theorem hart_hart_nothing.S {W0 : World} : FnS sg W0 152 hart_hart_nothing.C := by
  intro vs κ h wv hx w s
  unfold hart_hart_nothing.C at hx
  split at hx
  · rename_i a1
    refine postImp (ret := hart_hart_nothing.ret (fun r1 r2 r3 r4 r5 h => κ (.agg [.int .i64 r1, .int .u64 r2, .int .u64 r3, .bool r4, .int .i64 r5]) h)) (fun v h hr => by unfold hart_hart_nothing.ret at hr; split at hr; exact hr; exact hr.elim) ?_
    exact calls_of_pts (E := hart_hart_nothing.E (fun r1 r2 r3 r4 r5 h => κ (.agg [.int .i64 r1, .int .u64 r2, .int .u64 r3, .bool r4, .int .i64 r5]) h) []) (envOK seatOK hart_hart_nothing.callsOK noIfc_ok) seatOK.mixed hart_hart_nothing.fun (Nat.le_of_ble_eq_true rfl) wv (cutL_ok trivial) s (fuel := 3000) (by rw [← hart_hart_nothing.e]; exact hx)
  · exact hx.elim

noncomputable def hart_hart_ecall.code : Code := Go.Proofs.Tryz.f53.body.getD .skip

theorem hart_hart_ecall.fun : Fun sg.P 53 8 [.cell 2 86] hart_hart_ecall.code := mkFun Go.Proofs.Tryz.func53 (by kernel_rfl) (by kernel_rfl) (by kernel_rfl) (by kernel_rfl)

def hart_hart_ecall.ret (Q : Int → Int → Int → Bool → Int → Heap → Prop) (v : V) (h : Heap) : Prop :=
  match v with
  | .agg [.int .i64 r1, .int .u64 r2, .int .u64 r3, .bool r4, .int .i64 r5] => Q r1 r2 r3 r4 r5 h
  | _ => False

def hart_hart_ecall.C (vs : List V) (κ : V → Heap → Prop) (h : Heap) : Prop :=
  match vs with
  | [.ptr a1] => hart_hart_ecall a1 (fun r1 r2 r3 r4 r5 h => κ (.agg [.int .i64 r1, .int .u64 r2, .int .u64 r3, .bool r4, .int .i64 r5]) h) h
  | _ => False

noncomputable def hart_hart_ecall.calls : List (Nat × (List V → (V → Heap → Prop) → Heap → Prop)) := [(165, hart_trap.C), (167, hart_hart_user.C)]

noncomputable def hart_hart_ecall.E (Q : Int → Int → Int → Bool → Int → Heap → Prop) (cuts : List (Nat × (List Nat × (List V → Heap → Prop)))) : Env := { tis := tisT, fns := fnsT, tys := tysT, gls := [], rts := rtsT, unk := [], nxt := [], calls := hart_hart_ecall.calls, ifc := noIfc, cuts := cuts, ret := hart_hart_ecall.ret Q, rets := [.cell 2 86], n := 8 }

theorem hart_hart_ecall.callsOK {W0 : World} : CallsOK sg W0 hart_hart_ecall.calls := ⟨hart_trap.S, hart_hart_user.S, trivial⟩

theorem hart_hart_ecall.e : ∀ (a1 : Option Ptr) (Q : Int → Int → Int → Bool → Int → Heap → Prop) (h : Heap), hart_hart_ecall a1 Q h = pts (hart_hart_ecall.E Q []) 3000 true [.code hart_hart_ecall.code] (frOf 0 [.ptr a1]) h := by
  intros; kernel_rfl

theorem hart_hart_ecall.S {W0 : World} : FnS sg W0 153 hart_hart_ecall.C := by
  intro vs κ h wv hx w s
  unfold hart_hart_ecall.C at hx
  split at hx
  · rename_i a1
    refine postImp (ret := hart_hart_ecall.ret (fun r1 r2 r3 r4 r5 h => κ (.agg [.int .i64 r1, .int .u64 r2, .int .u64 r3, .bool r4, .int .i64 r5]) h)) (fun v h hr => by unfold hart_hart_ecall.ret at hr; split at hr; exact hr; exact hr.elim) ?_
    exact calls_of_pts (E := hart_hart_ecall.E (fun r1 r2 r3 r4 r5 h => κ (.agg [.int .i64 r1, .int .u64 r2, .int .u64 r3, .bool r4, .int .i64 r5]) h) []) (envOK seatOK hart_hart_ecall.callsOK noIfc_ok) seatOK.mixed hart_hart_ecall.fun (Nat.le_of_ble_eq_true rfl) wv (cutL_ok trivial) s (fuel := 3000) (by rw [← hart_hart_ecall.e]; exact hx)
  · exact hx.elim

noncomputable def hart_hart_sret.code : Code := Go.Proofs.Tryz.f54.body.getD .skip

theorem hart_hart_sret.fun : Fun sg.P 54 25 [.cell 2 86] hart_hart_sret.code := mkFun Go.Proofs.Tryz.func54 (by kernel_rfl) (by kernel_rfl) (by kernel_rfl) (by kernel_rfl)

def hart_hart_sret.ret (Q : Int → Int → Int → Bool → Int → Heap → Prop) (v : V) (h : Heap) : Prop :=
  match v with
  | .agg [.int .i64 r1, .int .u64 r2, .int .u64 r3, .bool r4, .int .i64 r5] => Q r1 r2 r3 r4 r5 h
  | _ => False

def hart_hart_sret.C (vs : List V) (κ : V → Heap → Prop) (h : Heap) : Prop :=
  match vs with
  | [.ptr a1] => hart_hart_sret a1 (fun r1 r2 r3 r4 r5 h => κ (.agg [.int .i64 r1, .int .u64 r2, .int .u64 r3, .bool r4, .int .i64 r5]) h) h
  | _ => False

noncomputable def hart_hart_sret.calls : List (Nat × (List V → (V → Heap → Prop) → Heap → Prop)) := [(167, hart_hart_user.C), (183, hart_hart_illegal.C)]

noncomputable def hart_hart_sret.E (Q : Int → Int → Int → Bool → Int → Heap → Prop) (cuts : List (Nat × (List Nat × (List V → Heap → Prop)))) : Env := { tis := tisT, fns := fnsT, tys := tysT, gls := [], rts := rtsT, unk := [], nxt := [], calls := hart_hart_sret.calls, ifc := noIfc, cuts := cuts, ret := hart_hart_sret.ret Q, rets := [.cell 2 86], n := 25 }

theorem hart_hart_sret.callsOK {W0 : World} : CallsOK sg W0 hart_hart_sret.calls := ⟨hart_hart_user.S, hart_hart_illegal.S, trivial⟩

theorem hart_hart_sret.e : ∀ (a1 : Option Ptr) (Q : Int → Int → Int → Bool → Int → Heap → Prop) (h : Heap), hart_hart_sret a1 Q h = pts (hart_hart_sret.E Q []) 3000 true [.code hart_hart_sret.code] (frOf 0 [.ptr a1]) h := by
  intros; kernel_rfl

theorem hart_hart_sret.S {W0 : World} : FnS sg W0 154 hart_hart_sret.C := by
  intro vs κ h wv hx w s
  unfold hart_hart_sret.C at hx
  split at hx
  · rename_i a1
    refine postImp (ret := hart_hart_sret.ret (fun r1 r2 r3 r4 r5 h => κ (.agg [.int .i64 r1, .int .u64 r2, .int .u64 r3, .bool r4, .int .i64 r5]) h)) (fun v h hr => by unfold hart_hart_sret.ret at hr; split at hr; exact hr; exact hr.elim) ?_
    exact calls_of_pts (E := hart_hart_sret.E (fun r1 r2 r3 r4 r5 h => κ (.agg [.int .i64 r1, .int .u64 r2, .int .u64 r3, .bool r4, .int .i64 r5]) h) []) (envOK seatOK hart_hart_sret.callsOK noIfc_ok) seatOK.mixed hart_hart_sret.fun (Nat.le_of_ble_eq_true rfl) wv (cutL_ok trivial) s (fuel := 3000) (by rw [← hart_hart_sret.e]; exact hx)
  · exact hx.elim

noncomputable def hart_hart_wfi.code : Code := Go.Proofs.Tryz.f55.body.getD .skip

theorem hart_hart_wfi.fun : Fun sg.P 55 18 [.cell 2 86] hart_hart_wfi.code := mkFun Go.Proofs.Tryz.func55 (by kernel_rfl) (by kernel_rfl) (by kernel_rfl) (by kernel_rfl)

def hart_hart_wfi.ret (Q : Int → Int → Int → Bool → Int → Heap → Prop) (v : V) (h : Heap) : Prop :=
  match v with
  | .agg [.int .i64 r1, .int .u64 r2, .int .u64 r3, .bool r4, .int .i64 r5] => Q r1 r2 r3 r4 r5 h
  | _ => False

def hart_hart_wfi.C (vs : List V) (κ : V → Heap → Prop) (h : Heap) : Prop :=
  match vs with
  | [.ptr a1] => hart_hart_wfi a1 (fun r1 r2 r3 r4 r5 h => κ (.agg [.int .i64 r1, .int .u64 r2, .int .u64 r3, .bool r4, .int .i64 r5]) h) h
  | _ => False

noncomputable def hart_hart_wfi.calls : List (Nat × (List V → (V → Heap → Prop) → Heap → Prop)) := [(167, hart_hart_user.C), (183, hart_hart_illegal.C)]

noncomputable def hart_hart_wfi.E (Q : Int → Int → Int → Bool → Int → Heap → Prop) (cuts : List (Nat × (List Nat × (List V → Heap → Prop)))) : Env := { tis := tisT, fns := fnsT, tys := tysT, gls := [], rts := rtsT, unk := [], nxt := [], calls := hart_hart_wfi.calls, ifc := noIfc, cuts := cuts, ret := hart_hart_wfi.ret Q, rets := [.cell 2 86], n := 18 }

theorem hart_hart_wfi.callsOK {W0 : World} : CallsOK sg W0 hart_hart_wfi.calls := ⟨hart_hart_user.S, hart_hart_illegal.S, trivial⟩

theorem hart_hart_wfi.e : ∀ (a1 : Option Ptr) (Q : Int → Int → Int → Bool → Int → Heap → Prop) (h : Heap), hart_hart_wfi a1 Q h = pts (hart_hart_wfi.E Q []) 3000 true [.code hart_hart_wfi.code] (frOf 0 [.ptr a1]) h := by
  intros; kernel_rfl

theorem hart_hart_wfi.S {W0 : World} : FnS sg W0 155 hart_hart_wfi.C := by
  intro vs κ h wv hx w s
  unfold hart_hart_wfi.C at hx
  split at hx
  · rename_i a1
    refine postImp (ret := hart_hart_wfi.ret (fun r1 r2 r3 r4 r5 h => κ (.agg [.int .i64 r1, .int .u64 r2, .int .u64 r3, .bool r4, .int .i64 r5]) h)) (fun v h hr => by unfold hart_hart_wfi.ret at hr; split at hr; exact hr; exact hr.elim) ?_
    exact calls_of_pts (E := hart_hart_wfi.E (fun r1 r2 r3 r4 r5 h => κ (.agg [.int .i64 r1, .int .u64 r2, .int .u64 r3, .bool r4, .int .i64 r5]) h) []) (envOK seatOK hart_hart_wfi.callsOK noIfc_ok) seatOK.mixed hart_hart_wfi.fun (Nat.le_of_ble_eq_true rfl) wv (cutL_ok trivial) s (fuel := 3000) (by rw [← hart_hart_wfi.e]; exact hx)
  · exact hx.elim

noncomputable def hart_hart_sfence.code : Code := Go.Proofs.Tryz.f56.body.getD .skip

theorem hart_hart_sfence.fun : Fun sg.P 56 12 [.cell 2 86] hart_hart_sfence.code := mkFun Go.Proofs.Tryz.func56 (by kernel_rfl) (by kernel_rfl) (by kernel_rfl) (by kernel_rfl)

def hart_hart_sfence.ret (Q : Int → Int → Int → Bool → Int → Heap → Prop) (v : V) (h : Heap) : Prop :=
  match v with
  | .agg [.int .i64 r1, .int .u64 r2, .int .u64 r3, .bool r4, .int .i64 r5] => Q r1 r2 r3 r4 r5 h
  | _ => False

def hart_hart_sfence.C (vs : List V) (κ : V → Heap → Prop) (h : Heap) : Prop :=
  match vs with
  | [.ptr a1] => hart_hart_sfence a1 (fun r1 r2 r3 r4 r5 h => κ (.agg [.int .i64 r1, .int .u64 r2, .int .u64 r3, .bool r4, .int .i64 r5]) h) h
  | _ => False

noncomputable def hart_hart_sfence.calls : List (Nat × (List V → (V → Heap → Prop) → Heap → Prop)) := [(167, hart_hart_user.C), (183, hart_hart_illegal.C)]

noncomputable def hart_hart_sfence.E (Q : Int → Int → Int → Bool → Int → Heap → Prop) (cuts : List (Nat × (List Nat × (List V → Heap → Prop)))) : Env := { tis := tisT, fns := fnsT, tys := tysT, gls := [], rts := rtsT, unk := [], nxt := [], calls := hart_hart_sfence.calls, ifc := noIfc, cuts := cuts, ret := hart_hart_sfence.ret Q, rets := [.cell 2 86], n := 12 }

theorem hart_hart_sfence.callsOK {W0 : World} : CallsOK sg W0 hart_hart_sfence.calls := ⟨hart_hart_user.S, hart_hart_illegal.S, trivial⟩

theorem hart_hart_sfence.e : ∀ (a1 : Option Ptr) (Q : Int → Int → Int → Bool → Int → Heap → Prop) (h : Heap), hart_hart_sfence a1 Q h = pts (hart_hart_sfence.E Q []) 3000 true [.code hart_hart_sfence.code] (frOf 0 [.ptr a1]) h := by
  intros; kernel_rfl

theorem hart_hart_sfence.S {W0 : World} : FnS sg W0 156 hart_hart_sfence.C := by
  intro vs κ h wv hx w s
  unfold hart_hart_sfence.C at hx
  split at hx
  · rename_i a1
    refine postImp (ret := hart_hart_sfence.ret (fun r1 r2 r3 r4 r5 h => κ (.agg [.int .i64 r1, .int .u64 r2, .int .u64 r3, .bool r4, .int .i64 r5]) h)) (fun v h hr => by unfold hart_hart_sfence.ret at hr; split at hr; exact hr; exact hr.elim) ?_
    exact calls_of_pts (E := hart_hart_sfence.E (fun r1 r2 r3 r4 r5 h => κ (.agg [.int .i64 r1, .int .u64 r2, .int .u64 r3, .bool r4, .int .i64 r5]) h) []) (envOK seatOK hart_hart_sfence.callsOK noIfc_ok) seatOK.mixed hart_hart_sfence.fun (Nat.le_of_ble_eq_true rfl) wv (cutL_ok trivial) s (fuel := 3000) (by rw [← hart_hart_sfence.e]; exact hx)
  · exact hx.elim

noncomputable def hart_hart_math.code : Code := Go.Proofs.Tryz.f57.body.getD .skip

theorem hart_hart_math.fun : Fun sg.P 57 86 [.cell 2 86] hart_hart_math.code := mkFun Go.Proofs.Tryz.func57 (by kernel_rfl) (by kernel_rfl) (by kernel_rfl) (by kernel_rfl)

def hart_hart_math.ret (Q : Int → Int → Int → Bool → Int → Heap → Prop) (v : V) (h : Heap) : Prop :=
  match v with
  | .agg [.int .i64 r1, .int .u64 r2, .int .u64 r3, .bool r4, .int .i64 r5] => Q r1 r2 r3 r4 r5 h
  | _ => False

def hart_hart_math.C (vs : List V) (κ : V → Heap → Prop) (h : Heap) : Prop :=
  match vs with
  | [.ptr a1] => hart_hart_math a1 (fun r1 r2 r3 r4 r5 h => κ (.agg [.int .i64 r1, .int .u64 r2, .int .u64 r3, .bool r4, .int .i64 r5]) h) h
  | _ => False

noncomputable def hart_hart_math.calls : List (Nat × (List V → (V → Heap → Prop) → Heap → Prop)) := [(195, hart_hart_imm.C), (197, hart_hart_a.C), (202, hart_hart_bb.C)]

noncomputable def hart_hart_math.E (Q : Int → Int → Int → Bool → Int → Heap → Prop) (cuts : List (Nat × (List Nat × (List V → Heap → Prop)))) : Env := { tis := tisT, fns := fnsT, tys := tysT, gls := [], rts := rtsT, unk := [], nxt := [], calls := hart_hart_math.calls, ifc := noIfc, cuts := cuts, ret := hart_hart_math.ret Q, rets := [.cell 2 86], n := 86 }

theorem hart_hart_math.callsOK {W0 : World} : CallsOK sg W0 hart_hart_math.calls := ⟨hart_hart_imm.S, hart_hart_a.S, hart_hart_bb.S, trivial⟩

def hart_hart_math.k5 (I : (Option Ptr) → Ptr → Int → Int → Int → Heap → Prop) (vs : List V) (h : Heap) : Prop :=
  match vs with
  | [.ptr a1, .ptr (some a2), .int .u64 a3, .int .u64 a4, .int .i64 a5] => I a1 a2 a3 a4 a5 h
  | _ => False

theorem hart_hart_math.p5 : (posC hart_hart_math.code []).filter (fun p => Nat.beq p.1 5) = [(5, atPos (posC hart_hart_math.code []) 5)] := by kernel_rfl

theorem hart_hart_math.e5 : ∀  (a1 : Option Ptr) (a2 : Ptr) (a3 : Int) (a4 : Int) (a5 : Int) (Q : Int → Int → Int → Bool → Int → Heap → Prop) (h : Heap), hart_hart_math.j5  a1 a2 a3 a4 a5 Q h = pts (hart_hart_math.E Q []) 3000 true (atPos (posC hart_hart_math.code []) 5) (frAt [0, 2, 3, 4, 5] [.ptr a1, .ptr (some a2), .int .u64 a3, .int .u64 a4, .int .i64 a5]) h := by
  intros; kernel_rfl

theorem hart_hart_math.s5 {W0 : World} (Q : Int → Int → Int → Bool → Int → Heap → Prop)   : CutOK sg W0 86 (entered 57) (Post sg W0 (hart_hart_math.ret Q)) (posC hart_hart_math.code []) 5 [0, 2, 3, 4, 5] (hart_hart_math.k5 (fun a1 a2 a3 a4 a5 h => hart_hart_math.j5  a1 a2 a3 a4 a5 Q h)) := by
  refine cutOK_head (fun vs h hk => ?_)
  unfold hart_hart_math.k5 at hk
  split at hk
  · rename_i a1 a2 a3 a4 a5
    intro todo hm ρ a w s f hp
    exact piece (E := hart_hart_math.E Q []) (vs := [.ptr a1, .ptr (some a2), .int .u64 a3, .int .u64 a4, .int .i64 a5]) (envOK seatOK hart_hart_math.callsOK noIfc_ok) (fnOK seatOK hart_hart_math.fun) trivial hart_hart_math.p5 (fuel := 3000) (by rw [← hart_hart_math.e5]; exact hk) hm s f hp
  · exact hk.elim

theorem hart_hart_math.e : ∀ (a1 : Option Ptr) (Q : Int → Int → Int → Bool → Int → Heap → Prop) (h : Heap), hart_hart_math a1 Q h = pts (hart_hart_math.E Q [(5, ([0, 2, 3, 4, 5], hart_hart_math.k5 (fun a1 a2 a3 a4 a5 h => hart_hart_math.j5  a1 a2 a3 a4 a5 Q h)))]) 3000 true [.code hart_hart_math.code] (frOf 0 [.ptr a1]) h := by
  intros; kernel_rfl

theorem hart_hart_math.S {W0 : World} : FnS sg W0 157 hart_hart_math.C := by
  intro vs κ h wv hx w s
  unfold hart_hart_math.C at hx
  split at hx
  · rename_i a1
    refine postImp (ret := hart_hart_math.ret (fun r1 r2 r3 r4 r5 h => κ (.agg [.int .i64 r1, .int .u64 r2, .int .u64 r3, .bool r4, .int .i64 r5]) h)) (fun v h hr => by unfold hart_hart_math.ret at hr; split at hr; exact hr; exact hr.elim) ?_
    exact calls_of_pts (E := hart_hart_math.E (fun r1 r2 r3 r4 r5 h => κ (.agg [.int .i64 r1, .int .u64 r2, .int .u64 r3, .bool r4, .int .i64 r5]) h) [(5, ([0, 2, 3, 4, 5], hart_hart_math.k5 (fun a1 a2 a3 a4 a5 h => hart_hart_math.j5  a1 a2 a3 a4 a5 (fun r1 r2 r3 r4 r5 h => κ (.agg [.int .i64 r1, .int .u64 r2, .int .u64 r3, .bool r4, .int .i64 r5]) h) h)))]) (envOK seatOK hart_hart_math.callsOK noIfc_ok) seatOK.mixed hart_hart_math.fun (Nat.le_of_ble_eq_true rfl) wv (cutL_ok ⟨(hart_hart_math.s5 (fun r1 r2 r3 r4 r5 h => κ (.agg [.int .i64 r1, .int .u64 r2, .int .u64 r3, .bool r4, .int .i64 r5]) h)), trivial⟩) s (fuel := 3000) (by rw [← hart_hart_math.e]; exact hx)
  · exact hx.elim

noncomputable def hart_hart_load.code : Code := Go.Proofs.Tryz.f58.body.getD .skip

theorem hart_hart_load.fun : Fun sg.P 58 24 [.cell 2 86] hart_hart_load.code := mkFun Go.Proofs.Tryz.func58 (by kernel_rfl) (by kernel_rfl) (by kernel_rfl) (by kernel_rfl)

def hart_hart_load.ret (Q : Int → Int → Int → Bool → Int → Heap → Prop) (v : V) (h : Heap) : Prop :=
  match v with
  | .agg [.int .i64 r1, .int .u64 r2, .int .u64 r3, .bool r4, .int .i64 r5] => Q r1 r2 r3 r4 r5 h
  | _ => False

def hart_hart_load.C (U : Ifc) (vs : List V) (κ : V → Heap → Prop) (h : Heap) : Prop :=
  match vs with
  | [.ptr a1] => hart_hart_load U a1 (fun r1 r2 r3 r4 r5 h => κ (.agg [.int .i64 r1, .int .u64 r2, .int .u64 r3, .bool r4, .int .i64 r5]) h) h
  | _ => False

noncomputable def hart_hart_load.calls (U : Ifc) : List (Nat × (List V → (V → Heap → Prop) → Heap → Prop)) := [(196, hart_hart_set.C), (195, hart_hart_imm.C), (197, hart_hart_a.C), (201, hart_hart_get.C U)]

noncomputable def hart_hart_load.E (U : Ifc) (Q : Int → Int → Int → Bool → Int → Heap → Prop) (cuts : List (Nat × (List Nat × (List V → Heap → Prop)))) : Env := { tis := tisT, fns := fnsT, tys := tysT, gls := glsT, rts := rtsT, unk := [], nxt := [], calls := hart_hart_load.calls U, ifc := U, cuts := cuts, ret := hart_hart_load.ret Q, rets := [.cell 2 86], n := 24 }

theorem hart_hart_load.callsOK {W0 : World} {U : Ifc} (hU : IfcOK sg W0 glsT U) : CallsOK sg W0 (hart_hart_load.calls U) := ⟨hart_hart_set.S, hart_hart_imm.S, hart_hart_a.S, (hart_hart_get.S hU), trivial⟩

theorem hart_hart_load.e : ∀ (U : Ifc) (a1 : Option Ptr) (Q : Int → Int → Int → Bool → Int → Heap → Prop) (h : Heap), hart_hart_load U a1 Q h = pts (hart_hart_load.E U Q []) 3000 true [.code hart_hart_load.code] (frOf 0 [.ptr a1]) h := by
  intros; kernel_rfl

theorem hart_hart_load.S {W0 : World} {U : Ifc} (hU : IfcOK sg W0 glsT U) : FnS sg W0 158 (hart_hart_load.C U) := by
  intro vs κ h wv hx w s
  unfold hart_hart_load.C at hx
  split at hx
  · rename_i a1
    refine postImp (ret := hart_hart_load.ret (fun r1 r2 r3 r4 r5 h => κ (.agg [.int .i64 r1, .int .u64 r2, .int .u64 r3, .bool r4, .int .i64 r5]) h)) (fun v h hr => by unfold hart_hart_load.ret at hr; split at hr; exact hr; exact hr.elim) ?_
    exact calls_of_pts (E := hart_hart_load.E U (fun r1 r2 r3 r4 r5 h => κ (.agg [.int .i64 r1, .int .u64 r2, .int .u64 r3, .bool r4, .int .i64 r5]) h) []) (envOK seatOK (hart_hart_load.callsOK hU) hU) seatOK.mixed hart_hart_load.fun (Nat.le_of_ble_eq_true rfl) wv (cutL_ok trivial) s (fuel := 3000) (by rw [← hart_hart_load.e]; exact hx)
  · exact hx.elim

noncomputable def hart_hart_store.code : Code := Go.Proofs.Tryz.f59.body.getD .skip

theorem hart_hart_store.fun : Fun sg.P 59 28 [.cell 2 86] hart_hart_store.code := mkFun Go.Proofs.Tryz.func59 (by kernel_rfl) (by kernel_rfl) (by kernel_rfl) (by kernel_rfl)

def hart_hart_store.ret (Q : Int → Int → Int → Bool → Int → Heap → Prop) (v : V) (h : Heap) : Prop :=
  match v with
  | .agg [.int .i64 r1, .int .u64 r2, .int .u64 r3, .bool r4, .int .i64 r5] => Q r1 r2 r3 r4 r5 h
  | _ => False

def hart_hart_store.C (U : Ifc) (vs : List V) (κ : V → Heap → Prop) (h : Heap) : Prop :=
  match vs with
  | [.ptr a1] => hart_hart_store U a1 (fun r1 r2 r3 r4 r5 h => κ (.agg [.int .i64 r1, .int .u64 r2, .int .u64 r3, .bool r4, .int .i64 r5]) h) h
  | _ => False

noncomputable def hart_hart_store.calls (U : Ifc) : List (Nat × (List V → (V → Heap → Prop) → Heap → Prop)) := [(195, hart_hart_imm.C), (197, hart_hart_a.C), (199, hart_hart_reach.C U), (203, hart_hart_put.C U), (202, hart_hart_bb.C), (198, hart_hart_width.C)]

noncomputable def hart_hart_store.E (U : Ifc) (Q : Int → Int → Int → Bool → Int → Heap → Prop) (cuts : List (Nat × (List Nat × (List V → Heap → Prop)))) : Env := { tis := tisT, fns := fnsT, tys := tysT, gls := glsT, rts := rtsT, unk := [], nxt := [], calls := hart_hart_store.calls U, ifc := U, cuts := cuts, ret := hart_hart_store.ret Q, rets := [.cell 2 86], n := 28 }

theorem hart_hart_store.callsOK {W0 : World} {U : Ifc} (hU : IfcOK sg W0 glsT U) : CallsOK sg W0 (hart_hart_store.calls U) := ⟨hart_hart_imm.S, hart_hart_a.S, (hart_hart_reach.S hU), (hart_hart_put.S hU), hart_hart_bb.S, hart_hart_width.S, trivial⟩

theorem hart_hart_store.e : ∀ (U : Ifc) (a1 : Option Ptr) (Q : Int → Int → Int → Bool → Int → Heap → Prop) (h : Heap), hart_hart_store U a1 Q h = pts (hart_hart_store.E U Q []) 3000 true [.code hart_hart_store.code] (frOf 0 [.ptr a1]) h := by
  intros; kernel_rfl

theorem hart_hart_store.S {W0 : World} {U : Ifc} (hU : IfcOK sg W0 glsT U) : FnS sg W0 159 (hart_hart_store.C U) := by
  intro vs κ h wv hx w s
  unfold hart_hart_store.C at hx
  split at hx
  · rename_i a1
    refine postImp (ret := hart_hart_store.ret (fun r1 r2 r3 r4 r5 h => κ (.agg [.int .i64 r1, .int .u64 r2, .int .u64 r3, .bool r4, .int .i64 r5]) h)) (fun v h hr => by unfold hart_hart_store.ret at hr; split at hr; exact hr; exact hr.elim) ?_
    exact calls_of_pts (E := hart_hart_store.E U (fun r1 r2 r3 r4 r5 h => κ (.agg [.int .i64 r1, .int .u64 r2, .int .u64 r3, .bool r4, .int .i64 r5]) h) []) (envOK seatOK (hart_hart_store.callsOK hU) hU) seatOK.mixed hart_hart_store.fun (Nat.le_of_ble_eq_true rfl) wv (cutL_ok trivial) s (fuel := 3000) (by rw [← hart_hart_store.e]; exact hx)
  · exact hx.elim

noncomputable def hart_hart_branch.code : Code := Go.Proofs.Tryz.f60.body.getD .skip

theorem hart_hart_branch.fun : Fun sg.P 60 54 [.cell 2 86] hart_hart_branch.code := mkFun Go.Proofs.Tryz.func60 (by kernel_rfl) (by kernel_rfl) (by kernel_rfl) (by kernel_rfl)

def hart_hart_branch.ret (Q : Int → Int → Int → Bool → Int → Heap → Prop) (v : V) (h : Heap) : Prop :=
  match v with
  | .agg [.int .i64 r1, .int .u64 r2, .int .u64 r3, .bool r4, .int .i64 r5] => Q r1 r2 r3 r4 r5 h
  | _ => False

def hart_hart_branch.C (vs : List V) (κ : V → Heap → Prop) (h : Heap) : Prop :=
  match vs with
  | [.ptr a1] => hart_hart_branch a1 (fun r1 r2 r3 r4 r5 h => κ (.agg [.int .i64 r1, .int .u64 r2, .int .u64 r3, .bool r4, .int .i64 r5]) h) h
  | _ => False

noncomputable def hart_hart_branch.calls : List (Nat × (List V → (V → Heap → Prop) → Heap → Prop)) := [(197, hart_hart_a.C), (202, hart_hart_bb.C)]

noncomputable def hart_hart_branch.E (Q : Int → Int → Int → Bool → Int → Heap → Prop) (cuts : List (Nat × (List Nat × (List V → Heap → Prop)))) : Env := { tis := tisT, fns := fnsT, tys := tysT, gls := [], rts := rtsT, unk := [], nxt := [], calls := hart_hart_branch.calls, ifc := noIfc, cuts := cuts, ret := hart_hart_branch.ret Q, rets := [.cell 2 86], n := 54 }

theorem hart_hart_branch.callsOK {W0 : World} : CallsOK sg W0 hart_hart_branch.calls := ⟨hart_hart_a.S, hart_hart_bb.S, trivial⟩

theorem hart_hart_branch.e : ∀ (a1 : Option Ptr) (Q : Int → Int → Int → Bool → Int → Heap → Prop) (h : Heap), hart_hart_branch a1 Q h = pts (hart_hart_branch.E Q []) 3000 true [.code hart_hart_branch.code] (frOf 0 [.ptr a1]) h := by
  intros; kernel_rfl

theorem hart_hart_branch.S {W0 : World} : FnS sg W0 160 hart_hart_branch.C := by
  intro vs κ h wv hx w s
  unfold hart_hart_branch.C at hx
  split at hx
  · rename_i a1
    refine postImp (ret := hart_hart_branch.ret (fun r1 r2 r3 r4 r5 h => κ (.agg [.int .i64 r1, .int .u64 r2, .int .u64 r3, .bool r4, .int .i64 r5]) h)) (fun v h hr => by unfold hart_hart_branch.ret at hr; split at hr; exact hr; exact hr.elim) ?_
    exact calls_of_pts (E := hart_hart_branch.E (fun r1 r2 r3 r4 r5 h => κ (.agg [.int .i64 r1, .int .u64 r2, .int .u64 r3, .bool r4, .int .i64 r5]) h) []) (envOK seatOK hart_hart_branch.callsOK noIfc_ok) seatOK.mixed hart_hart_branch.fun (Nat.le_of_ble_eq_true rfl) wv (cutL_ok trivial) s (fuel := 3000) (by rw [← hart_hart_branch.e]; exact hx)
  · exact hx.elim

noncomputable def hart_hart_control.code : Code := Go.Proofs.Tryz.f61.body.getD .skip

theorem hart_hart_control.fun : Fun sg.P 61 104 [.cell 2 86] hart_hart_control.code := mkFun Go.Proofs.Tryz.func61 (by kernel_rfl) (by kernel_rfl) (by kernel_rfl) (by kernel_rfl)

def hart_hart_control.ret (Q : Int → Int → Int → Bool → Int → Heap → Prop) (v : V) (h : Heap) : Prop :=
  match v with
  | .agg [.int .i64 r1, .int .u64 r2, .int .u64 r3, .bool r4, .int .i64 r5] => Q r1 r2 r3 r4 r5 h
  | _ => False

def hart_hart_control.C (vs : List V) (κ : V → Heap → Prop) (h : Heap) : Prop :=
  match vs with
  | [.ptr a1] => hart_hart_control a1 (fun r1 r2 r3 r4 r5 h => κ (.agg [.int .i64 r1, .int .u64 r2, .int .u64 r3, .bool r4, .int .i64 r5]) h) h
  | _ => False

noncomputable def hart_hart_control.calls : List (Nat × (List V → (V → Heap → Prop) → Heap → Prop)) := [(197, hart_hart_a.C)]

noncomputable def hart_hart_control.E (Q : Int → Int → Int → Bool → Int → Heap → Prop) (cuts : List (Nat × (List Nat × (List V → Heap → Prop)))) : Env := { tis := tisT, fns := fnsT, tys := tysT, gls := [], rts := rtsT, unk := [], nxt := [], calls := hart_hart_control.calls, ifc := noIfc, cuts := cuts, ret := hart_hart_control.ret Q, rets := [.cell 2 86], n := 104 }

theorem hart_hart_control.callsOK {W0 : World} : CallsOK sg W0 hart_hart_control.calls := ⟨hart_hart_a.S, trivial⟩

theorem hart_hart_control.e : ∀ (a1 : Option Ptr) (Q : Int → Int → Int → Bool → Int → Heap → Prop) (h : Heap), hart_hart_control a1 Q h = pts (hart_hart_control.E Q []) 3000 true [.code hart_hart_control.code] (frOf 0 [.ptr a1]) h := by
  intros; kernel_rfl

theorem hart_hart_control.S {W0 : World} : FnS sg W0 161 hart_hart_control.C := by
  intro vs κ h wv hx w s
  unfold hart_hart_control.C at hx
  split at hx
  · rename_i a1
    refine postImp (ret := hart_hart_control.ret (fun r1 r2 r3 r4 r5 h => κ (.agg [.int .i64 r1, .int .u64 r2, .int .u64 r3, .bool r4, .int .i64 r5]) h)) (fun v h hr => by unfold hart_hart_control.ret at hr; split at hr; exact hr; exact hr.elim) ?_
    exact calls_of_pts (E := hart_hart_control.E (fun r1 r2 r3 r4 r5 h => κ (.agg [.int .i64 r1, .int .u64 r2, .int .u64 r3, .bool r4, .int .i64 r5]) h) []) (envOK seatOK hart_hart_control.callsOK noIfc_ok) seatOK.mixed hart_hart_control.fun (Nat.le_of_ble_eq_true rfl) wv (cutL_ok trivial) s (fuel := 3000) (by rw [← hart_hart_control.e]; exact hx)
  · exact hx.elim

noncomputable def palisadelaw09_Flat_Load.code : Code := Go.Proofs.Tryz.f123.body.getD .skip

theorem palisadelaw09_Flat_Load.fun : Fun sg.P 123 17 [.tmp 6, .tmp 7] palisadelaw09_Flat_Load.code := mkFun Go.Proofs.Tryz.func123 (by kernel_rfl) (by kernel_rfl) (by kernel_rfl) (by kernel_rfl)

def palisadelaw09_Flat_Load.ret (Q : Int → Int → Heap → Prop) (v : V) (h : Heap) : Prop :=
  match v with
  | .tup [.int .u64 r1, .int .i64 r2] => Q r1 r2 h
  | _ => False

def palisadelaw09_Flat_Load.C (U : Ifc) (vs : List V) (κ : V → Heap → Prop) (h : Heap) : Prop :=
  match vs with
  | [.ptr a1, .int .u64 a2, .int .i64 a3] => palisadelaw09_Flat_Load U a1 a2 a3 (fun r1 r2 h => κ (.tup [.int .u64 r1, .int .i64 r2]) h) h
  | _ => False

noncomputable def palisadelaw09_Flat_Load.calls (U : Ifc) : List (Nat × (List V → (V → Heap → Prop) → Heap → Prop)) := [(95, mem_Memory_Load.C U)]

noncomputable def palisadelaw09_Flat_Load.E (U : Ifc) (Q : Int → Int → Heap → Prop) (cuts : List (Nat × (List Nat × (List V → Heap → Prop)))) : Env := { tis := tisT, fns := fnsT, tys := tysT, gls := glsT, rts := rtsT, unk := [], nxt := [], calls := palisadelaw09_Flat_Load.calls U, ifc := U, cuts := cuts, ret := palisadelaw09_Flat_Load.ret Q, rets := [.tmp 6, .tmp 7], n := 17 }

theorem palisadelaw09_Flat_Load.callsOK {W0 : World} {U : Ifc} (hU : IfcOK sg W0 glsT U) : CallsOK sg W0 (palisadelaw09_Flat_Load.calls U) := ⟨(mem_Memory_Load.S hU), trivial⟩

theorem palisadelaw09_Flat_Load.e : ∀ (U : Ifc) (a1 : Option Ptr) (a2 : Int) (a3 : Int) (Q : Int → Int → Heap → Prop) (h : Heap), palisadelaw09_Flat_Load U a1 a2 a3 Q h = pts (palisadelaw09_Flat_Load.E U Q []) 3000 true [.code palisadelaw09_Flat_Load.code] (frOf 0 [.ptr a1, .int .u64 a2, .int .i64 a3]) h := by
  intros; kernel_rfl

theorem palisadelaw09_Flat_Load.S {W0 : World} {U : Ifc} (hU : IfcOK sg W0 glsT U) : FnS sg W0 234 (palisadelaw09_Flat_Load.C U) := by
  intro vs κ h wv hx w s
  unfold palisadelaw09_Flat_Load.C at hx
  split at hx
  · rename_i a1 a2 a3
    refine postImp (ret := palisadelaw09_Flat_Load.ret (fun r1 r2 h => κ (.tup [.int .u64 r1, .int .i64 r2]) h)) (fun v h hr => by unfold palisadelaw09_Flat_Load.ret at hr; split at hr; exact hr; exact hr.elim) ?_
    exact calls_of_pts (E := palisadelaw09_Flat_Load.E U (fun r1 r2 h => κ (.tup [.int .u64 r1, .int .i64 r2]) h) []) (envOK seatOK (palisadelaw09_Flat_Load.callsOK hU) hU) seatOK.mixed palisadelaw09_Flat_Load.fun (Nat.le_of_ble_eq_true rfl) wv (cutL_ok trivial) s (fuel := 3000) (by rw [← palisadelaw09_Flat_Load.e]; exact hx)
  · exact hx.elim

noncomputable def palisadelaw09_Flat_Translate.code : Code := Go.Proofs.Tryz.f125.body.getD .skip

theorem palisadelaw09_Flat_Translate.fun : Fun sg.P 125 46 [.tmp 10, .cell 11 39] palisadelaw09_Flat_Translate.code := mkFun Go.Proofs.Tryz.func125 (by kernel_rfl) (by kernel_rfl) (by kernel_rfl) (by kernel_rfl)

def palisadelaw09_Flat_Translate.ret (Q : Int → Int → Int → Int → Heap → Prop) (v : V) (h : Heap) : Prop :=
  match v with
  | .tup [.int .u64 r1, .agg [.int .i64 r2, .int .u64 r3, .int .u64 r4]] => Q r1 r2 r3 r4 h
  | _ => False

def palisadelaw09_Flat_Translate.C (U : Ifc) (vs : List V) (κ : V → Heap → Prop) (h : Heap) : Prop :=
  match vs with
  | [.ptr a1, .int .i64 a2, .int .u64 a3, .int .i64 a4, .bool a5] => palisadelaw09_Flat_Translate U a1 a2 a3 a4 a5 (fun r1 r2 r3 r4 h => κ (.tup [.int .u64 r1, .agg [.int .i64 r2, .int .u64 r3, .int .u64 r4]]) h) h
  | _ => False

noncomputable def palisadelaw09_Flat_Translate.calls (U : Ifc) : List (Nat × (List V → (V → Heap → Prop) → Heap → Prop)) := []

noncomputable def palisadelaw09_Flat_Translate.E (U : Ifc) (Q : Int → Int → Int → Int → Heap → Prop) (cuts : List (Nat × (List Nat × (List V → Heap → Prop)))) : Env := { tis := tisT, fns := fnsT, tys := tysT, gls := glsT, rts := rtsT, unk := [], nxt := [], calls := palisadelaw09_Flat_Translate.calls U, ifc := U, cuts := cuts, ret := palisadelaw09_Flat_Translate.ret Q, rets := [.tmp 10, .cell 11 39], n := 46 }

theorem palisadelaw09_Flat_Translate.callsOK {W0 : World} {U : Ifc} (hU : IfcOK sg W0 glsT U) : CallsOK sg W0 (palisadelaw09_Flat_Translate.calls U) := trivial

theorem palisadelaw09_Flat_Translate.e : ∀ (U : Ifc) (a1 : Option Ptr) (a2 : Int) (a3 : Int) (a4 : Int) (a5 : Bool) (Q : Int → Int → Int → Int → Heap → Prop) (h : Heap), palisadelaw09_Flat_Translate U a1 a2 a3 a4 a5 Q h = pts (palisadelaw09_Flat_Translate.E U Q []) 3000 true [.code palisadelaw09_Flat_Translate.code] (frOf 0 [.ptr a1, .int .i64 a2, .int .u64 a3, .int .i64 a4, .bool a5]) h := by
  intros; kernel_rfl

theorem palisadelaw09_Flat_Translate.S {W0 : World} {U : Ifc} (hU : IfcOK sg W0 glsT U) : FnS sg W0 250 (palisadelaw09_Flat_Translate.C U) := by
  intro vs κ h wv hx w s
  unfold palisadelaw09_Flat_Translate.C at hx
  split at hx
  · rename_i a1 a2 a3 a4 a5
    refine postImp (ret := palisadelaw09_Flat_Translate.ret (fun r1 r2 r3 r4 h => κ (.tup [.int .u64 r1, .agg [.int .i64 r2, .int .u64 r3, .int .u64 r4]]) h)) (fun v h hr => by unfold palisadelaw09_Flat_Translate.ret at hr; split at hr; exact hr; exact hr.elim) ?_
    exact calls_of_pts (E := palisadelaw09_Flat_Translate.E U (fun r1 r2 r3 r4 h => κ (.tup [.int .u64 r1, .agg [.int .i64 r2, .int .u64 r3, .int .u64 r4]]) h) []) (envOK seatOK (palisadelaw09_Flat_Translate.callsOK hU) hU) seatOK.mixed palisadelaw09_Flat_Translate.fun (Nat.le_of_ble_eq_true rfl) wv (cutL_ok trivial) s (fuel := 3000) (by rw [← palisadelaw09_Flat_Translate.e]; exact hx)
  · exact hx.elim

noncomputable def palisadelaw09_Flat_Held.code : Code := Go.Proofs.Tryz.f121.body.getD .skip

theorem palisadelaw09_Flat_Held.fun : Fun sg.P 121 22 [.tmp 4] palisadelaw09_Flat_Held.code := mkFun Go.Proofs.Tryz.func121 (by kernel_rfl) (by kernel_rfl) (by kernel_rfl) (by kernel_rfl)

def palisadelaw09_Flat_Held.ret (Q : Bool → Heap → Prop) (v : V) (h : Heap) : Prop :=
  match v with
  | .bool r1 => Q r1 h
  | _ => False

def palisadelaw09_Flat_Held.C (vs : List V) (κ : V → Heap → Prop) (h : Heap) : Prop :=
  match vs with
  | [.ptr a1, .int .u64 a2] => palisadelaw09_Flat_Held a1 a2 (fun r1 h => κ (.bool r1) h) h
  | _ => False

noncomputable def palisadelaw09_Flat_Held.calls : List (Nat × (List V → (V → Heap → Prop) → Heap → Prop)) := []

noncomputable def palisadelaw09_Flat_Held.E (Q : Bool → Heap → Prop) (cuts : List (Nat × (List Nat × (List V → Heap → Prop)))) : Env := { tis := tisT, fns := fnsT, tys := tysT, gls := [], rts := rtsT, unk := [], nxt := [], calls := palisadelaw09_Flat_Held.calls, ifc := noIfc, cuts := cuts, ret := palisadelaw09_Flat_Held.ret Q, rets := [.tmp 4], n := 22 }

theorem palisadelaw09_Flat_Held.callsOK {W0 : World} : CallsOK sg W0 palisadelaw09_Flat_Held.calls := trivial

theorem palisadelaw09_Flat_Held.e : ∀ (a1 : Option Ptr) (a2 : Int) (Q : Bool → Heap → Prop) (h : Heap), palisadelaw09_Flat_Held a1 a2 Q h = pts (palisadelaw09_Flat_Held.E Q []) 3000 true [.code palisadelaw09_Flat_Held.code] (frOf 0 [.ptr a1, .int .u64 a2]) h := by
  intros; kernel_rfl

theorem palisadelaw09_Flat_Held.S {W0 : World} : FnS sg W0 251 palisadelaw09_Flat_Held.C := by
  intro vs κ h wv hx w s
  unfold palisadelaw09_Flat_Held.C at hx
  split at hx
  · rename_i a1 a2
    refine postImp (ret := palisadelaw09_Flat_Held.ret (fun r1 h => κ (.bool r1) h)) (fun v h hr => by unfold palisadelaw09_Flat_Held.ret at hr; split at hr; exact hr; exact hr.elim) ?_
    exact calls_of_pts (E := palisadelaw09_Flat_Held.E (fun r1 h => κ (.bool r1) h) []) (envOK seatOK palisadelaw09_Flat_Held.callsOK noIfc_ok) seatOK.mixed palisadelaw09_Flat_Held.fun (Nat.le_of_ble_eq_true rfl) wv (cutL_ok trivial) s (fuel := 3000) (by rw [← palisadelaw09_Flat_Held.e]; exact hx)
  · exact hx.elim

noncomputable def palisadelaw09_Flat_Hold.code : Code := Go.Proofs.Tryz.f122.body.getD .skip

theorem palisadelaw09_Flat_Hold.fun : Fun sg.P 122 11 [] palisadelaw09_Flat_Hold.code := mkFun Go.Proofs.Tryz.func122 (by kernel_rfl) (by kernel_rfl) (by kernel_rfl) (by kernel_rfl)

def palisadelaw09_Flat_Hold.ret (Q : Heap → Prop) (v : V) (h : Heap) : Prop :=
  match v with
  | .tup [] => Q  h
  | _ => False

def palisadelaw09_Flat_Hold.C (vs : List V) (κ : V → Heap → Prop) (h : Heap) : Prop :=
  match vs with
  | [.ptr a1, .int .u64 a2] => palisadelaw09_Flat_Hold a1 a2 (fun  h => κ (.tup []) h) h
  | _ => False

noncomputable def palisadelaw09_Flat_Hold.calls : List (Nat × (List V → (V → Heap → Prop) → Heap → Prop)) := []

noncomputable def palisadelaw09_Flat_Hold.E (Q : Heap → Prop) (cuts : List (Nat × (List Nat × (List V → Heap → Prop)))) : Env := { tis := tisT, fns := fnsT, tys := tysT, gls := [], rts := rtsT, unk := [], nxt := [], calls := palisadelaw09_Flat_Hold.calls, ifc := noIfc, cuts := cuts, ret := palisadelaw09_Flat_Hold.ret Q, rets := [], n := 11 }

theorem palisadelaw09_Flat_Hold.callsOK {W0 : World} : CallsOK sg W0 palisadelaw09_Flat_Hold.calls := trivial

theorem palisadelaw09_Flat_Hold.e : ∀ (a1 : Option Ptr) (a2 : Int) (Q : Heap → Prop) (h : Heap), palisadelaw09_Flat_Hold a1 a2 Q h = pts (palisadelaw09_Flat_Hold.E Q []) 3000 true [.code palisadelaw09_Flat_Hold.code] (frOf 0 [.ptr a1, .int .u64 a2]) h := by
  intros; kernel_rfl

theorem palisadelaw09_Flat_Hold.S {W0 : World} : FnS sg W0 252 palisadelaw09_Flat_Hold.C := by
  intro vs κ h wv hx w s
  unfold palisadelaw09_Flat_Hold.C at hx
  split at hx
  · rename_i a1 a2
    refine postImp (ret := palisadelaw09_Flat_Hold.ret (fun  h => κ (.tup []) h)) (fun v h hr => by unfold palisadelaw09_Flat_Hold.ret at hr; split at hr; exact hr; exact hr.elim) ?_
    exact calls_of_pts (E := palisadelaw09_Flat_Hold.E (fun  h => κ (.tup []) h) []) (envOK seatOK palisadelaw09_Flat_Hold.callsOK noIfc_ok) seatOK.mixed palisadelaw09_Flat_Hold.fun (Nat.le_of_ble_eq_true rfl) wv (cutL_ok trivial) s (fuel := 3000) (by rw [← palisadelaw09_Flat_Hold.e]; exact hx)
  · exact hx.elim

noncomputable def palisadelaw09_Flat_Store.code : Code := Go.Proofs.Tryz.f124.body.getD .skip

theorem palisadelaw09_Flat_Store.fun : Fun sg.P 124 17 [.tmp 8] palisadelaw09_Flat_Store.code := mkFun Go.Proofs.Tryz.func124 (by kernel_rfl) (by kernel_rfl) (by kernel_rfl) (by kernel_rfl)

def palisadelaw09_Flat_Store.ret (Q : Int → Heap → Prop) (v : V) (h : Heap) : Prop :=
  match v with
  | .int .i64 r1 => Q r1 h
  | _ => False

def palisadelaw09_Flat_Store.C (U : Ifc) (vs : List V) (κ : V → Heap → Prop) (h : Heap) : Prop :=
  match vs with
  | [.ptr a1, .int .u64 a2, .int .i64 a3, .int .u64 a4] => palisadelaw09_Flat_Store U a1 a2 a3 a4 (fun r1 h => κ (.int .i64 r1) h) h
  | _ => False

noncomputable def palisadelaw09_Flat_Store.calls (U : Ifc) : List (Nat × (List V → (V → Heap → Prop) → Heap → Prop)) := [(97, mem_Memory_Store.C U)]

noncomputable def palisadelaw09_Flat_Store.E (U : Ifc) (Q : Int → Heap → Prop) (cuts : List (Nat × (List Nat × (List V → Heap → Prop)))) : Env := { tis := tisT, fns := fnsT, tys := tysT, gls := glsT, rts := rtsT, unk := [], nxt := [], calls := palisadelaw09_Flat_Store.calls U, ifc := U, cuts := cuts, ret := palisadelaw09_Flat_Store.ret Q, rets := [.tmp 8], n := 17 }

theorem palisadelaw09_Flat_Store.callsOK {W0 : World} {U : Ifc} (hU : IfcOK sg W0 glsT U) : CallsOK sg W0 (palisadelaw09_Flat_Store.calls U) := ⟨(mem_Memory_Store.S hU), trivial⟩

theorem palisadelaw09_Flat_Store.e : ∀ (U : Ifc) (a1 : Option Ptr) (a2 : Int) (a3 : Int) (a4 : Int) (Q : Int → Heap → Prop) (h : Heap), palisadelaw09_Flat_Store U a1 a2 a3 a4 Q h = pts (palisadelaw09_Flat_Store.E U Q []) 3000 true [.code palisadelaw09_Flat_Store.code] (frOf 0 [.ptr a1, .int .u64 a2, .int .i64 a3, .int .u64 a4]) h := by
  intros; kernel_rfl

theorem palisadelaw09_Flat_Store.S {W0 : World} {U : Ifc} (hU : IfcOK sg W0 glsT U) : FnS sg W0 253 (palisadelaw09_Flat_Store.C U) := by
  intro vs κ h wv hx w s
  unfold palisadelaw09_Flat_Store.C at hx
  split at hx
  · rename_i a1 a2 a3 a4
    refine postImp (ret := palisadelaw09_Flat_Store.ret (fun r1 h => κ (.int .i64 r1) h)) (fun v h hr => by unfold palisadelaw09_Flat_Store.ret at hr; split at hr; exact hr; exact hr.elim) ?_
    exact calls_of_pts (E := palisadelaw09_Flat_Store.E U (fun r1 h => κ (.int .i64 r1) h) []) (envOK seatOK (palisadelaw09_Flat_Store.callsOK hU) hU) seatOK.mixed palisadelaw09_Flat_Store.fun (Nat.le_of_ble_eq_true rfl) wv (cutL_ok trivial) s (fuel := 3000) (by rw [← palisadelaw09_Flat_Store.e]; exact hx)
  · exact hx.elim

end Go.Fn
