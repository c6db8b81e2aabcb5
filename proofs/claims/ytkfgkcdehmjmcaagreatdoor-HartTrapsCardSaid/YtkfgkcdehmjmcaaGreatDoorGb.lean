/- The links of the shallow functions to the machine. PRINTED by lift.py. -/
import Derived.Test.YtkfgkcdehmjmcaaGreatDoorGb2
set_option linter.unusedVariables false
set_option maxRecDepth 100000
namespace Go.Fn
open Go.Lift

noncomputable def hart_hart_sc.code : Code := Go.Proofs.Tryz.f50.body.getD .skip

theorem hart_hart_sc.fun : Fun sg.P 50 39 [.cell 2 86] hart_hart_sc.code := mkFun Go.Proofs.Tryz.func50 (by kernel_rfl) (by kernel_rfl) (by kernel_rfl) (by kernel_rfl)

def hart_hart_sc.ret (Q : Int → Int → Int → Bool → Int → Heap → Prop) (v : V) (h : Heap) : Prop :=
  match v with
  | .agg [.int .i64 r1, .int .u64 r2, .int .u64 r3, .bool r4, .int .i64 r5] => Q r1 r2 r3 r4 r5 h
  | _ => False

def hart_hart_sc.C (vs : List V) (κ : V → Heap → Prop) (h : Heap) : Prop :=
  match vs with
  | [.ptr a1] => hart_hart_sc a1 (fun r1 r2 r3 r4 r5 h => κ (.agg [.int .i64 r1, .int .u64 r2, .int .u64 r3, .bool r4, .int .i64 r5]) h) h
  | _ => False

noncomputable def hart_hart_sc.calls : List (Nat × (List V → (V → Heap → Prop) → Heap → Prop)) := [(197, hart_hart_a.C)]

noncomputable def hart_hart_sc.E (Q : Int → Int → Int → Bool → Int → Heap → Prop) (cuts : List (Nat × (List Nat × (List V → Heap → Prop)))) : Env := { tis := tisT, fns := fnsT, tys := tysT, gls := [], rts := rtsT, unk := [], nxt := [], calls := hart_hart_sc.calls, ifc := noIfc, cuts := cuts, ret := hart_hart_sc.ret Q, rets := [.cell 2 86], n := 39 }

theorem hart_hart_sc.callsOK {W0 : World} : CallsOK sg W0 hart_hart_sc.calls := ⟨hart_hart_a.S, trivial⟩

theorem hart_hart_sc.e : ∀ (a1 : Option Ptr) (Q : Int → Int → Int → Bool → Int → Heap → Prop) (h : Heap), hart_hart_sc a1 Q h = pts (hart_hart_sc.E Q []) 3000 true [.code hart_hart_sc.code] (frOf 0 [.ptr a1]) h := by
  intros; kernel_rfl

theorem hart_hart_sc.S {W0 : World} : FnS sg W0 150 hart_hart_sc.C := by
  intro vs κ h wv hx w s
  unfold hart_hart_sc.C at hx
  split at hx
  · rename_i a1
    refine postImp (ret := hart_hart_sc.ret (fun r1 r2 r3 r4 r5 h => κ (.agg [.int .i64 r1, .int .u64 r2, .int .u64 r3, .bool r4, .int .i64 r5]) h)) (fun v h hr => by unfold hart_hart_sc.ret at hr; split at hr; exact hr; exact hr.elim) ?_
    exact calls_of_pts (E := hart_hart_sc.E (fun r1 r2 r3 r4 r5 h => κ (.agg [.int .i64 r1, .int .u64 r2, .int .u64 r3, .bool r4, .int .i64 r5]) h) []) (envOK seatOK hart_hart_sc.callsOK noIfc_ok) seatOK.mixed hart_hart_sc.fun (Nat.le_of_ble_eq_true rfl) wv (cutL_ok trivial) s (fuel := 3000) (by rw [← hart_hart_sc.e]; exact hx)
  · exact hx.elim

noncomputable def hart_hart_bb.code : Code := Go.Proofs.Tryz.f79.body.getD .skip

theorem hart_hart_bb.fun : Fun sg.P 79 16 [.tmp 2] hart_hart_bb.code := mkFun Go.Proofs.Tryz.func79 (by kernel_rfl) (by kernel_rfl) (by kernel_rfl) (by kernel_rfl)

def hart_hart_bb.ret (Q : Int → Heap → Prop) (v : V) (h : Heap) : Prop :=
  match v with
  | .int .u64 r1 => Q r1 h
  | _ => False

def hart_hart_bb.C (vs : List V) (κ : V → Heap → Prop) (h : Heap) : Prop :=
  match vs with
  | [.ptr a1] => hart_hart_bb a1 (fun r1 h => κ (.int .u64 r1) h) h
  | _ => False

noncomputable def hart_hart_bb.calls : List (Nat × (List V → (V → Heap → Prop) → Heap → Prop)) := []

noncomputable def hart_hart_bb.E (Q : Int → Heap → Prop) (cuts : List (Nat × (List Nat × (List V → Heap → Prop)))) : Env := { tis := tisT, fns := fnsT, tys := tysT, gls := [], rts := rtsT, unk := [], nxt := [], calls := hart_hart_bb.calls, ifc := noIfc, cuts := cuts, ret := hart_hart_bb.ret Q, rets := [.tmp 2], n := 16 }

theorem hart_hart_bb.callsOK {W0 : World} : CallsOK sg W0 hart_hart_bb.calls := trivial

theorem hart_hart_bb.e : ∀ (a1 : Option Ptr) (Q : Int → Heap → Prop) (h : Heap), hart_hart_bb a1 Q h = pts (hart_hart_bb.E Q []) 3000 true [.code hart_hart_bb.code] (frOf 0 [.ptr a1]) h := by
  intros; kernel_rfl

theorem hart_hart_bb.S {W0 : World} : FnS sg W0 202 hart_hart_bb.C := by
  intro vs κ h wv hx w s
  unfold hart_hart_bb.C at hx
  split at hx
  · rename_i a1
    refine postImp (ret := hart_hart_bb.ret (fun r1 h => κ (.int .u64 r1) h)) (fun v h hr => by unfold hart_hart_bb.ret at hr; split at hr; exact hr; exact hr.elim) ?_
    exact calls_of_pts (E := hart_hart_bb.E (fun r1 h => κ (.int .u64 r1) h) []) (envOK seatOK hart_hart_bb.callsOK noIfc_ok) seatOK.mixed hart_hart_bb.fun (Nat.le_of_ble_eq_true rfl) wv (cutL_ok trivial) s (fuel := 3000) (by rw [← hart_hart_bb.e]; exact hx)
  · exact hx.elim

noncomputable def hart_hart_amo.code : Code := Go.Proofs.Tryz.f51.body.getD .skip

theorem hart_hart_amo.fun : Fun sg.P 51 43 [.cell 2 86] hart_hart_amo.code := mkFun Go.Proofs.Tryz.func51 (by kernel_rfl) (by kernel_rfl) (by kernel_rfl) (by kernel_rfl)

def hart_hart_amo.ret (Q : Int → Int → Int → Bool → Int → Heap → Prop) (v : V) (h : Heap) : Prop :=
  match v with
  | .agg [.int .i64 r1, .int .u64 r2, .int .u64 r3, .bool r4, .int .i64 r5] => Q r1 r2 r3 r4 r5 h
  | _ => False

def hart_hart_amo.C (vs : List V) (κ : V → Heap → Prop) (h : Heap) : Prop :=
  match vs with
  | [.ptr a1] => hart_hart_amo a1 (fun r1 r2 r3 r4 r5 h => κ (.agg [.int .i64 r1, .int .u64 r2, .int .u64 r3, .bool r4, .int .i64 r5]) h) h
  | _ => False

noncomputable def hart_hart_amo.calls : List (Nat × (List V → (V → Heap → Prop) → Heap → Prop)) := [(197, hart_hart_a.C), (202, hart_hart_bb.C)]

noncomputable def hart_hart_amo.E (Q : Int → Int → Int → Bool → Int → Heap → Prop) (cuts : List (Nat × (List Nat × (List V → Heap → Prop)))) : Env := { tis := tisT, fns := fnsT, tys := tysT, gls := [], rts := rtsT, unk := [], nxt := [], calls := hart_hart_amo.calls, ifc := noIfc, cuts := cuts, ret := hart_hart_amo.ret Q, rets := [.cell 2 86], n := 43 }

theorem hart_hart_amo.callsOK {W0 : World} : CallsOK sg W0 hart_hart_amo.calls := ⟨hart_hart_a.S, hart_hart_bb.S, trivial⟩

theorem hart_hart_amo.e : ∀ (a1 : Option Ptr) (Q : Int → Int → Int → Bool → Int → Heap → Prop) (h : Heap), hart_hart_amo a1 Q h = pts (hart_hart_amo.E Q []) 3000 true [.code hart_hart_amo.code] (frOf 0 [.ptr a1]) h := by
  intros; kernel_rfl

theorem hart_hart_amo.S {W0 : World} : FnS sg W0 151 hart_hart_amo.C := by
  intro vs κ h wv hx w s
  unfold hart_hart_amo.C at hx
  split at hx
  · rename_i a1
    refine postImp (ret := hart_hart_amo.ret (fun r1 r2 r3 r4 r5 h => κ (.agg [.int .i64 r1, .int .u64 r2, .int .u64 r3, .bool r4, .int .i64 r5]) h)) (fun v h hr => by unfold hart_hart_amo.ret at hr; split at hr; exact hr; exact hr.elim) ?_
    exact calls_of_pts (E := hart_hart_amo.E (fun r1 r2 r3 r4 r5 h => κ (.agg [.int .i64 r1, .int .u64 r2, .int .u64 r3, .bool r4, .int .i64 r5]) h) []) (envOK seatOK hart_hart_amo.callsOK noIfc_ok) seatOK.mixed hart_hart_amo.fun (Nat.le_of_ble_eq_true rfl) wv (cutL_ok trivial) s (fuel := 3000) (by rw [← hart_hart_amo.e]; exact hx)
  · exact hx.elim

noncomputable def hart_hart_nothing.code : Code := Go.Proofs.Tryz.f52.body.getD .skip

theorem hart_hart_nothing.fun : Fun sg.P 52 4 [.cell 2 86] hart_hart_nothing.code := mkFun Go.Proofs.Tryz.func52 (by kernel_rfl) (by kernel_rfl) (by kernel_rfl) (by kernel_rfl)

def hart_hart_nothing.ret (Q : Int → Int → Int → Bool → Int → Heap → Prop) (v : V) (h : Heap) : Prop :=
  match v with
  | .agg [.int .i64 r1, .int .u64 r2, .int .u64 r3, .bool r4, .int .i64 r5] => Q r1 r2 r3 r4 r5 h
  | _ => False

def hart_hart_nothing.C (vs : List V) (κ : V → Heap → Prop) (h : Heap) : Prop :=
  match vs with
  | [.ptr a1] => hart_hart_nothing a1 (fun r1 r2 r3 r4 r5 h => κ (.agg [.int .i64 r1, .int .u64 r2, .int .u64 r3, .bool r4, .int .i64 r5]) h) h
  | _ => False

noncomputable def hart_hart_nothing.calls : List (Nat × (List V → (V → Heap → Prop) → Heap → Prop)) := []

noncomputable def hart_hart_nothing.E (Q : Int → Int → Int → Bool → Int → Heap → Prop) (cuts : List (Nat × (List Nat × (List V → Heap → Prop)))) : Env := { tis := tisT, fns := fnsT, tys := tysT, gls := [], rts := rtsT, unk := [], nxt := [], calls := hart_hart_nothing.calls, ifc := noIfc, cuts := cuts, ret := hart_hart_nothing.ret Q, rets := [.cell 2 86], n := 4 }

theorem hart_hart_nothing.callsOK {W0 : World} : CallsOK sg W0 hart_hart_nothing.calls := trivial

theorem hart_hart_nothing.e : ∀ (a1 : Option Ptr) (Q : Int → Int → Int → Bool → Int → Heap → Prop) (h : Heap), hart_hart_nothing a1 Q h = pts (hart_hart_nothing.E Q []) 3000 true [.code hart_hart_nothing.code] (frOf 0 [.ptr a1]) h := by
  intros; kernel_rfl

theorem hart_hart_nothing.S {W0 : World} : FnS sg W0 152 hart_hart_nothing.C := by
  intro vs κ h wv hx w s
  unfold hart_hart_nothing.C at hx
  split at hx
  · rename_i a1
    refine postImp (ret := hart_hart_nothing.ret (fun r1 r2 r3 r4 r5 h => κ (.agg [.int .i64 r1, .int .u64 r2, .int .u64 r3, .bool r4, .int .i64 r5]) h)) (fun v h hr => by unfold hart_hart_nothing.ret at hr; split at hr; exact hr; exact hr.elim) ?_
    exact calls_of_pts (E := hart_hart_nothing.E (fun r1 r2 r3 r4 r5 h => κ (.agg [.int .i64 r1, .int .u64 r2, .int .u64 r3, .bool r4, .int .i64 r5]) h) []) (envOK seatOK hart_hart_nothing.callsOK noIfc_ok) seatOK.mixed hart_hart_nothing.fun (Nat.le_of_ble_eq_true rfl) wv (cutL_ok trivial) s (fuel := 3000) (by rw [← hart_hart_nothing.e]; exact hx)
  · exact hx.elim

noncomputable def hart_hart_ecall.code : Code := Go.Proofs.Tryz.f53.body.getD .skip

theorem hart_hart_ecall.fun : Fun sg.P 53 8 [.cell 2 86] hart_hart_ecall.code := mkFun Go.Proofs.Tryz.func53 (by kernel_rfl) (by kernel_rfl) (by kernel_rfl) (by kernel_rfl)

def hart_hart_ecall.ret (Q : Int → Int → Int → Bool → Int → Heap → Prop) (v : V) (h : Heap) : Prop :=
  match v with
  | .agg [.int .i64 r1, .int .u64 r2, .int .u64 r3, .bool r4, .int .i64 r5] => Q r1 r2 r3 r4 r5 h
  | _ => False

def hart_hart_ecall.C (vs : List V) (κ : V → Heap → Prop) (h : Heap) : Prop :=
  match vs with
  | [.ptr a1] => hart_hart_ecall a1 (fun r1 r2 r3 r4 r5 h => κ (.agg [.int .i64 r1, .int .u64 r2, .int .u64 r3, .bool r4, .int .i64 r5]) h) h
  | _ => False

noncomputable def hart_hart_ecall.calls : List (Nat × (List V → (V → Heap → Prop) → Heap → Prop)) := [(165, hart_trap.C), (167, hart_hart_user.C)]

noncomputable def hart_hart_ecall.E (Q : Int → Int → Int → Bool → Int → Heap → Prop) (cuts : List (Nat × (List Nat × (List V → Heap → Prop)))) : Env := { tis := tisT, fns := fnsT, tys := tysT, gls := [], rts := rtsT, unk := [], nxt := [], calls := hart_hart_ecall.calls, ifc := noIfc, cuts := cuts, ret := hart_hart_ecall.ret Q, rets := [.cell 2 86], n := 8 }

theorem hart_hart_ecall.callsOK {W0 : World} : CallsOK sg W0 hart_hart_ecall.calls := ⟨hart_trap.S, hart_hart_user.S, trivial⟩

theorem hart_hart_ecall.e : ∀ (a1 : Option Ptr) (Q : Int → Int → Int → Bool → Int → Heap → Prop) (h : Heap), hart_hart_ecall a1 Q h = pts (hart_hart_ecall.E Q []) 3000 true [.code hart_hart_ecall.code] (frOf 0 [.ptr a1]) h := by
  intros; kernel_rfl

theorem hart_hart_ecall.S {W0 : World} : FnS sg W0 153 hart_hart_ecall.C := by
  intro vs κ h wv hx w s
  unfold hart_hart_ecall.C at hx
  split at hx
  · rename_i a1
    refine postImp (ret := hart_hart_ecall.ret (fun r1 r2 r3 r4 r5 h => κ (.agg [.int .i64 r1, .int .u64 r2, .int .u64 r3, .bool r4, .int .i64 r5]) h)) (fun v h hr => by unfold hart_hart_ecall.ret at hr; split at hr; exact hr; exact hr.elim) ?_
    exact calls_of_pts (E := hart_hart_ecall.E (fun r1 r2 r3 r4 r5 h => κ (.agg [.int .i64 r1, .int .u64 r2, .int .u64 r3, .bool r4, .int .i64 r5]) h) []) (envOK seatOK hart_hart_ecall.callsOK noIfc_ok) seatOK.mixed hart_hart_ecall.fun (Nat.le_of_ble_eq_true rfl) wv (cutL_ok trivial) s (fuel := 3000) (by rw [← hart_hart_ecall.e]; exact hx)
  · exact hx.elim

noncomputable def csr_File_Leave.code : Code := Go.Proofs.Tryz.f80.body.getD .skip

theorem csr_File_Leave.fun : Fun sg.P 80 40 [.tmp 2, .tmp 3] csr_File_Leave.code := mkFun Go.Proofs.Tryz.func80 (by kernel_rfl) (by kernel_rfl) (by kernel_rfl) (by kernel_rfl)

def csr_File_Leave.ret (Q : Int → Int → Heap → Prop) (v : V) (h : Heap) : Prop :=
  match v with
  | .tup [.int .u64 r1, .int .i64 r2] => Q r1 r2 h
  | _ => False

def csr_File_Leave.C (vs : List V) (κ : V → Heap → Prop) (h : Heap) : Prop :=
  match vs with
  | [.ptr a1] => csr_File_Leave a1 (fun r1 r2 h => κ (.tup [.int .u64 r1, .int .i64 r2]) h) h
  | _ => False

noncomputable def csr_File_Leave.calls : List (Nat × (List V → (V → Heap → Prop) → Heap → Prop)) := [(162, csr_File_none.C)]

noncomputable def csr_File_Leave.E (Q : Int → Int → Heap → Prop) (cuts : List (Nat × (List Nat × (List V → Heap → Prop)))) : Env := { tis := tisT, fns := fnsT, tys := tysT, gls := [], rts := rtsT, unk := [], nxt := [], calls := csr_File_Leave.calls, ifc := noIfc, cuts := cuts, ret := csr_File_Leave.ret Q, rets := [.tmp 2, .tmp 3], n := 40 }

theorem csr_File_Leave.callsOK {W0 : World} : CallsOK sg W0 csr_File_Leave.calls := ⟨csr_File_none.S, trivial⟩

def csr_File_Leave.k6 (I : (Option Ptr) → Int → Int → Heap → Prop) (vs : List V) (h : Heap) : Prop :=
  match vs with
  | [.ptr a1, .int .i64 a2, .int .u64 a3] => I a1 a2 a3 h
  | _ => False

theorem csr_File_Leave.p6 : (posC csr_File_Leave.code []).filter (fun p => Nat.beq p.1 6) = [(6, atPos (posC csr_File_Leave.code []) 6)] := by kernel_rfl

theorem csr_File_Leave.e6 : ∀  (a1 : Option Ptr) (a2 : Int) (a3 : Int) (Q : Int → Int → Heap → Prop) (h : Heap), csr_File_Leave.j6  a1 a2 a3 Q h = pts (csr_File_Leave.E Q []) 3000 true (atPos (posC csr_File_Leave.code []) 6) (frAt [0, 3, 4] [.ptr a1, .int .i64 a2, .int .u64 a3]) h := by
  intros; kernel_rfl

theorem csr_File_Leave.s6 {W0 : World} (Q : Int → Int → Heap → Prop)   : CutOK sg W0 40 (entered 80) (Post sg W0 (csr_File_Leave.ret Q)) (posC csr_File_Leave.code []) 6 [0, 3, 4] (csr_File_Leave.k6 (fun a1 a2 a3 h => csr_File_Leave.j6  a1 a2 a3 Q h)) := by
  refine cutOK_head (fun vs h hk => ?_)
  unfold csr_File_Leave.k6 at hk
  split at hk
  · rename_i a1 a2 a3
    intro todo hm ρ a w s f hp
    exact piece (E := csr_File_Leave.E Q []) (vs := [.ptr a1, .int .i64 a2, .int .u64 a3]) (envOK seatOK csr_File_Leave.callsOK noIfc_ok) (fnOK seatOK csr_File_Leave.fun) trivial csr_File_Leave.p6 (fuel := 3000) (by rw [← csr_File_Leave.e6]; exact hk) hm s f hp
  · exact hk.elim

theorem csr_File_Leave.e : ∀ (a1 : Option Ptr) (Q : Int → Int → Heap → Prop) (h : Heap), csr_File_Leave a1 Q h = pts (csr_File_Leave.E Q [(6, ([0, 3, 4], csr_File_Leave.k6 (fun a1 a2 a3 h => csr_File_Leave.j6  a1 a2 a3 Q h)))]) 3000 true [.code csr_File_Leave.code] (frOf 0 [.ptr a1]) h := by
  intros; kernel_rfl

theorem csr_File_Leave.S {W0 : World} : FnS sg W0 204 csr_File_Leave.C := by
  intro vs κ h wv hx w s
  unfold csr_File_Leave.C at hx
  split at hx
  · rename_i a1
    refine postImp (ret := csr_File_Leave.ret (fun r1 r2 h => κ (.tup [.int .u64 r1, .int .i64 r2]) h)) (fun v h hr => by unfold csr_File_Leave.ret at hr; split at hr; exact hr; exact hr.elim) ?_
    exact calls_of_pts (E := csr_File_Leave.E (fun r1 r2 h => κ (.tup [.int .u64 r1, .int .i64 r2]) h) [(6, ([0, 3, 4], csr_File_Leave.k6 (fun a1 a2 a3 h => csr_File_Leave.j6  a1 a2 a3 (fun r1 r2 h => κ (.tup [.int .u64 r1, .int .i64 r2]) h) h)))]) (envOK seatOK csr_File_Leave.callsOK noIfc_ok) seatOK.mixed csr_File_Leave.fun (Nat.le_of_ble_eq_true rfl) wv (cutL_ok ⟨(csr_File_Leave.s6 (fun r1 r2 h => κ (.tup [.int .u64 r1, .int .i64 r2]) h)), trivial⟩) s (fuel := 3000) (by rw [← csr_File_Leave.e]; exact hx)
  · exact hx.elim

noncomputable def hart_hart_sret.code : Code := Go.Proofs.Tryz.f54.body.getD .skip

theorem hart_hart_sret.fun : Fun sg.P 54 25 [.cell 2 86] hart_hart_sret.code := mkFun Go.Proofs.Tryz.func54 (by kernel_rfl) (by kernel_rfl) (by kernel_rfl) (by kernel_rfl)

def hart_hart_sret.ret (Q : Int → Int → Int → Bool → Int → Heap → Prop) (v : V) (h : Heap) : Prop :=
  match v with
  | .agg [.int .i64 r1, .int .u64 r2, .int .u64 r3, .bool r4, .int .i64 r5] => Q r1 r2 r3 r4 r5 h
  | _ => False

def hart_hart_sret.C (vs : List V) (κ : V → Heap → Prop) (h : Heap) : Prop :=
  match vs with
  | [.ptr a1] => hart_hart_sret a1 (fun r1 r2 r3 r4 r5 h => κ (.agg [.int .i64 r1, .int .u64 r2, .int .u64 r3, .bool r4, .int .i64 r5]) h) h
  | _ => False

noncomputable def hart_hart_sret.calls : List (Nat × (List V → (V → Heap → Prop) → Heap → Prop)) := [(167, hart_hart_user.C), (183, hart_hart_illegal.C), (204, csr_File_Leave.C)]

noncomputable def hart_hart_sret.E (Q : Int → Int → Int → Bool → Int → Heap → Prop) (cuts : List (Nat × (List Nat × (List V → Heap → Prop)))) : Env := { tis := tisT, fns := fnsT, tys := tysT, gls := [], rts := rtsT, unk := [], nxt := [], calls := hart_hart_sret.calls, ifc := noIfc, cuts := cuts, ret := hart_hart_sret.ret Q, rets := [.cell 2 86], n := 25 }

theorem hart_hart_sret.callsOK {W0 : World} : CallsOK sg W0 hart_hart_sret.calls := ⟨hart_hart_user.S, hart_hart_illegal.S, csr_File_Leave.S, trivial⟩

theorem hart_hart_sret.e : ∀ (a1 : Option Ptr) (Q : Int → Int → Int → Bool → Int → Heap → Prop) (h : Heap), hart_hart_sret a1 Q h = pts (hart_hart_sret.E Q []) 3000 true [.code hart_hart_sret.code] (frOf 0 [.ptr a1]) h := by
  intros; kernel_rfl

theorem hart_hart_sret.S {W0 : World} : FnS sg W0 154 hart_hart_sret.C := by
  intro vs κ h wv hx w s
  unfold hart_hart_sret.C at hx
  split at hx
  · rename_i a1
    refine postImp (ret := hart_hart_sret.ret (fun r1 r2 r3 r4 r5 h => κ (.agg [.int .i64 r1, .int .u64 r2, .int .u64 r3, .bool r4, .int .i64 r5]) h)) (fun v h hr => by unfold hart_hart_sret.ret at hr; split at hr; exact hr; exact hr.elim) ?_
    exact calls_of_pts (E := hart_hart_sret.E (fun r1 r2 r3 r4 r5 h => κ (.agg [.int .i64 r1, .int .u64 r2, .int .u64 r3, .bool r4, .int .i64 r5]) h) []) (envOK seatOK hart_hart_sret.callsOK noIfc_ok) seatOK.mixed hart_hart_sret.fun (Nat.le_of_ble_eq_true rfl) wv (cutL_ok trivial) s (fuel := 3000) (by rw [← hart_hart_sret.e]; exact hx)
  · exact hx.elim

noncomputable def hart_hart_wfi.code : Code := Go.Proofs.Tryz.f55.body.getD .skip

theorem hart_hart_wfi.fun : Fun sg.P 55 18 [.cell 2 86] hart_hart_wfi.code := mkFun Go.Proofs.Tryz.func55 (by kernel_rfl) (by kernel_rfl) (by kernel_rfl) (by kernel_rfl)

def hart_hart_wfi.ret (Q : Int → Int → Int → Bool → Int → Heap → Prop) (v : V) (h : Heap) : Prop :=
  match v with
  | .agg [.int .i64 r1, .int .u64 r2, .int .u64 r3, .bool r4, .int .i64 r5] => Q r1 r2 r3 r4 r5 h
  | _ => False

def hart_hart_wfi.C (vs : List V) (κ : V → Heap → Prop) (h : Heap) : Prop :=
  match vs with
  | [.ptr a1] => hart_hart_wfi a1 (fun r1 r2 r3 r4 r5 h => κ (.agg [.int .i64 r1, .int .u64 r2, .int .u64 r3, .bool r4, .int .i64 r5]) h) h
  | _ => False

noncomputable def hart_hart_wfi.calls : List (Nat × (List V → (V → Heap → Prop) → Heap → Prop)) := [(167, hart_hart_user.C), (183, hart_hart_illegal.C)]

noncomputable def hart_hart_wfi.E (Q : Int → Int → Int → Bool → Int → Heap → Prop) (cuts : List (Nat × (List Nat × (List V → Heap → Prop)))) : Env := { tis := tisT, fns := fnsT, tys := tysT, gls := [], rts := rtsT, unk := [], nxt := [], calls := hart_hart_wfi.calls, ifc := noIfc, cuts := cuts, ret := hart_hart_wfi.ret Q, rets := [.cell 2 86], n := 18 }

theorem hart_hart_wfi.callsOK {W0 : World} : CallsOK sg W0 hart_hart_wfi.calls := ⟨hart_hart_user.S, hart_hart_illegal.S, trivial⟩

theorem hart_hart_wfi.e : ∀ (a1 : Option Ptr) (Q : Int → Int → Int → Bool → Int → Heap → Prop) (h : Heap), hart_hart_wfi a1 Q h = pts (hart_hart_wfi.E Q []) 3000 true [.code hart_hart_wfi.code] (frOf 0 [.ptr a1]) h := by
  intros; kernel_rfl

theorem hart_hart_wfi.S {W0 : World} : FnS sg W0 155 hart_hart_wfi.C := by
  intro vs κ h wv hx w s
  unfold hart_hart_wfi.C at hx
  split at hx
  · rename_i a1
    refine postImp (ret := hart_hart_wfi.ret (fun r1 r2 r3 r4 r5 h => κ (.agg [.int .i64 r1, .int .u64 r2, .int .u64 r3, .bool r4, .int .i64 r5]) h)) (fun v h hr => by unfold hart_hart_wfi.ret at hr; split at hr; exact hr; exact hr.elim) ?_
    exact calls_of_pts (E := hart_hart_wfi.E (fun r1 r2 r3 r4 r5 h => κ (.agg [.int .i64 r1, .int .u64 r2, .int .u64 r3, .bool r4, .int .i64 r5]) h) []) (envOK seatOK hart_hart_wfi.callsOK noIfc_ok) seatOK.mixed hart_hart_wfi.fun (Nat.le_of_ble_eq_true rfl) wv (cutL_ok trivial) s (fuel := 3000) (by rw [← hart_hart_wfi.e]; exact hx)
  · exact hx.elim

noncomputable def hart_hart_sfence.code : Code := Go.Proofs.Tryz.f56.body.getD .skip

theorem hart_hart_sfence.fun : Fun sg.P 56 12 [.cell 2 86] hart_hart_sfence.code := mkFun Go.Proofs.Tryz.func56 (by kernel_rfl) (by kernel_rfl) (by kernel_rfl) (by kernel_rfl)

def hart_hart_sfence.ret (Q : Int → Int → Int → Bool → Int → Heap → Prop) (v : V) (h : Heap) : Prop :=
  match v with
  | .agg [.int .i64 r1, .int .u64 r2, .int .u64 r3, .bool r4, .int .i64 r5] => Q r1 r2 r3 r4 r5 h
  | _ => False

def hart_hart_sfence.C (vs : List V) (κ : V → Heap → Prop) (h : Heap) : Prop :=
  match vs with
  | [.ptr a1] => hart_hart_sfence a1 (fun r1 r2 r3 r4 r5 h => κ (.agg [.int .i64 r1, .int .u64 r2, .int .u64 r3, .bool r4, .int .i64 r5]) h) h
  | _ => False

noncomputable def hart_hart_sfence.calls : List (Nat × (List V → (V → Heap → Prop) → Heap → Prop)) := [(167, hart_hart_user.C), (183, hart_hart_illegal.C)]

noncomputable def hart_hart_sfence.E (Q : Int → Int → Int → Bool → Int → Heap → Prop) (cuts : List (Nat × (List Nat × (List V → Heap → Prop)))) : Env := { tis := tisT, fns := fnsT, tys := tysT, gls := [], rts := rtsT, unk := [], nxt := [], calls := hart_hart_sfence.calls, ifc := noIfc, cuts := cuts, ret := hart_hart_sfence.ret Q, rets := [.cell 2 86], n := 12 }

theorem hart_hart_sfence.callsOK {W0 : World} : CallsOK sg W0 hart_hart_sfence.calls := ⟨hart_hart_user.S, hart_hart_illegal.S, trivial⟩

theorem hart_hart_sfence.e : ∀ (a1 : Option Ptr) (Q : Int → Int → Int → Bool → Int → Heap → Prop) (h : Heap), hart_hart_sfence a1 Q h = pts (hart_hart_sfence.E Q []) 3000 true [.code hart_hart_sfence.code] (frOf 0 [.ptr a1]) h := by
  intros; kernel_rfl

theorem hart_hart_sfence.S {W0 : World} : FnS sg W0 156 hart_hart_sfence.C := by
  intro vs κ h wv hx w s
  unfold hart_hart_sfence.C at hx
  split at hx
  · rename_i a1
    refine postImp (ret := hart_hart_sfence.ret (fun r1 r2 r3 r4 r5 h => κ (.agg [.int .i64 r1, .int .u64 r2, .int .u64 r3, .bool r4, .int .i64 r5]) h)) (fun v h hr => by unfold hart_hart_sfence.ret at hr; split at hr; exact hr; exact hr.elim) ?_
    exact calls_of_pts (E := hart_hart_sfence.E (fun r1 r2 r3 r4 r5 h => κ (.agg [.int .i64 r1, .int .u64 r2, .int .u64 r3, .bool r4, .int .i64 r5]) h) []) (envOK seatOK hart_hart_sfence.callsOK noIfc_ok) seatOK.mixed hart_hart_sfence.fun (Nat.le_of_ble_eq_true rfl) wv (cutL_ok trivial) s (fuel := 3000) (by rw [← hart_hart_sfence.e]; exact hx)
  · exact hx.elim

noncomputable def hart_hart_math.code : Code := Go.Proofs.Tryz.f57.body.getD .skip

theorem hart_hart_math.fun : Fun sg.P 57 86 [.cell 2 86] hart_hart_math.code := mkFun Go.Proofs.Tryz.func57 (by kernel_rfl) (by kernel_rfl) (by kernel_rfl) (by kernel_rfl)

def hart_hart_math.ret (Q : Int → Int → Int → Bool → Int → Heap → Prop) (v : V) (h : Heap) : Prop :=
  match v with
  | .agg [.int .i64 r1, .int .u64 r2, .int .u64 r3, .bool r4, .int .i64 r5] => Q r1 r2 r3 r4 r5 h
  | _ => False

def hart_hart_math.C (vs : List V) (κ : V → Heap → Prop) (h : Heap) : Prop :=
  match vs with
  | [.ptr a1] => hart_hart_math a1 (fun r1 r2 r3 r4 r5 h => κ (.agg [.int .i64 r1, .int .u64 r2, .int .u64 r3, .bool r4, .int .i64 r5]) h) h
  | _ => False

noncomputable def hart_hart_math.calls : List (Nat × (List V → (V → Heap → Prop) → Heap → Prop)) := [(195, hart_hart_imm.C), (197, hart_hart_a.C), (202, hart_hart_bb.C)]

noncomputable def hart_hart_math.E (Q : Int → Int → Int → Bool → Int → Heap → Prop) (cuts : List (Nat × (List Nat × (List V → Heap → Prop)))) : Env := { tis := tisT, fns := fnsT, tys := tysT, gls := [], rts := rtsT, unk := [], nxt := [], calls := hart_hart_math.calls, ifc := noIfc, cuts := cuts, ret := hart_hart_math.ret Q, rets := [.cell 2 86], n := 86 }

theorem hart_hart_math.callsOK {W0 : World} : CallsOK sg W0 hart_hart_math.calls := ⟨hart_hart_imm.S, hart_hart_a.S, hart_hart_bb.S, trivial⟩

def hart_hart_math.k5 (I : (Option Ptr) → Ptr → Int → Int → Int → Heap → Prop) (vs : List V) (h : Heap) : Prop :=
  match vs with
  | [.ptr a1, .ptr (some a2), .int .u64 a3, .int .u64 a4, .int .i64 a5] => I a1 a2 a3 a4 a5 h
  | _ => False

theorem hart_hart_math.p5 : (posC hart_hart_math.code []).filter (fun p => Nat.beq p.1 5) = [(5, atPos (posC hart_hart_math.code []) 5)] := by kernel_rfl

theorem hart_hart_math.e5 : ∀  (a1 : Option Ptr) (a2 : Ptr) (a3 : Int) (a4 : Int) (a5 : Int) (Q : Int → Int → Int → Bool → Int → Heap → Prop) (h : Heap), hart_hart_math.j5  a1 a2 a3 a4 a5 Q h = pts (hart_hart_math.E Q []) 3000 true (atPos (posC hart_hart_math.code []) 5) (frAt [0, 2, 3, 4, 5] [.ptr a1, .ptr (some a2), .int .u64 a3, .int .u64 a4, .int .i64 a5]) h := by
  intros; kernel_rfl

theorem hart_hart_math.s5 {W0 : World} (Q : Int → Int → Int → Bool → Int → Heap → Prop)   : CutOK sg W0 86 (entered 57) (Post sg W0 (hart_hart_math.ret Q)) (posC hart_hart_math.code []) 5 [0, 2, 3, 4, 5] (hart_hart_math.k5 (fun a1 a2 a3 a4 a5 h => hart_hart_math.j5  a1 a2 a3 a4 a5 Q h)) := by
  refine cutOK_head (fun vs h hk => ?_)
  unfold hart_hart_math.k5 at hk
  split at hk
  · rename_i a1 a2 a3 a4 a5
    intro todo hm ρ a w s f hp
    exact piece (E := hart_hart_math.E Q []) (vs := [.ptr a1, .ptr (some a2), .int .u64 a3, .int .u64 a4, .int .i64 a5]) (envOK seatOK hart_hart_math.callsOK noIfc_ok) (fnOK seatOK hart_hart_math.fun) trivial hart_hart_math.p5 (fuel := 3000) (by rw [← hart_hart_math.e5]; exact hk) hm s f hp
  · exact hk.elim

theorem hart_hart_math.e : ∀ (a1 : Option Ptr) (Q : Int → Int → Int → Bool → Int → Heap → Prop) (h : Heap), hart_hart_math a1 Q h = pts (hart_hart_math.E Q [(5, ([0, 2, 3, 4, 5], hart_hart_math.k5 (fun a1 a2 a3 a4 a5 h => hart_hart_math.j5  a1 a2 a3 a4 a5 Q h)))]) 3000 true [.code hart_hart_math.code] (frOf 0 [.ptr a1]) h := by
  intros; kernel_rfl

theorem hart_hart_math.S {W0 : World} : FnS sg W0 157 hart_hart_math.C := by
  intro vs κ h wv hx w s
  unfold hart_hart_math.C at hx
  split at hx
  · rename_i a1
    refine postImp (ret := hart_hart_math.ret (fun r1 r2 r3 r4 r5 h => κ (.agg [.int .i64 r1, .int .u64 r2, .int .u64 r3, .bool r4, .int .i64 r5]) h)) (fun v h hr => by unfold hart_hart_math.ret at hr; split at hr; exact hr; exact hr.elim) ?_
    exact calls_of_pts (E := hart_hart_math.E (fun r1 r2 r3 r4 r5 h => κ (.agg [.int .i64 r1, .int .u64 r2, .int .u64 r3, .bool r4, .int .i64 r5]) h) [(5, ([0, 2, 3, 4, 5], hart_hart_math.k5 (fun a1 a2 a3 a4 a5 h => hart_hart_math.j5  a1 a2 a3 a4 a5 (fun r1 r2 r3 r4 r5 h => κ (.agg [.int .i64 r1, .int .u64 r2, .int .u64 r3, .bool r4, .int .i64 r5]) h) h)))]) (envOK seatOK hart_hart_math.callsOK noIfc_ok) seatOK.mixed hart_hart_math.fun (Nat.le_of_ble_eq_true rfl) wv (cutL_ok ⟨(hart_hart_math.s5 (fun r1 r2 r3 r4 r5 h => κ (.agg [.int .i64 r1, .int .u64 r2, .int .u64 r3, .bool r4, .int .i64 r5]) h)), trivial⟩) s (fuel := 3000) (by rw [← hart_hart_math.e]; exact hx)
  · exact hx.elim

noncomputable def hart_hart_load.code : Code := Go.Proofs.Tryz.f58.body.getD .skip

theorem hart_hart_load.fun : Fun sg.P 58 24 [.cell 2 86] hart_hart_load.code := mkFun Go.Proofs.Tryz.func58 (by kernel_rfl) (by kernel_rfl) (by kernel_rfl) (by kernel_rfl)

def hart_hart_load.ret (Q : Int → Int → Int → Bool → Int → Heap → Prop) (v : V) (h : Heap) : Prop :=
  match v with
  | .agg [.int .i64 r1, .int .u64 r2, .int .u64 r3, .bool r4, .int .i64 r5] => Q r1 r2 r3 r4 r5 h
  | _ => False

def hart_hart_load.C (vs : List V) (κ : V → Heap → Prop) (h : Heap) : Prop :=
  match vs with
  | [.ptr a1] => hart_hart_load a1 (fun r1 r2 r3 r4 r5 h => κ (.agg [.int .i64 r1, .int .u64 r2, .int .u64 r3, .bool r4, .int .i64 r5]) h) h
  | _ => False

noncomputable def hart_hart_load.calls : List (Nat × (List V → (V → Heap → Prop) → Heap → Prop)) := [(195, hart_hart_imm.C), (197, hart_hart_a.C)]

noncomputable def hart_hart_load.E (Q : Int → Int → Int → Bool → Int → Heap → Prop) (cuts : List (Nat × (List Nat × (List V → Heap → Prop)))) : Env := { tis := tisT, fns := fnsT, tys := tysT, gls := [], rts := rtsT, unk := [], nxt := [], calls := hart_hart_load.calls, ifc := noIfc, cuts := cuts, ret := hart_hart_load.ret Q, rets := [.cell 2 86], n := 24 }

theorem hart_hart_load.callsOK {W0 : World} : CallsOK sg W0 hart_hart_load.calls := ⟨hart_hart_imm.S, hart_hart_a.S, trivial⟩

theorem hart_hart_load.e : ∀ (a1 : Option Ptr) (Q : Int → Int → Int → Bool → Int → Heap → Prop) (h : Heap), hart_hart_load a1 Q h = pts (hart_hart_load.E Q []) 3000 true [.code hart_hart_load.code] (frOf 0 [.ptr a1]) h := by
  intros; kernel_rfl

theorem hart_hart_load.S {W0 : World} : FnS sg W0 158 hart_hart_load.C := by
  intro vs κ h wv hx w s
  unfold hart_hart_load.C at hx
  split at hx
  · rename_i a1
    refine postImp (ret := hart_hart_load.ret (fun r1 r2 r3 r4 r5 h => κ (.agg [.int .i64 r1, .int .u64 r2, .int .u64 r3, .bool r4, .int .i64 r5]) h)) (fun v h hr => by unfold hart_hart_load.ret at hr; split at hr; exact hr; exact hr.elim) ?_
    exact calls_of_pts (E := hart_hart_load.E (fun r1 r2 r3 r4 r5 h => κ (.agg [.int .i64 r1, .int .u64 r2, .int .u64 r3, .bool r4, .int .i64 r5]) h) []) (envOK seatOK hart_hart_load.callsOK noIfc_ok) seatOK.mixed hart_hart_load.fun (Nat.le_of_ble_eq_true rfl) wv (cutL_ok trivial) s (fuel := 3000) (by rw [← hart_hart_load.e]; exact hx)
  · exact hx.elim

noncomputable def hart_hart_store.code : Code := Go.Proofs.Tryz.f59.body.getD .skip

theorem hart_hart_store.fun : Fun sg.P 59 28 [.cell 2 86] hart_hart_store.code := mkFun Go.Proofs.Tryz.func59 (by kernel_rfl) (by kernel_rfl) (by kernel_rfl) (by kernel_rfl)

def hart_hart_store.ret (Q : Int → Int → Int → Bool → Int → Heap → Prop) (v : V) (h : Heap) : Prop :=
  match v with
  | .agg [.int .i64 r1, .int .u64 r2, .int .u64 r3, .bool r4, .int .i64 r5] => Q r1 r2 r3 r4 r5 h
  | _ => False

def hart_hart_store.C (vs : List V) (κ : V → Heap → Prop) (h : Heap) : Prop :=
  match vs with
  | [.ptr a1] => hart_hart_store a1 (fun r1 r2 r3 r4 r5 h => κ (.agg [.int .i64 r1, .int .u64 r2, .int .u64 r3, .bool r4, .int .i64 r5]) h) h
  | _ => False

noncomputable def hart_hart_store.calls : List (Nat × (List V → (V → Heap → Prop) → Heap → Prop)) := [(195, hart_hart_imm.C), (197, hart_hart_a.C)]

noncomputable def hart_hart_store.E (Q : Int → Int → Int → Bool → Int → Heap → Prop) (cuts : List (Nat × (List Nat × (List V → Heap → Prop)))) : Env := { tis := tisT, fns := fnsT, tys := tysT, gls := [], rts := rtsT, unk := [], nxt := [], calls := hart_hart_store.calls, ifc := noIfc, cuts := cuts, ret := hart_hart_store.ret Q, rets := [.cell 2 86], n := 28 }

theorem hart_hart_store.callsOK {W0 : World} : CallsOK sg W0 hart_hart_store.calls := ⟨hart_hart_imm.S, hart_hart_a.S, trivial⟩

theorem hart_hart_store.e : ∀ (a1 : Option Ptr) (Q : Int → Int → Int → Bool → Int → Heap → Prop) (h : Heap), hart_hart_store a1 Q h = pts (hart_hart_store.E Q []) 3000 true [.code hart_hart_store.code] (frOf 0 [.ptr a1]) h := by
  intros; kernel_rfl

theorem hart_hart_store.S {W0 : World} : FnS sg W0 159 hart_hart_store.C := by
  intro vs κ h wv hx w s
  unfold hart_hart_store.C at hx
  split at hx
  · rename_i a1
    refine postImp (ret := hart_hart_store.ret (fun r1 r2 r3 r4 r5 h => κ (.agg [.int .i64 r1, .int .u64 r2, .int .u64 r3, .bool r4, .int .i64 r5]) h)) (fun v h hr => by unfold hart_hart_store.ret at hr; split at hr; exact hr; exact hr.elim) ?_
    exact calls_of_pts (E := hart_hart_store.E (fun r1 r2 r3 r4 r5 h => κ (.agg [.int .i64 r1, .int .u64 r2, .int .u64 r3, .bool r4, .int .i64 r5]) h) []) (envOK seatOK hart_hart_store.callsOK noIfc_ok) seatOK.mixed hart_hart_store.fun (Nat.le_of_ble_eq_true rfl) wv (cutL_ok trivial) s (fuel := 3000) (by rw [← hart_hart_store.e]; exact hx)
  · exact hx.elim

noncomputable def hart_hart_branch.code : Code := Go.Proofs.Tryz.f60.body.getD .skip

theorem hart_hart_branch.fun : Fun sg.P 60 54 [.cell 2 86] hart_hart_branch.code := mkFun Go.Proofs.Tryz.func60 (by kernel_rfl) (by kernel_rfl) (by kernel_rfl) (by kernel_rfl)

def hart_hart_branch.ret (Q : Int → Int → Int → Bool → Int → Heap → Prop) (v : V) (h : Heap) : Prop :=
  match v with
  | .agg [.int .i64 r1, .int .u64 r2, .int .u64 r3, .bool r4, .int .i64 r5] => Q r1 r2 r3 r4 r5 h
  | _ => False

def hart_hart_branch.C (vs : List V) (κ : V → Heap → Prop) (h : Heap) : Prop :=
  match vs with
  | [.ptr a1] => hart_hart_branch a1 (fun r1 r2 r3 r4 r5 h => κ (.agg [.int .i64 r1, .int .u64 r2, .int .u64 r3, .bool r4, .int .i64 r5]) h) h
  | _ => False

noncomputable def hart_hart_branch.calls : List (Nat × (List V → (V → Heap → Prop) → Heap → Prop)) := [(197, hart_hart_a.C), (202, hart_hart_bb.C)]

noncomputable def hart_hart_branch.E (Q : Int → Int → Int → Bool → Int → Heap → Prop) (cuts : List (Nat × (List Nat × (List V → Heap → Prop)))) : Env := { tis := tisT, fns := fnsT, tys := tysT, gls := [], rts := rtsT, unk := [], nxt := [], calls := hart_hart_branch.calls, ifc := noIfc, cuts := cuts, ret := hart_hart_branch.ret Q, rets := [.cell 2 86], n := 54 }

theorem hart_hart_branch.callsOK {W0 : World} : CallsOK sg W0 hart_hart_branch.calls := ⟨hart_hart_a.S, hart_hart_bb.S, trivial⟩

theorem hart_hart_branch.e : ∀ (a1 : Option Ptr) (Q : Int → Int → Int → Bool → Int → Heap → Prop) (h : Heap), hart_hart_branch a1 Q h = pts (hart_hart_branch.E Q []) 3000 true [.code hart_hart_branch.code] (frOf 0 [.ptr a1]) h := by
  intros; kernel_rfl

theorem hart_hart_branch.S {W0 : World} : FnS sg W0 160 hart_hart_branch.C := by
  intro vs κ h wv hx w s
  unfold hart_hart_branch.C at hx
  split at hx
  · rename_i a1
    refine postImp (ret := hart_hart_branch.ret (fun r1 r2 r3 r4 r5 h => κ (.agg [.int .i64 r1, .int .u64 r2, .int .u64 r3, .bool r4, .int .i64 r5]) h)) (fun v h hr => by unfold hart_hart_branch.ret at hr; split at hr; exact hr; exact hr.elim) ?_
    exact calls_of_pts (E := hart_hart_branch.E (fun r1 r2 r3 r4 r5 h => κ (.agg [.int .i64 r1, .int .u64 r2, .int .u64 r3, .bool r4, .int .i64 r5]) h) []) (envOK seatOK hart_hart_branch.callsOK noIfc_ok) seatOK.mixed hart_hart_branch.fun (Nat.le_of_ble_eq_true rfl) wv (cutL_ok trivial) s (fuel := 3000) (by rw [← hart_hart_branch.e]; exact hx)
  · exact hx.elim

noncomputable def hart_hart_control.code : Code := Go.Proofs.Tryz.f61.body.getD .skip

theorem hart_hart_control.fun : Fun sg.P 61 104 [.cell 2 86] hart_hart_control.code := mkFun Go.Proofs.Tryz.func61 (by kernel_rfl) (by kernel_rfl) (by kernel_rfl) (by kernel_rfl)

def hart_hart_control.ret (Q : Int → Int → Int → Bool → Int → Heap → Prop) (v : V) (h : Heap) : Prop :=
  match v with
  | .agg [.int .i64 r1, .int .u64 r2, .int .u64 r3, .bool r4, .int .i64 r5] => Q r1 r2 r3 r4 r5 h
  | _ => False

def hart_hart_control.C (vs : List V) (κ : V → Heap → Prop) (h : Heap) : Prop :=
  match vs with
  | [.ptr a1] => hart_hart_control a1 (fun r1 r2 r3 r4 r5 h => κ (.agg [.int .i64 r1, .int .u64 r2, .int .u64 r3, .bool r4, .int .i64 r5]) h) h
  | _ => False

noncomputable def hart_hart_control.calls : List (Nat × (List V → (V → Heap → Prop) → Heap → Prop)) := [(197, hart_hart_a.C)]

noncomputable def hart_hart_control.E (Q : Int → Int → Int → Bool → Int → Heap → Prop) (cuts : List (Nat × (List Nat × (List V → Heap → Prop)))) : Env := { tis := tisT, fns := fnsT, tys := tysT, gls := [], rts := rtsT, unk := [], nxt := [], calls := hart_hart_control.calls, ifc := noIfc, cuts := cuts, ret := hart_hart_control.ret Q, rets := [.cell 2 86], n := 104 }

theorem hart_hart_control.callsOK {W0 : World} : CallsOK sg W0 hart_hart_control.calls := ⟨hart_hart_a.S, trivial⟩

theorem hart_hart_control.e : ∀ (a1 : Option Ptr) (Q : Int → Int → Int → Bool → Int → Heap → Prop) (h : Heap), hart_hart_control a1 Q h = pts (hart_hart_control.E Q []) 3000 true [.code hart_hart_control.code] (frOf 0 [.ptr a1]) h := by
  intros; kernel_rfl

theorem hart_hart_control.S {W0 : World} : FnS sg W0 161 hart_hart_control.C := by
  intro vs κ h wv hx w s
  unfold hart_hart_control.C at hx
  split at hx
  · rename_i a1
    refine postImp (ret := hart_hart_control.ret (fun r1 r2 r3 r4 r5 h => κ (.agg [.int .i64 r1, .int .u64 r2, .int .u64 r3, .bool r4, .int .i64 r5]) h)) (fun v h hr => by unfold hart_hart_control.ret at hr; split at hr; exact hr; exact hr.elim) ?_
    exact calls_of_pts (E := hart_hart_control.E (fun r1 r2 r3 r4 r5 h => κ (.agg [.int .i64 r1, .int .u64 r2, .int .u64 r3, .bool r4, .int .i64 r5]) h) []) (envOK seatOK hart_hart_control.callsOK noIfc_ok) seatOK.mixed hart_hart_control.fun (Nat.le_of_ble_eq_true rfl) wv (cutL_ok trivial) s (fuel := 3000) (by rw [← hart_hart_control.e]; exact hx)
  · exact hx.elim

noncomputable def word_Load.code : Code := Go.Proofs.Tryz.f28.body.getD .skip

theorem word_Load.fun : Fun sg.P 28 53 [.tmp 6, .tmp 7] word_Load.code := mkFun Go.Proofs.Tryz.func28 (by kernel_rfl) (by kernel_rfl) (by kernel_rfl) (by kernel_rfl)

def word_Load.ret (Q : Int → Bool → Heap → Prop) (v : V) (h : Heap) : Prop :=
  match v with
  | .tup [.int .u64 r1, .bool r2] => Q r1 r2 h
  | _ => False

def word_Load.C (U : Ifc) (vs : List V) (κ : V → Heap → Prop) (h : Heap) : Prop :=
  match vs with
  | [.sl a1, .int .i64 a2, .int .i64 a3] => word_Load U a1 a2 a3 (fun r1 r2 h => κ (.tup [.int .u64 r1, .bool r2]) h) h
  | _ => False

noncomputable def word_Load.calls (U : Ifc) : List (Nat × (List V → (V → Heap → Prop) → Heap → Prop)) := [(93, word_known.C U)]

noncomputable def word_Load.E (U : Ifc) (Q : Int → Bool → Heap → Prop) (cuts : List (Nat × (List Nat × (List V → Heap → Prop)))) : Env := { tis := tisT, fns := fnsT, tys := tysT, gls := glsT, rts := rtsT, unk := [], nxt := [], calls := word_Load.calls U, ifc := U, cuts := cuts, ret := word_Load.ret Q, rets := [.tmp 6, .tmp 7], n := 53 }

theorem word_Load.callsOK {W0 : World} {U : Ifc} (hU : IfcOK sg W0 glsT U) : CallsOK sg W0 (word_Load.calls U) := ⟨(word_known.S hU), trivial⟩

def word_Load.k2 (I : Heap → Prop) (vs : List V) (h : Heap) : Prop :=
  match vs with
  | [] => I  h
  | _ => False

def word_Load.k5 (I : Int → Int → Sl → Int → Int → Heap → Prop) (vs : List V) (h : Heap) : Prop :=
  match vs with
  | [.int .i64 a1, .int .u64 a2, .sl a3, .int .i64 a4, .int .i64 a5] => I a1 a2 a3 a4 a5 h
  | _ => False

theorem word_Load.p2 : (posC word_Load.code []).filter (fun p => Nat.beq p.1 2) = [(2, atPos (posC word_Load.code []) 2)] := by kernel_rfl

theorem word_Load.e2 : ∀ (U : Ifc)   (Q : Int → Bool → Heap → Prop) (h : Heap), word_Load.j2 U   Q h = pts (word_Load.E U Q []) 3000 true (atPos (posC word_Load.code []) 2) (frAt [] []) h := by
  intros; kernel_rfl

theorem word_Load.s2 {W0 : World} {U : Ifc} (hU : IfcOK sg W0 glsT U) (Q : Int → Bool → Heap → Prop)   : CutOK sg W0 53 (entered 28) (Post sg W0 (word_Load.ret Q)) (posC word_Load.code []) 2 [] (word_Load.k2 (fun  h => word_Load.j2 U   Q h)) := by
  refine cutOK_head (fun vs h hk => ?_)
  unfold word_Load.k2 at hk
  split at hk
  · skip
    intro todo hm ρ a w s f hp
    exact piece (E := word_Load.E U Q []) (vs := []) (envOK seatOK (word_Load.callsOK hU) hU) (fnOK seatOK word_Load.fun) trivial word_Load.p2 (fuel := 3000) (by rw [← word_Load.e2]; exact hk) hm s f hp
  · exact hk.elim

theorem word_Load.p5 : (posC word_Load.code []).filter (fun p => Nat.beq p.1 5) = [(5, atPos (posC word_Load.code []) 5)] := by kernel_rfl

theorem word_Load.e5 : ∀ (U : Ifc)  (I5 : Int → Int → Sl → Int → Int → Heap → Prop) (a1 : Int) (a2 : Int) (a3 : Sl) (a4 : Int) (a5 : Int) (Q : Int → Bool → Heap → Prop) (h : Heap), word_Load.b5 U  I5 a1 a2 a3 a4 a5 Q h = pts (word_Load.E U Q [(5, ([2, 8, 31, 32, 33], word_Load.k5 I5))]) 3000 true (atPos (posC word_Load.code []) 5) (frAt [2, 8, 31, 32, 33] [.int .i64 a1, .int .u64 a2, .sl a3, .int .i64 a4, .int .i64 a5]) h := by
  intros; kernel_rfl

theorem word_Load.s5 {W0 : World} {U : Ifc} (hU : IfcOK sg W0 glsT U) (Q : Int → Bool → Heap → Prop)   : CutOK sg W0 53 (entered 28) (Post sg W0 (word_Load.ret Q)) (posC word_Load.code []) 5 [2, 8, 31, 32, 33] (word_Load.k5 (fun a1 a2 a3 a4 a5 h => word_Load.j5 U  a1 a2 a3 a4 a5 Q h)) := by
  refine cutOK_head (fun vs h hk => ?_)
  unfold word_Load.k5 at hk
  split at hk
  · rename_i a1 a2 a3 a4 a5
    refine hk (fun a1 a2 a3 a4 a5 h => Head sg W0 53 (entered 28) (Post sg W0 (word_Load.ret Q)) (posC word_Load.code []) 5 [2, 8, 31, 32, 33] [.int .i64 a1, .int .u64 a2, .sl a3, .int .i64 a4, .int .i64 a5] h) ?_
    intro a1 a2 a3 a4 a5 h hb todo hm ρ a w s f hp
    have hself : CutOK sg W0 53 (entered 28) (Post sg W0 (word_Load.ret Q)) (posC word_Load.code []) 5 [2, 8, 31, 32, 33] (word_Load.k5 (fun a1 a2 a3 a4 a5 h => Head sg W0 53 (entered 28) (Post sg W0 (word_Load.ret Q)) (posC word_Load.code []) 5 [2, 8, 31, 32, 33] [.int .i64 a1, .int .u64 a2, .sl a3, .int .i64 a4, .int .i64 a5] h)) := cutOK_head (fun vs h hk => by unfold word_Load.k5 at hk; split at hk; exact hk; exact hk.elim)
    exact piece (E := word_Load.E U Q [(5, ([2, 8, 31, 32, 33], word_Load.k5 (fun a1 a2 a3 a4 a5 h => Head sg W0 53 (entered 28) (Post sg W0 (word_Load.ret Q)) (posC word_Load.code []) 5 [2, 8, 31, 32, 33] [.int .i64 a1, .int .u64 a2, .sl a3, .int .i64 a4, .int .i64 a5] h)))]) (vs := [.int .i64 a1, .int .u64 a2, .sl a3, .int .i64 a4, .int .i64 a5]) (envOK seatOK (word_Load.callsOK hU) hU) (fnOK seatOK word_Load.fun) ⟨hself, trivial⟩ word_Load.p5 (fuel := 3000) (by rw [← word_Load.e5]; exact hb) hm s f hp
  · exact hk.elim

theorem word_Load.e : ∀ (U : Ifc) (a1 : Sl) (a2 : Int) (a3 : Int) (Q : Int → Bool → Heap → Prop) (h : Heap), word_Load U a1 a2 a3 Q h = pts (word_Load.E U Q [(2, ([], word_Load.k2 (fun  h => word_Load.j2 U   Q h))), (5, ([2, 8, 31, 32, 33], word_Load.k5 (fun a1 a2 a3 a4 a5 h => word_Load.j5 U  a1 a2 a3 a4 a5 Q h)))]) 3000 true [.code word_Load.code] (frOf 0 [.sl a1, .int .i64 a2, .int .i64 a3]) h := by
  intros; kernel_rfl

theorem word_Load.S {W0 : World} {U : Ifc} (hU : IfcOK sg W0 glsT U) : FnS sg W0 94 (word_Load.C U) := by
  intro vs κ h wv hx w s
  unfold word_Load.C at hx
  split at hx
  · rename_i a1 a2 a3
    refine postImp (ret := word_Load.ret (fun r1 r2 h => κ (.tup [.int .u64 r1, .bool r2]) h)) (fun v h hr => by unfold word_Load.ret at hr; split at hr; exact hr; exact hr.elim) ?_
    exact calls_of_pts (E := word_Load.E U (fun r1 r2 h => κ (.tup [.int .u64 r1, .bool r2]) h) [(2, ([], word_Load.k2 (fun  h => word_Load.j2 U   (fun r1 r2 h => κ (.tup [.int .u64 r1, .bool r2]) h) h))), (5, ([2, 8, 31, 32, 33], word_Load.k5 (fun a1 a2 a3 a4 a5 h => word_Load.j5 U  a1 a2 a3 a4 a5 (fun r1 r2 h => κ (.tup [.int .u64 r1, .bool r2]) h) h)))]) (envOK seatOK (word_Load.callsOK hU) hU) seatOK.mixed word_Load.fun (Nat.le_of_ble_eq_true rfl) wv (cutL_ok ⟨(word_Load.s2 hU (fun r1 r2 h => κ (.tup [.int .u64 r1, .bool r2]) h)), (word_Load.s5 hU (fun r1 r2 h => κ (.tup [.int .u64 r1, .bool r2]) h)), trivial⟩) s (fuel := 3000) (by rw [← word_Load.e]; exact hx)
  · exact hx.elim

noncomputable def mem_Memory_Load.code : Code := Go.Proofs.Tryz.f10.body.getD .skip

theorem mem_Memory_Load.fun : Fun sg.P 10 29 [.tmp 6, .tmp 7] mem_Memory_Load.code := mkFun Go.Proofs.Tryz.func10 (by kernel_rfl) (by kernel_rfl) (by kernel_rfl) (by kernel_rfl)

def mem_Memory_Load.ret (Q : Int → Int → Heap → Prop) (v : V) (h : Heap) : Prop :=
  match v with
  | .tup [.int .u64 r1, .int .i64 r2] => Q r1 r2 h
  | _ => False

def mem_Memory_Load.C (U : Ifc) (vs : List V) (κ : V → Heap → Prop) (h : Heap) : Prop :=
  match vs with
  | [.ptr a1, .int .u64 a2, .int .i64 a3] => mem_Memory_Load U a1 a2 a3 (fun r1 r2 h => κ (.tup [.int .u64 r1, .int .i64 r2]) h) h
  | _ => False

noncomputable def mem_Memory_Load.calls (U : Ifc) : List (Nat × (List V → (V → Heap → Prop) → Heap → Prop)) := [(59, mem_Memory_number.C), (94, word_Load.C U)]

noncomputable def mem_Memory_Load.E (U : Ifc) (Q : Int → Int → Heap → Prop) (cuts : List (Nat × (List Nat × (List V → Heap → Prop)))) : Env := { tis := tisT, fns := fnsT, tys := tysT, gls := glsT, rts := rtsT, unk := [], nxt := [], calls := mem_Memory_Load.calls U, ifc := U, cuts := cuts, ret := mem_Memory_Load.ret Q, rets := [.tmp 6, .tmp 7], n := 29 }

theorem mem_Memory_Load.callsOK {W0 : World} {U : Ifc} (hU : IfcOK sg W0 glsT U) : CallsOK sg W0 (mem_Memory_Load.calls U) := ⟨mem_Memory_number.S, (word_Load.S hU), trivial⟩

theorem mem_Memory_Load.e : ∀ (U : Ifc) (a1 : Option Ptr) (a2 : Int) (a3 : Int) (Q : Int → Int → Heap → Prop) (h : Heap), mem_Memory_Load U a1 a2 a3 Q h = pts (mem_Memory_Load.E U Q []) 3000 true [.code mem_Memory_Load.code] (frOf 0 [.ptr a1, .int .u64 a2, .int .i64 a3]) h := by
  intros; kernel_rfl

theorem mem_Memory_Load.S {W0 : World} {U : Ifc} (hU : IfcOK sg W0 glsT U) : FnS sg W0 95 (mem_Memory_Load.C U) := by
  intro vs κ h wv hx w s
  unfold mem_Memory_Load.C at hx
  split at hx
  · rename_i a1 a2 a3
    refine postImp (ret := mem_Memory_Load.ret (fun r1 r2 h => κ (.tup [.int .u64 r1, .int .i64 r2]) h)) (fun v h hr => by unfold mem_Memory_Load.ret at hr; split at hr; exact hr; exact hr.elim) ?_
    exact calls_of_pts (E := mem_Memory_Load.E U (fun r1 r2 h => κ (.tup [.int .u64 r1, .int .i64 r2]) h) []) (envOK seatOK (mem_Memory_Load.callsOK hU) hU) seatOK.mixed mem_Memory_Load.fun (Nat.le_of_ble_eq_true rfl) wv (cutL_ok trivial) s (fuel := 3000) (by rw [← mem_Memory_Load.e]; exact hx)
  · exact hx.elim

noncomputable def palisadelaw09_Flat_Load.code : Code := Go.Proofs.Tryz.f123.body.getD .skip

theorem palisadelaw09_Flat_Load.fun : Fun sg.P 123 17 [.tmp 6, .tmp 7] palisadelaw09_Flat_Load.code := mkFun Go.Proofs.Tryz.func123 (by kernel_rfl) (by kernel_rfl) (by kernel_rfl) (by kernel_rfl)

def palisadelaw09_Flat_Load.ret (Q : Int → Int → Heap → Prop) (v : V) (h : Heap) : Prop :=
  match v with
  | .tup [.int .u64 r1, .int .i64 r2] => Q r1 r2 h
  | _ => False

def palisadelaw09_Flat_Load.C (U : Ifc) (vs : List V) (κ : V → Heap → Prop) (h : Heap) : Prop :=
  match vs with
  | [.ptr a1, .int .u64 a2, .int .i64 a3] => palisadelaw09_Flat_Load U a1 a2 a3 (fun r1 r2 h => κ (.tup [.int .u64 r1, .int .i64 r2]) h) h
  | _ => False

noncomputable def palisadelaw09_Flat_Load.calls (U : Ifc) : List (Nat × (List V → (V → Heap → Prop) → Heap → Prop)) := [(95, mem_Memory_Load.C U)]

noncomputable def palisadelaw09_Flat_Load.E (U : Ifc) (Q : Int → Int → Heap → Prop) (cuts : List (Nat × (List Nat × (List V → Heap → Prop)))) : Env := { tis := tisT, fns := fnsT, tys := tysT, gls := glsT, rts := rtsT, unk := [], nxt := [], calls := palisadelaw09_Flat_Load.calls U, ifc := U, cuts := cuts, ret := palisadelaw09_Flat_Load.ret Q, rets := [.tmp 6, .tmp 7], n := 17 }

theorem palisadelaw09_Flat_Load.callsOK {W0 : World} {U : Ifc} (hU : IfcOK sg W0 glsT U) : CallsOK sg W0 (palisadelaw09_Flat_Load.calls U) := ⟨(mem_Memory_Load.S hU), trivial⟩

theorem palisadelaw09_Flat_Load.e : ∀ (U : Ifc) (a1 : Option Ptr) (a2 : Int) (a3 : Int) (Q : Int → Int → Heap → Prop) (h : Heap), palisadelaw09_Flat_Load U a1 a2 a3 Q h = pts (palisadelaw09_Flat_Load.E U Q []) 3000 true [.code palisadelaw09_Flat_Load.code] (frOf 0 [.ptr a1, .int .u64 a2, .int .i64 a3]) h := by
  intros; kernel_rfl

theorem palisadelaw09_Flat_Load.S {W0 : World} {U : Ifc} (hU : IfcOK sg W0 glsT U) : FnS sg W0 234 (palisadelaw09_Flat_Load.C U) := by
  intro vs κ h wv hx w s
  unfold palisadelaw09_Flat_Load.C at hx
  split at hx
  · rename_i a1 a2 a3
    refine postImp (ret := palisadelaw09_Flat_Load.ret (fun r1 r2 h => κ (.tup [.int .u64 r1, .int .i64 r2]) h)) (fun v h hr => by unfold palisadelaw09_Flat_Load.ret at hr; split at hr; exact hr; exact hr.elim) ?_
    exact calls_of_pts (E := palisadelaw09_Flat_Load.E U (fun r1 r2 h => κ (.tup [.int .u64 r1, .int .i64 r2]) h) []) (envOK seatOK (palisadelaw09_Flat_Load.callsOK hU) hU) seatOK.mixed palisadelaw09_Flat_Load.fun (Nat.le_of_ble_eq_true rfl) wv (cutL_ok trivial) s (fuel := 3000) (by rw [← palisadelaw09_Flat_Load.e]; exact hx)
  · exact hx.elim

noncomputable def palisadelaw09_Flat_Translate.code : Code := Go.Proofs.Tryz.f125.body.getD .skip

theorem palisadelaw09_Flat_Translate.fun : Fun sg.P 125 46 [.tmp 10, .cell 11 39] palisadelaw09_Flat_Translate.code := mkFun Go.Proofs.Tryz.func125 (by kernel_rfl) (by kernel_rfl) (by kernel_rfl) (by kernel_rfl)

def palisadelaw09_Flat_Translate.ret (Q : Int → Int → Int → Int → Heap → Prop) (v : V) (h : Heap) : Prop :=
  match v with
  | .tup [.int .u64 r1, .agg [.int .i64 r2, .int .u64 r3, .int .u64 r4]] => Q r1 r2 r3 r4 h
  | _ => False

def palisadelaw09_Flat_Translate.C (U : Ifc) (vs : List V) (κ : V → Heap → Prop) (h : Heap) : Prop :=
  match vs with
  | [.ptr a1, .int .i64 a2, .int .u64 a3, .int .i64 a4, .bool a5] => palisadelaw09_Flat_Translate U a1 a2 a3 a4 a5 (fun r1 r2 r3 r4 h => κ (.tup [.int .u64 r1, .agg [.int .i64 r2, .int .u64 r3, .int .u64 r4]]) h) h
  | _ => False

noncomputable def palisadelaw09_Flat_Translate.calls (U : Ifc) : List (Nat × (List V → (V → Heap → Prop) → Heap → Prop)) := []

noncomputable def palisadelaw09_Flat_Translate.E (U : Ifc) (Q : Int → Int → Int → Int → Heap → Prop) (cuts : List (Nat × (List Nat × (List V → Heap → Prop)))) : Env := { tis := tisT, fns := fnsT, tys := tysT, gls := glsT, rts := rtsT, unk := [], nxt := [], calls := palisadelaw09_Flat_Translate.calls U, ifc := U, cuts := cuts, ret := palisadelaw09_Flat_Translate.ret Q, rets := [.tmp 10, .cell 11 39], n := 46 }

theorem palisadelaw09_Flat_Translate.callsOK {W0 : World} {U : Ifc} (hU : IfcOK sg W0 glsT U) : CallsOK sg W0 (palisadelaw09_Flat_Translate.calls U) := trivial

theorem palisadelaw09_Flat_Translate.e : ∀ (U : Ifc) (a1 : Option Ptr) (a2 : Int) (a3 : Int) (a4 : Int) (a5 : Bool) (Q : Int → Int → Int → Int → Heap → Prop) (h : Heap), palisadelaw09_Flat_Translate U a1 a2 a3 a4 a5 Q h = pts (palisadelaw09_Flat_Translate.E U Q []) 3000 true [.code palisadelaw09_Flat_Translate.code] (frOf 0 [.ptr a1, .int .i64 a2, .int .u64 a3, .int .i64 a4, .bool a5]) h := by
  intros; kernel_rfl

theorem palisadelaw09_Flat_Translate.S {W0 : World} {U : Ifc} (hU : IfcOK sg W0 glsT U) : FnS sg W0 250 (palisadelaw09_Flat_Translate.C U) := by
  intro vs κ h wv hx w s
  unfold palisadelaw09_Flat_Translate.C at hx
  split at hx
  · rename_i a1 a2 a3 a4 a5
    refine postImp (ret := palisadelaw09_Flat_Translate.ret (fun r1 r2 r3 r4 h => κ (.tup [.int .u64 r1, .agg [.int .i64 r2, .int .u64 r3, .int .u64 r4]]) h)) (fun v h hr => by unfold palisadelaw09_Flat_Translate.ret at hr; split at hr; exact hr; exact hr.elim) ?_
    exact calls_of_pts (E := palisadelaw09_Flat_Translate.E U (fun r1 r2 r3 r4 h => κ (.tup [.int .u64 r1, .agg [.int .i64 r2, .int .u64 r3, .int .u64 r4]]) h) []) (envOK seatOK (palisadelaw09_Flat_Translate.callsOK hU) hU) seatOK.mixed palisadelaw09_Flat_Translate.fun (Nat.le_of_ble_eq_true rfl) wv (cutL_ok trivial) s (fuel := 3000) (by rw [← palisadelaw09_Flat_Translate.e]; exact hx)
  · exact hx.elim

end Go.Fn
