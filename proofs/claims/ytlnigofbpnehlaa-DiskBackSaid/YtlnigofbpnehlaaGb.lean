/- The links of the shallow functions to the machine. PRINTED by lift.py. -/
import Derived.Test.YtlnigofbpnehlaaGa
set_option linter.unusedVariables false
set_option maxRecDepth 100000
namespace Go.Fn
open Go.Lift

noncomputable def disk_New.code : Code := Go.Proofs.Try.f30.body.getD .skip

theorem disk_New.fun : Fun sg.P 30 14 [.tmp 2, .tmp 3] disk_New.code := mkFun Go.Proofs.Try.func30 (by kernel_rfl) (by kernel_rfl) (by kernel_rfl) (by kernel_rfl)

def disk_New.ret (Q : (Option Ptr) → Int → Heap → Prop) (v : V) (h : Heap) : Prop :=
  match v with
  | .tup [.ptr r1, .int .i64 r2] => Q r1 r2 h
  | _ => False

def disk_New.C (vs : List V) (κ : V → Heap → Prop) (h : Heap) : Prop :=
  match vs with
  | [.int .i64 a1] => disk_New a1 (fun r1 r2 h => κ (.tup [.ptr r1, .int .i64 r2]) h) h
  | _ => False

noncomputable def disk_New.calls : List (Nat × (List V → (V → Heap → Prop) → Heap → Prop)) := []

noncomputable def disk_New.E (Q : (Option Ptr) → Int → Heap → Prop) (cuts : List (Nat × (List Nat × (List V → Heap → Prop)))) : Env := { tis := tisT, fns := fnsT, tys := tysT, gls := [], rts := rtsT, unk := [], calls := disk_New.calls, ifc := noIfc, cuts := cuts, ret := disk_New.ret Q, rets := [.tmp 2, .tmp 3], n := 14 }

theorem disk_New.callsOK {W0 : World} : CallsOK sg W0 disk_New.calls := trivial

theorem disk_New.e : ∀ (a1 : Int) (Q : (Option Ptr) → Int → Heap → Prop) (h : Heap), disk_New a1 Q h = pts (disk_New.E Q []) 3000 true [.code disk_New.code] (frOf 0 [.int .i64 a1]) h := by
  intros; kernel_rfl

theorem disk_New.S {W0 : World} : FnS sg W0 85 disk_New.C := by
  intro vs κ h wv hx w s
  unfold disk_New.C at hx
  split at hx
  · rename_i a1
    refine postImp (ret := disk_New.ret (fun r1 r2 h => κ (.tup [.ptr r1, .int .i64 r2]) h)) (fun v h hr => by unfold disk_New.ret at hr; split at hr; exact hr; exact hr.elim) ?_
    exact calls_of_pts (E := disk_New.E (fun r1 r2 h => κ (.tup [.ptr r1, .int .i64 r2]) h) []) (envOK seatOK disk_New.callsOK noIfc_ok) seatOK.mixed disk_New.fun (Nat.le_of_ble_eq_true rfl) wv (cutL_ok trivial) s (fuel := 3000) (by rw [← disk_New.e]; exact hx)
  · exact hx.elim

noncomputable def mem_New.code : Code := Go.Proofs.Try.f31.body.getD .skip

theorem mem_New.fun : Fun sg.P 31 15 [.tmp 2, .tmp 3] mem_New.code := mkFun Go.Proofs.Try.func31 (by kernel_rfl) (by kernel_rfl) (by kernel_rfl) (by kernel_rfl)

def mem_New.ret (Q : (Option Ptr) → Int → Heap → Prop) (v : V) (h : Heap) : Prop :=
  match v with
  | .tup [.ptr r1, .int .i64 r2] => Q r1 r2 h
  | _ => False

def mem_New.C (vs : List V) (κ : V → Heap → Prop) (h : Heap) : Prop :=
  match vs with
  | [.int .i64 a1] => mem_New a1 (fun r1 r2 h => κ (.tup [.ptr r1, .int .i64 r2]) h) h
  | _ => False

noncomputable def mem_New.calls : List (Nat × (List V → (V → Heap → Prop) → Heap → Prop)) := []

noncomputable def mem_New.E (Q : (Option Ptr) → Int → Heap → Prop) (cuts : List (Nat × (List Nat × (List V → Heap → Prop)))) : Env := { tis := tisT, fns := fnsT, tys := tysT, gls := [], rts := rtsT, unk := [], calls := mem_New.calls, ifc := noIfc, cuts := cuts, ret := mem_New.ret Q, rets := [.tmp 2, .tmp 3], n := 15 }

theorem mem_New.callsOK {W0 : World} : CallsOK sg W0 mem_New.calls := trivial

theorem mem_New.e : ∀ (a1 : Int) (Q : (Option Ptr) → Int → Heap → Prop) (h : Heap), mem_New a1 Q h = pts (mem_New.E Q []) 3000 true [.code mem_New.code] (frOf 0 [.int .i64 a1]) h := by
  intros; kernel_rfl

theorem mem_New.S {W0 : World} : FnS sg W0 28 mem_New.C := by
  intro vs κ h wv hx w s
  unfold mem_New.C at hx
  split at hx
  · rename_i a1
    refine postImp (ret := mem_New.ret (fun r1 r2 h => κ (.tup [.ptr r1, .int .i64 r2]) h)) (fun v h hr => by unfold mem_New.ret at hr; split at hr; exact hr; exact hr.elim) ?_
    exact calls_of_pts (E := mem_New.E (fun r1 r2 h => κ (.tup [.ptr r1, .int .i64 r2]) h) []) (envOK seatOK mem_New.callsOK noIfc_ok) seatOK.mixed mem_New.fun (Nat.le_of_ble_eq_true rfl) wv (cutL_ok trivial) s (fuel := 3000) (by rw [← mem_New.e]; exact hx)
  · exact hx.elim

noncomputable def mem_Memory_none.code : Code := Go.Proofs.Try.f84.body.getD .skip

theorem mem_Memory_none.fun : Fun sg.P 84 12 [.tmp 2] mem_Memory_none.code := mkFun Go.Proofs.Try.func84 (by kernel_rfl) (by kernel_rfl) (by kernel_rfl) (by kernel_rfl)

def mem_Memory_none.ret (Q : Bool → Heap → Prop) (v : V) (h : Heap) : Prop :=
  match v with
  | .bool r1 => Q r1 h
  | _ => False

def mem_Memory_none.C (vs : List V) (κ : V → Heap → Prop) (h : Heap) : Prop :=
  match vs with
  | [.ptr a1] => mem_Memory_none a1 (fun r1 h => κ (.bool r1) h) h
  | _ => False

noncomputable def mem_Memory_none.calls : List (Nat × (List V → (V → Heap → Prop) → Heap → Prop)) := []

noncomputable def mem_Memory_none.E (Q : Bool → Heap → Prop) (cuts : List (Nat × (List Nat × (List V → Heap → Prop)))) : Env := { tis := tisT, fns := fnsT, tys := tysT, gls := [], rts := rtsT, unk := [], calls := mem_Memory_none.calls, ifc := noIfc, cuts := cuts, ret := mem_Memory_none.ret Q, rets := [.tmp 2], n := 12 }

theorem mem_Memory_none.callsOK {W0 : World} : CallsOK sg W0 mem_Memory_none.calls := trivial

theorem mem_Memory_none.e : ∀ (a1 : Option Ptr) (Q : Bool → Heap → Prop) (h : Heap), mem_Memory_none a1 Q h = pts (mem_Memory_none.E Q []) 3000 true [.code mem_Memory_none.code] (frOf 0 [.ptr a1]) h := by
  intros; kernel_rfl

theorem mem_Memory_none.S {W0 : World} : FnS sg W0 31 mem_Memory_none.C := by
  intro vs κ h wv hx w s
  unfold mem_Memory_none.C at hx
  split at hx
  · rename_i a1
    refine postImp (ret := mem_Memory_none.ret (fun r1 h => κ (.bool r1) h)) (fun v h hr => by unfold mem_Memory_none.ret at hr; split at hr; exact hr; exact hr.elim) ?_
    exact calls_of_pts (E := mem_Memory_none.E (fun r1 h => κ (.bool r1) h) []) (envOK seatOK mem_Memory_none.callsOK noIfc_ok) seatOK.mixed mem_Memory_none.fun (Nat.le_of_ble_eq_true rfl) wv (cutL_ok trivial) s (fuel := 3000) (by rw [← mem_Memory_none.e]; exact hx)
  · exact hx.elim

noncomputable def mem_Memory_part_c1.code : Code := Go.Proofs.Try.f83.body.getD .skip

theorem mem_Memory_part_c1.fun : Fun sg.P 83 23 [.tmp 3] mem_Memory_part_c1.code := mkFun Go.Proofs.Try.func83 (by kernel_rfl) (by kernel_rfl) (by kernel_rfl) (by kernel_rfl)

def mem_Memory_part_c1.ret (Q : Bool → Heap → Prop) (v : V) (h : Heap) : Prop :=
  match v with
  | .bool r1 => Q r1 h
  | _ => False

def mem_Memory_part_c1.C (vs : List V) (κ : V → Heap → Prop) (h : Heap) : Prop :=
  match vs with
  | [.ptr (some a1), .ptr (some a2), .ptr (some a3)] => mem_Memory_part_c1 a1 a2 a3 (fun r1 h => κ (.bool r1) h) h
  | _ => False

noncomputable def mem_Memory_part_c1.calls : List (Nat × (List V → (V → Heap → Prop) → Heap → Prop)) := []

noncomputable def mem_Memory_part_c1.E (Q : Bool → Heap → Prop) (cuts : List (Nat × (List Nat × (List V → Heap → Prop)))) : Env := { tis := tisT, fns := fnsT, tys := tysT, gls := [], rts := rtsT, unk := [], calls := mem_Memory_part_c1.calls, ifc := noIfc, cuts := cuts, ret := mem_Memory_part_c1.ret Q, rets := [.tmp 3], n := 23 }

theorem mem_Memory_part_c1.callsOK {W0 : World} : CallsOK sg W0 mem_Memory_part_c1.calls := trivial

theorem mem_Memory_part_c1.e : ∀ (a1 : Ptr) (a2 : Ptr) (a3 : Ptr) (Q : Bool → Heap → Prop) (h : Heap), mem_Memory_part_c1 a1 a2 a3 Q h = pts (mem_Memory_part_c1.E Q []) 3000 true [.code mem_Memory_part_c1.code] (frOf 0 [.ptr (some a1), .ptr (some a2), .ptr (some a3)]) h := by
  intros; kernel_rfl

theorem mem_Memory_part_c1.S {W0 : World} : FnS sg W0 2 mem_Memory_part_c1.C := by
  intro vs κ h wv hx w s
  unfold mem_Memory_part_c1.C at hx
  split at hx
  · rename_i a1 a2 a3
    refine postImp (ret := mem_Memory_part_c1.ret (fun r1 h => κ (.bool r1) h)) (fun v h hr => by unfold mem_Memory_part_c1.ret at hr; split at hr; exact hr; exact hr.elim) ?_
    exact calls_of_pts (E := mem_Memory_part_c1.E (fun r1 h => κ (.bool r1) h) []) (envOK seatOK mem_Memory_part_c1.callsOK noIfc_ok) seatOK.mixed mem_Memory_part_c1.fun (Nat.le_of_ble_eq_true rfl) wv (cutL_ok trivial) s (fuel := 3000) (by rw [← mem_Memory_part_c1.e]; exact hx)
  · exact hx.elim

noncomputable def mem_Memory_part.code : Code := Go.Proofs.Try.f63.body.getD .skip

theorem mem_Memory_part.fun : Fun sg.P 63 33 [.tmp 6, .tmp 7] mem_Memory_part.code := mkFun Go.Proofs.Try.func63 (by kernel_rfl) (by kernel_rfl) (by kernel_rfl) (by kernel_rfl)

def mem_Memory_part.ret (Q : Sl → Int → Heap → Prop) (v : V) (h : Heap) : Prop :=
  match v with
  | .tup [.sl r1, .int .i64 r2] => Q r1 r2 h
  | _ => False

def mem_Memory_part.C (vs : List V) (κ : V → Heap → Prop) (h : Heap) : Prop :=
  match vs with
  | [.ptr a1, .int .u64 a2, .int .i64 a3] => mem_Memory_part a1 a2 a3 (fun r1 r2 h => κ (.tup [.sl r1, .int .i64 r2]) h) h
  | _ => False

noncomputable def mem_Memory_part.calls : List (Nat × (List V → (V → Heap → Prop) → Heap → Prop)) := [(2, mem_Memory_part_c1.C), (31, mem_Memory_none.C)]

noncomputable def mem_Memory_part.E (Q : Sl → Int → Heap → Prop) (cuts : List (Nat × (List Nat × (List V → Heap → Prop)))) : Env := { tis := tisT, fns := fnsT, tys := tysT, gls := [], rts := rtsT, unk := [], calls := mem_Memory_part.calls, ifc := noIfc, cuts := cuts, ret := mem_Memory_part.ret Q, rets := [.tmp 6, .tmp 7], n := 33 }

theorem mem_Memory_part.callsOK {W0 : World} : CallsOK sg W0 mem_Memory_part.calls := ⟨mem_Memory_part_c1.S, mem_Memory_none.S, trivial⟩

theorem mem_Memory_part.e : ∀ (a1 : Option Ptr) (a2 : Int) (a3 : Int) (Q : Sl → Int → Heap → Prop) (h : Heap), mem_Memory_part a1 a2 a3 Q h = pts (mem_Memory_part.E Q []) 3000 true [.code mem_Memory_part.code] (frOf 0 [.ptr a1, .int .u64 a2, .int .i64 a3]) h := by
  intros; kernel_rfl

theorem mem_Memory_part.S {W0 : World} : FnS sg W0 32 mem_Memory_part.C := by
  intro vs κ h wv hx w s
  unfold mem_Memory_part.C at hx
  split at hx
  · rename_i a1 a2 a3
    refine postImp (ret := mem_Memory_part.ret (fun r1 r2 h => κ (.tup [.sl r1, .int .i64 r2]) h)) (fun v h hr => by unfold mem_Memory_part.ret at hr; split at hr; exact hr; exact hr.elim) ?_
    exact calls_of_pts (E := mem_Memory_part.E (fun r1 r2 h => κ (.tup [.sl r1, .int .i64 r2]) h) []) (envOK seatOK mem_Memory_part.callsOK noIfc_ok) seatOK.mixed mem_Memory_part.fun (Nat.le_of_ble_eq_true rfl) wv (cutL_ok trivial) s (fuel := 3000) (by rw [← mem_Memory_part.e]; exact hx)
  · exact hx.elim

noncomputable def mem_Memory_Put.code : Code := Go.Proofs.Try.f32.body.getD .skip

theorem mem_Memory_Put.fun : Fun sg.P 32 23 [.tmp 6] mem_Memory_Put.code := mkFun Go.Proofs.Try.func32 (by kernel_rfl) (by kernel_rfl) (by kernel_rfl) (by kernel_rfl)

def mem_Memory_Put.ret (Q : Int → Heap → Prop) (v : V) (h : Heap) : Prop :=
  match v with
  | .int .i64 r1 => Q r1 h
  | _ => False

def mem_Memory_Put.C (vs : List V) (κ : V → Heap → Prop) (h : Heap) : Prop :=
  match vs with
  | [.ptr a1, .int .u64 a2, .sl a3] => mem_Memory_Put a1 a2 a3 (fun r1 h => κ (.int .i64 r1) h) h
  | _ => False

noncomputable def mem_Memory_Put.calls : List (Nat × (List V → (V → Heap → Prop) → Heap → Prop)) := [(32, mem_Memory_part.C)]

noncomputable def mem_Memory_Put.E (Q : Int → Heap → Prop) (cuts : List (Nat × (List Nat × (List V → Heap → Prop)))) : Env := { tis := tisT, fns := fnsT, tys := tysT, gls := [], rts := rtsT, unk := [], calls := mem_Memory_Put.calls, ifc := noIfc, cuts := cuts, ret := mem_Memory_Put.ret Q, rets := [.tmp 6], n := 23 }

theorem mem_Memory_Put.callsOK {W0 : World} : CallsOK sg W0 mem_Memory_Put.calls := ⟨mem_Memory_part.S, trivial⟩

theorem mem_Memory_Put.e : ∀ (a1 : Option Ptr) (a2 : Int) (a3 : Sl) (Q : Int → Heap → Prop) (h : Heap), mem_Memory_Put a1 a2 a3 Q h = pts (mem_Memory_Put.E Q []) 3000 true [.code mem_Memory_Put.code] (frOf 0 [.ptr a1, .int .u64 a2, .sl a3]) h := by
  intros; kernel_rfl

theorem mem_Memory_Put.S {W0 : World} : FnS sg W0 33 mem_Memory_Put.C := by
  intro vs κ h wv hx w s
  unfold mem_Memory_Put.C at hx
  split at hx
  · rename_i a1 a2 a3
    refine postImp (ret := mem_Memory_Put.ret (fun r1 h => κ (.int .i64 r1) h)) (fun v h hr => by unfold mem_Memory_Put.ret at hr; split at hr; exact hr; exact hr.elim) ?_
    exact calls_of_pts (E := mem_Memory_Put.E (fun r1 h => κ (.int .i64 r1) h) []) (envOK seatOK mem_Memory_Put.callsOK noIfc_ok) seatOK.mixed mem_Memory_Put.fun (Nat.le_of_ble_eq_true rfl) wv (cutL_ok trivial) s (fuel := 3000) (by rw [← mem_Memory_Put.e]; exact hx)
  · exact hx.elim

noncomputable def disk_Disk_none.code : Code := Go.Proofs.Try.f67.body.getD .skip

theorem disk_Disk_none.fun : Fun sg.P 67 12 [.tmp 2] disk_Disk_none.code := mkFun Go.Proofs.Try.func67 (by kernel_rfl) (by kernel_rfl) (by kernel_rfl) (by kernel_rfl)

def disk_Disk_none.ret (Q : Bool → Heap → Prop) (v : V) (h : Heap) : Prop :=
  match v with
  | .bool r1 => Q r1 h
  | _ => False

def disk_Disk_none.C (vs : List V) (κ : V → Heap → Prop) (h : Heap) : Prop :=
  match vs with
  | [.ptr a1] => disk_Disk_none a1 (fun r1 h => κ (.bool r1) h) h
  | _ => False

noncomputable def disk_Disk_none.calls : List (Nat × (List V → (V → Heap → Prop) → Heap → Prop)) := []

noncomputable def disk_Disk_none.E (Q : Bool → Heap → Prop) (cuts : List (Nat × (List Nat × (List V → Heap → Prop)))) : Env := { tis := tisT, fns := fnsT, tys := tysT, gls := [], rts := rtsT, unk := [], calls := disk_Disk_none.calls, ifc := noIfc, cuts := cuts, ret := disk_Disk_none.ret Q, rets := [.tmp 2], n := 12 }

theorem disk_Disk_none.callsOK {W0 : World} : CallsOK sg W0 disk_Disk_none.calls := trivial

theorem disk_Disk_none.e : ∀ (a1 : Option Ptr) (Q : Bool → Heap → Prop) (h : Heap), disk_Disk_none a1 Q h = pts (disk_Disk_none.E Q []) 3000 true [.code disk_Disk_none.code] (frOf 0 [.ptr a1]) h := by
  intros; kernel_rfl

theorem disk_Disk_none.S {W0 : World} : FnS sg W0 29 disk_Disk_none.C := by
  intro vs κ h wv hx w s
  unfold disk_Disk_none.C at hx
  split at hx
  · rename_i a1
    refine postImp (ret := disk_Disk_none.ret (fun r1 h => κ (.bool r1) h)) (fun v h hr => by unfold disk_Disk_none.ret at hr; split at hr; exact hr; exact hr.elim) ?_
    exact calls_of_pts (E := disk_Disk_none.E (fun r1 h => κ (.bool r1) h) []) (envOK seatOK disk_Disk_none.callsOK noIfc_ok) seatOK.mixed disk_Disk_none.fun (Nat.le_of_ble_eq_true rfl) wv (cutL_ok trivial) s (fuel := 3000) (by rw [← disk_Disk_none.e]; exact hx)
  · exact hx.elim

noncomputable def disk_Disk_wrong.code : Code := Go.Proofs.Try.f64.body.getD .skip

theorem disk_Disk_wrong.fun : Fun sg.P 64 19 [.tmp 4] disk_Disk_wrong.code := mkFun Go.Proofs.Try.func64 (by kernel_rfl) (by kernel_rfl) (by kernel_rfl) (by kernel_rfl)

def disk_Disk_wrong.ret (Q : Int → Heap → Prop) (v : V) (h : Heap) : Prop :=
  match v with
  | .int .i64 r1 => Q r1 h
  | _ => False

def disk_Disk_wrong.C (vs : List V) (κ : V → Heap → Prop) (h : Heap) : Prop :=
  match vs with
  | [.ptr a1, .int .i64 a2] => disk_Disk_wrong a1 a2 (fun r1 h => κ (.int .i64 r1) h) h
  | _ => False

noncomputable def disk_Disk_wrong.calls : List (Nat × (List V → (V → Heap → Prop) → Heap → Prop)) := [(29, disk_Disk_none.C)]

noncomputable def disk_Disk_wrong.E (Q : Int → Heap → Prop) (cuts : List (Nat × (List Nat × (List V → Heap → Prop)))) : Env := { tis := tisT, fns := fnsT, tys := tysT, gls := [], rts := rtsT, unk := [], calls := disk_Disk_wrong.calls, ifc := noIfc, cuts := cuts, ret := disk_Disk_wrong.ret Q, rets := [.tmp 4], n := 19 }

theorem disk_Disk_wrong.callsOK {W0 : World} : CallsOK sg W0 disk_Disk_wrong.calls := ⟨disk_Disk_none.S, trivial⟩

theorem disk_Disk_wrong.e : ∀ (a1 : Option Ptr) (a2 : Int) (Q : Int → Heap → Prop) (h : Heap), disk_Disk_wrong a1 a2 Q h = pts (disk_Disk_wrong.E Q []) 3000 true [.code disk_Disk_wrong.code] (frOf 0 [.ptr a1, .int .i64 a2]) h := by
  intros; kernel_rfl

theorem disk_Disk_wrong.S {W0 : World} : FnS sg W0 36 disk_Disk_wrong.C := by
  intro vs κ h wv hx w s
  unfold disk_Disk_wrong.C at hx
  split at hx
  · rename_i a1 a2
    refine postImp (ret := disk_Disk_wrong.ret (fun r1 h => κ (.int .i64 r1) h)) (fun v h hr => by unfold disk_Disk_wrong.ret at hr; split at hr; exact hr; exact hr.elim) ?_
    exact calls_of_pts (E := disk_Disk_wrong.E (fun r1 h => κ (.int .i64 r1) h) []) (envOK seatOK disk_Disk_wrong.callsOK noIfc_ok) seatOK.mixed disk_Disk_wrong.fun (Nat.le_of_ble_eq_true rfl) wv (cutL_ok trivial) s (fuel := 3000) (by rw [← disk_Disk_wrong.e]; exact hx)
  · exact hx.elim

noncomputable def slices_IndexFunc_disk_Request_disk_Request.code : Code := Go.Proofs.Try.f85.body.getD .skip

theorem slices_IndexFunc_disk_Request_disk_Request.fun : Fun sg.P 85 19 [.tmp 4] slices_IndexFunc_disk_Request_disk_Request.code := mkFun Go.Proofs.Try.func85 (by kernel_rfl) (by kernel_rfl) (by kernel_rfl) (by kernel_rfl)

def slices_IndexFunc_disk_Request_disk_Request.ret (Q : Int → Heap → Prop) (v : V) (h : Heap) : Prop :=
  match v with
  | .int .i64 r1 => Q r1 h
  | _ => False

def slices_IndexFunc_disk_Request_disk_Request.C (U : Ifc) (vs : List V) (κ : V → Heap → Prop) (h : Heap) : Prop :=
  match vs with
  | [.sl a1, a2] => slices_IndexFunc_disk_Request_disk_Request U a1 a2 (fun r1 h => κ (.int .i64 r1) h) h
  | _ => False

noncomputable def slices_IndexFunc_disk_Request_disk_Request.calls (U : Ifc) : List (Nat × (List V → (V → Heap → Prop) → Heap → Prop)) := []

noncomputable def slices_IndexFunc_disk_Request_disk_Request.E (U : Ifc) (Q : Int → Heap → Prop) (cuts : List (Nat × (List Nat × (List V → Heap → Prop)))) : Env := { tis := tisT, fns := fnsT, tys := tysT, gls := glsT, rts := rtsT, unk := [11], calls := slices_IndexFunc_disk_Request_disk_Request.calls U, ifc := U, cuts := cuts, ret := slices_IndexFunc_disk_Request_disk_Request.ret Q, rets := [.tmp 4], n := 19 }

theorem slices_IndexFunc_disk_Request_disk_Request.callsOK {W0 : World} {U : Ifc} (hU : IfcOK sg W0 glsT U) : CallsOK sg W0 (slices_IndexFunc_disk_Request_disk_Request.calls U) := trivial

def slices_IndexFunc_disk_Request_disk_Request.k2 (I : Sl → V → Int → Int → Heap → Prop) (vs : List V) (h : Heap) : Prop :=
  match vs with
  | [.sl a1, a2, .int .i64 a3, .int .i64 a4] => I a1 a2 a3 a4 h
  | _ => False

theorem slices_IndexFunc_disk_Request_disk_Request.p2 : (posC slices_IndexFunc_disk_Request_disk_Request.code []).filter (fun p => Nat.beq p.1 2) = [(2, atPos (posC slices_IndexFunc_disk_Request_disk_Request.code []) 2)] := by kernel_rfl

theorem slices_IndexFunc_disk_Request_disk_Request.e2 : ∀ (U : Ifc)  (I2 : Sl → V → Int → Int → Heap → Prop) (a1 : Sl) (a2 : V) (a3 : Int) (a4 : Int) (Q : Int → Heap → Prop) (h : Heap), slices_IndexFunc_disk_Request_disk_Request.b2 U  I2 a1 a2 a3 a4 Q h = pts (slices_IndexFunc_disk_Request_disk_Request.E U Q [(2, ([0, 1, 7, 8], slices_IndexFunc_disk_Request_disk_Request.k2 I2))]) 3000 true (atPos (posC slices_IndexFunc_disk_Request_disk_Request.code []) 2) (frAt [0, 1, 7, 8] [.sl a1, a2, .int .i64 a3, .int .i64 a4]) h := by
  intros; kernel_rfl

theorem slices_IndexFunc_disk_Request_disk_Request.s2 {W0 : World} {U : Ifc} (hU : IfcOK sg W0 glsT U) (Q : Int → Heap → Prop)   : CutOK sg W0 19 (entered 85) (Post sg W0 (slices_IndexFunc_disk_Request_disk_Request.ret Q)) (posC slices_IndexFunc_disk_Request_disk_Request.code []) 2 [0, 1, 7, 8] (slices_IndexFunc_disk_Request_disk_Request.k2 (fun a1 a2 a3 a4 h => slices_IndexFunc_disk_Request_disk_Request.j2 U  a1 a2 a3 a4 Q h)) := by
  refine cutOK_head (fun vs h hk => ?_)
  unfold slices_IndexFunc_disk_Request_disk_Request.k2 at hk
  split at hk
  · rename_i a1 a2 a3 a4
    refine hk (fun a1 a2 a3 a4 h => Head sg W0 19 (entered 85) (Post sg W0 (slices_IndexFunc_disk_Request_disk_Request.ret Q)) (posC slices_IndexFunc_disk_Request_disk_Request.code []) 2 [0, 1, 7, 8] [.sl a1, a2, .int .i64 a3, .int .i64 a4] h) ?_
    intro a1 a2 a3 a4 h hb todo hm ρ a w s f hp
    have hself : CutOK sg W0 19 (entered 85) (Post sg W0 (slices_IndexFunc_disk_Request_disk_Request.ret Q)) (posC slices_IndexFunc_disk_Request_disk_Request.code []) 2 [0, 1, 7, 8] (slices_IndexFunc_disk_Request_disk_Request.k2 (fun a1 a2 a3 a4 h => Head sg W0 19 (entered 85) (Post sg W0 (slices_IndexFunc_disk_Request_disk_Request.ret Q)) (posC slices_IndexFunc_disk_Request_disk_Request.code []) 2 [0, 1, 7, 8] [.sl a1, a2, .int .i64 a3, .int .i64 a4] h)) := cutOK_head (fun vs h hk => by unfold slices_IndexFunc_disk_Request_disk_Request.k2 at hk; split at hk; exact hk; exact hk.elim)
    exact piece (E := slices_IndexFunc_disk_Request_disk_Request.E U Q [(2, ([0, 1, 7, 8], slices_IndexFunc_disk_Request_disk_Request.k2 (fun a1 a2 a3 a4 h => Head sg W0 19 (entered 85) (Post sg W0 (slices_IndexFunc_disk_Request_disk_Request.ret Q)) (posC slices_IndexFunc_disk_Request_disk_Request.code []) 2 [0, 1, 7, 8] [.sl a1, a2, .int .i64 a3, .int .i64 a4] h)))]) (vs := [.sl a1, a2, .int .i64 a3, .int .i64 a4]) (envOK seatOK (slices_IndexFunc_disk_Request_disk_Request.callsOK hU) hU) (fnOK seatOK slices_IndexFunc_disk_Request_disk_Request.fun) ⟨hself, trivial⟩ slices_IndexFunc_disk_Request_disk_Request.p2 (fuel := 3000) (by rw [← slices_IndexFunc_disk_Request_disk_Request.e2]; exact hb) hm s f hp
  · exact hk.elim

theorem slices_IndexFunc_disk_Request_disk_Request.e : ∀ (U : Ifc) (a1 : Sl) (a2 : V) (Q : Int → Heap → Prop) (h : Heap), slices_IndexFunc_disk_Request_disk_Request U a1 a2 Q h = pts (slices_IndexFunc_disk_Request_disk_Request.E U Q [(2, ([0, 1, 7, 8], slices_IndexFunc_disk_Request_disk_Request.k2 (fun a1 a2 a3 a4 h => slices_IndexFunc_disk_Request_disk_Request.j2 U  a1 a2 a3 a4 Q h)))]) 3000 true [.code slices_IndexFunc_disk_Request_disk_Request.code] (frOf 0 [.sl a1, a2]) h := by
  intros; kernel_rfl

theorem slices_IndexFunc_disk_Request_disk_Request.S {W0 : World} {U : Ifc} (hU : IfcOK sg W0 glsT U) : FnS sg W0 70 (slices_IndexFunc_disk_Request_disk_Request.C U) := by
  intro vs κ h wv hx w s
  unfold slices_IndexFunc_disk_Request_disk_Request.C at hx
  split at hx
  · rename_i a1 a2
    refine postImp (ret := slices_IndexFunc_disk_Request_disk_Request.ret (fun r1 h => κ (.int .i64 r1) h)) (fun v h hr => by unfold slices_IndexFunc_disk_Request_disk_Request.ret at hr; split at hr; exact hr; exact hr.elim) ?_
    exact calls_of_pts (E := slices_IndexFunc_disk_Request_disk_Request.E U (fun r1 h => κ (.int .i64 r1) h) [(2, ([0, 1, 7, 8], slices_IndexFunc_disk_Request_disk_Request.k2 (fun a1 a2 a3 a4 h => slices_IndexFunc_disk_Request_disk_Request.j2 U  a1 a2 a3 a4 (fun r1 h => κ (.int .i64 r1) h) h)))]) (envOK seatOK (slices_IndexFunc_disk_Request_disk_Request.callsOK hU) hU) seatOK.mixed slices_IndexFunc_disk_Request_disk_Request.fun (Nat.le_of_ble_eq_true rfl) wv (cutL_ok ⟨(slices_IndexFunc_disk_Request_disk_Request.s2 hU (fun r1 h => κ (.int .i64 r1) h)), trivial⟩) s (fuel := 3000) (by rw [← slices_IndexFunc_disk_Request_disk_Request.e]; exact hx)
  · exact hx.elim

noncomputable def slices_ContainsFunc_disk_Request_disk_Request.code : Code := Go.Proofs.Try.f65.body.getD .skip

theorem slices_ContainsFunc_disk_Request_disk_Request.fun : Fun sg.P 65 9 [.tmp 4] slices_ContainsFunc_disk_Request_disk_Request.code := mkFun Go.Proofs.Try.func65 (by kernel_rfl) (by kernel_rfl) (by kernel_rfl) (by kernel_rfl)

def slices_ContainsFunc_disk_Request_disk_Request.ret (Q : Bool → Heap → Prop) (v : V) (h : Heap) : Prop :=
  match v with
  | .bool r1 => Q r1 h
  | _ => False

def slices_ContainsFunc_disk_Request_disk_Request.C (U : Ifc) (vs : List V) (κ : V → Heap → Prop) (h : Heap) : Prop :=
  match vs with
  | [.sl a1, a2] => slices_ContainsFunc_disk_Request_disk_Request U a1 a2 (fun r1 h => κ (.bool r1) h) h
  | _ => False

noncomputable def slices_ContainsFunc_disk_Request_disk_Request.calls (U : Ifc) : List (Nat × (List V → (V → Heap → Prop) → Heap → Prop)) := [(70, slices_IndexFunc_disk_Request_disk_Request.C U)]

noncomputable def slices_ContainsFunc_disk_Request_disk_Request.E (U : Ifc) (Q : Bool → Heap → Prop) (cuts : List (Nat × (List Nat × (List V → Heap → Prop)))) : Env := { tis := tisT, fns := fnsT, tys := tysT, gls := glsT, rts := rtsT, unk := [], calls := slices_ContainsFunc_disk_Request_disk_Request.calls U, ifc := U, cuts := cuts, ret := slices_ContainsFunc_disk_Request_disk_Request.ret Q, rets := [.tmp 4], n := 9 }

theorem slices_ContainsFunc_disk_Request_disk_Request.callsOK {W0 : World} {U : Ifc} (hU : IfcOK sg W0 glsT U) : CallsOK sg W0 (slices_ContainsFunc_disk_Request_disk_Request.calls U) := ⟨(slices_IndexFunc_disk_Request_disk_Request.S hU), trivial⟩

theorem slices_ContainsFunc_disk_Request_disk_Request.e : ∀ (U : Ifc) (a1 : Sl) (a2 : V) (Q : Bool → Heap → Prop) (h : Heap), slices_ContainsFunc_disk_Request_disk_Request U a1 a2 Q h = pts (slices_ContainsFunc_disk_Request_disk_Request.E U Q []) 3000 true [.code slices_ContainsFunc_disk_Request_disk_Request.code] (frOf 0 [.sl a1, a2]) h := by
  intros; kernel_rfl

theorem slices_ContainsFunc_disk_Request_disk_Request.S {W0 : World} {U : Ifc} (hU : IfcOK sg W0 glsT U) : FnS sg W0 81 (slices_ContainsFunc_disk_Request_disk_Request.C U) := by
  intro vs κ h wv hx w s
  unfold slices_ContainsFunc_disk_Request_disk_Request.C at hx
  split at hx
  · rename_i a1 a2
    refine postImp (ret := slices_ContainsFunc_disk_Request_disk_Request.ret (fun r1 h => κ (.bool r1) h)) (fun v h hr => by unfold slices_ContainsFunc_disk_Request_disk_Request.ret at hr; split at hr; exact hr; exact hr.elim) ?_
    exact calls_of_pts (E := slices_ContainsFunc_disk_Request_disk_Request.E U (fun r1 h => κ (.bool r1) h) []) (envOK seatOK (slices_ContainsFunc_disk_Request_disk_Request.callsOK hU) hU) seatOK.mixed slices_ContainsFunc_disk_Request_disk_Request.fun (Nat.le_of_ble_eq_true rfl) wv (cutL_ok trivial) s (fuel := 3000) (by rw [← slices_ContainsFunc_disk_Request_disk_Request.e]; exact hx)
  · exact hx.elim

noncomputable def disk_Disk_Submit.code : Code := Go.Proofs.Try.f33.body.getD .skip

theorem disk_Disk_Submit.fun : Fun sg.P 33 38 [.tmp 4] disk_Disk_Submit.code := mkFun Go.Proofs.Try.func33 (by kernel_rfl) (by kernel_rfl) (by kernel_rfl) (by kernel_rfl)

def disk_Disk_Submit.ret (Q : Int → Heap → Prop) (v : V) (h : Heap) : Prop :=
  match v with
  | .int .i64 r1 => Q r1 h
  | _ => False

def disk_Disk_Submit.C (U : Ifc) (vs : List V) (κ : V → Heap → Prop) (h : Heap) : Prop :=
  match vs with
  | [.ptr a1, .agg [.int .i64 a2, .bool a3, .int .i64 a4, .int .i64 a5]] => disk_Disk_Submit U a1 a2 a3 a4 a5 (fun r1 h => κ (.int .i64 r1) h) h
  | _ => False

noncomputable def disk_Disk_Submit.calls (U : Ifc) : List (Nat × (List V → (V → Heap → Prop) → Heap → Prop)) := [(36, disk_Disk_wrong.C), (81, slices_ContainsFunc_disk_Request_disk_Request.C U)]

noncomputable def disk_Disk_Submit.E (U : Ifc) (Q : Int → Heap → Prop) (cuts : List (Nat × (List Nat × (List V → Heap → Prop)))) : Env := { tis := tisT, fns := fnsT, tys := tysT, gls := glsT, rts := rtsT, unk := [], calls := disk_Disk_Submit.calls U, ifc := U, cuts := cuts, ret := disk_Disk_Submit.ret Q, rets := [.tmp 4], n := 38 }

theorem disk_Disk_Submit.callsOK {W0 : World} {U : Ifc} (hU : IfcOK sg W0 glsT U) : CallsOK sg W0 (disk_Disk_Submit.calls U) := ⟨disk_Disk_wrong.S, (slices_ContainsFunc_disk_Request_disk_Request.S hU), trivial⟩

def disk_Disk_Submit.k9 (I : Heap → Prop) (vs : List V) (h : Heap) : Prop :=
  match vs with
  | [] => I  h
  | _ => False

theorem disk_Disk_Submit.p9 : (posC disk_Disk_Submit.code []).filter (fun p => Nat.beq p.1 9) = [(9, atPos (posC disk_Disk_Submit.code []) 9)] := by kernel_rfl

theorem disk_Disk_Submit.e9 : ∀ (U : Ifc)   (Q : Int → Heap → Prop) (h : Heap), disk_Disk_Submit.j9 U   Q h = pts (disk_Disk_Submit.E U Q []) 3000 true (atPos (posC disk_Disk_Submit.code []) 9) (frAt [] []) h := by
  intros; kernel_rfl

theorem disk_Disk_Submit.s9 {W0 : World} {U : Ifc} (hU : IfcOK sg W0 glsT U) (Q : Int → Heap → Prop)   : CutOK sg W0 38 (entered 33) (Post sg W0 (disk_Disk_Submit.ret Q)) (posC disk_Disk_Submit.code []) 9 [] (disk_Disk_Submit.k9 (fun  h => disk_Disk_Submit.j9 U   Q h)) := by
  refine cutOK_head (fun vs h hk => ?_)
  unfold disk_Disk_Submit.k9 at hk
  split at hk
  · skip
    intro todo hm ρ a w s f hp
    exact piece (E := disk_Disk_Submit.E U Q []) (vs := []) (envOK seatOK (disk_Disk_Submit.callsOK hU) hU) (fnOK seatOK disk_Disk_Submit.fun) trivial disk_Disk_Submit.p9 (fuel := 3000) (by rw [← disk_Disk_Submit.e9]; exact hk) hm s f hp
  · exact hk.elim

theorem disk_Disk_Submit.e : ∀ (U : Ifc) (a1 : Option Ptr) (a2 : Int) (a3 : Bool) (a4 : Int) (a5 : Int) (Q : Int → Heap → Prop) (h : Heap), disk_Disk_Submit U a1 a2 a3 a4 a5 Q h = pts (disk_Disk_Submit.E U Q [(9, ([], disk_Disk_Submit.k9 (fun  h => disk_Disk_Submit.j9 U   Q h)))]) 3000 true [.code disk_Disk_Submit.code] (frOf 0 [.ptr a1, .agg [.int .i64 a2, .bool a3, .int .i64 a4, .int .i64 a5]]) h := by
  intros; kernel_rfl

theorem disk_Disk_Submit.S {W0 : World} {U : Ifc} (hU : IfcOK sg W0 glsT U) : FnS sg W0 82 (disk_Disk_Submit.C U) := by
  intro vs κ h wv hx w s
  unfold disk_Disk_Submit.C at hx
  split at hx
  · rename_i a1 a2 a3 a4 a5
    refine postImp (ret := disk_Disk_Submit.ret (fun r1 h => κ (.int .i64 r1) h)) (fun v h hr => by unfold disk_Disk_Submit.ret at hr; split at hr; exact hr; exact hr.elim) ?_
    exact calls_of_pts (E := disk_Disk_Submit.E U (fun r1 h => κ (.int .i64 r1) h) [(9, ([], disk_Disk_Submit.k9 (fun  h => disk_Disk_Submit.j9 U   (fun r1 h => κ (.int .i64 r1) h) h)))]) (envOK seatOK (disk_Disk_Submit.callsOK hU) hU) seatOK.mixed disk_Disk_Submit.fun (Nat.le_of_ble_eq_true rfl) wv (cutL_ok ⟨(disk_Disk_Submit.s9 hU (fun r1 h => κ (.int .i64 r1) h)), trivial⟩) s (fuel := 3000) (by rw [← disk_Disk_Submit.e]; exact hx)
  · exact hx.elim

noncomputable def mem_Memory_Frames.code : Code := Go.Proofs.Try.f68.body.getD .skip

theorem mem_Memory_Frames.fun : Fun sg.P 68 11 [.tmp 2] mem_Memory_Frames.code := mkFun Go.Proofs.Try.func68 (by kernel_rfl) (by kernel_rfl) (by kernel_rfl) (by kernel_rfl)

def mem_Memory_Frames.ret (Q : Int → Heap → Prop) (v : V) (h : Heap) : Prop :=
  match v with
  | .int .i64 r1 => Q r1 h
  | _ => False

def mem_Memory_Frames.C (vs : List V) (κ : V → Heap → Prop) (h : Heap) : Prop :=
  match vs with
  | [.ptr a1] => mem_Memory_Frames a1 (fun r1 h => κ (.int .i64 r1) h) h
  | _ => False

noncomputable def mem_Memory_Frames.calls : List (Nat × (List V → (V → Heap → Prop) → Heap → Prop)) := [(31, mem_Memory_none.C)]

noncomputable def mem_Memory_Frames.E (Q : Int → Heap → Prop) (cuts : List (Nat × (List Nat × (List V → Heap → Prop)))) : Env := { tis := tisT, fns := fnsT, tys := tysT, gls := [], rts := rtsT, unk := [], calls := mem_Memory_Frames.calls, ifc := noIfc, cuts := cuts, ret := mem_Memory_Frames.ret Q, rets := [.tmp 2], n := 11 }

theorem mem_Memory_Frames.callsOK {W0 : World} : CallsOK sg W0 mem_Memory_Frames.calls := ⟨mem_Memory_none.S, trivial⟩

theorem mem_Memory_Frames.e : ∀ (a1 : Option Ptr) (Q : Int → Heap → Prop) (h : Heap), mem_Memory_Frames a1 Q h = pts (mem_Memory_Frames.E Q []) 3000 true [.code mem_Memory_Frames.code] (frOf 0 [.ptr a1]) h := by
  intros; kernel_rfl

theorem mem_Memory_Frames.S {W0 : World} : FnS sg W0 55 mem_Memory_Frames.C := by
  intro vs κ h wv hx w s
  unfold mem_Memory_Frames.C at hx
  split at hx
  · rename_i a1
    refine postImp (ret := mem_Memory_Frames.ret (fun r1 h => κ (.int .i64 r1) h)) (fun v h hr => by unfold mem_Memory_Frames.ret at hr; split at hr; exact hr; exact hr.elim) ?_
    exact calls_of_pts (E := mem_Memory_Frames.E (fun r1 h => κ (.int .i64 r1) h) []) (envOK seatOK mem_Memory_Frames.callsOK noIfc_ok) seatOK.mixed mem_Memory_Frames.fun (Nat.le_of_ble_eq_true rfl) wv (cutL_ok trivial) s (fuel := 3000) (by rw [← mem_Memory_Frames.e]; exact hx)
  · exact hx.elim

noncomputable def slices_DeleteFunc_disk_Request_disk_Request.code : Code := Go.Proofs.Try.f69.body.getD .skip

theorem slices_DeleteFunc_disk_Request_disk_Request.fun : Fun sg.P 69 42 [.tmp 4] slices_DeleteFunc_disk_Request_disk_Request.code := mkFun Go.Proofs.Try.func69 (by kernel_rfl) (by kernel_rfl) (by kernel_rfl) (by kernel_rfl)

def slices_DeleteFunc_disk_Request_disk_Request.ret (Q : Sl → Heap → Prop) (v : V) (h : Heap) : Prop :=
  match v with
  | .sl r1 => Q r1 h
  | _ => False

def slices_DeleteFunc_disk_Request_disk_Request.C (U : Ifc) (vs : List V) (κ : V → Heap → Prop) (h : Heap) : Prop :=
  match vs with
  | [.sl a1, a2] => slices_DeleteFunc_disk_Request_disk_Request U a1 a2 (fun r1 h => κ (.sl r1) h) h
  | _ => False

noncomputable def slices_DeleteFunc_disk_Request_disk_Request.calls (U : Ifc) : List (Nat × (List V → (V → Heap → Prop) → Heap → Prop)) := [(70, slices_IndexFunc_disk_Request_disk_Request.C U)]

noncomputable def slices_DeleteFunc_disk_Request_disk_Request.E (U : Ifc) (Q : Sl → Heap → Prop) (cuts : List (Nat × (List Nat × (List V → Heap → Prop)))) : Env := { tis := tisT, fns := fnsT, tys := tysT, gls := glsT, rts := rtsT, unk := [26], calls := slices_DeleteFunc_disk_Request_disk_Request.calls U, ifc := U, cuts := cuts, ret := slices_DeleteFunc_disk_Request_disk_Request.ret Q, rets := [.tmp 4], n := 42 }

theorem slices_DeleteFunc_disk_Request_disk_Request.callsOK {W0 : World} {U : Ifc} (hU : IfcOK sg W0 glsT U) : CallsOK sg W0 (slices_DeleteFunc_disk_Request_disk_Request.calls U) := ⟨(slices_IndexFunc_disk_Request_disk_Request.S hU), trivial⟩

def slices_DeleteFunc_disk_Request_disk_Request.k6 (I : Sl → V → Int → Int → Heap → Prop) (vs : List V) (h : Heap) : Prop :=
  match vs with
  | [.sl a1, a2, .int .i64 a3, .int .i64 a4] => I a1 a2 a3 a4 h
  | _ => False

def slices_DeleteFunc_disk_Request_disk_Request.k5 (I : Sl → V → Int → Int → Heap → Prop) (vs : List V) (h : Heap) : Prop :=
  match vs with
  | [.sl a1, a2, .int .i64 a3, .int .i64 a4] => I a1 a2 a3 a4 h
  | _ => False

theorem slices_DeleteFunc_disk_Request_disk_Request.p6 : (posC slices_DeleteFunc_disk_Request_disk_Request.code []).filter (fun p => Nat.beq p.1 6) = [(6, atPos (posC slices_DeleteFunc_disk_Request_disk_Request.code []) 6)] := by kernel_rfl

theorem slices_DeleteFunc_disk_Request_disk_Request.e6 : ∀ (U : Ifc) (I5 : Sl → V → Int → Int → Heap → Prop) (a1 : Sl) (a2 : V) (a3 : Int) (a4 : Int) (Q : Sl → Heap → Prop) (h : Heap), slices_DeleteFunc_disk_Request_disk_Request.j6 U I5 a1 a2 a3 a4 Q h = pts (slices_DeleteFunc_disk_Request_disk_Request.E U Q [(5, ([0, 1, 5, 6], slices_DeleteFunc_disk_Request_disk_Request.k5 I5))]) 3000 true (atPos (posC slices_DeleteFunc_disk_Request_disk_Request.code []) 6) (frAt [0, 1, 5, 6] [.sl a1, a2, .int .i64 a3, .int .i64 a4]) h := by
  intros; kernel_rfl

theorem slices_DeleteFunc_disk_Request_disk_Request.s6 {W0 : World} {U : Ifc} (hU : IfcOK sg W0 glsT U) (Q : Sl → Heap → Prop) (I5 : Sl → V → Int → Int → Heap → Prop) (h5 : CutOK sg W0 42 (entered 69) (Post sg W0 (slices_DeleteFunc_disk_Request_disk_Request.ret Q)) (posC slices_DeleteFunc_disk_Request_disk_Request.code []) 5 [0, 1, 5, 6] (slices_DeleteFunc_disk_Request_disk_Request.k5 I5)) : CutOK sg W0 42 (entered 69) (Post sg W0 (slices_DeleteFunc_disk_Request_disk_Request.ret Q)) (posC slices_DeleteFunc_disk_Request_disk_Request.code []) 6 [0, 1, 5, 6] (slices_DeleteFunc_disk_Request_disk_Request.k6 (fun a1 a2 a3 a4 h => slices_DeleteFunc_disk_Request_disk_Request.j6 U I5 a1 a2 a3 a4 Q h)) := by
  refine cutOK_head (fun vs h hk => ?_)
  unfold slices_DeleteFunc_disk_Request_disk_Request.k6 at hk
  split at hk
  · rename_i a1 a2 a3 a4
    intro todo hm ρ a w s f hp
    exact piece (E := slices_DeleteFunc_disk_Request_disk_Request.E U Q [(5, ([0, 1, 5, 6], slices_DeleteFunc_disk_Request_disk_Request.k5 I5))]) (vs := [.sl a1, a2, .int .i64 a3, .int .i64 a4]) (envOK seatOK (slices_DeleteFunc_disk_Request_disk_Request.callsOK hU) hU) (fnOK seatOK slices_DeleteFunc_disk_Request_disk_Request.fun) ⟨h5, trivial⟩ slices_DeleteFunc_disk_Request_disk_Request.p6 (fuel := 3000) (by rw [← slices_DeleteFunc_disk_Request_disk_Request.e6]; exact hk) hm s f hp
  · exact hk.elim

theorem slices_DeleteFunc_disk_Request_disk_Request.p5 : (posC slices_DeleteFunc_disk_Request_disk_Request.code []).filter (fun p => Nat.beq p.1 5) = [(5, atPos (posC slices_DeleteFunc_disk_Request_disk_Request.code []) 5)] := by kernel_rfl

theorem slices_DeleteFunc_disk_Request_disk_Request.e5 : ∀ (U : Ifc)  (I5 : Sl → V → Int → Int → Heap → Prop) (a1 : Sl) (a2 : V) (a3 : Int) (a4 : Int) (Q : Sl → Heap → Prop) (h : Heap), slices_DeleteFunc_disk_Request_disk_Request.b5 U  I5 a1 a2 a3 a4 Q h = pts (slices_DeleteFunc_disk_Request_disk_Request.E U Q [(6, ([0, 1, 5, 6], slices_DeleteFunc_disk_Request_disk_Request.k6 (fun a1 a2 a3 a4 h => slices_DeleteFunc_disk_Request_disk_Request.j6 U I5 a1 a2 a3 a4 Q h)))]) 3000 true (atPos (posC slices_DeleteFunc_disk_Request_disk_Request.code []) 5) (frAt [0, 1, 5, 6] [.sl a1, a2, .int .i64 a3, .int .i64 a4]) h := by
  intros; kernel_rfl

theorem slices_DeleteFunc_disk_Request_disk_Request.s5 {W0 : World} {U : Ifc} (hU : IfcOK sg W0 glsT U) (Q : Sl → Heap → Prop)   : CutOK sg W0 42 (entered 69) (Post sg W0 (slices_DeleteFunc_disk_Request_disk_Request.ret Q)) (posC slices_DeleteFunc_disk_Request_disk_Request.code []) 5 [0, 1, 5, 6] (slices_DeleteFunc_disk_Request_disk_Request.k5 (fun a1 a2 a3 a4 h => slices_DeleteFunc_disk_Request_disk_Request.j5 U  a1 a2 a3 a4 Q h)) := by
  refine cutOK_head (fun vs h hk => ?_)
  unfold slices_DeleteFunc_disk_Request_disk_Request.k5 at hk
  split at hk
  · rename_i a1 a2 a3 a4
    refine hk (fun a1 a2 a3 a4 h => Head sg W0 42 (entered 69) (Post sg W0 (slices_DeleteFunc_disk_Request_disk_Request.ret Q)) (posC slices_DeleteFunc_disk_Request_disk_Request.code []) 5 [0, 1, 5, 6] [.sl a1, a2, .int .i64 a3, .int .i64 a4] h) ?_
    intro a1 a2 a3 a4 h hb todo hm ρ a w s f hp
    have hself : CutOK sg W0 42 (entered 69) (Post sg W0 (slices_DeleteFunc_disk_Request_disk_Request.ret Q)) (posC slices_DeleteFunc_disk_Request_disk_Request.code []) 5 [0, 1, 5, 6] (slices_DeleteFunc_disk_Request_disk_Request.k5 (fun a1 a2 a3 a4 h => Head sg W0 42 (entered 69) (Post sg W0 (slices_DeleteFunc_disk_Request_disk_Request.ret Q)) (posC slices_DeleteFunc_disk_Request_disk_Request.code []) 5 [0, 1, 5, 6] [.sl a1, a2, .int .i64 a3, .int .i64 a4] h)) := cutOK_head (fun vs h hk => by unfold slices_DeleteFunc_disk_Request_disk_Request.k5 at hk; split at hk; exact hk; exact hk.elim)
    exact piece (E := slices_DeleteFunc_disk_Request_disk_Request.E U Q [(6, ([0, 1, 5, 6], slices_DeleteFunc_disk_Request_disk_Request.k6 (fun a1 a2 a3 a4 h => slices_DeleteFunc_disk_Request_disk_Request.j6 U (fun a1 a2 a3 a4 h => Head sg W0 42 (entered 69) (Post sg W0 (slices_DeleteFunc_disk_Request_disk_Request.ret Q)) (posC slices_DeleteFunc_disk_Request_disk_Request.code []) 5 [0, 1, 5, 6] [.sl a1, a2, .int .i64 a3, .int .i64 a4] h) a1 a2 a3 a4 Q h)))]) (vs := [.sl a1, a2, .int .i64 a3, .int .i64 a4]) (envOK seatOK (slices_DeleteFunc_disk_Request_disk_Request.callsOK hU) hU) (fnOK seatOK slices_DeleteFunc_disk_Request_disk_Request.fun) ⟨(slices_DeleteFunc_disk_Request_disk_Request.s6 hU Q (fun a1 a2 a3 a4 h => Head sg W0 42 (entered 69) (Post sg W0 (slices_DeleteFunc_disk_Request_disk_Request.ret Q)) (posC slices_DeleteFunc_disk_Request_disk_Request.code []) 5 [0, 1, 5, 6] [.sl a1, a2, .int .i64 a3, .int .i64 a4] h) hself), trivial⟩ slices_DeleteFunc_disk_Request_disk_Request.p5 (fuel := 3000) (by rw [← slices_DeleteFunc_disk_Request_disk_Request.e5]; exact hb) hm s f hp
  · exact hk.elim

theorem slices_DeleteFunc_disk_Request_disk_Request.e : ∀ (U : Ifc) (a1 : Sl) (a2 : V) (Q : Sl → Heap → Prop) (h : Heap), slices_DeleteFunc_disk_Request_disk_Request U a1 a2 Q h = pts (slices_DeleteFunc_disk_Request_disk_Request.E U Q [(5, ([0, 1, 5, 6], slices_DeleteFunc_disk_Request_disk_Request.k5 (fun a1 a2 a3 a4 h => slices_DeleteFunc_disk_Request_disk_Request.j5 U  a1 a2 a3 a4 Q h)))]) 3000 true [.code slices_DeleteFunc_disk_Request_disk_Request.code] (frOf 0 [.sl a1, a2]) h := by
  intros; kernel_rfl

theorem slices_DeleteFunc_disk_Request_disk_Request.S {W0 : World} {U : Ifc} (hU : IfcOK sg W0 glsT U) : FnS sg W0 71 (slices_DeleteFunc_disk_Request_disk_Request.C U) := by
  intro vs κ h wv hx w s
  unfold slices_DeleteFunc_disk_Request_disk_Request.C at hx
  split at hx
  · rename_i a1 a2
    refine postImp (ret := slices_DeleteFunc_disk_Request_disk_Request.ret (fun r1 h => κ (.sl r1) h)) (fun v h hr => by unfold slices_DeleteFunc_disk_Request_disk_Request.ret at hr; split at hr; exact hr; exact hr.elim) ?_
    exact calls_of_pts (E := slices_DeleteFunc_disk_Request_disk_Request.E U (fun r1 h => κ (.sl r1) h) [(5, ([0, 1, 5, 6], slices_DeleteFunc_disk_Request_disk_Request.k5 (fun a1 a2 a3 a4 h => slices_DeleteFunc_disk_Request_disk_Request.j5 U  a1 a2 a3 a4 (fun r1 h => κ (.sl r1) h) h)))]) (envOK seatOK (slices_DeleteFunc_disk_Request_disk_Request.callsOK hU) hU) seatOK.mixed slices_DeleteFunc_disk_Request_disk_Request.fun (Nat.le_of_ble_eq_true rfl) wv (cutL_ok ⟨(slices_DeleteFunc_disk_Request_disk_Request.s5 hU (fun r1 h => κ (.sl r1) h)), trivial⟩) s (fuel := 3000) (by rw [← slices_DeleteFunc_disk_Request_disk_Request.e]; exact hx)
  · exact hx.elim

noncomputable def bytes_Clone.code : Code := Go.Proofs.Try.f72.body.getD .skip

theorem bytes_Clone.fun : Fun sg.P 72 8 [.tmp 2] bytes_Clone.code := mkFun Go.Proofs.Try.func72 (by kernel_rfl) (by kernel_rfl) (by kernel_rfl) (by kernel_rfl)

def bytes_Clone.ret (Q : Sl → Heap → Prop) (v : V) (h : Heap) : Prop :=
  match v with
  | .sl r1 => Q r1 h
  | _ => False

def bytes_Clone.C (vs : List V) (κ : V → Heap → Prop) (h : Heap) : Prop :=
  match vs with
  | [.sl a1] => bytes_Clone a1 (fun r1 h => κ (.sl r1) h) h
  | _ => False

noncomputable def bytes_Clone.calls : List (Nat × (List V → (V → Heap → Prop) → Heap → Prop)) := []

noncomputable def bytes_Clone.E (Q : Sl → Heap → Prop) (cuts : List (Nat × (List Nat × (List V → Heap → Prop)))) : Env := { tis := tisT, fns := fnsT, tys := tysT, gls := [], rts := rtsT, unk := [], calls := bytes_Clone.calls, ifc := noIfc, cuts := cuts, ret := bytes_Clone.ret Q, rets := [.tmp 2], n := 8 }

theorem bytes_Clone.callsOK {W0 : World} : CallsOK sg W0 bytes_Clone.calls := trivial

theorem bytes_Clone.e : ∀ (a1 : Sl) (Q : Sl → Heap → Prop) (h : Heap), bytes_Clone a1 Q h = pts (bytes_Clone.E Q []) 3000 true [.code bytes_Clone.code] (frOf 0 [.sl a1]) h := by
  intros; kernel_rfl

theorem bytes_Clone.S {W0 : World} : FnS sg W0 39 bytes_Clone.C := by
  intro vs κ h wv hx w s
  unfold bytes_Clone.C at hx
  split at hx
  · rename_i a1
    refine postImp (ret := bytes_Clone.ret (fun r1 h => κ (.sl r1) h)) (fun v h hr => by unfold bytes_Clone.ret at hr; split at hr; exact hr; exact hr.elim) ?_
    exact calls_of_pts (E := bytes_Clone.E (fun r1 h => κ (.sl r1) h) []) (envOK seatOK bytes_Clone.callsOK noIfc_ok) seatOK.mixed bytes_Clone.fun (Nat.le_of_ble_eq_true rfl) wv (cutL_ok trivial) s (fuel := 3000) (by rw [← bytes_Clone.e]; exact hx)
  · exact hx.elim

noncomputable def mem_Memory_Bytes.code : Code := Go.Proofs.Try.f36.body.getD .skip

theorem mem_Memory_Bytes.fun : Fun sg.P 36 20 [.tmp 6, .tmp 7] mem_Memory_Bytes.code := mkFun Go.Proofs.Try.func36 (by kernel_rfl) (by kernel_rfl) (by kernel_rfl) (by kernel_rfl)

def mem_Memory_Bytes.ret (Q : Sl → Int → Heap → Prop) (v : V) (h : Heap) : Prop :=
  match v with
  | .tup [.sl r1, .int .i64 r2] => Q r1 r2 h
  | _ => False

def mem_Memory_Bytes.C (vs : List V) (κ : V → Heap → Prop) (h : Heap) : Prop :=
  match vs with
  | [.ptr a1, .int .u64 a2, .int .i64 a3] => mem_Memory_Bytes a1 a2 a3 (fun r1 r2 h => κ (.tup [.sl r1, .int .i64 r2]) h) h
  | _ => False

noncomputable def mem_Memory_Bytes.calls : List (Nat × (List V → (V → Heap → Prop) → Heap → Prop)) := [(32, mem_Memory_part.C), (39, bytes_Clone.C)]

noncomputable def mem_Memory_Bytes.E (Q : Sl → Int → Heap → Prop) (cuts : List (Nat × (List Nat × (List V → Heap → Prop)))) : Env := { tis := tisT, fns := fnsT, tys := tysT, gls := [], rts := rtsT, unk := [], calls := mem_Memory_Bytes.calls, ifc := noIfc, cuts := cuts, ret := mem_Memory_Bytes.ret Q, rets := [.tmp 6, .tmp 7], n := 20 }

theorem mem_Memory_Bytes.callsOK {W0 : World} : CallsOK sg W0 mem_Memory_Bytes.calls := ⟨mem_Memory_part.S, bytes_Clone.S, trivial⟩

theorem mem_Memory_Bytes.e : ∀ (a1 : Option Ptr) (a2 : Int) (a3 : Int) (Q : Sl → Int → Heap → Prop) (h : Heap), mem_Memory_Bytes a1 a2 a3 Q h = pts (mem_Memory_Bytes.E Q []) 3000 true [.code mem_Memory_Bytes.code] (frOf 0 [.ptr a1, .int .u64 a2, .int .i64 a3]) h := by
  intros; kernel_rfl

theorem mem_Memory_Bytes.S {W0 : World} : FnS sg W0 40 mem_Memory_Bytes.C := by
  intro vs κ h wv hx w s
  unfold mem_Memory_Bytes.C at hx
  split at hx
  · rename_i a1 a2 a3
    refine postImp (ret := mem_Memory_Bytes.ret (fun r1 r2 h => κ (.tup [.sl r1, .int .i64 r2]) h)) (fun v h hr => by unfold mem_Memory_Bytes.ret at hr; split at hr; exact hr; exact hr.elim) ?_
    exact calls_of_pts (E := mem_Memory_Bytes.E (fun r1 r2 h => κ (.tup [.sl r1, .int .i64 r2]) h) []) (envOK seatOK mem_Memory_Bytes.callsOK noIfc_ok) seatOK.mixed mem_Memory_Bytes.fun (Nat.le_of_ble_eq_true rfl) wv (cutL_ok trivial) s (fuel := 3000) (by rw [← mem_Memory_Bytes.e]; exact hx)
  · exact hx.elim

noncomputable def slices_IndexFunc_byte_byte.code : Code := Go.Proofs.Try.f86.body.getD .skip

theorem slices_IndexFunc_byte_byte.fun : Fun sg.P 86 19 [.tmp 4] slices_IndexFunc_byte_byte.code := mkFun Go.Proofs.Try.func86 (by kernel_rfl) (by kernel_rfl) (by kernel_rfl) (by kernel_rfl)

def slices_IndexFunc_byte_byte.ret (Q : Int → Heap → Prop) (v : V) (h : Heap) : Prop :=
  match v with
  | .int .i64 r1 => Q r1 h
  | _ => False

def slices_IndexFunc_byte_byte.C (U : Ifc) (vs : List V) (κ : V → Heap → Prop) (h : Heap) : Prop :=
  match vs with
  | [.sl a1, a2] => slices_IndexFunc_byte_byte U a1 a2 (fun r1 h => κ (.int .i64 r1) h) h
  | _ => False

noncomputable def slices_IndexFunc_byte_byte.calls (U : Ifc) : List (Nat × (List V → (V → Heap → Prop) → Heap → Prop)) := []

noncomputable def slices_IndexFunc_byte_byte.E (U : Ifc) (Q : Int → Heap → Prop) (cuts : List (Nat × (List Nat × (List V → Heap → Prop)))) : Env := { tis := tisT, fns := fnsT, tys := tysT, gls := glsT, rts := rtsT, unk := [11], calls := slices_IndexFunc_byte_byte.calls U, ifc := U, cuts := cuts, ret := slices_IndexFunc_byte_byte.ret Q, rets := [.tmp 4], n := 19 }

theorem slices_IndexFunc_byte_byte.callsOK {W0 : World} {U : Ifc} (hU : IfcOK sg W0 glsT U) : CallsOK sg W0 (slices_IndexFunc_byte_byte.calls U) := trivial

def slices_IndexFunc_byte_byte.k2 (I : Sl → V → Int → Int → Heap → Prop) (vs : List V) (h : Heap) : Prop :=
  match vs with
  | [.sl a1, a2, .int .i64 a3, .int .i64 a4] => I a1 a2 a3 a4 h
  | _ => False

theorem slices_IndexFunc_byte_byte.p2 : (posC slices_IndexFunc_byte_byte.code []).filter (fun p => Nat.beq p.1 2) = [(2, atPos (posC slices_IndexFunc_byte_byte.code []) 2)] := by kernel_rfl

theorem slices_IndexFunc_byte_byte.e2 : ∀ (U : Ifc)  (I2 : Sl → V → Int → Int → Heap → Prop) (a1 : Sl) (a2 : V) (a3 : Int) (a4 : Int) (Q : Int → Heap → Prop) (h : Heap), slices_IndexFunc_byte_byte.b2 U  I2 a1 a2 a3 a4 Q h = pts (slices_IndexFunc_byte_byte.E U Q [(2, ([0, 1, 7, 8], slices_IndexFunc_byte_byte.k2 I2))]) 3000 true (atPos (posC slices_IndexFunc_byte_byte.code []) 2) (frAt [0, 1, 7, 8] [.sl a1, a2, .int .i64 a3, .int .i64 a4]) h := by
  intros; kernel_rfl

theorem slices_IndexFunc_byte_byte.s2 {W0 : World} {U : Ifc} (hU : IfcOK sg W0 glsT U) (Q : Int → Heap → Prop)   : CutOK sg W0 19 (entered 86) (Post sg W0 (slices_IndexFunc_byte_byte.ret Q)) (posC slices_IndexFunc_byte_byte.code []) 2 [0, 1, 7, 8] (slices_IndexFunc_byte_byte.k2 (fun a1 a2 a3 a4 h => slices_IndexFunc_byte_byte.j2 U  a1 a2 a3 a4 Q h)) := by
  refine cutOK_head (fun vs h hk => ?_)
  unfold slices_IndexFunc_byte_byte.k2 at hk
  split at hk
  · rename_i a1 a2 a3 a4
    refine hk (fun a1 a2 a3 a4 h => Head sg W0 19 (entered 86) (Post sg W0 (slices_IndexFunc_byte_byte.ret Q)) (posC slices_IndexFunc_byte_byte.code []) 2 [0, 1, 7, 8] [.sl a1, a2, .int .i64 a3, .int .i64 a4] h) ?_
    intro a1 a2 a3 a4 h hb todo hm ρ a w s f hp
    have hself : CutOK sg W0 19 (entered 86) (Post sg W0 (slices_IndexFunc_byte_byte.ret Q)) (posC slices_IndexFunc_byte_byte.code []) 2 [0, 1, 7, 8] (slices_IndexFunc_byte_byte.k2 (fun a1 a2 a3 a4 h => Head sg W0 19 (entered 86) (Post sg W0 (slices_IndexFunc_byte_byte.ret Q)) (posC slices_IndexFunc_byte_byte.code []) 2 [0, 1, 7, 8] [.sl a1, a2, .int .i64 a3, .int .i64 a4] h)) := cutOK_head (fun vs h hk => by unfold slices_IndexFunc_byte_byte.k2 at hk; split at hk; exact hk; exact hk.elim)
    exact piece (E := slices_IndexFunc_byte_byte.E U Q [(2, ([0, 1, 7, 8], slices_IndexFunc_byte_byte.k2 (fun a1 a2 a3 a4 h => Head sg W0 19 (entered 86) (Post sg W0 (slices_IndexFunc_byte_byte.ret Q)) (posC slices_IndexFunc_byte_byte.code []) 2 [0, 1, 7, 8] [.sl a1, a2, .int .i64 a3, .int .i64 a4] h)))]) (vs := [.sl a1, a2, .int .i64 a3, .int .i64 a4]) (envOK seatOK (slices_IndexFunc_byte_byte.callsOK hU) hU) (fnOK seatOK slices_IndexFunc_byte_byte.fun) ⟨hself, trivial⟩ slices_IndexFunc_byte_byte.p2 (fuel := 3000) (by rw [← slices_IndexFunc_byte_byte.e2]; exact hb) hm s f hp
  · exact hk.elim

theorem slices_IndexFunc_byte_byte.e : ∀ (U : Ifc) (a1 : Sl) (a2 : V) (Q : Int → Heap → Prop) (h : Heap), slices_IndexFunc_byte_byte U a1 a2 Q h = pts (slices_IndexFunc_byte_byte.E U Q [(2, ([0, 1, 7, 8], slices_IndexFunc_byte_byte.k2 (fun a1 a2 a3 a4 h => slices_IndexFunc_byte_byte.j2 U  a1 a2 a3 a4 Q h)))]) 3000 true [.code slices_IndexFunc_byte_byte.code] (frOf 0 [.sl a1, a2]) h := by
  intros; kernel_rfl

theorem slices_IndexFunc_byte_byte.S {W0 : World} {U : Ifc} (hU : IfcOK sg W0 glsT U) : FnS sg W0 72 (slices_IndexFunc_byte_byte.C U) := by
  intro vs κ h wv hx w s
  unfold slices_IndexFunc_byte_byte.C at hx
  split at hx
  · rename_i a1 a2
    refine postImp (ret := slices_IndexFunc_byte_byte.ret (fun r1 h => κ (.int .i64 r1) h)) (fun v h hr => by unfold slices_IndexFunc_byte_byte.ret at hr; split at hr; exact hr; exact hr.elim) ?_
    exact calls_of_pts (E := slices_IndexFunc_byte_byte.E U (fun r1 h => κ (.int .i64 r1) h) [(2, ([0, 1, 7, 8], slices_IndexFunc_byte_byte.k2 (fun a1 a2 a3 a4 h => slices_IndexFunc_byte_byte.j2 U  a1 a2 a3 a4 (fun r1 h => κ (.int .i64 r1) h) h)))]) (envOK seatOK (slices_IndexFunc_byte_byte.callsOK hU) hU) seatOK.mixed slices_IndexFunc_byte_byte.fun (Nat.le_of_ble_eq_true rfl) wv (cutL_ok ⟨(slices_IndexFunc_byte_byte.s2 hU (fun r1 h => κ (.int .i64 r1) h)), trivial⟩) s (fuel := 3000) (by rw [← slices_IndexFunc_byte_byte.e]; exact hx)
  · exact hx.elim

noncomputable def slices_ContainsFunc_byte_byte.code : Code := Go.Proofs.Try.f74.body.getD .skip

theorem slices_ContainsFunc_byte_byte.fun : Fun sg.P 74 9 [.tmp 4] slices_ContainsFunc_byte_byte.code := mkFun Go.Proofs.Try.func74 (by kernel_rfl) (by kernel_rfl) (by kernel_rfl) (by kernel_rfl)

def slices_ContainsFunc_byte_byte.ret (Q : Bool → Heap → Prop) (v : V) (h : Heap) : Prop :=
  match v with
  | .bool r1 => Q r1 h
  | _ => False

def slices_ContainsFunc_byte_byte.C (U : Ifc) (vs : List V) (κ : V → Heap → Prop) (h : Heap) : Prop :=
  match vs with
  | [.sl a1, a2] => slices_ContainsFunc_byte_byte U a1 a2 (fun r1 h => κ (.bool r1) h) h
  | _ => False

noncomputable def slices_ContainsFunc_byte_byte.calls (U : Ifc) : List (Nat × (List V → (V → Heap → Prop) → Heap → Prop)) := [(72, slices_IndexFunc_byte_byte.C U)]

noncomputable def slices_ContainsFunc_byte_byte.E (U : Ifc) (Q : Bool → Heap → Prop) (cuts : List (Nat × (List Nat × (List V → Heap → Prop)))) : Env := { tis := tisT, fns := fnsT, tys := tysT, gls := glsT, rts := rtsT, unk := [], calls := slices_ContainsFunc_byte_byte.calls U, ifc := U, cuts := cuts, ret := slices_ContainsFunc_byte_byte.ret Q, rets := [.tmp 4], n := 9 }

theorem slices_ContainsFunc_byte_byte.callsOK {W0 : World} {U : Ifc} (hU : IfcOK sg W0 glsT U) : CallsOK sg W0 (slices_ContainsFunc_byte_byte.calls U) := ⟨(slices_IndexFunc_byte_byte.S hU), trivial⟩

theorem slices_ContainsFunc_byte_byte.e : ∀ (U : Ifc) (a1 : Sl) (a2 : V) (Q : Bool → Heap → Prop) (h : Heap), slices_ContainsFunc_byte_byte U a1 a2 Q h = pts (slices_ContainsFunc_byte_byte.E U Q []) 3000 true [.code slices_ContainsFunc_byte_byte.code] (frOf 0 [.sl a1, a2]) h := by
  intros; kernel_rfl

theorem slices_ContainsFunc_byte_byte.S {W0 : World} {U : Ifc} (hU : IfcOK sg W0 glsT U) : FnS sg W0 73 (slices_ContainsFunc_byte_byte.C U) := by
  intro vs κ h wv hx w s
  unfold slices_ContainsFunc_byte_byte.C at hx
  split at hx
  · rename_i a1 a2
    refine postImp (ret := slices_ContainsFunc_byte_byte.ret (fun r1 h => κ (.bool r1) h)) (fun v h hr => by unfold slices_ContainsFunc_byte_byte.ret at hr; split at hr; exact hr; exact hr.elim) ?_
    exact calls_of_pts (E := slices_ContainsFunc_byte_byte.E U (fun r1 h => κ (.bool r1) h) []) (envOK seatOK (slices_ContainsFunc_byte_byte.callsOK hU) hU) seatOK.mixed slices_ContainsFunc_byte_byte.fun (Nat.le_of_ble_eq_true rfl) wv (cutL_ok trivial) s (fuel := 3000) (by rw [← slices_ContainsFunc_byte_byte.e]; exact hx)
  · exact hx.elim

noncomputable def slices_Clone_byte_byte.code : Code := Go.Proofs.Try.f76.body.getD .skip

theorem slices_Clone_byte_byte.fun : Fun sg.P 76 8 [.tmp 2] slices_Clone_byte_byte.code := mkFun Go.Proofs.Try.func76 (by kernel_rfl) (by kernel_rfl) (by kernel_rfl) (by kernel_rfl)

def slices_Clone_byte_byte.ret (Q : Sl → Heap → Prop) (v : V) (h : Heap) : Prop :=
  match v with
  | .sl r1 => Q r1 h
  | _ => False

def slices_Clone_byte_byte.C (vs : List V) (κ : V → Heap → Prop) (h : Heap) : Prop :=
  match vs with
  | [.sl a1] => slices_Clone_byte_byte a1 (fun r1 h => κ (.sl r1) h) h
  | _ => False

noncomputable def slices_Clone_byte_byte.calls : List (Nat × (List V → (V → Heap → Prop) → Heap → Prop)) := []

noncomputable def slices_Clone_byte_byte.E (Q : Sl → Heap → Prop) (cuts : List (Nat × (List Nat × (List V → Heap → Prop)))) : Env := { tis := tisT, fns := fnsT, tys := tysT, gls := [], rts := rtsT, unk := [], calls := slices_Clone_byte_byte.calls, ifc := noIfc, cuts := cuts, ret := slices_Clone_byte_byte.ret Q, rets := [.tmp 2], n := 8 }

theorem slices_Clone_byte_byte.callsOK {W0 : World} : CallsOK sg W0 slices_Clone_byte_byte.calls := trivial

theorem slices_Clone_byte_byte.e : ∀ (a1 : Sl) (Q : Sl → Heap → Prop) (h : Heap), slices_Clone_byte_byte a1 Q h = pts (slices_Clone_byte_byte.E Q []) 3000 true [.code slices_Clone_byte_byte.code] (frOf 0 [.sl a1]) h := by
  intros; kernel_rfl

theorem slices_Clone_byte_byte.S {W0 : World} : FnS sg W0 58 slices_Clone_byte_byte.C := by
  intro vs κ h wv hx w s
  unfold slices_Clone_byte_byte.C at hx
  split at hx
  · rename_i a1
    refine postImp (ret := slices_Clone_byte_byte.ret (fun r1 h => κ (.sl r1) h)) (fun v h hr => by unfold slices_Clone_byte_byte.ret at hr; split at hr; exact hr; exact hr.elim) ?_
    exact calls_of_pts (E := slices_Clone_byte_byte.E (fun r1 h => κ (.sl r1) h) []) (envOK seatOK slices_Clone_byte_byte.callsOK noIfc_ok) seatOK.mixed slices_Clone_byte_byte.fun (Nat.le_of_ble_eq_true rfl) wv (cutL_ok trivial) s (fuel := 3000) (by rw [← slices_Clone_byte_byte.e]; exact hx)
  · exact hx.elim

noncomputable def disk_Disk_Put.code : Code := Go.Proofs.Try.f43.body.getD .skip

theorem disk_Disk_Put.fun : Fun sg.P 43 34 [.tmp 6] disk_Disk_Put.code := mkFun Go.Proofs.Try.func43 (by kernel_rfl) (by kernel_rfl) (by kernel_rfl) (by kernel_rfl)

def disk_Disk_Put.ret (Q : Int → Heap → Prop) (v : V) (h : Heap) : Prop :=
  match v with
  | .int .i64 r1 => Q r1 h
  | _ => False

def disk_Disk_Put.C (U : Ifc) (vs : List V) (κ : V → Heap → Prop) (h : Heap) : Prop :=
  match vs with
  | [.ptr a1, .int .i64 a2, .sl a3] => disk_Disk_Put U a1 a2 a3 (fun r1 h => κ (.int .i64 r1) h) h
  | _ => False

noncomputable def disk_Disk_Put.calls (U : Ifc) : List (Nat × (List V → (V → Heap → Prop) → Heap → Prop)) := [(36, disk_Disk_wrong.C), (73, slices_ContainsFunc_byte_byte.C U), (58, slices_Clone_byte_byte.C)]

noncomputable def disk_Disk_Put.E (U : Ifc) (Q : Int → Heap → Prop) (cuts : List (Nat × (List Nat × (List V → Heap → Prop)))) : Env := { tis := tisT, fns := fnsT, tys := tysT, gls := glsT, rts := rtsT, unk := [], calls := disk_Disk_Put.calls U, ifc := U, cuts := cuts, ret := disk_Disk_Put.ret Q, rets := [.tmp 6], n := 34 }

theorem disk_Disk_Put.callsOK {W0 : World} {U : Ifc} (hU : IfcOK sg W0 glsT U) : CallsOK sg W0 (disk_Disk_Put.calls U) := ⟨disk_Disk_wrong.S, (slices_ContainsFunc_byte_byte.S hU), slices_Clone_byte_byte.S, trivial⟩

theorem disk_Disk_Put.e : ∀ (U : Ifc) (a1 : Option Ptr) (a2 : Int) (a3 : Sl) (Q : Int → Heap → Prop) (h : Heap), disk_Disk_Put U a1 a2 a3 Q h = pts (disk_Disk_Put.E U Q []) 3000 true [.code disk_Disk_Put.code] (frOf 0 [.ptr a1, .int .i64 a2, .sl a3]) h := by
  intros; kernel_rfl

theorem disk_Disk_Put.S {W0 : World} {U : Ifc} (hU : IfcOK sg W0 glsT U) : FnS sg W0 86 (disk_Disk_Put.C U) := by
  intro vs κ h wv hx w s
  unfold disk_Disk_Put.C at hx
  split at hx
  · rename_i a1 a2 a3
    refine postImp (ret := disk_Disk_Put.ret (fun r1 h => κ (.int .i64 r1) h)) (fun v h hr => by unfold disk_Disk_Put.ret at hr; split at hr; exact hr; exact hr.elim) ?_
    exact calls_of_pts (E := disk_Disk_Put.E U (fun r1 h => κ (.int .i64 r1) h) []) (envOK seatOK (disk_Disk_Put.callsOK hU) hU) seatOK.mixed disk_Disk_Put.fun (Nat.le_of_ble_eq_true rfl) wv (cutL_ok trivial) s (fuel := 3000) (by rw [← disk_Disk_Put.e]; exact hx)
  · exact hx.elim

noncomputable def disk_Disk_Block.code : Code := Go.Proofs.Try.f37.body.getD .skip

theorem disk_Disk_Block.fun : Fun sg.P 37 24 [.tmp 4, .tmp 5] disk_Disk_Block.code := mkFun Go.Proofs.Try.func37 (by kernel_rfl) (by kernel_rfl) (by kernel_rfl) (by kernel_rfl)

def disk_Disk_Block.ret (Q : Sl → Int → Heap → Prop) (v : V) (h : Heap) : Prop :=
  match v with
  | .tup [.sl r1, .int .i64 r2] => Q r1 r2 h
  | _ => False

def disk_Disk_Block.C (vs : List V) (κ : V → Heap → Prop) (h : Heap) : Prop :=
  match vs with
  | [.ptr a1, .int .i64 a2] => disk_Disk_Block a1 a2 (fun r1 r2 h => κ (.tup [.sl r1, .int .i64 r2]) h) h
  | _ => False

noncomputable def disk_Disk_Block.calls : List (Nat × (List V → (V → Heap → Prop) → Heap → Prop)) := [(36, disk_Disk_wrong.C)]

noncomputable def disk_Disk_Block.E (Q : Sl → Int → Heap → Prop) (cuts : List (Nat × (List Nat × (List V → Heap → Prop)))) : Env := { tis := tisT, fns := fnsT, tys := tysT, gls := [], rts := rtsT, unk := [], calls := disk_Disk_Block.calls, ifc := noIfc, cuts := cuts, ret := disk_Disk_Block.ret Q, rets := [.tmp 4, .tmp 5], n := 24 }

theorem disk_Disk_Block.callsOK {W0 : World} : CallsOK sg W0 disk_Disk_Block.calls := ⟨disk_Disk_wrong.S, trivial⟩

theorem disk_Disk_Block.e : ∀ (a1 : Option Ptr) (a2 : Int) (Q : Sl → Int → Heap → Prop) (h : Heap), disk_Disk_Block a1 a2 Q h = pts (disk_Disk_Block.E Q []) 3000 true [.code disk_Disk_Block.code] (frOf 0 [.ptr a1, .int .i64 a2]) h := by
  intros; kernel_rfl

theorem disk_Disk_Block.S {W0 : World} : FnS sg W0 87 disk_Disk_Block.C := by
  intro vs κ h wv hx w s
  unfold disk_Disk_Block.C at hx
  split at hx
  · rename_i a1 a2
    refine postImp (ret := disk_Disk_Block.ret (fun r1 r2 h => κ (.tup [.sl r1, .int .i64 r2]) h)) (fun v h hr => by unfold disk_Disk_Block.ret at hr; split at hr; exact hr; exact hr.elim) ?_
    exact calls_of_pts (E := disk_Disk_Block.E (fun r1 r2 h => κ (.tup [.sl r1, .int .i64 r2]) h) []) (envOK seatOK disk_Disk_Block.callsOK noIfc_ok) seatOK.mixed disk_Disk_Block.fun (Nat.le_of_ble_eq_true rfl) wv (cutL_ok trivial) s (fuel := 3000) (by rw [← disk_Disk_Block.e]; exact hx)
  · exact hx.elim

noncomputable def disk_Disk_Complete.code : Code := Go.Proofs.Try.f34.body.getD .skip

theorem disk_Disk_Complete.fun : Fun sg.P 34 93 [.cell 6 73, .tmp 7] disk_Disk_Complete.code := mkFun Go.Proofs.Try.func34 (by kernel_rfl) (by kernel_rfl) (by kernel_rfl) (by kernel_rfl)

def disk_Disk_Complete.ret (Q : Int → Bool → Int → Int → Int → Heap → Prop) (v : V) (h : Heap) : Prop :=
  match v with
  | .tup [.agg [.int .i64 r1, .bool r2, .int .i64 r3, .int .i64 r4], .int .i64 r5] => Q r1 r2 r3 r4 r5 h
  | _ => False

def disk_Disk_Complete.C (U : Ifc) (vs : List V) (κ : V → Heap → Prop) (h : Heap) : Prop :=
  match vs with
  | [.ptr a1, .ptr a2, .int .i64 a3] => disk_Disk_Complete U a1 a2 a3 (fun r1 r2 r3 r4 r5 h => κ (.tup [.agg [.int .i64 r1, .bool r2, .int .i64 r3, .int .i64 r4], .int .i64 r5]) h) h
  | _ => False

noncomputable def disk_Disk_Complete.calls (U : Ifc) : List (Nat × (List V → (V → Heap → Prop) → Heap → Prop)) := [(33, mem_Memory_Put.C), (40, mem_Memory_Bytes.C), (87, disk_Disk_Block.C), (86, disk_Disk_Put.C U), (29, disk_Disk_none.C), (55, mem_Memory_Frames.C), (71, slices_DeleteFunc_disk_Request_disk_Request.C U)]

noncomputable def disk_Disk_Complete.E (U : Ifc) (Q : Int → Bool → Int → Int → Int → Heap → Prop) (cuts : List (Nat × (List Nat × (List V → Heap → Prop)))) : Env := { tis := tisT, fns := fnsT, tys := tysT, gls := glsT, rts := rtsT, unk := [], calls := disk_Disk_Complete.calls U, ifc := U, cuts := cuts, ret := disk_Disk_Complete.ret Q, rets := [.cell 6 73, .tmp 7], n := 93 }

theorem disk_Disk_Complete.callsOK {W0 : World} {U : Ifc} (hU : IfcOK sg W0 glsT U) : CallsOK sg W0 (disk_Disk_Complete.calls U) := ⟨mem_Memory_Put.S, mem_Memory_Bytes.S, disk_Disk_Block.S, (disk_Disk_Put.S hU), disk_Disk_none.S, mem_Memory_Frames.S, (slices_DeleteFunc_disk_Request_disk_Request.S hU), trivial⟩

def disk_Disk_Complete.k2 (I : Ptr → Heap → Prop) (vs : List V) (h : Heap) : Prop :=
  match vs with
  | [.ptr (some a1)] => I a1 h
  | _ => False

def disk_Disk_Complete.k4 (I : Ptr → Heap → Prop) (vs : List V) (h : Heap) : Prop :=
  match vs with
  | [.ptr (some a1)] => I a1 h
  | _ => False

def disk_Disk_Complete.k8 (I : Ptr → Ptr → Heap → Prop) (vs : List V) (h : Heap) : Prop :=
  match vs with
  | [.ptr (some a1), .ptr (some a2)] => I a1 a2 h
  | _ => False

def disk_Disk_Complete.k10 (I : (Option Ptr) → (Option Ptr) → Ptr → Ptr → Int → Heap → Prop) (vs : List V) (h : Heap) : Prop :=
  match vs with
  | [.ptr a1, .ptr a2, .ptr (some a3), .ptr (some a4), .int .u64 a5] => I a1 a2 a3 a4 a5 h
  | _ => False

def disk_Disk_Complete.k6 (I : (Option Ptr) → (Option Ptr) → Ptr → Ptr → Heap → Prop) (vs : List V) (h : Heap) : Prop :=
  match vs with
  | [.ptr a1, .ptr a2, .ptr (some a3), .ptr (some a4)] => I a1 a2 a3 a4 h
  | _ => False

theorem disk_Disk_Complete.p2 : (posC disk_Disk_Complete.code []).filter (fun p => Nat.beq p.1 2) = [(2, atPos (posC disk_Disk_Complete.code []) 2)] := by kernel_rfl

theorem disk_Disk_Complete.e2 : ∀ (U : Ifc)  (a1 : Ptr) (Q : Int → Bool → Int → Int → Int → Heap → Prop) (h : Heap), disk_Disk_Complete.j2 U  a1 Q h = pts (disk_Disk_Complete.E U Q []) 3000 true (atPos (posC disk_Disk_Complete.code []) 2) (frAt [6] [.ptr (some a1)]) h := by
  intros; kernel_rfl

theorem disk_Disk_Complete.s2 {W0 : World} {U : Ifc} (hU : IfcOK sg W0 glsT U) (Q : Int → Bool → Int → Int → Int → Heap → Prop)   : CutOK sg W0 93 (entered 34) (Post sg W0 (disk_Disk_Complete.ret Q)) (posC disk_Disk_Complete.code []) 2 [6] (disk_Disk_Complete.k2 (fun a1 h => disk_Disk_Complete.j2 U  a1 Q h)) := by
  refine cutOK_head (fun vs h hk => ?_)
  unfold disk_Disk_Complete.k2 at hk
  split at hk
  · rename_i a1
    intro todo hm ρ a w s f hp
    exact piece (E := disk_Disk_Complete.E U Q []) (vs := [.ptr (some a1)]) (envOK seatOK (disk_Disk_Complete.callsOK hU) hU) (fnOK seatOK disk_Disk_Complete.fun) trivial disk_Disk_Complete.p2 (fuel := 3000) (by rw [← disk_Disk_Complete.e2]; exact hk) hm s f hp
  · exact hk.elim

theorem disk_Disk_Complete.p4 : (posC disk_Disk_Complete.code []).filter (fun p => Nat.beq p.1 4) = [(4, atPos (posC disk_Disk_Complete.code []) 4)] := by kernel_rfl

theorem disk_Disk_Complete.e4 : ∀ (U : Ifc)  (a1 : Ptr) (Q : Int → Bool → Int → Int → Int → Heap → Prop) (h : Heap), disk_Disk_Complete.j4 U  a1 Q h = pts (disk_Disk_Complete.E U Q []) 3000 true (atPos (posC disk_Disk_Complete.code []) 4) (frAt [6] [.ptr (some a1)]) h := by
  intros; kernel_rfl

theorem disk_Disk_Complete.s4 {W0 : World} {U : Ifc} (hU : IfcOK sg W0 glsT U) (Q : Int → Bool → Int → Int → Int → Heap → Prop)   : CutOK sg W0 93 (entered 34) (Post sg W0 (disk_Disk_Complete.ret Q)) (posC disk_Disk_Complete.code []) 4 [6] (disk_Disk_Complete.k4 (fun a1 h => disk_Disk_Complete.j4 U  a1 Q h)) := by
  refine cutOK_head (fun vs h hk => ?_)
  unfold disk_Disk_Complete.k4 at hk
  split at hk
  · rename_i a1
    intro todo hm ρ a w s f hp
    exact piece (E := disk_Disk_Complete.E U Q []) (vs := [.ptr (some a1)]) (envOK seatOK (disk_Disk_Complete.callsOK hU) hU) (fnOK seatOK disk_Disk_Complete.fun) trivial disk_Disk_Complete.p4 (fuel := 3000) (by rw [← disk_Disk_Complete.e4]; exact hk) hm s f hp
  · exact hk.elim

theorem disk_Disk_Complete.p8 : (posC disk_Disk_Complete.code []).filter (fun p => Nat.beq p.1 8) = [(8, atPos (posC disk_Disk_Complete.code []) 8)] := by kernel_rfl

theorem disk_Disk_Complete.e8 : ∀ (U : Ifc)  (a1 : Ptr) (a2 : Ptr) (Q : Int → Bool → Int → Int → Int → Heap → Prop) (h : Heap), disk_Disk_Complete.j8 U  a1 a2 Q h = pts (disk_Disk_Complete.E U Q []) 3000 true (atPos (posC disk_Disk_Complete.code []) 8) (frAt [6, 8] [.ptr (some a1), .ptr (some a2)]) h := by
  intros; kernel_rfl

theorem disk_Disk_Complete.s8 {W0 : World} {U : Ifc} (hU : IfcOK sg W0 glsT U) (Q : Int → Bool → Int → Int → Int → Heap → Prop)   : CutOK sg W0 93 (entered 34) (Post sg W0 (disk_Disk_Complete.ret Q)) (posC disk_Disk_Complete.code []) 8 [6, 8] (disk_Disk_Complete.k8 (fun a1 a2 h => disk_Disk_Complete.j8 U  a1 a2 Q h)) := by
  refine cutOK_head (fun vs h hk => ?_)
  unfold disk_Disk_Complete.k8 at hk
  split at hk
  · rename_i a1 a2
    intro todo hm ρ a w s f hp
    exact piece (E := disk_Disk_Complete.E U Q []) (vs := [.ptr (some a1), .ptr (some a2)]) (envOK seatOK (disk_Disk_Complete.callsOK hU) hU) (fnOK seatOK disk_Disk_Complete.fun) trivial disk_Disk_Complete.p8 (fuel := 3000) (by rw [← disk_Disk_Complete.e8]; exact hk) hm s f hp
  · exact hk.elim

theorem disk_Disk_Complete.p10 : (posC disk_Disk_Complete.code []).filter (fun p => Nat.beq p.1 10) = [(10, atPos (posC disk_Disk_Complete.code []) 10)] := by kernel_rfl

theorem disk_Disk_Complete.e10 : ∀ (U : Ifc)  (a1 : Option Ptr) (a2 : Option Ptr) (a3 : Ptr) (a4 : Ptr) (a5 : Int) (Q : Int → Bool → Int → Int → Int → Heap → Prop) (h : Heap), disk_Disk_Complete.j10 U  a1 a2 a3 a4 a5 Q h = pts (disk_Disk_Complete.E U Q []) 3000 true (atPos (posC disk_Disk_Complete.code []) 10) (frAt [0, 1, 6, 8, 9] [.ptr a1, .ptr a2, .ptr (some a3), .ptr (some a4), .int .u64 a5]) h := by
  intros; kernel_rfl

theorem disk_Disk_Complete.s10 {W0 : World} {U : Ifc} (hU : IfcOK sg W0 glsT U) (Q : Int → Bool → Int → Int → Int → Heap → Prop)   : CutOK sg W0 93 (entered 34) (Post sg W0 (disk_Disk_Complete.ret Q)) (posC disk_Disk_Complete.code []) 10 [0, 1, 6, 8, 9] (disk_Disk_Complete.k10 (fun a1 a2 a3 a4 a5 h => disk_Disk_Complete.j10 U  a1 a2 a3 a4 a5 Q h)) := by
  refine cutOK_head (fun vs h hk => ?_)
  unfold disk_Disk_Complete.k10 at hk
  split at hk
  · rename_i a1 a2 a3 a4 a5
    intro todo hm ρ a w s f hp
    exact piece (E := disk_Disk_Complete.E U Q []) (vs := [.ptr a1, .ptr a2, .ptr (some a3), .ptr (some a4), .int .u64 a5]) (envOK seatOK (disk_Disk_Complete.callsOK hU) hU) (fnOK seatOK disk_Disk_Complete.fun) trivial disk_Disk_Complete.p10 (fuel := 3000) (by rw [← disk_Disk_Complete.e10]; exact hk) hm s f hp
  · exact hk.elim

theorem disk_Disk_Complete.p6 : (posC disk_Disk_Complete.code []).filter (fun p => Nat.beq p.1 6) = [(6, atPos (posC disk_Disk_Complete.code []) 6)] := by kernel_rfl

theorem disk_Disk_Complete.e6 : ∀ (U : Ifc)  (a1 : Option Ptr) (a2 : Option Ptr) (a3 : Ptr) (a4 : Ptr) (Q : Int → Bool → Int → Int → Int → Heap → Prop) (h : Heap), disk_Disk_Complete.j6 U  a1 a2 a3 a4 Q h = pts (disk_Disk_Complete.E U Q [(8, ([6, 8], disk_Disk_Complete.k8 (fun a1 a2 h => disk_Disk_Complete.j8 U  a1 a2 Q h))), (10, ([0, 1, 6, 8, 9], disk_Disk_Complete.k10 (fun a1 a2 a3 a4 a5 h => disk_Disk_Complete.j10 U  a1 a2 a3 a4 a5 Q h)))]) 3000 true (atPos (posC disk_Disk_Complete.code []) 6) (frAt [0, 1, 6, 8] [.ptr a1, .ptr a2, .ptr (some a3), .ptr (some a4)]) h := by
  intros; kernel_rfl

theorem disk_Disk_Complete.s6 {W0 : World} {U : Ifc} (hU : IfcOK sg W0 glsT U) (Q : Int → Bool → Int → Int → Int → Heap → Prop)   : CutOK sg W0 93 (entered 34) (Post sg W0 (disk_Disk_Complete.ret Q)) (posC disk_Disk_Complete.code []) 6 [0, 1, 6, 8] (disk_Disk_Complete.k6 (fun a1 a2 a3 a4 h => disk_Disk_Complete.j6 U  a1 a2 a3 a4 Q h)) := by
  refine cutOK_head (fun vs h hk => ?_)
  unfold disk_Disk_Complete.k6 at hk
  split at hk
  · rename_i a1 a2 a3 a4
    intro todo hm ρ a w s f hp
    exact piece (E := disk_Disk_Complete.E U Q [(8, ([6, 8], disk_Disk_Complete.k8 (fun a1 a2 h => disk_Disk_Complete.j8 U  a1 a2 Q h))), (10, ([0, 1, 6, 8, 9], disk_Disk_Complete.k10 (fun a1 a2 a3 a4 a5 h => disk_Disk_Complete.j10 U  a1 a2 a3 a4 a5 Q h)))]) (vs := [.ptr a1, .ptr a2, .ptr (some a3), .ptr (some a4)]) (envOK seatOK (disk_Disk_Complete.callsOK hU) hU) (fnOK seatOK disk_Disk_Complete.fun) ⟨(disk_Disk_Complete.s8 hU Q  ), (disk_Disk_Complete.s10 hU Q  ), trivial⟩ disk_Disk_Complete.p6 (fuel := 3000) (by rw [← disk_Disk_Complete.e6]; exact hk) hm s f hp
  · exact hk.elim

theorem disk_Disk_Complete.e : ∀ (U : Ifc) (a1 : Option Ptr) (a2 : Option Ptr) (a3 : Int) (Q : Int → Bool → Int → Int → Int → Heap → Prop) (h : Heap), disk_Disk_Complete U a1 a2 a3 Q h = pts (disk_Disk_Complete.E U Q [(2, ([6], disk_Disk_Complete.k2 (fun a1 h => disk_Disk_Complete.j2 U  a1 Q h))), (4, ([6], disk_Disk_Complete.k4 (fun a1 h => disk_Disk_Complete.j4 U  a1 Q h))), (6, ([0, 1, 6, 8], disk_Disk_Complete.k6 (fun a1 a2 a3 a4 h => disk_Disk_Complete.j6 U  a1 a2 a3 a4 Q h)))]) 3000 true [.code disk_Disk_Complete.code] (frOf 0 [.ptr a1, .ptr a2, .int .i64 a3]) h := by
  intros; kernel_rfl

theorem disk_Disk_Complete.S {W0 : World} {U : Ifc} (hU : IfcOK sg W0 glsT U) : FnS sg W0 88 (disk_Disk_Complete.C U) := by
  intro vs κ h wv hx w s
  unfold disk_Disk_Complete.C at hx
  split at hx
  · rename_i a1 a2 a3
    refine postImp (ret := disk_Disk_Complete.ret (fun r1 r2 r3 r4 r5 h => κ (.tup [.agg [.int .i64 r1, .bool r2, .int .i64 r3, .int .i64 r4], .int .i64 r5]) h)) (fun v h hr => by unfold disk_Disk_Complete.ret at hr; split at hr; exact hr; exact hr.elim) ?_
    exact calls_of_pts (E := disk_Disk_Complete.E U (fun r1 r2 r3 r4 r5 h => κ (.tup [.agg [.int .i64 r1, .bool r2, .int .i64 r3, .int .i64 r4], .int .i64 r5]) h) [(2, ([6], disk_Disk_Complete.k2 (fun a1 h => disk_Disk_Complete.j2 U  a1 (fun r1 r2 r3 r4 r5 h => κ (.tup [.agg [.int .i64 r1, .bool r2, .int .i64 r3, .int .i64 r4], .int .i64 r5]) h) h))), (4, ([6], disk_Disk_Complete.k4 (fun a1 h => disk_Disk_Complete.j4 U  a1 (fun r1 r2 r3 r4 r5 h => κ (.tup [.agg [.int .i64 r1, .bool r2, .int .i64 r3, .int .i64 r4], .int .i64 r5]) h) h))), (6, ([0, 1, 6, 8], disk_Disk_Complete.k6 (fun a1 a2 a3 a4 h => disk_Disk_Complete.j6 U  a1 a2 a3 a4 (fun r1 r2 r3 r4 r5 h => κ (.tup [.agg [.int .i64 r1, .bool r2, .int .i64 r3, .int .i64 r4], .int .i64 r5]) h) h)))]) (envOK seatOK (disk_Disk_Complete.callsOK hU) hU) seatOK.mixed disk_Disk_Complete.fun (Nat.le_of_ble_eq_true rfl) wv (cutL_ok ⟨(disk_Disk_Complete.s2 hU (fun r1 r2 r3 r4 r5 h => κ (.tup [.agg [.int .i64 r1, .bool r2, .int .i64 r3, .int .i64 r4], .int .i64 r5]) h)), (disk_Disk_Complete.s4 hU (fun r1 r2 r3 r4 r5 h => κ (.tup [.agg [.int .i64 r1, .bool r2, .int .i64 r3, .int .i64 r4], .int .i64 r5]) h)), (disk_Disk_Complete.s6 hU (fun r1 r2 r3 r4 r5 h => κ (.tup [.agg [.int .i64 r1, .bool r2, .int .i64 r3, .int .i64 r4], .int .i64 r5]) h)), trivial⟩) s (fuel := 3000) (by rw [← disk_Disk_Complete.e]; exact hx)
  · exact hx.elim

noncomputable def slices_Clone_disk_Request_disk_Request.code : Code := Go.Proofs.Try.f71.body.getD .skip

theorem slices_Clone_disk_Request_disk_Request.fun : Fun sg.P 71 8 [.tmp 2] slices_Clone_disk_Request_disk_Request.code := mkFun Go.Proofs.Try.func71 (by kernel_rfl) (by kernel_rfl) (by kernel_rfl) (by kernel_rfl)

def slices_Clone_disk_Request_disk_Request.ret (Q : Sl → Heap → Prop) (v : V) (h : Heap) : Prop :=
  match v with
  | .sl r1 => Q r1 h
  | _ => False

def slices_Clone_disk_Request_disk_Request.C (vs : List V) (κ : V → Heap → Prop) (h : Heap) : Prop :=
  match vs with
  | [.sl a1] => slices_Clone_disk_Request_disk_Request a1 (fun r1 h => κ (.sl r1) h) h
  | _ => False

noncomputable def slices_Clone_disk_Request_disk_Request.calls : List (Nat × (List V → (V → Heap → Prop) → Heap → Prop)) := []

noncomputable def slices_Clone_disk_Request_disk_Request.E (Q : Sl → Heap → Prop) (cuts : List (Nat × (List Nat × (List V → Heap → Prop)))) : Env := { tis := tisT, fns := fnsT, tys := tysT, gls := [], rts := rtsT, unk := [], calls := slices_Clone_disk_Request_disk_Request.calls, ifc := noIfc, cuts := cuts, ret := slices_Clone_disk_Request_disk_Request.ret Q, rets := [.tmp 2], n := 8 }

theorem slices_Clone_disk_Request_disk_Request.callsOK {W0 : World} : CallsOK sg W0 slices_Clone_disk_Request_disk_Request.calls := trivial

theorem slices_Clone_disk_Request_disk_Request.e : ∀ (a1 : Sl) (Q : Sl → Heap → Prop) (h : Heap), slices_Clone_disk_Request_disk_Request a1 Q h = pts (slices_Clone_disk_Request_disk_Request.E Q []) 3000 true [.code slices_Clone_disk_Request_disk_Request.code] (frOf 0 [.sl a1]) h := by
  intros; kernel_rfl

theorem slices_Clone_disk_Request_disk_Request.S {W0 : World} : FnS sg W0 37 slices_Clone_disk_Request_disk_Request.C := by
  intro vs κ h wv hx w s
  unfold slices_Clone_disk_Request_disk_Request.C at hx
  split at hx
  · rename_i a1
    refine postImp (ret := slices_Clone_disk_Request_disk_Request.ret (fun r1 h => κ (.sl r1) h)) (fun v h hr => by unfold slices_Clone_disk_Request_disk_Request.ret at hr; split at hr; exact hr; exact hr.elim) ?_
    exact calls_of_pts (E := slices_Clone_disk_Request_disk_Request.E (fun r1 h => κ (.sl r1) h) []) (envOK seatOK slices_Clone_disk_Request_disk_Request.callsOK noIfc_ok) seatOK.mixed slices_Clone_disk_Request_disk_Request.fun (Nat.le_of_ble_eq_true rfl) wv (cutL_ok trivial) s (fuel := 3000) (by rw [← slices_Clone_disk_Request_disk_Request.e]; exact hx)
  · exact hx.elim

noncomputable def disk_Disk_Pending.code : Code := Go.Proofs.Try.f35.body.getD .skip

theorem disk_Disk_Pending.fun : Fun sg.P 35 10 [.tmp 2] disk_Disk_Pending.code := mkFun Go.Proofs.Try.func35 (by kernel_rfl) (by kernel_rfl) (by kernel_rfl) (by kernel_rfl)

def disk_Disk_Pending.ret (Q : Sl → Heap → Prop) (v : V) (h : Heap) : Prop :=
  match v with
  | .sl r1 => Q r1 h
  | _ => False

def disk_Disk_Pending.C (vs : List V) (κ : V → Heap → Prop) (h : Heap) : Prop :=
  match vs with
  | [.ptr a1] => disk_Disk_Pending a1 (fun r1 h => κ (.sl r1) h) h
  | _ => False

noncomputable def disk_Disk_Pending.calls : List (Nat × (List V → (V → Heap → Prop) → Heap → Prop)) := [(29, disk_Disk_none.C), (37, slices_Clone_disk_Request_disk_Request.C)]

noncomputable def disk_Disk_Pending.E (Q : Sl → Heap → Prop) (cuts : List (Nat × (List Nat × (List V → Heap → Prop)))) : Env := { tis := tisT, fns := fnsT, tys := tysT, gls := [], rts := rtsT, unk := [], calls := disk_Disk_Pending.calls, ifc := noIfc, cuts := cuts, ret := disk_Disk_Pending.ret Q, rets := [.tmp 2], n := 10 }

theorem disk_Disk_Pending.callsOK {W0 : World} : CallsOK sg W0 disk_Disk_Pending.calls := ⟨disk_Disk_none.S, slices_Clone_disk_Request_disk_Request.S, trivial⟩

theorem disk_Disk_Pending.e : ∀ (a1 : Option Ptr) (Q : Sl → Heap → Prop) (h : Heap), disk_Disk_Pending a1 Q h = pts (disk_Disk_Pending.E Q []) 3000 true [.code disk_Disk_Pending.code] (frOf 0 [.ptr a1]) h := by
  intros; kernel_rfl

theorem disk_Disk_Pending.S {W0 : World} : FnS sg W0 38 disk_Disk_Pending.C := by
  intro vs κ h wv hx w s
  unfold disk_Disk_Pending.C at hx
  split at hx
  · rename_i a1
    refine postImp (ret := disk_Disk_Pending.ret (fun r1 h => κ (.sl r1) h)) (fun v h hr => by unfold disk_Disk_Pending.ret at hr; split at hr; exact hr; exact hr.elim) ?_
    exact calls_of_pts (E := disk_Disk_Pending.E (fun r1 h => κ (.sl r1) h) []) (envOK seatOK disk_Disk_Pending.callsOK noIfc_ok) seatOK.mixed disk_Disk_Pending.fun (Nat.le_of_ble_eq_true rfl) wv (cutL_ok trivial) s (fuel := 3000) (by rw [← disk_Disk_Pending.e]; exact hx)
  · exact hx.elim

noncomputable def palisadelaw12_DiskBack.code : Code := Go.Proofs.Try.f7.body.getD .skip

theorem palisadelaw12_DiskBack.fun : Fun sg.P 7 166 [.tmp 6] palisadelaw12_DiskBack.code := mkFun Go.Proofs.Try.func7 (by kernel_rfl) (by kernel_rfl) (by kernel_rfl) (by kernel_rfl)

def palisadelaw12_DiskBack.ret (Q : Bool → Heap → Prop) (v : V) (h : Heap) : Prop :=
  match v with
  | .bool r1 => Q r1 h
  | _ => False

def palisadelaw12_DiskBack.C (U : Ifc) (vs : List V) (κ : V → Heap → Prop) (h : Heap) : Prop :=
  match vs with
  | [.sl a1, .int .i64 a2, .int .i64 a3] => palisadelaw12_DiskBack U a1 a2 a3 (fun r1 h => κ (.bool r1) h) h
  | _ => False

noncomputable def palisadelaw12_DiskBack.calls (U : Ifc) : List (Nat × (List V → (V → Heap → Prop) → Heap → Prop)) := [(85, disk_New.C), (28, mem_New.C), (33, mem_Memory_Put.C), (82, disk_Disk_Submit.C U), (88, disk_Disk_Complete.C U), (38, disk_Disk_Pending.C), (40, mem_Memory_Bytes.C), (87, disk_Disk_Block.C)]

noncomputable def palisadelaw12_DiskBack.E (U : Ifc) (Q : Bool → Heap → Prop) (cuts : List (Nat × (List Nat × (List V → Heap → Prop)))) : Env := { tis := tisT, fns := fnsT, tys := tysT, gls := glsT, rts := rtsT, unk := [], calls := palisadelaw12_DiskBack.calls U, ifc := U, cuts := cuts, ret := palisadelaw12_DiskBack.ret Q, rets := [.tmp 6], n := 166 }

theorem palisadelaw12_DiskBack.callsOK {W0 : World} {U : Ifc} (hU : IfcOK sg W0 glsT U) : CallsOK sg W0 (palisadelaw12_DiskBack.calls U) := ⟨disk_New.S, mem_New.S, mem_Memory_Put.S, (disk_Disk_Submit.S hU), (disk_Disk_Complete.S hU), disk_Disk_Pending.S, mem_Memory_Bytes.S, disk_Disk_Block.S, trivial⟩

def palisadelaw12_DiskBack.k4 (I : Heap → Prop) (vs : List V) (h : Heap) : Prop :=
  match vs with
  | [] => I  h
  | _ => False

def palisadelaw12_DiskBack.k10 (I : Heap → Prop) (vs : List V) (h : Heap) : Prop :=
  match vs with
  | [] => I  h
  | _ => False

def palisadelaw12_DiskBack.k15 (I : Heap → Prop) (vs : List V) (h : Heap) : Prop :=
  match vs with
  | [] => I  h
  | _ => False

def palisadelaw12_DiskBack.k25 (I : Int → (Option Ptr) → Sl → (List UInt8) → Int → Heap → Prop) (vs : List V) (h : Heap) : Prop :=
  match vs with
  | [.int .i64 a1, .ptr a2, .sl a3, .str a4, .int .i64 a5] => I a1 a2 a3 a4 a5 h
  | _ => False

def palisadelaw12_DiskBack.k24 (I : Int → (Option Ptr) → Sl → (List UInt8) → Int → Heap → Prop) (vs : List V) (h : Heap) : Prop :=
  match vs with
  | [.int .i64 a1, .ptr a2, .sl a3, .str a4, .int .i64 a5] => I a1 a2 a3 a4 a5 h
  | _ => False

def palisadelaw12_DiskBack.k23 (I : Int → (Option Ptr) → Sl → (List UInt8) → Heap → Prop) (vs : List V) (h : Heap) : Prop :=
  match vs with
  | [.int .i64 a1, .ptr a2, .sl a3, .str a4] => I a1 a2 a3 a4 h
  | _ => False

def palisadelaw12_DiskBack.k16 (I : Sl → Int → (Option Ptr) → (Option Ptr) → Heap → Prop) (vs : List V) (h : Heap) : Prop :=
  match vs with
  | [.sl a1, .int .i64 a2, .ptr a3, .ptr a4] => I a1 a2 a3 a4 h
  | _ => False

def palisadelaw12_DiskBack.k13 (I : Sl → Int → Int → (Option Ptr) → Int → (Option Ptr) → Ptr → Heap → Prop) (vs : List V) (h : Heap) : Prop :=
  match vs with
  | [.sl a1, .int .i64 a2, .int .i64 a3, .ptr a4, .int .i64 a5, .ptr a6, .ptr (some a7)] => I a1 a2 a3 a4 a5 a6 a7 h
  | _ => False

def palisadelaw12_DiskBack.k7 (I : Sl → Int → Int → (Option Ptr) → (Option Ptr) → Heap → Prop) (vs : List V) (h : Heap) : Prop :=
  match vs with
  | [.sl a1, .int .i64 a2, .int .i64 a3, .ptr a4, .ptr a5] => I a1 a2 a3 a4 a5 h
  | _ => False

def palisadelaw12_DiskBack.k5 (I : Sl → Int → Int → (Option Ptr) → (Option Ptr) → Heap → Prop) (vs : List V) (h : Heap) : Prop :=
  match vs with
  | [.sl a1, .int .i64 a2, .int .i64 a3, .ptr a4, .ptr a5] => I a1 a2 a3 a4 a5 h
  | _ => False

theorem palisadelaw12_DiskBack.p4 : (posC palisadelaw12_DiskBack.code []).filter (fun p => Nat.beq p.1 4) = [(4, atPos (posC palisadelaw12_DiskBack.code []) 4)] := by kernel_rfl

theorem palisadelaw12_DiskBack.e4 : ∀ (U : Ifc)   (Q : Bool → Heap → Prop) (h : Heap), palisadelaw12_DiskBack.j4 U   Q h = pts (palisadelaw12_DiskBack.E U Q []) 3000 true (atPos (posC palisadelaw12_DiskBack.code []) 4) (frAt [] []) h := by
  intros; kernel_rfl

theorem palisadelaw12_DiskBack.s4 {W0 : World} {U : Ifc} (hU : IfcOK sg W0 glsT U) (Q : Bool → Heap → Prop)   : CutOK sg W0 166 (entered 7) (Post sg W0 (palisadelaw12_DiskBack.ret Q)) (posC palisadelaw12_DiskBack.code []) 4 [] (palisadelaw12_DiskBack.k4 (fun  h => palisadelaw12_DiskBack.j4 U   Q h)) := by
  refine cutOK_head (fun vs h hk => ?_)
  unfold palisadelaw12_DiskBack.k4 at hk
  split at hk
  · skip
    intro todo hm ρ a w s f hp
    exact piece (E := palisadelaw12_DiskBack.E U Q []) (vs := []) (envOK seatOK (palisadelaw12_DiskBack.callsOK hU) hU) (fnOK seatOK palisadelaw12_DiskBack.fun) trivial palisadelaw12_DiskBack.p4 (fuel := 3000) (by rw [← palisadelaw12_DiskBack.e4]; exact hk) hm s f hp
  · exact hk.elim

theorem palisadelaw12_DiskBack.p10 : (posC palisadelaw12_DiskBack.code []).filter (fun p => Nat.beq p.1 10) = [(10, atPos (posC palisadelaw12_DiskBack.code []) 10)] := by kernel_rfl

theorem palisadelaw12_DiskBack.e10 : ∀ (U : Ifc)   (Q : Bool → Heap → Prop) (h : Heap), palisadelaw12_DiskBack.j10 U   Q h = pts (palisadelaw12_DiskBack.E U Q []) 3000 true (atPos (posC palisadelaw12_DiskBack.code []) 10) (frAt [] []) h := by
  intros; kernel_rfl

theorem palisadelaw12_DiskBack.s10 {W0 : World} {U : Ifc} (hU : IfcOK sg W0 glsT U) (Q : Bool → Heap → Prop)   : CutOK sg W0 166 (entered 7) (Post sg W0 (palisadelaw12_DiskBack.ret Q)) (posC palisadelaw12_DiskBack.code []) 10 [] (palisadelaw12_DiskBack.k10 (fun  h => palisadelaw12_DiskBack.j10 U   Q h)) := by
  refine cutOK_head (fun vs h hk => ?_)
  unfold palisadelaw12_DiskBack.k10 at hk
  split at hk
  · skip
    intro todo hm ρ a w s f hp
    exact piece (E := palisadelaw12_DiskBack.E U Q []) (vs := []) (envOK seatOK (palisadelaw12_DiskBack.callsOK hU) hU) (fnOK seatOK palisadelaw12_DiskBack.fun) trivial palisadelaw12_DiskBack.p10 (fuel := 3000) (by rw [← palisadelaw12_DiskBack.e10]; exact hk) hm s f hp
  · exact hk.elim

theorem palisadelaw12_DiskBack.p15 : (posC palisadelaw12_DiskBack.code []).filter (fun p => Nat.beq p.1 15) = [(15, atPos (posC palisadelaw12_DiskBack.code []) 15)] := by kernel_rfl

theorem palisadelaw12_DiskBack.e15 : ∀ (U : Ifc)   (Q : Bool → Heap → Prop) (h : Heap), palisadelaw12_DiskBack.j15 U   Q h = pts (palisadelaw12_DiskBack.E U Q []) 3000 true (atPos (posC palisadelaw12_DiskBack.code []) 15) (frAt [] []) h := by
  intros; kernel_rfl

theorem palisadelaw12_DiskBack.s15 {W0 : World} {U : Ifc} (hU : IfcOK sg W0 glsT U) (Q : Bool → Heap → Prop)   : CutOK sg W0 166 (entered 7) (Post sg W0 (palisadelaw12_DiskBack.ret Q)) (posC palisadelaw12_DiskBack.code []) 15 [] (palisadelaw12_DiskBack.k15 (fun  h => palisadelaw12_DiskBack.j15 U   Q h)) := by
  refine cutOK_head (fun vs h hk => ?_)
  unfold palisadelaw12_DiskBack.k15 at hk
  split at hk
  · skip
    intro todo hm ρ a w s f hp
    exact piece (E := palisadelaw12_DiskBack.E U Q []) (vs := []) (envOK seatOK (palisadelaw12_DiskBack.callsOK hU) hU) (fnOK seatOK palisadelaw12_DiskBack.fun) trivial palisadelaw12_DiskBack.p15 (fuel := 3000) (by rw [← palisadelaw12_DiskBack.e15]; exact hk) hm s f hp
  · exact hk.elim

theorem palisadelaw12_DiskBack.p25 : (posC palisadelaw12_DiskBack.code []).filter (fun p => Nat.beq p.1 25) = [(25, atPos (posC palisadelaw12_DiskBack.code []) 25)] := by kernel_rfl

theorem palisadelaw12_DiskBack.e25 : ∀ (U : Ifc) (I24 : Int → (Option Ptr) → Sl → (List UInt8) → Int → Heap → Prop) (a1 : Int) (a2 : Option Ptr) (a3 : Sl) (a4 : List UInt8) (a5 : Int) (Q : Bool → Heap → Prop) (h : Heap), palisadelaw12_DiskBack.j25 U I24 a1 a2 a3 a4 a5 Q h = pts (palisadelaw12_DiskBack.E U Q [(24, ([1, 7, 15, 17, 18], palisadelaw12_DiskBack.k24 I24))]) 3000 true (atPos (posC palisadelaw12_DiskBack.code []) 25) (frAt [1, 7, 15, 17, 18] [.int .i64 a1, .ptr a2, .sl a3, .str a4, .int .i64 a5]) h := by
  intros; kernel_rfl

theorem palisadelaw12_DiskBack.s25 {W0 : World} {U : Ifc} (hU : IfcOK sg W0 glsT U) (Q : Bool → Heap → Prop) (I24 : Int → (Option Ptr) → Sl → (List UInt8) → Int → Heap → Prop) (h24 : CutOK sg W0 166 (entered 7) (Post sg W0 (palisadelaw12_DiskBack.ret Q)) (posC palisadelaw12_DiskBack.code []) 24 [1, 7, 15, 17, 18] (palisadelaw12_DiskBack.k24 I24)) : CutOK sg W0 166 (entered 7) (Post sg W0 (palisadelaw12_DiskBack.ret Q)) (posC palisadelaw12_DiskBack.code []) 25 [1, 7, 15, 17, 18] (palisadelaw12_DiskBack.k25 (fun a1 a2 a3 a4 a5 h => palisadelaw12_DiskBack.j25 U I24 a1 a2 a3 a4 a5 Q h)) := by
  refine cutOK_head (fun vs h hk => ?_)
  unfold palisadelaw12_DiskBack.k25 at hk
  split at hk
  · rename_i a1 a2 a3 a4 a5
    intro todo hm ρ a w s f hp
    exact piece (E := palisadelaw12_DiskBack.E U Q [(24, ([1, 7, 15, 17, 18], palisadelaw12_DiskBack.k24 I24))]) (vs := [.int .i64 a1, .ptr a2, .sl a3, .str a4, .int .i64 a5]) (envOK seatOK (palisadelaw12_DiskBack.callsOK hU) hU) (fnOK seatOK palisadelaw12_DiskBack.fun) ⟨h24, trivial⟩ palisadelaw12_DiskBack.p25 (fuel := 3000) (by rw [← palisadelaw12_DiskBack.e25]; exact hk) hm s f hp
  · exact hk.elim

theorem palisadelaw12_DiskBack.p24 : (posC palisadelaw12_DiskBack.code []).filter (fun p => Nat.beq p.1 24) = [(24, atPos (posC palisadelaw12_DiskBack.code []) 24)] := by kernel_rfl

theorem palisadelaw12_DiskBack.e24 : ∀ (U : Ifc)  (I24 : Int → (Option Ptr) → Sl → (List UInt8) → Int → Heap → Prop) (a1 : Int) (a2 : Option Ptr) (a3 : Sl) (a4 : List UInt8) (a5 : Int) (Q : Bool → Heap → Prop) (h : Heap), palisadelaw12_DiskBack.b24 U  I24 a1 a2 a3 a4 a5 Q h = pts (palisadelaw12_DiskBack.E U Q [(25, ([1, 7, 15, 17, 18], palisadelaw12_DiskBack.k25 (fun a1 a2 a3 a4 a5 h => palisadelaw12_DiskBack.j25 U I24 a1 a2 a3 a4 a5 Q h)))]) 3000 true (atPos (posC palisadelaw12_DiskBack.code []) 24) (frAt [1, 7, 15, 17, 18] [.int .i64 a1, .ptr a2, .sl a3, .str a4, .int .i64 a5]) h := by
  intros; kernel_rfl

theorem palisadelaw12_DiskBack.s24 {W0 : World} {U : Ifc} (hU : IfcOK sg W0 glsT U) (Q : Bool → Heap → Prop)   : CutOK sg W0 166 (entered 7) (Post sg W0 (palisadelaw12_DiskBack.ret Q)) (posC palisadelaw12_DiskBack.code []) 24 [1, 7, 15, 17, 18] (palisadelaw12_DiskBack.k24 (fun a1 a2 a3 a4 a5 h => palisadelaw12_DiskBack.j24 U  a1 a2 a3 a4 a5 Q h)) := by
  refine cutOK_head (fun vs h hk => ?_)
  unfold palisadelaw12_DiskBack.k24 at hk
  split at hk
  · rename_i a1 a2 a3 a4 a5
    refine hk (fun a1 a2 a3 a4 a5 h => Head sg W0 166 (entered 7) (Post sg W0 (palisadelaw12_DiskBack.ret Q)) (posC palisadelaw12_DiskBack.code []) 24 [1, 7, 15, 17, 18] [.int .i64 a1, .ptr a2, .sl a3, .str a4, .int .i64 a5] h) ?_
    intro a1 a2 a3 a4 a5 h hb todo hm ρ a w s f hp
    have hself : CutOK sg W0 166 (entered 7) (Post sg W0 (palisadelaw12_DiskBack.ret Q)) (posC palisadelaw12_DiskBack.code []) 24 [1, 7, 15, 17, 18] (palisadelaw12_DiskBack.k24 (fun a1 a2 a3 a4 a5 h => Head sg W0 166 (entered 7) (Post sg W0 (palisadelaw12_DiskBack.ret Q)) (posC palisadelaw12_DiskBack.code []) 24 [1, 7, 15, 17, 18] [.int .i64 a1, .ptr a2, .sl a3, .str a4, .int .i64 a5] h)) := cutOK_head (fun vs h hk => by unfold palisadelaw12_DiskBack.k24 at hk; split at hk; exact hk; exact hk.elim)
    exact piece (E := palisadelaw12_DiskBack.E U Q [(25, ([1, 7, 15, 17, 18], palisadelaw12_DiskBack.k25 (fun a1 a2 a3 a4 a5 h => palisadelaw12_DiskBack.j25 U (fun a1 a2 a3 a4 a5 h => Head sg W0 166 (entered 7) (Post sg W0 (palisadelaw12_DiskBack.ret Q)) (posC palisadelaw12_DiskBack.code []) 24 [1, 7, 15, 17, 18] [.int .i64 a1, .ptr a2, .sl a3, .str a4, .int .i64 a5] h) a1 a2 a3 a4 a5 Q h)))]) (vs := [.int .i64 a1, .ptr a2, .sl a3, .str a4, .int .i64 a5]) (envOK seatOK (palisadelaw12_DiskBack.callsOK hU) hU) (fnOK seatOK palisadelaw12_DiskBack.fun) ⟨(palisadelaw12_DiskBack.s25 hU Q (fun a1 a2 a3 a4 a5 h => Head sg W0 166 (entered 7) (Post sg W0 (palisadelaw12_DiskBack.ret Q)) (posC palisadelaw12_DiskBack.code []) 24 [1, 7, 15, 17, 18] [.int .i64 a1, .ptr a2, .sl a3, .str a4, .int .i64 a5] h) hself), trivial⟩ palisadelaw12_DiskBack.p24 (fuel := 3000) (by rw [← palisadelaw12_DiskBack.e24]; exact hb) hm s f hp
  · exact hk.elim

theorem palisadelaw12_DiskBack.p23 : (posC palisadelaw12_DiskBack.code []).filter (fun p => Nat.beq p.1 23) = [(23, atPos (posC palisadelaw12_DiskBack.code []) 23)] := by kernel_rfl

theorem palisadelaw12_DiskBack.e23 : ∀ (U : Ifc)  (a1 : Int) (a2 : Option Ptr) (a3 : Sl) (a4 : List UInt8) (Q : Bool → Heap → Prop) (h : Heap), palisadelaw12_DiskBack.j23 U  a1 a2 a3 a4 Q h = pts (palisadelaw12_DiskBack.E U Q [(24, ([1, 7, 15, 17, 18], palisadelaw12_DiskBack.k24 (fun a1 a2 a3 a4 a5 h => palisadelaw12_DiskBack.j24 U  a1 a2 a3 a4 a5 Q h)))]) 3000 true (atPos (posC palisadelaw12_DiskBack.code []) 23) (frAt [1, 7, 15, 17] [.int .i64 a1, .ptr a2, .sl a3, .str a4]) h := by
  intros; kernel_rfl

theorem palisadelaw12_DiskBack.s23 {W0 : World} {U : Ifc} (hU : IfcOK sg W0 glsT U) (Q : Bool → Heap → Prop)   : CutOK sg W0 166 (entered 7) (Post sg W0 (palisadelaw12_DiskBack.ret Q)) (posC palisadelaw12_DiskBack.code []) 23 [1, 7, 15, 17] (palisadelaw12_DiskBack.k23 (fun a1 a2 a3 a4 h => palisadelaw12_DiskBack.j23 U  a1 a2 a3 a4 Q h)) := by
  refine cutOK_head (fun vs h hk => ?_)
  unfold palisadelaw12_DiskBack.k23 at hk
  split at hk
  · rename_i a1 a2 a3 a4
    intro todo hm ρ a w s f hp
    exact piece (E := palisadelaw12_DiskBack.E U Q [(24, ([1, 7, 15, 17, 18], palisadelaw12_DiskBack.k24 (fun a1 a2 a3 a4 a5 h => palisadelaw12_DiskBack.j24 U  a1 a2 a3 a4 a5 Q h)))]) (vs := [.int .i64 a1, .ptr a2, .sl a3, .str a4]) (envOK seatOK (palisadelaw12_DiskBack.callsOK hU) hU) (fnOK seatOK palisadelaw12_DiskBack.fun) ⟨(palisadelaw12_DiskBack.s24 hU Q  ), trivial⟩ palisadelaw12_DiskBack.p23 (fuel := 3000) (by rw [← palisadelaw12_DiskBack.e23]; exact hk) hm s f hp
  · exact hk.elim

theorem palisadelaw12_DiskBack.p16 : (posC palisadelaw12_DiskBack.code []).filter (fun p => Nat.beq p.1 16) = [(16, atPos (posC palisadelaw12_DiskBack.code []) 16)] := by kernel_rfl

theorem palisadelaw12_DiskBack.e16 : ∀ (U : Ifc)  (a1 : Sl) (a2 : Int) (a3 : Option Ptr) (a4 : Option Ptr) (Q : Bool → Heap → Prop) (h : Heap), palisadelaw12_DiskBack.j16 U  a1 a2 a3 a4 Q h = pts (palisadelaw12_DiskBack.E U Q [(23, ([1, 7, 15, 17], palisadelaw12_DiskBack.k23 (fun a1 a2 a3 a4 h => palisadelaw12_DiskBack.j23 U  a1 a2 a3 a4 Q h)))]) 3000 true (atPos (posC palisadelaw12_DiskBack.code []) 16) (frAt [0, 1, 7, 9] [.sl a1, .int .i64 a2, .ptr a3, .ptr a4]) h := by
  intros; kernel_rfl

theorem palisadelaw12_DiskBack.s16 {W0 : World} {U : Ifc} (hU : IfcOK sg W0 glsT U) (Q : Bool → Heap → Prop)   : CutOK sg W0 166 (entered 7) (Post sg W0 (palisadelaw12_DiskBack.ret Q)) (posC palisadelaw12_DiskBack.code []) 16 [0, 1, 7, 9] (palisadelaw12_DiskBack.k16 (fun a1 a2 a3 a4 h => palisadelaw12_DiskBack.j16 U  a1 a2 a3 a4 Q h)) := by
  refine cutOK_head (fun vs h hk => ?_)
  unfold palisadelaw12_DiskBack.k16 at hk
  split at hk
  · rename_i a1 a2 a3 a4
    intro todo hm ρ a w s f hp
    exact piece (E := palisadelaw12_DiskBack.E U Q [(23, ([1, 7, 15, 17], palisadelaw12_DiskBack.k23 (fun a1 a2 a3 a4 h => palisadelaw12_DiskBack.j23 U  a1 a2 a3 a4 Q h)))]) (vs := [.sl a1, .int .i64 a2, .ptr a3, .ptr a4]) (envOK seatOK (palisadelaw12_DiskBack.callsOK hU) hU) (fnOK seatOK palisadelaw12_DiskBack.fun) ⟨(palisadelaw12_DiskBack.s23 hU Q  ), trivial⟩ palisadelaw12_DiskBack.p16 (fuel := 3000) (by rw [← palisadelaw12_DiskBack.e16]; exact hk) hm s f hp
  · exact hk.elim

theorem palisadelaw12_DiskBack.p13 : (posC palisadelaw12_DiskBack.code []).filter (fun p => Nat.beq p.1 13) = [(13, atPos (posC palisadelaw12_DiskBack.code []) 13)] := by kernel_rfl

theorem palisadelaw12_DiskBack.e13 : ∀ (U : Ifc)  (a1 : Sl) (a2 : Int) (a3 : Int) (a4 : Option Ptr) (a5 : Int) (a6 : Option Ptr) (a7 : Ptr) (Q : Bool → Heap → Prop) (h : Heap), palisadelaw12_DiskBack.j13 U  a1 a2 a3 a4 a5 a6 a7 Q h = pts (palisadelaw12_DiskBack.E U Q [(15, ([], palisadelaw12_DiskBack.k15 (fun  h => palisadelaw12_DiskBack.j15 U   Q h))), (16, ([0, 1, 7, 9], palisadelaw12_DiskBack.k16 (fun a1 a2 a3 a4 h => palisadelaw12_DiskBack.j16 U  a1 a2 a3 a4 Q h)))]) 3000 true (atPos (posC palisadelaw12_DiskBack.code []) 13) (frAt [0, 1, 2, 7, 8, 9, 11] [.sl a1, .int .i64 a2, .int .i64 a3, .ptr a4, .int .i64 a5, .ptr a6, .ptr (some a7)]) h := by
  intros; kernel_rfl

theorem palisadelaw12_DiskBack.s13 {W0 : World} {U : Ifc} (hU : IfcOK sg W0 glsT U) (Q : Bool → Heap → Prop)   : CutOK sg W0 166 (entered 7) (Post sg W0 (palisadelaw12_DiskBack.ret Q)) (posC palisadelaw12_DiskBack.code []) 13 [0, 1, 2, 7, 8, 9, 11] (palisadelaw12_DiskBack.k13 (fun a1 a2 a3 a4 a5 a6 a7 h => palisadelaw12_DiskBack.j13 U  a1 a2 a3 a4 a5 a6 a7 Q h)) := by
  refine cutOK_head (fun vs h hk => ?_)
  unfold palisadelaw12_DiskBack.k13 at hk
  split at hk
  · rename_i a1 a2 a3 a4 a5 a6 a7
    intro todo hm ρ a w s f hp
    exact piece (E := palisadelaw12_DiskBack.E U Q [(15, ([], palisadelaw12_DiskBack.k15 (fun  h => palisadelaw12_DiskBack.j15 U   Q h))), (16, ([0, 1, 7, 9], palisadelaw12_DiskBack.k16 (fun a1 a2 a3 a4 h => palisadelaw12_DiskBack.j16 U  a1 a2 a3 a4 Q h)))]) (vs := [.sl a1, .int .i64 a2, .int .i64 a3, .ptr a4, .int .i64 a5, .ptr a6, .ptr (some a7)]) (envOK seatOK (palisadelaw12_DiskBack.callsOK hU) hU) (fnOK seatOK palisadelaw12_DiskBack.fun) ⟨(palisadelaw12_DiskBack.s15 hU Q  ), (palisadelaw12_DiskBack.s16 hU Q  ), trivial⟩ palisadelaw12_DiskBack.p13 (fuel := 3000) (by rw [← palisadelaw12_DiskBack.e13]; exact hk) hm s f hp
  · exact hk.elim

theorem palisadelaw12_DiskBack.p7 : (posC palisadelaw12_DiskBack.code []).filter (fun p => Nat.beq p.1 7) = [(7, atPos (posC palisadelaw12_DiskBack.code []) 7)] := by kernel_rfl

theorem palisadelaw12_DiskBack.e7 : ∀ (U : Ifc)  (a1 : Sl) (a2 : Int) (a3 : Int) (a4 : Option Ptr) (a5 : Option Ptr) (Q : Bool → Heap → Prop) (h : Heap), palisadelaw12_DiskBack.j7 U  a1 a2 a3 a4 a5 Q h = pts (palisadelaw12_DiskBack.E U Q [(10, ([], palisadelaw12_DiskBack.k10 (fun  h => palisadelaw12_DiskBack.j10 U   Q h))), (13, ([0, 1, 2, 7, 8, 9, 11], palisadelaw12_DiskBack.k13 (fun a1 a2 a3 a4 a5 a6 a7 h => palisadelaw12_DiskBack.j13 U  a1 a2 a3 a4 a5 a6 a7 Q h)))]) 3000 true (atPos (posC palisadelaw12_DiskBack.code []) 7) (frAt [0, 1, 2, 7, 9] [.sl a1, .int .i64 a2, .int .i64 a3, .ptr a4, .ptr a5]) h := by
  intros; kernel_rfl

theorem palisadelaw12_DiskBack.s7 {W0 : World} {U : Ifc} (hU : IfcOK sg W0 glsT U) (Q : Bool → Heap → Prop)   : CutOK sg W0 166 (entered 7) (Post sg W0 (palisadelaw12_DiskBack.ret Q)) (posC palisadelaw12_DiskBack.code []) 7 [0, 1, 2, 7, 9] (palisadelaw12_DiskBack.k7 (fun a1 a2 a3 a4 a5 h => palisadelaw12_DiskBack.j7 U  a1 a2 a3 a4 a5 Q h)) := by
  refine cutOK_head (fun vs h hk => ?_)
  unfold palisadelaw12_DiskBack.k7 at hk
  split at hk
  · rename_i a1 a2 a3 a4 a5
    intro todo hm ρ a w s f hp
    exact piece (E := palisadelaw12_DiskBack.E U Q [(10, ([], palisadelaw12_DiskBack.k10 (fun  h => palisadelaw12_DiskBack.j10 U   Q h))), (13, ([0, 1, 2, 7, 8, 9, 11], palisadelaw12_DiskBack.k13 (fun a1 a2 a3 a4 a5 a6 a7 h => palisadelaw12_DiskBack.j13 U  a1 a2 a3 a4 a5 a6 a7 Q h)))]) (vs := [.sl a1, .int .i64 a2, .int .i64 a3, .ptr a4, .ptr a5]) (envOK seatOK (palisadelaw12_DiskBack.callsOK hU) hU) (fnOK seatOK palisadelaw12_DiskBack.fun) ⟨(palisadelaw12_DiskBack.s10 hU Q  ), (palisadelaw12_DiskBack.s13 hU Q  ), trivial⟩ palisadelaw12_DiskBack.p7 (fuel := 3000) (by rw [← palisadelaw12_DiskBack.e7]; exact hk) hm s f hp
  · exact hk.elim

theorem palisadelaw12_DiskBack.p5 : (posC palisadelaw12_DiskBack.code []).filter (fun p => Nat.beq p.1 5) = [(5, atPos (posC palisadelaw12_DiskBack.code []) 5)] := by kernel_rfl

theorem palisadelaw12_DiskBack.e5 : ∀ (U : Ifc)  (a1 : Sl) (a2 : Int) (a3 : Int) (a4 : Option Ptr) (a5 : Option Ptr) (Q : Bool → Heap → Prop) (h : Heap), palisadelaw12_DiskBack.j5 U  a1 a2 a3 a4 a5 Q h = pts (palisadelaw12_DiskBack.E U Q [(7, ([0, 1, 2, 7, 9], palisadelaw12_DiskBack.k7 (fun a1 a2 a3 a4 a5 h => palisadelaw12_DiskBack.j7 U  a1 a2 a3 a4 a5 Q h)))]) 3000 true (atPos (posC palisadelaw12_DiskBack.code []) 5) (frAt [0, 1, 2, 7, 9] [.sl a1, .int .i64 a2, .int .i64 a3, .ptr a4, .ptr a5]) h := by
  intros; kernel_rfl

theorem palisadelaw12_DiskBack.s5 {W0 : World} {U : Ifc} (hU : IfcOK sg W0 glsT U) (Q : Bool → Heap → Prop)   : CutOK sg W0 166 (entered 7) (Post sg W0 (palisadelaw12_DiskBack.ret Q)) (posC palisadelaw12_DiskBack.code []) 5 [0, 1, 2, 7, 9] (palisadelaw12_DiskBack.k5 (fun a1 a2 a3 a4 a5 h => palisadelaw12_DiskBack.j5 U  a1 a2 a3 a4 a5 Q h)) := by
  refine cutOK_head (fun vs h hk => ?_)
  unfold palisadelaw12_DiskBack.k5 at hk
  split at hk
  · rename_i a1 a2 a3 a4 a5
    intro todo hm ρ a w s f hp
    exact piece (E := palisadelaw12_DiskBack.E U Q [(7, ([0, 1, 2, 7, 9], palisadelaw12_DiskBack.k7 (fun a1 a2 a3 a4 a5 h => palisadelaw12_DiskBack.j7 U  a1 a2 a3 a4 a5 Q h)))]) (vs := [.sl a1, .int .i64 a2, .int .i64 a3, .ptr a4, .ptr a5]) (envOK seatOK (palisadelaw12_DiskBack.callsOK hU) hU) (fnOK seatOK palisadelaw12_DiskBack.fun) ⟨(palisadelaw12_DiskBack.s7 hU Q  ), trivial⟩ palisadelaw12_DiskBack.p5 (fuel := 3000) (by rw [← palisadelaw12_DiskBack.e5]; exact hk) hm s f hp
  · exact hk.elim

theorem palisadelaw12_DiskBack.e : ∀ (U : Ifc) (a1 : Sl) (a2 : Int) (a3 : Int) (Q : Bool → Heap → Prop) (h : Heap), palisadelaw12_DiskBack U a1 a2 a3 Q h = pts (palisadelaw12_DiskBack.E U Q [(4, ([], palisadelaw12_DiskBack.k4 (fun  h => palisadelaw12_DiskBack.j4 U   Q h))), (5, ([0, 1, 2, 7, 9], palisadelaw12_DiskBack.k5 (fun a1 a2 a3 a4 a5 h => palisadelaw12_DiskBack.j5 U  a1 a2 a3 a4 a5 Q h)))]) 3000 true [.code palisadelaw12_DiskBack.code] (frOf 0 [.sl a1, .int .i64 a2, .int .i64 a3]) h := by
  intros; kernel_rfl

theorem palisadelaw12_DiskBack.S {W0 : World} {U : Ifc} (hU : IfcOK sg W0 glsT U) : FnS sg W0 89 (palisadelaw12_DiskBack.C U) := by
  intro vs κ h wv hx w s
  unfold palisadelaw12_DiskBack.C at hx
  split at hx
  · rename_i a1 a2 a3
    refine postImp (ret := palisadelaw12_DiskBack.ret (fun r1 h => κ (.bool r1) h)) (fun v h hr => by unfold palisadelaw12_DiskBack.ret at hr; split at hr; exact hr; exact hr.elim) ?_
    exact calls_of_pts (E := palisadelaw12_DiskBack.E U (fun r1 h => κ (.bool r1) h) [(4, ([], palisadelaw12_DiskBack.k4 (fun  h => palisadelaw12_DiskBack.j4 U   (fun r1 h => κ (.bool r1) h) h))), (5, ([0, 1, 2, 7, 9], palisadelaw12_DiskBack.k5 (fun a1 a2 a3 a4 a5 h => palisadelaw12_DiskBack.j5 U  a1 a2 a3 a4 a5 (fun r1 h => κ (.bool r1) h) h)))]) (envOK seatOK (palisadelaw12_DiskBack.callsOK hU) hU) seatOK.mixed palisadelaw12_DiskBack.fun (Nat.le_of_ble_eq_true rfl) wv (cutL_ok ⟨(palisadelaw12_DiskBack.s4 hU (fun r1 h => κ (.bool r1) h)), (palisadelaw12_DiskBack.s5 hU (fun r1 h => κ (.bool r1) h)), trivial⟩) s (fuel := 3000) (by rw [← palisadelaw12_DiskBack.e]; exact hx)
  · exact hx.elim

noncomputable def disk_Disk_Blocks.code : Code := Go.Proofs.Try.f48.body.getD .skip

theorem disk_Disk_Blocks.fun : Fun sg.P 48 9 [.tmp 2] disk_Disk_Blocks.code := mkFun Go.Proofs.Try.func48 (by kernel_rfl) (by kernel_rfl) (by kernel_rfl) (by kernel_rfl)

def disk_Disk_Blocks.ret (Q : Int → Heap → Prop) (v : V) (h : Heap) : Prop :=
  match v with
  | .int .i64 r1 => Q r1 h
  | _ => False

def disk_Disk_Blocks.C (vs : List V) (κ : V → Heap → Prop) (h : Heap) : Prop :=
  match vs with
  | [.ptr a1] => disk_Disk_Blocks a1 (fun r1 h => κ (.int .i64 r1) h) h
  | _ => False

noncomputable def disk_Disk_Blocks.calls : List (Nat × (List V → (V → Heap → Prop) → Heap → Prop)) := [(29, disk_Disk_none.C)]

noncomputable def disk_Disk_Blocks.E (Q : Int → Heap → Prop) (cuts : List (Nat × (List Nat × (List V → Heap → Prop)))) : Env := { tis := tisT, fns := fnsT, tys := tysT, gls := [], rts := rtsT, unk := [], calls := disk_Disk_Blocks.calls, ifc := noIfc, cuts := cuts, ret := disk_Disk_Blocks.ret Q, rets := [.tmp 2], n := 9 }

theorem disk_Disk_Blocks.callsOK {W0 : World} : CallsOK sg W0 disk_Disk_Blocks.calls := ⟨disk_Disk_none.S, trivial⟩

theorem disk_Disk_Blocks.e : ∀ (a1 : Option Ptr) (Q : Int → Heap → Prop) (h : Heap), disk_Disk_Blocks a1 Q h = pts (disk_Disk_Blocks.E Q []) 3000 true [.code disk_Disk_Blocks.code] (frOf 0 [.ptr a1]) h := by
  intros; kernel_rfl

theorem disk_Disk_Blocks.S {W0 : World} : FnS sg W0 50 disk_Disk_Blocks.C := by
  intro vs κ h wv hx w s
  unfold disk_Disk_Blocks.C at hx
  split at hx
  · rename_i a1
    refine postImp (ret := disk_Disk_Blocks.ret (fun r1 h => κ (.int .i64 r1) h)) (fun v h hr => by unfold disk_Disk_Blocks.ret at hr; split at hr; exact hr; exact hr.elim) ?_
    exact calls_of_pts (E := disk_Disk_Blocks.E (fun r1 h => κ (.int .i64 r1) h) []) (envOK seatOK disk_Disk_Blocks.callsOK noIfc_ok) seatOK.mixed disk_Disk_Blocks.fun (Nat.le_of_ble_eq_true rfl) wv (cutL_ok trivial) s (fuel := 3000) (by rw [← disk_Disk_Blocks.e]; exact hx)
  · exact hx.elim

noncomputable def disk_Disk_Submit_c1.code : Code := Go.Proofs.Try.f66.body.getD .skip

theorem disk_Disk_Submit_c1.fun : Fun sg.P 66 9 [.tmp 3] disk_Disk_Submit_c1.code := mkFun Go.Proofs.Try.func66 (by kernel_rfl) (by kernel_rfl) (by kernel_rfl) (by kernel_rfl)

def disk_Disk_Submit_c1.ret (Q : Bool → Heap → Prop) (v : V) (h : Heap) : Prop :=
  match v with
  | .bool r1 => Q r1 h
  | _ => False

def disk_Disk_Submit_c1.C (vs : List V) (κ : V → Heap → Prop) (h : Heap) : Prop :=
  match vs with
  | [.agg [.int .i64 a1, .bool a2, .int .i64 a3, .int .i64 a4], .ptr (some a5)] => disk_Disk_Submit_c1 a1 a2 a3 a4 a5 (fun r1 h => κ (.bool r1) h) h
  | _ => False

noncomputable def disk_Disk_Submit_c1.calls : List (Nat × (List V → (V → Heap → Prop) → Heap → Prop)) := []

noncomputable def disk_Disk_Submit_c1.E (Q : Bool → Heap → Prop) (cuts : List (Nat × (List Nat × (List V → Heap → Prop)))) : Env := { tis := tisT, fns := fnsT, tys := tysT, gls := [], rts := rtsT, unk := [], calls := disk_Disk_Submit_c1.calls, ifc := noIfc, cuts := cuts, ret := disk_Disk_Submit_c1.ret Q, rets := [.tmp 3], n := 9 }

theorem disk_Disk_Submit_c1.callsOK {W0 : World} : CallsOK sg W0 disk_Disk_Submit_c1.calls := trivial

theorem disk_Disk_Submit_c1.e : ∀ (a1 : Int) (a2 : Bool) (a3 : Int) (a4 : Int) (a5 : Ptr) (Q : Bool → Heap → Prop) (h : Heap), disk_Disk_Submit_c1 a1 a2 a3 a4 a5 Q h = pts (disk_Disk_Submit_c1.E Q []) 3000 true [.code disk_Disk_Submit_c1.code] (frOf 0 [.agg [.int .i64 a1, .bool a2, .int .i64 a3, .int .i64 a4], .ptr (some a5)]) h := by
  intros; kernel_rfl

theorem disk_Disk_Submit_c1.S {W0 : World} : FnS sg W0 3 disk_Disk_Submit_c1.C := by
  intro vs κ h wv hx w s
  unfold disk_Disk_Submit_c1.C at hx
  split at hx
  · rename_i a1 a2 a3 a4 a5
    refine postImp (ret := disk_Disk_Submit_c1.ret (fun r1 h => κ (.bool r1) h)) (fun v h hr => by unfold disk_Disk_Submit_c1.ret at hr; split at hr; exact hr; exact hr.elim) ?_
    exact calls_of_pts (E := disk_Disk_Submit_c1.E (fun r1 h => κ (.bool r1) h) []) (envOK seatOK disk_Disk_Submit_c1.callsOK noIfc_ok) seatOK.mixed disk_Disk_Submit_c1.fun (Nat.le_of_ble_eq_true rfl) wv (cutL_ok trivial) s (fuel := 3000) (by rw [← disk_Disk_Submit_c1.e]; exact hx)
  · exact hx.elim

noncomputable def disk_Disk_Complete_c1.code : Code := Go.Proofs.Try.f70.body.getD .skip

theorem disk_Disk_Complete_c1.fun : Fun sg.P 70 7 [.tmp 3] disk_Disk_Complete_c1.code := mkFun Go.Proofs.Try.func70 (by kernel_rfl) (by kernel_rfl) (by kernel_rfl) (by kernel_rfl)

def disk_Disk_Complete_c1.ret (Q : Bool → Heap → Prop) (v : V) (h : Heap) : Prop :=
  match v with
  | .bool r1 => Q r1 h
  | _ => False

def disk_Disk_Complete_c1.C (vs : List V) (κ : V → Heap → Prop) (h : Heap) : Prop :=
  match vs with
  | [.agg [.int .i64 a1, .bool a2, .int .i64 a3, .int .i64 a4], .ptr (some a5)] => disk_Disk_Complete_c1 a1 a2 a3 a4 a5 (fun r1 h => κ (.bool r1) h) h
  | _ => False

noncomputable def disk_Disk_Complete_c1.calls : List (Nat × (List V → (V → Heap → Prop) → Heap → Prop)) := []

noncomputable def disk_Disk_Complete_c1.E (Q : Bool → Heap → Prop) (cuts : List (Nat × (List Nat × (List V → Heap → Prop)))) : Env := { tis := tisT, fns := fnsT, tys := tysT, gls := [], rts := rtsT, unk := [], calls := disk_Disk_Complete_c1.calls, ifc := noIfc, cuts := cuts, ret := disk_Disk_Complete_c1.ret Q, rets := [.tmp 3], n := 7 }

theorem disk_Disk_Complete_c1.callsOK {W0 : World} : CallsOK sg W0 disk_Disk_Complete_c1.calls := trivial

theorem disk_Disk_Complete_c1.e : ∀ (a1 : Int) (a2 : Bool) (a3 : Int) (a4 : Int) (a5 : Ptr) (Q : Bool → Heap → Prop) (h : Heap), disk_Disk_Complete_c1 a1 a2 a3 a4 a5 Q h = pts (disk_Disk_Complete_c1.E Q []) 3000 true [.code disk_Disk_Complete_c1.code] (frOf 0 [.agg [.int .i64 a1, .bool a2, .int .i64 a3, .int .i64 a4], .ptr (some a5)]) h := by
  intros; kernel_rfl

theorem disk_Disk_Complete_c1.S {W0 : World} : FnS sg W0 56 disk_Disk_Complete_c1.C := by
  intro vs κ h wv hx w s
  unfold disk_Disk_Complete_c1.C at hx
  split at hx
  · rename_i a1 a2 a3 a4 a5
    refine postImp (ret := disk_Disk_Complete_c1.ret (fun r1 h => κ (.bool r1) h)) (fun v h hr => by unfold disk_Disk_Complete_c1.ret at hr; split at hr; exact hr; exact hr.elim) ?_
    exact calls_of_pts (E := disk_Disk_Complete_c1.E (fun r1 h => κ (.bool r1) h) []) (envOK seatOK disk_Disk_Complete_c1.callsOK noIfc_ok) seatOK.mixed disk_Disk_Complete_c1.fun (Nat.le_of_ble_eq_true rfl) wv (cutL_ok trivial) s (fuel := 3000) (by rw [← disk_Disk_Complete_c1.e]; exact hx)
  · exact hx.elim

noncomputable def disk_Disk_Put_c1.code : Code := Go.Proofs.Try.f75.body.getD .skip

theorem disk_Disk_Put_c1.fun : Fun sg.P 75 5 [.tmp 2] disk_Disk_Put_c1.code := mkFun Go.Proofs.Try.func75 (by kernel_rfl) (by kernel_rfl) (by kernel_rfl) (by kernel_rfl)

def disk_Disk_Put_c1.ret (Q : Bool → Heap → Prop) (v : V) (h : Heap) : Prop :=
  match v with
  | .bool r1 => Q r1 h
  | _ => False

def disk_Disk_Put_c1.C (vs : List V) (κ : V → Heap → Prop) (h : Heap) : Prop :=
  match vs with
  | [.int .u8 a1] => disk_Disk_Put_c1 a1 (fun r1 h => κ (.bool r1) h) h
  | _ => False

noncomputable def disk_Disk_Put_c1.calls : List (Nat × (List V → (V → Heap → Prop) → Heap → Prop)) := []

noncomputable def disk_Disk_Put_c1.E (Q : Bool → Heap → Prop) (cuts : List (Nat × (List Nat × (List V → Heap → Prop)))) : Env := { tis := tisT, fns := fnsT, tys := tysT, gls := [], rts := rtsT, unk := [], calls := disk_Disk_Put_c1.calls, ifc := noIfc, cuts := cuts, ret := disk_Disk_Put_c1.ret Q, rets := [.tmp 2], n := 5 }

theorem disk_Disk_Put_c1.callsOK {W0 : World} : CallsOK sg W0 disk_Disk_Put_c1.calls := trivial

theorem disk_Disk_Put_c1.e : ∀ (a1 : Int) (Q : Bool → Heap → Prop) (h : Heap), disk_Disk_Put_c1 a1 Q h = pts (disk_Disk_Put_c1.E Q []) 3000 true [.code disk_Disk_Put_c1.code] (frOf 0 [.int .u8 a1]) h := by
  intros; kernel_rfl

theorem disk_Disk_Put_c1.S {W0 : World} : FnS sg W0 57 disk_Disk_Put_c1.C := by
  intro vs κ h wv hx w s
  unfold disk_Disk_Put_c1.C at hx
  split at hx
  · rename_i a1
    refine postImp (ret := disk_Disk_Put_c1.ret (fun r1 h => κ (.bool r1) h)) (fun v h hr => by unfold disk_Disk_Put_c1.ret at hr; split at hr; exact hr; exact hr.elim) ?_
    exact calls_of_pts (E := disk_Disk_Put_c1.E (fun r1 h => κ (.bool r1) h) []) (envOK seatOK disk_Disk_Put_c1.callsOK noIfc_ok) seatOK.mixed disk_Disk_Put_c1.fun (Nat.le_of_ble_eq_true rfl) wv (cutL_ok trivial) s (fuel := 3000) (by rw [← disk_Disk_Put_c1.e]; exact hx)
  · exact hx.elim

end Go.Fn
