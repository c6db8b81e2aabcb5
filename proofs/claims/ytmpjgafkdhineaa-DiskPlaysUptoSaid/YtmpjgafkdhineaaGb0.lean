/- The links of the shallow functions to the machine. PRINTED by lift.py. -/
import Derived.Test.YtmpjgafkdhineaaGa
set_option linter.unusedVariables false
set_option maxRecDepth 100000
namespace Go.Fn
open Go.Lift

noncomputable def disk_New.code : Code := Go.Proofs.Try.f4.body.getD .skip

theorem disk_New.fun : Fun sg.P 4 14 [.tmp 2, .tmp 3] disk_New.code := mkFun Go.Proofs.Try.func4 (by kernel_rfl) (by kernel_rfl) (by kernel_rfl) (by kernel_rfl)

def disk_New.ret (Q : (Option Ptr) → Int → Heap → Prop) (v : V) (h : Heap) : Prop :=
  match v with
  | .tup [.ptr r1, .int .i64 r2] => Q r1 r2 h
  | _ => False

def disk_New.C (vs : List V) (κ : V → Heap → Prop) (h : Heap) : Prop :=
  match vs with
  | [.int .i64 a1] => disk_New a1 (fun r1 r2 h => κ (.tup [.ptr r1, .int .i64 r2]) h) h
  | _ => False

noncomputable def disk_New.calls : List (Nat × (List V → (V → Heap → Prop) → Heap → Prop)) := []

noncomputable def disk_New.E (Q : (Option Ptr) → Int → Heap → Prop) (cuts : List (Nat × (List Nat × (List V → Heap → Prop)))) : Env := { tis := tisT, fns := fnsT, tys := tysT, gls := [], rts := rtsT, unk := [], nxt := [], calls := disk_New.calls, ifc := noIfc, cuts := cuts, ret := disk_New.ret Q, rets := [.tmp 2, .tmp 3], n := 14 }

theorem disk_New.callsOK {W0 : World} : CallsOK sg W0 disk_New.calls := trivial

theorem disk_New.e : ∀ (a1 : Int) (Q : (Option Ptr) → Int → Heap → Prop) (h : Heap), disk_New a1 Q h = pts (disk_New.E Q []) 3000 true [.code disk_New.code] (frOf 0 [.int .i64 a1]) h := by
  intros; kernel_rfl

theorem disk_New.S {W0 : World} : FnS sg W0 85 disk_New.C := by
  intro vs κ h wv hx w s
  unfold disk_New.C at hx
  split at hx
  · rename_i a1
    refine postImp (ret := disk_New.ret (fun r1 r2 h => κ (.tup [.ptr r1, .int .i64 r2]) h)) (fun v h hr => by unfold disk_New.ret at hr; split at hr; exact hr; exact hr.elim) ?_
    exact calls_of_pts (E := disk_New.E (fun r1 r2 h => κ (.tup [.ptr r1, .int .i64 r2]) h) []) (envOK seatOK disk_New.callsOK noIfc_ok) seatOK.mixed disk_New.fun (Nat.le_of_ble_eq_true rfl) wv (cutL_ok trivial) s (fuel := 3000) (by rw [← disk_New.e]; exact hx)
  · exact hx.elim

noncomputable def palisaderef12_New.code : Code := Go.Proofs.Try.f5.body.getD .skip

theorem palisaderef12_New.fun : Fun sg.P 5 15 [.tmp 2, .tmp 3] palisaderef12_New.code := mkFun Go.Proofs.Try.func5 (by kernel_rfl) (by kernel_rfl) (by kernel_rfl) (by kernel_rfl)

def palisaderef12_New.ret (Q : (Option Ptr) → Int → Heap → Prop) (v : V) (h : Heap) : Prop :=
  match v with
  | .tup [.ptr r1, .int .i64 r2] => Q r1 r2 h
  | _ => False

def palisaderef12_New.C (vs : List V) (κ : V → Heap → Prop) (h : Heap) : Prop :=
  match vs with
  | [.int .i64 a1] => palisaderef12_New a1 (fun r1 r2 h => κ (.tup [.ptr r1, .int .i64 r2]) h) h
  | _ => False

noncomputable def palisaderef12_New.calls : List (Nat × (List V → (V → Heap → Prop) → Heap → Prop)) := []

noncomputable def palisaderef12_New.E (Q : (Option Ptr) → Int → Heap → Prop) (cuts : List (Nat × (List Nat × (List V → Heap → Prop)))) : Env := { tis := tisT, fns := fnsT, tys := tysT, gls := [], rts := rtsT, unk := [], nxt := [], calls := palisaderef12_New.calls, ifc := noIfc, cuts := cuts, ret := palisaderef12_New.ret Q, rets := [.tmp 2, .tmp 3], n := 15 }

theorem palisaderef12_New.callsOK {W0 : World} : CallsOK sg W0 palisaderef12_New.calls := trivial

theorem palisaderef12_New.e : ∀ (a1 : Int) (Q : (Option Ptr) → Int → Heap → Prop) (h : Heap), palisaderef12_New a1 Q h = pts (palisaderef12_New.E Q []) 3000 true [.code palisaderef12_New.code] (frOf 0 [.int .i64 a1]) h := by
  intros; kernel_rfl

theorem palisaderef12_New.S {W0 : World} : FnS sg W0 41 palisaderef12_New.C := by
  intro vs κ h wv hx w s
  unfold palisaderef12_New.C at hx
  split at hx
  · rename_i a1
    refine postImp (ret := palisaderef12_New.ret (fun r1 r2 h => κ (.tup [.ptr r1, .int .i64 r2]) h)) (fun v h hr => by unfold palisaderef12_New.ret at hr; split at hr; exact hr; exact hr.elim) ?_
    exact calls_of_pts (E := palisaderef12_New.E (fun r1 r2 h => κ (.tup [.ptr r1, .int .i64 r2]) h) []) (envOK seatOK palisaderef12_New.callsOK noIfc_ok) seatOK.mixed palisaderef12_New.fun (Nat.le_of_ble_eq_true rfl) wv (cutL_ok trivial) s (fuel := 3000) (by rw [← palisaderef12_New.e]; exact hx)
  · exact hx.elim

noncomputable def mem_New.code : Code := Go.Proofs.Try.f6.body.getD .skip

theorem mem_New.fun : Fun sg.P 6 15 [.tmp 2, .tmp 3] mem_New.code := mkFun Go.Proofs.Try.func6 (by kernel_rfl) (by kernel_rfl) (by kernel_rfl) (by kernel_rfl)

def mem_New.ret (Q : (Option Ptr) → Int → Heap → Prop) (v : V) (h : Heap) : Prop :=
  match v with
  | .tup [.ptr r1, .int .i64 r2] => Q r1 r2 h
  | _ => False

def mem_New.C (vs : List V) (κ : V → Heap → Prop) (h : Heap) : Prop :=
  match vs with
  | [.int .i64 a1] => mem_New a1 (fun r1 r2 h => κ (.tup [.ptr r1, .int .i64 r2]) h) h
  | _ => False

noncomputable def mem_New.calls : List (Nat × (List V → (V → Heap → Prop) → Heap → Prop)) := []

noncomputable def mem_New.E (Q : (Option Ptr) → Int → Heap → Prop) (cuts : List (Nat × (List Nat × (List V → Heap → Prop)))) : Env := { tis := tisT, fns := fnsT, tys := tysT, gls := [], rts := rtsT, unk := [], nxt := [], calls := mem_New.calls, ifc := noIfc, cuts := cuts, ret := mem_New.ret Q, rets := [.tmp 2, .tmp 3], n := 15 }

theorem mem_New.callsOK {W0 : World} : CallsOK sg W0 mem_New.calls := trivial

theorem mem_New.e : ∀ (a1 : Int) (Q : (Option Ptr) → Int → Heap → Prop) (h : Heap), mem_New a1 Q h = pts (mem_New.E Q []) 3000 true [.code mem_New.code] (frOf 0 [.int .i64 a1]) h := by
  intros; kernel_rfl

theorem mem_New.S {W0 : World} : FnS sg W0 28 mem_New.C := by
  intro vs κ h wv hx w s
  unfold mem_New.C at hx
  split at hx
  · rename_i a1
    refine postImp (ret := mem_New.ret (fun r1 r2 h => κ (.tup [.ptr r1, .int .i64 r2]) h)) (fun v h hr => by unfold mem_New.ret at hr; split at hr; exact hr; exact hr.elim) ?_
    exact calls_of_pts (E := mem_New.E (fun r1 r2 h => κ (.tup [.ptr r1, .int .i64 r2]) h) []) (envOK seatOK mem_New.callsOK noIfc_ok) seatOK.mixed mem_New.fun (Nat.le_of_ble_eq_true rfl) wv (cutL_ok trivial) s (fuel := 3000) (by rw [← mem_New.e]; exact hx)
  · exact hx.elim

noncomputable def palisaderef04_New.code : Code := Go.Proofs.Try.f7.body.getD .skip

theorem palisaderef04_New.fun : Fun sg.P 7 15 [.tmp 2, .tmp 3] palisaderef04_New.code := mkFun Go.Proofs.Try.func7 (by kernel_rfl) (by kernel_rfl) (by kernel_rfl) (by kernel_rfl)

def palisaderef04_New.ret (Q : (Option Ptr) → Int → Heap → Prop) (v : V) (h : Heap) : Prop :=
  match v with
  | .tup [.ptr r1, .int .i64 r2] => Q r1 r2 h
  | _ => False

def palisaderef04_New.C (vs : List V) (κ : V → Heap → Prop) (h : Heap) : Prop :=
  match vs with
  | [.int .i64 a1] => palisaderef04_New a1 (fun r1 r2 h => κ (.tup [.ptr r1, .int .i64 r2]) h) h
  | _ => False

noncomputable def palisaderef04_New.calls : List (Nat × (List V → (V → Heap → Prop) → Heap → Prop)) := []

noncomputable def palisaderef04_New.E (Q : (Option Ptr) → Int → Heap → Prop) (cuts : List (Nat × (List Nat × (List V → Heap → Prop)))) : Env := { tis := tisT, fns := fnsT, tys := tysT, gls := [], rts := rtsT, unk := [], nxt := [], calls := palisaderef04_New.calls, ifc := noIfc, cuts := cuts, ret := palisaderef04_New.ret Q, rets := [.tmp 2, .tmp 3], n := 15 }

theorem palisaderef04_New.callsOK {W0 : World} : CallsOK sg W0 palisaderef04_New.calls := trivial

theorem palisaderef04_New.e : ∀ (a1 : Int) (Q : (Option Ptr) → Int → Heap → Prop) (h : Heap), palisaderef04_New a1 Q h = pts (palisaderef04_New.E Q []) 3000 true [.code palisaderef04_New.code] (frOf 0 [.int .i64 a1]) h := by
  intros; kernel_rfl

theorem palisaderef04_New.S {W0 : World} : FnS sg W0 42 palisaderef04_New.C := by
  intro vs κ h wv hx w s
  unfold palisaderef04_New.C at hx
  split at hx
  · rename_i a1
    refine postImp (ret := palisaderef04_New.ret (fun r1 r2 h => κ (.tup [.ptr r1, .int .i64 r2]) h)) (fun v h hr => by unfold palisaderef04_New.ret at hr; split at hr; exact hr; exact hr.elim) ?_
    exact calls_of_pts (E := palisaderef04_New.E (fun r1 r2 h => κ (.tup [.ptr r1, .int .i64 r2]) h) []) (envOK seatOK palisaderef04_New.callsOK noIfc_ok) seatOK.mixed palisaderef04_New.fun (Nat.le_of_ble_eq_true rfl) wv (cutL_ok trivial) s (fuel := 3000) (by rw [← palisaderef04_New.e]; exact hx)
  · exact hx.elim

noncomputable def palisadelaw12_names.code : Code := Go.Proofs.Try.f8.body.getD .skip

theorem palisadelaw12_names.fun : Fun sg.P 8 1 [.tmp 0] palisadelaw12_names.code := mkFun Go.Proofs.Try.func8 (by kernel_rfl) (by kernel_rfl) (by kernel_rfl) (by kernel_rfl)

def palisadelaw12_names.ret (Q : Bool → Heap → Prop) (v : V) (h : Heap) : Prop :=
  match v with
  | .bool r1 => Q r1 h
  | _ => False

def palisadelaw12_names.C (vs : List V) (κ : V → Heap → Prop) (h : Heap) : Prop :=
  match vs with
  | [] => palisadelaw12_names  (fun r1 h => κ (.bool r1) h) h
  | _ => False

noncomputable def palisadelaw12_names.calls : List (Nat × (List V → (V → Heap → Prop) → Heap → Prop)) := []

noncomputable def palisadelaw12_names.E (Q : Bool → Heap → Prop) (cuts : List (Nat × (List Nat × (List V → Heap → Prop)))) : Env := { tis := tisT, fns := fnsT, tys := tysT, gls := [], rts := rtsT, unk := [], nxt := [], calls := palisadelaw12_names.calls, ifc := noIfc, cuts := cuts, ret := palisadelaw12_names.ret Q, rets := [.tmp 0], n := 1 }

theorem palisadelaw12_names.callsOK {W0 : World} : CallsOK sg W0 palisadelaw12_names.calls := trivial

theorem palisadelaw12_names.e : ∀  (Q : Bool → Heap → Prop) (h : Heap), palisadelaw12_names  Q h = pts (palisadelaw12_names.E Q []) 3000 true [.code palisadelaw12_names.code] (frOf 0 []) h := by
  intros; kernel_rfl

theorem palisadelaw12_names.S {W0 : World} : FnS sg W0 43 palisadelaw12_names.C := by
  intro vs κ h wv hx w s
  unfold palisadelaw12_names.C at hx
  split at hx
  · skip
    refine postImp (ret := palisadelaw12_names.ret (fun r1 h => κ (.bool r1) h)) (fun v h hr => by unfold palisadelaw12_names.ret at hr; split at hr; exact hr; exact hr.elim) ?_
    exact calls_of_pts (E := palisadelaw12_names.E (fun r1 h => κ (.bool r1) h) []) (envOK seatOK palisadelaw12_names.callsOK noIfc_ok) seatOK.mixed palisadelaw12_names.fun (Nat.le_of_ble_eq_true rfl) wv (cutL_ok trivial) s (fuel := 3000) (by rw [← palisadelaw12_names.e]; exact hx)
  · exact hx.elim

noncomputable def disk_Disk_none.code : Code := Go.Proofs.Try.f25.body.getD .skip

theorem disk_Disk_none.fun : Fun sg.P 25 12 [.tmp 2] disk_Disk_none.code := mkFun Go.Proofs.Try.func25 (by kernel_rfl) (by kernel_rfl) (by kernel_rfl) (by kernel_rfl)

def disk_Disk_none.ret (Q : Bool → Heap → Prop) (v : V) (h : Heap) : Prop :=
  match v with
  | .bool r1 => Q r1 h
  | _ => False

def disk_Disk_none.C (vs : List V) (κ : V → Heap → Prop) (h : Heap) : Prop :=
  match vs with
  | [.ptr a1] => disk_Disk_none a1 (fun r1 h => κ (.bool r1) h) h
  | _ => False

noncomputable def disk_Disk_none.calls : List (Nat × (List V → (V → Heap → Prop) → Heap → Prop)) := []

noncomputable def disk_Disk_none.E (Q : Bool → Heap → Prop) (cuts : List (Nat × (List Nat × (List V → Heap → Prop)))) : Env := { tis := tisT, fns := fnsT, tys := tysT, gls := [], rts := rtsT, unk := [], nxt := [], calls := disk_Disk_none.calls, ifc := noIfc, cuts := cuts, ret := disk_Disk_none.ret Q, rets := [.tmp 2], n := 12 }

theorem disk_Disk_none.callsOK {W0 : World} : CallsOK sg W0 disk_Disk_none.calls := trivial

theorem disk_Disk_none.e : ∀ (a1 : Option Ptr) (Q : Bool → Heap → Prop) (h : Heap), disk_Disk_none a1 Q h = pts (disk_Disk_none.E Q []) 3000 true [.code disk_Disk_none.code] (frOf 0 [.ptr a1]) h := by
  intros; kernel_rfl

theorem disk_Disk_none.S {W0 : World} : FnS sg W0 29 disk_Disk_none.C := by
  intro vs κ h wv hx w s
  unfold disk_Disk_none.C at hx
  split at hx
  · rename_i a1
    refine postImp (ret := disk_Disk_none.ret (fun r1 h => κ (.bool r1) h)) (fun v h hr => by unfold disk_Disk_none.ret at hr; split at hr; exact hr; exact hr.elim) ?_
    exact calls_of_pts (E := disk_Disk_none.E (fun r1 h => κ (.bool r1) h) []) (envOK seatOK disk_Disk_none.callsOK noIfc_ok) seatOK.mixed disk_Disk_none.fun (Nat.le_of_ble_eq_true rfl) wv (cutL_ok trivial) s (fuel := 3000) (by rw [← disk_Disk_none.e]; exact hx)
  · exact hx.elim

noncomputable def disk_Disk_wrong.code : Code := Go.Proofs.Try.f21.body.getD .skip

theorem disk_Disk_wrong.fun : Fun sg.P 21 19 [.tmp 4] disk_Disk_wrong.code := mkFun Go.Proofs.Try.func21 (by kernel_rfl) (by kernel_rfl) (by kernel_rfl) (by kernel_rfl)

def disk_Disk_wrong.ret (Q : Int → Heap → Prop) (v : V) (h : Heap) : Prop :=
  match v with
  | .int .i64 r1 => Q r1 h
  | _ => False

def disk_Disk_wrong.C (vs : List V) (κ : V → Heap → Prop) (h : Heap) : Prop :=
  match vs with
  | [.ptr a1, .int .i64 a2] => disk_Disk_wrong a1 a2 (fun r1 h => κ (.int .i64 r1) h) h
  | _ => False

noncomputable def disk_Disk_wrong.calls : List (Nat × (List V → (V → Heap → Prop) → Heap → Prop)) := [(29, disk_Disk_none.C)]

noncomputable def disk_Disk_wrong.E (Q : Int → Heap → Prop) (cuts : List (Nat × (List Nat × (List V → Heap → Prop)))) : Env := { tis := tisT, fns := fnsT, tys := tysT, gls := [], rts := rtsT, unk := [], nxt := [], calls := disk_Disk_wrong.calls, ifc := noIfc, cuts := cuts, ret := disk_Disk_wrong.ret Q, rets := [.tmp 4], n := 19 }

theorem disk_Disk_wrong.callsOK {W0 : World} : CallsOK sg W0 disk_Disk_wrong.calls := ⟨disk_Disk_none.S, trivial⟩

theorem disk_Disk_wrong.e : ∀ (a1 : Option Ptr) (a2 : Int) (Q : Int → Heap → Prop) (h : Heap), disk_Disk_wrong a1 a2 Q h = pts (disk_Disk_wrong.E Q []) 3000 true [.code disk_Disk_wrong.code] (frOf 0 [.ptr a1, .int .i64 a2]) h := by
  intros; kernel_rfl

theorem disk_Disk_wrong.S {W0 : World} : FnS sg W0 36 disk_Disk_wrong.C := by
  intro vs κ h wv hx w s
  unfold disk_Disk_wrong.C at hx
  split at hx
  · rename_i a1 a2
    refine postImp (ret := disk_Disk_wrong.ret (fun r1 h => κ (.int .i64 r1) h)) (fun v h hr => by unfold disk_Disk_wrong.ret at hr; split at hr; exact hr; exact hr.elim) ?_
    exact calls_of_pts (E := disk_Disk_wrong.E (fun r1 h => κ (.int .i64 r1) h) []) (envOK seatOK disk_Disk_wrong.callsOK noIfc_ok) seatOK.mixed disk_Disk_wrong.fun (Nat.le_of_ble_eq_true rfl) wv (cutL_ok trivial) s (fuel := 3000) (by rw [← disk_Disk_wrong.e]; exact hx)
  · exact hx.elim

noncomputable def slices_IndexFunc_disk_Request_disk_Request.code : Code := Go.Proofs.Try.f37.body.getD .skip

theorem slices_IndexFunc_disk_Request_disk_Request.fun : Fun sg.P 37 19 [.tmp 4] slices_IndexFunc_disk_Request_disk_Request.code := mkFun Go.Proofs.Try.func37 (by kernel_rfl) (by kernel_rfl) (by kernel_rfl) (by kernel_rfl)

def slices_IndexFunc_disk_Request_disk_Request.ret (Q : Int → Heap → Prop) (v : V) (h : Heap) : Prop :=
  match v with
  | .int .i64 r1 => Q r1 h
  | _ => False

def slices_IndexFunc_disk_Request_disk_Request.C (U : Ifc) (vs : List V) (κ : V → Heap → Prop) (h : Heap) : Prop :=
  match vs with
  | [.sl a1, a2] => slices_IndexFunc_disk_Request_disk_Request U a1 a2 (fun r1 h => κ (.int .i64 r1) h) h
  | _ => False

noncomputable def slices_IndexFunc_disk_Request_disk_Request.calls (U : Ifc) : List (Nat × (List V → (V → Heap → Prop) → Heap → Prop)) := []

noncomputable def slices_IndexFunc_disk_Request_disk_Request.E (U : Ifc) (Q : Int → Heap → Prop) (cuts : List (Nat × (List Nat × (List V → Heap → Prop)))) : Env := { tis := tisT, fns := fnsT, tys := tysT, gls := glsT, rts := rtsT, unk := [11], nxt := [], calls := slices_IndexFunc_disk_Request_disk_Request.calls U, ifc := U, cuts := cuts, ret := slices_IndexFunc_disk_Request_disk_Request.ret Q, rets := [.tmp 4], n := 19 }

theorem slices_IndexFunc_disk_Request_disk_Request.callsOK {W0 : World} {U : Ifc} (hU : IfcOK sg W0 glsT U) : CallsOK sg W0 (slices_IndexFunc_disk_Request_disk_Request.calls U) := trivial

def slices_IndexFunc_disk_Request_disk_Request.k2 (I : Sl → V → Int → Int → Heap → Prop) (vs : List V) (h : Heap) : Prop :=
  match vs with
  | [.sl a1, a2, .int .i64 a3, .int .i64 a4] => I a1 a2 a3 a4 h
  | _ => False

theorem slices_IndexFunc_disk_Request_disk_Request.p2 : (posC slices_IndexFunc_disk_Request_disk_Request.code []).filter (fun p => Nat.beq p.1 2) = [(2, atPos (posC slices_IndexFunc_disk_Request_disk_Request.code []) 2)] := by kernel_rfl

theorem slices_IndexFunc_disk_Request_disk_Request.e2 : ∀ (U : Ifc)  (I2 : Sl → V → Int → Int → Heap → Prop) (a1 : Sl) (a2 : V) (a3 : Int) (a4 : Int) (Q : Int → Heap → Prop) (h : Heap), slices_IndexFunc_disk_Request_disk_Request.b2 U  I2 a1 a2 a3 a4 Q h = pts (slices_IndexFunc_disk_Request_disk_Request.E U Q [(2, ([0, 1, 7, 8], slices_IndexFunc_disk_Request_disk_Request.k2 I2))]) 3000 true (atPos (posC slices_IndexFunc_disk_Request_disk_Request.code []) 2) (frAt [0, 1, 7, 8] [.sl a1, a2, .int .i64 a3, .int .i64 a4]) h := by
  intros; kernel_rfl

theorem slices_IndexFunc_disk_Request_disk_Request.s2 {W0 : World} {U : Ifc} (hU : IfcOK sg W0 glsT U) (Q : Int → Heap → Prop)   : CutOK sg W0 19 (entered 37) (Post sg W0 (slices_IndexFunc_disk_Request_disk_Request.ret Q)) (posC slices_IndexFunc_disk_Request_disk_Request.code []) 2 [0, 1, 7, 8] (slices_IndexFunc_disk_Request_disk_Request.k2 (fun a1 a2 a3 a4 h => slices_IndexFunc_disk_Request_disk_Request.j2 U  a1 a2 a3 a4 Q h)) := by
  refine cutOK_head (fun vs h hk => ?_)
  unfold slices_IndexFunc_disk_Request_disk_Request.k2 at hk
  split at hk
  · rename_i a1 a2 a3 a4
    refine hk (fun a1 a2 a3 a4 h => Head sg W0 19 (entered 37) (Post sg W0 (slices_IndexFunc_disk_Request_disk_Request.ret Q)) (posC slices_IndexFunc_disk_Request_disk_Request.code []) 2 [0, 1, 7, 8] [.sl a1, a2, .int .i64 a3, .int .i64 a4] h) ?_
    intro a1 a2 a3 a4 h hb todo hm ρ a w s f hp
    have hself : CutOK sg W0 19 (entered 37) (Post sg W0 (slices_IndexFunc_disk_Request_disk_Request.ret Q)) (posC slices_IndexFunc_disk_Request_disk_Request.code []) 2 [0, 1, 7, 8] (slices_IndexFunc_disk_Request_disk_Request.k2 (fun a1 a2 a3 a4 h => Head sg W0 19 (entered 37) (Post sg W0 (slices_IndexFunc_disk_Request_disk_Request.ret Q)) (posC slices_IndexFunc_disk_Request_disk_Request.code []) 2 [0, 1, 7, 8] [.sl a1, a2, .int .i64 a3, .int .i64 a4] h)) := cutOK_head (fun vs h hk => by unfold slices_IndexFunc_disk_Request_disk_Request.k2 at hk; split at hk; exact hk; exact hk.elim)
    exact piece (E := slices_IndexFunc_disk_Request_disk_Request.E U Q [(2, ([0, 1, 7, 8], slices_IndexFunc_disk_Request_disk_Request.k2 (fun a1 a2 a3 a4 h => Head sg W0 19 (entered 37) (Post sg W0 (slices_IndexFunc_disk_Request_disk_Request.ret Q)) (posC slices_IndexFunc_disk_Request_disk_Request.code []) 2 [0, 1, 7, 8] [.sl a1, a2, .int .i64 a3, .int .i64 a4] h)))]) (vs := [.sl a1, a2, .int .i64 a3, .int .i64 a4]) (envOK seatOK (slices_IndexFunc_disk_Request_disk_Request.callsOK hU) hU) (fnOK seatOK slices_IndexFunc_disk_Request_disk_Request.fun) ⟨hself, trivial⟩ slices_IndexFunc_disk_Request_disk_Request.p2 (fuel := 3000) (by rw [← slices_IndexFunc_disk_Request_disk_Request.e2]; exact hb) hm s f hp
  · exact hk.elim

theorem slices_IndexFunc_disk_Request_disk_Request.e : ∀ (U : Ifc) (a1 : Sl) (a2 : V) (Q : Int → Heap → Prop) (h : Heap), slices_IndexFunc_disk_Request_disk_Request U a1 a2 Q h = pts (slices_IndexFunc_disk_Request_disk_Request.E U Q [(2, ([0, 1, 7, 8], slices_IndexFunc_disk_Request_disk_Request.k2 (fun a1 a2 a3 a4 h => slices_IndexFunc_disk_Request_disk_Request.j2 U  a1 a2 a3 a4 Q h)))]) 3000 true [.code slices_IndexFunc_disk_Request_disk_Request.code] (frOf 0 [.sl a1, a2]) h := by
  intros; kernel_rfl

theorem slices_IndexFunc_disk_Request_disk_Request.S {W0 : World} {U : Ifc} (hU : IfcOK sg W0 glsT U) : FnS sg W0 70 (slices_IndexFunc_disk_Request_disk_Request.C U) := by
  intro vs κ h wv hx w s
  unfold slices_IndexFunc_disk_Request_disk_Request.C at hx
  split at hx
  · rename_i a1 a2
    refine postImp (ret := slices_IndexFunc_disk_Request_disk_Request.ret (fun r1 h => κ (.int .i64 r1) h)) (fun v h hr => by unfold slices_IndexFunc_disk_Request_disk_Request.ret at hr; split at hr; exact hr; exact hr.elim) ?_
    exact calls_of_pts (E := slices_IndexFunc_disk_Request_disk_Request.E U (fun r1 h => κ (.int .i64 r1) h) [(2, ([0, 1, 7, 8], slices_IndexFunc_disk_Request_disk_Request.k2 (fun a1 a2 a3 a4 h => slices_IndexFunc_disk_Request_disk_Request.j2 U  a1 a2 a3 a4 (fun r1 h => κ (.int .i64 r1) h) h)))]) (envOK seatOK (slices_IndexFunc_disk_Request_disk_Request.callsOK hU) hU) seatOK.mixed slices_IndexFunc_disk_Request_disk_Request.fun (Nat.le_of_ble_eq_true rfl) wv (cutL_ok ⟨(slices_IndexFunc_disk_Request_disk_Request.s2 hU (fun r1 h => κ (.int .i64 r1) h)), trivial⟩) s (fuel := 3000) (by rw [← slices_IndexFunc_disk_Request_disk_Request.e]; exact hx)
  · exact hx.elim

noncomputable def slices_ContainsFunc_disk_Request_disk_Request.code : Code := Go.Proofs.Try.f22.body.getD .skip

theorem slices_ContainsFunc_disk_Request_disk_Request.fun : Fun sg.P 22 9 [.tmp 4] slices_ContainsFunc_disk_Request_disk_Request.code := mkFun Go.Proofs.Try.func22 (by kernel_rfl) (by kernel_rfl) (by kernel_rfl) (by kernel_rfl)

def slices_ContainsFunc_disk_Request_disk_Request.ret (Q : Bool → Heap → Prop) (v : V) (h : Heap) : Prop :=
  match v with
  | .bool r1 => Q r1 h
  | _ => False

def slices_ContainsFunc_disk_Request_disk_Request.C (U : Ifc) (vs : List V) (κ : V → Heap → Prop) (h : Heap) : Prop :=
  match vs with
  | [.sl a1, a2] => slices_ContainsFunc_disk_Request_disk_Request U a1 a2 (fun r1 h => κ (.bool r1) h) h
  | _ => False

noncomputable def slices_ContainsFunc_disk_Request_disk_Request.calls (U : Ifc) : List (Nat × (List V → (V → Heap → Prop) → Heap → Prop)) := [(70, slices_IndexFunc_disk_Request_disk_Request.C U)]

noncomputable def slices_ContainsFunc_disk_Request_disk_Request.E (U : Ifc) (Q : Bool → Heap → Prop) (cuts : List (Nat × (List Nat × (List V → Heap → Prop)))) : Env := { tis := tisT, fns := fnsT, tys := tysT, gls := glsT, rts := rtsT, unk := [], nxt := [], calls := slices_ContainsFunc_disk_Request_disk_Request.calls U, ifc := U, cuts := cuts, ret := slices_ContainsFunc_disk_Request_disk_Request.ret Q, rets := [.tmp 4], n := 9 }

theorem slices_ContainsFunc_disk_Request_disk_Request.callsOK {W0 : World} {U : Ifc} (hU : IfcOK sg W0 glsT U) : CallsOK sg W0 (slices_ContainsFunc_disk_Request_disk_Request.calls U) := ⟨(slices_IndexFunc_disk_Request_disk_Request.S hU), trivial⟩

theorem slices_ContainsFunc_disk_Request_disk_Request.e : ∀ (U : Ifc) (a1 : Sl) (a2 : V) (Q : Bool → Heap → Prop) (h : Heap), slices_ContainsFunc_disk_Request_disk_Request U a1 a2 Q h = pts (slices_ContainsFunc_disk_Request_disk_Request.E U Q []) 3000 true [.code slices_ContainsFunc_disk_Request_disk_Request.code] (frOf 0 [.sl a1, a2]) h := by
  intros; kernel_rfl

theorem slices_ContainsFunc_disk_Request_disk_Request.S {W0 : World} {U : Ifc} (hU : IfcOK sg W0 glsT U) : FnS sg W0 81 (slices_ContainsFunc_disk_Request_disk_Request.C U) := by
  intro vs κ h wv hx w s
  unfold slices_ContainsFunc_disk_Request_disk_Request.C at hx
  split at hx
  · rename_i a1 a2
    refine postImp (ret := slices_ContainsFunc_disk_Request_disk_Request.ret (fun r1 h => κ (.bool r1) h)) (fun v h hr => by unfold slices_ContainsFunc_disk_Request_disk_Request.ret at hr; split at hr; exact hr; exact hr.elim) ?_
    exact calls_of_pts (E := slices_ContainsFunc_disk_Request_disk_Request.E U (fun r1 h => κ (.bool r1) h) []) (envOK seatOK (slices_ContainsFunc_disk_Request_disk_Request.callsOK hU) hU) seatOK.mixed slices_ContainsFunc_disk_Request_disk_Request.fun (Nat.le_of_ble_eq_true rfl) wv (cutL_ok trivial) s (fuel := 3000) (by rw [← slices_ContainsFunc_disk_Request_disk_Request.e]; exact hx)
  · exact hx.elim

noncomputable def disk_Disk_Submit.code : Code := Go.Proofs.Try.f9.body.getD .skip

theorem disk_Disk_Submit.fun : Fun sg.P 9 38 [.tmp 4] disk_Disk_Submit.code := mkFun Go.Proofs.Try.func9 (by kernel_rfl) (by kernel_rfl) (by kernel_rfl) (by kernel_rfl)

def disk_Disk_Submit.ret (Q : Int → Heap → Prop) (v : V) (h : Heap) : Prop :=
  match v with
  | .int .i64 r1 => Q r1 h
  | _ => False

def disk_Disk_Submit.C (U : Ifc) (vs : List V) (κ : V → Heap → Prop) (h : Heap) : Prop :=
  match vs with
  | [.ptr a1, .agg [.int .i64 a2, .bool a3, .int .i64 a4, .int .i64 a5]] => disk_Disk_Submit U a1 a2 a3 a4 a5 (fun r1 h => κ (.int .i64 r1) h) h
  | _ => False

noncomputable def disk_Disk_Submit.calls (U : Ifc) : List (Nat × (List V → (V → Heap → Prop) → Heap → Prop)) := [(36, disk_Disk_wrong.C), (81, slices_ContainsFunc_disk_Request_disk_Request.C U)]

noncomputable def disk_Disk_Submit.E (U : Ifc) (Q : Int → Heap → Prop) (cuts : List (Nat × (List Nat × (List V → Heap → Prop)))) : Env := { tis := tisT, fns := fnsT, tys := tysT, gls := glsT, rts := rtsT, unk := [], nxt := [], calls := disk_Disk_Submit.calls U, ifc := U, cuts := cuts, ret := disk_Disk_Submit.ret Q, rets := [.tmp 4], n := 38 }

theorem disk_Disk_Submit.callsOK {W0 : World} {U : Ifc} (hU : IfcOK sg W0 glsT U) : CallsOK sg W0 (disk_Disk_Submit.calls U) := ⟨disk_Disk_wrong.S, (slices_ContainsFunc_disk_Request_disk_Request.S hU), trivial⟩

def disk_Disk_Submit.k9 (I : Heap → Prop) (vs : List V) (h : Heap) : Prop :=
  match vs with
  | [] => I  h
  | _ => False

theorem disk_Disk_Submit.p9 : (posC disk_Disk_Submit.code []).filter (fun p => Nat.beq p.1 9) = [(9, atPos (posC disk_Disk_Submit.code []) 9)] := by kernel_rfl

theorem disk_Disk_Submit.e9 : ∀ (U : Ifc)   (Q : Int → Heap → Prop) (h : Heap), disk_Disk_Submit.j9 U   Q h = pts (disk_Disk_Submit.E U Q []) 3000 true (atPos (posC disk_Disk_Submit.code []) 9) (frAt [] []) h := by
  intros; kernel_rfl

theorem disk_Disk_Submit.s9 {W0 : World} {U : Ifc} (hU : IfcOK sg W0 glsT U) (Q : Int → Heap → Prop)   : CutOK sg W0 38 (entered 9) (Post sg W0 (disk_Disk_Submit.ret Q)) (posC disk_Disk_Submit.code []) 9 [] (disk_Disk_Submit.k9 (fun  h => disk_Disk_Submit.j9 U   Q h)) := by
  refine cutOK_head (fun vs h hk => ?_)
  unfold disk_Disk_Submit.k9 at hk
  split at hk
  · skip
    intro todo hm ρ a w s f hp
    exact piece (E := disk_Disk_Submit.E U Q []) (vs := []) (envOK seatOK (disk_Disk_Submit.callsOK hU) hU) (fnOK seatOK disk_Disk_Submit.fun) trivial disk_Disk_Submit.p9 (fuel := 3000) (by rw [← disk_Disk_Submit.e9]; exact hk) hm s f hp
  · exact hk.elim

theorem disk_Disk_Submit.e : ∀ (U : Ifc) (a1 : Option Ptr) (a2 : Int) (a3 : Bool) (a4 : Int) (a5 : Int) (Q : Int → Heap → Prop) (h : Heap), disk_Disk_Submit U a1 a2 a3 a4 a5 Q h = pts (disk_Disk_Submit.E U Q [(9, ([], disk_Disk_Submit.k9 (fun  h => disk_Disk_Submit.j9 U   Q h)))]) 3000 true [.code disk_Disk_Submit.code] (frOf 0 [.ptr a1, .agg [.int .i64 a2, .bool a3, .int .i64 a4, .int .i64 a5]]) h := by
  intros; kernel_rfl

theorem disk_Disk_Submit.S {W0 : World} {U : Ifc} (hU : IfcOK sg W0 glsT U) : FnS sg W0 82 (disk_Disk_Submit.C U) := by
  intro vs κ h wv hx w s
  unfold disk_Disk_Submit.C at hx
  split at hx
  · rename_i a1 a2 a3 a4 a5
    refine postImp (ret := disk_Disk_Submit.ret (fun r1 h => κ (.int .i64 r1) h)) (fun v h hr => by unfold disk_Disk_Submit.ret at hr; split at hr; exact hr; exact hr.elim) ?_
    exact calls_of_pts (E := disk_Disk_Submit.E U (fun r1 h => κ (.int .i64 r1) h) [(9, ([], disk_Disk_Submit.k9 (fun  h => disk_Disk_Submit.j9 U   (fun r1 h => κ (.int .i64 r1) h) h)))]) (envOK seatOK (disk_Disk_Submit.callsOK hU) hU) seatOK.mixed disk_Disk_Submit.fun (Nat.le_of_ble_eq_true rfl) wv (cutL_ok ⟨(disk_Disk_Submit.s9 hU (fun r1 h => κ (.int .i64 r1) h)), trivial⟩) s (fuel := 3000) (by rw [← disk_Disk_Submit.e]; exact hx)
  · exact hx.elim

noncomputable def palisaderef12_Disk_has.code : Code := Go.Proofs.Try.f24.body.getD .skip

theorem palisaderef12_Disk_has.fun : Fun sg.P 24 17 [.tmp 4] palisaderef12_Disk_has.code := mkFun Go.Proofs.Try.func24 (by kernel_rfl) (by kernel_rfl) (by kernel_rfl) (by kernel_rfl)

def palisaderef12_Disk_has.ret (Q : Bool → Heap → Prop) (v : V) (h : Heap) : Prop :=
  match v with
  | .bool r1 => Q r1 h
  | _ => False

def palisaderef12_Disk_has.C (vs : List V) (κ : V → Heap → Prop) (h : Heap) : Prop :=
  match vs with
  | [.ptr a1, .int .i64 a2] => palisaderef12_Disk_has a1 a2 (fun r1 h => κ (.bool r1) h) h
  | _ => False

noncomputable def palisaderef12_Disk_has.calls : List (Nat × (List V → (V → Heap → Prop) → Heap → Prop)) := []

noncomputable def palisaderef12_Disk_has.E (Q : Bool → Heap → Prop) (cuts : List (Nat × (List Nat × (List V → Heap → Prop)))) : Env := { tis := tisT, fns := fnsT, tys := tysT, gls := [], rts := rtsT, unk := [], nxt := [], calls := palisaderef12_Disk_has.calls, ifc := noIfc, cuts := cuts, ret := palisaderef12_Disk_has.ret Q, rets := [.tmp 4], n := 17 }

theorem palisaderef12_Disk_has.callsOK {W0 : World} : CallsOK sg W0 palisaderef12_Disk_has.calls := trivial

theorem palisaderef12_Disk_has.e : ∀ (a1 : Option Ptr) (a2 : Int) (Q : Bool → Heap → Prop) (h : Heap), palisaderef12_Disk_has a1 a2 Q h = pts (palisaderef12_Disk_has.E Q []) 3000 true [.code palisaderef12_Disk_has.code] (frOf 0 [.ptr a1, .int .i64 a2]) h := by
  intros; kernel_rfl

theorem palisaderef12_Disk_has.S {W0 : World} : FnS sg W0 44 palisaderef12_Disk_has.C := by
  intro vs κ h wv hx w s
  unfold palisaderef12_Disk_has.C at hx
  split at hx
  · rename_i a1 a2
    refine postImp (ret := palisaderef12_Disk_has.ret (fun r1 h => κ (.bool r1) h)) (fun v h hr => by unfold palisaderef12_Disk_has.ret at hr; split at hr; exact hr; exact hr.elim) ?_
    exact calls_of_pts (E := palisaderef12_Disk_has.E (fun r1 h => κ (.bool r1) h) []) (envOK seatOK palisaderef12_Disk_has.callsOK noIfc_ok) seatOK.mixed palisaderef12_Disk_has.fun (Nat.le_of_ble_eq_true rfl) wv (cutL_ok trivial) s (fuel := 3000) (by rw [← palisaderef12_Disk_has.e]; exact hx)
  · exact hx.elim

noncomputable def palisaderef12_Disk_Submit.code : Code := Go.Proofs.Try.f10.body.getD .skip

theorem palisaderef12_Disk_Submit.fun : Fun sg.P 10 47 [.tmp 4] palisaderef12_Disk_Submit.code := mkFun Go.Proofs.Try.func10 (by kernel_rfl) (by kernel_rfl) (by kernel_rfl) (by kernel_rfl)

def palisaderef12_Disk_Submit.ret (Q : Int → Heap → Prop) (v : V) (h : Heap) : Prop :=
  match v with
  | .int .i64 r1 => Q r1 h
  | _ => False

def palisaderef12_Disk_Submit.C (vs : List V) (κ : V → Heap → Prop) (h : Heap) : Prop :=
  match vs with
  | [.ptr a1, .agg [.int .i64 a2, .bool a3, .int .i64 a4, .int .i64 a5]] => palisaderef12_Disk_Submit a1 a2 a3 a4 a5 (fun r1 h => κ (.int .i64 r1) h) h
  | _ => False

noncomputable def palisaderef12_Disk_Submit.calls : List (Nat × (List V → (V → Heap → Prop) → Heap → Prop)) := [(44, palisaderef12_Disk_has.C)]

noncomputable def palisaderef12_Disk_Submit.E (Q : Int → Heap → Prop) (cuts : List (Nat × (List Nat × (List V → Heap → Prop)))) : Env := { tis := tisT, fns := fnsT, tys := tysT, gls := [], rts := rtsT, unk := [], nxt := [], calls := palisaderef12_Disk_Submit.calls, ifc := noIfc, cuts := cuts, ret := palisaderef12_Disk_Submit.ret Q, rets := [.tmp 4], n := 47 }

theorem palisaderef12_Disk_Submit.callsOK {W0 : World} : CallsOK sg W0 palisaderef12_Disk_Submit.calls := ⟨palisaderef12_Disk_has.S, trivial⟩

def palisaderef12_Disk_Submit.k4 (I : (Option Ptr) → Ptr → Int → Heap → Prop) (vs : List V) (h : Heap) : Prop :=
  match vs with
  | [.ptr a1, .ptr (some a2), .int .i64 a3] => I a1 a2 a3 h
  | _ => False

theorem palisaderef12_Disk_Submit.p4 : (posC palisaderef12_Disk_Submit.code []).filter (fun p => Nat.beq p.1 4) = [(4, atPos (posC palisaderef12_Disk_Submit.code []) 4)] := by kernel_rfl

theorem palisaderef12_Disk_Submit.e4 : ∀  (I4 : (Option Ptr) → Ptr → Int → Heap → Prop) (a1 : Option Ptr) (a2 : Ptr) (a3 : Int) (Q : Int → Heap → Prop) (h : Heap), palisaderef12_Disk_Submit.b4  I4 a1 a2 a3 Q h = pts (palisaderef12_Disk_Submit.E Q [(4, ([0, 3, 5], palisaderef12_Disk_Submit.k4 I4))]) 3000 true (atPos (posC palisaderef12_Disk_Submit.code []) 4) (frAt [0, 3, 5] [.ptr a1, .ptr (some a2), .int .i64 a3]) h := by
  intros; kernel_rfl

theorem palisaderef12_Disk_Submit.s4 {W0 : World} (Q : Int → Heap → Prop)   : CutOK sg W0 47 (entered 10) (Post sg W0 (palisaderef12_Disk_Submit.ret Q)) (posC palisaderef12_Disk_Submit.code []) 4 [0, 3, 5] (palisaderef12_Disk_Submit.k4 (fun a1 a2 a3 h => palisaderef12_Disk_Submit.j4  a1 a2 a3 Q h)) := by
  refine cutOK_head (fun vs h hk => ?_)
  unfold palisaderef12_Disk_Submit.k4 at hk
  split at hk
  · rename_i a1 a2 a3
    refine hk (fun a1 a2 a3 h => Head sg W0 47 (entered 10) (Post sg W0 (palisaderef12_Disk_Submit.ret Q)) (posC palisaderef12_Disk_Submit.code []) 4 [0, 3, 5] [.ptr a1, .ptr (some a2), .int .i64 a3] h) ?_
    intro a1 a2 a3 h hb todo hm ρ a w s f hp
    have hself : CutOK sg W0 47 (entered 10) (Post sg W0 (palisaderef12_Disk_Submit.ret Q)) (posC palisaderef12_Disk_Submit.code []) 4 [0, 3, 5] (palisaderef12_Disk_Submit.k4 (fun a1 a2 a3 h => Head sg W0 47 (entered 10) (Post sg W0 (palisaderef12_Disk_Submit.ret Q)) (posC palisaderef12_Disk_Submit.code []) 4 [0, 3, 5] [.ptr a1, .ptr (some a2), .int .i64 a3] h)) := cutOK_head (fun vs h hk => by unfold palisaderef12_Disk_Submit.k4 at hk; split at hk; exact hk; exact hk.elim)
    exact piece (E := palisaderef12_Disk_Submit.E Q [(4, ([0, 3, 5], palisaderef12_Disk_Submit.k4 (fun a1 a2 a3 h => Head sg W0 47 (entered 10) (Post sg W0 (palisaderef12_Disk_Submit.ret Q)) (posC palisaderef12_Disk_Submit.code []) 4 [0, 3, 5] [.ptr a1, .ptr (some a2), .int .i64 a3] h)))]) (vs := [.ptr a1, .ptr (some a2), .int .i64 a3]) (envOK seatOK palisaderef12_Disk_Submit.callsOK noIfc_ok) (fnOK seatOK palisaderef12_Disk_Submit.fun) ⟨hself, trivial⟩ palisaderef12_Disk_Submit.p4 (fuel := 3000) (by rw [← palisaderef12_Disk_Submit.e4]; exact hb) hm s f hp
  · exact hk.elim

theorem palisaderef12_Disk_Submit.e : ∀ (a1 : Option Ptr) (a2 : Int) (a3 : Bool) (a4 : Int) (a5 : Int) (Q : Int → Heap → Prop) (h : Heap), palisaderef12_Disk_Submit a1 a2 a3 a4 a5 Q h = pts (palisaderef12_Disk_Submit.E Q [(4, ([0, 3, 5], palisaderef12_Disk_Submit.k4 (fun a1 a2 a3 h => palisaderef12_Disk_Submit.j4  a1 a2 a3 Q h)))]) 3000 true [.code palisaderef12_Disk_Submit.code] (frOf 0 [.ptr a1, .agg [.int .i64 a2, .bool a3, .int .i64 a4, .int .i64 a5]]) h := by
  intros; kernel_rfl

theorem palisaderef12_Disk_Submit.S {W0 : World} : FnS sg W0 45 palisaderef12_Disk_Submit.C := by
  intro vs κ h wv hx w s
  unfold palisaderef12_Disk_Submit.C at hx
  split at hx
  · rename_i a1 a2 a3 a4 a5
    refine postImp (ret := palisaderef12_Disk_Submit.ret (fun r1 h => κ (.int .i64 r1) h)) (fun v h hr => by unfold palisaderef12_Disk_Submit.ret at hr; split at hr; exact hr; exact hr.elim) ?_
    exact calls_of_pts (E := palisaderef12_Disk_Submit.E (fun r1 h => κ (.int .i64 r1) h) [(4, ([0, 3, 5], palisaderef12_Disk_Submit.k4 (fun a1 a2 a3 h => palisaderef12_Disk_Submit.j4  a1 a2 a3 (fun r1 h => κ (.int .i64 r1) h) h)))]) (envOK seatOK palisaderef12_Disk_Submit.callsOK noIfc_ok) seatOK.mixed palisaderef12_Disk_Submit.fun (Nat.le_of_ble_eq_true rfl) wv (cutL_ok ⟨(palisaderef12_Disk_Submit.s4 (fun r1 h => κ (.int .i64 r1) h)), trivial⟩) s (fuel := 3000) (by rw [← palisaderef12_Disk_Submit.e]; exact hx)
  · exact hx.elim

noncomputable def disk_Disk_Block.code : Code := Go.Proofs.Try.f17.body.getD .skip

theorem disk_Disk_Block.fun : Fun sg.P 17 24 [.tmp 4, .tmp 5] disk_Disk_Block.code := mkFun Go.Proofs.Try.func17 (by kernel_rfl) (by kernel_rfl) (by kernel_rfl) (by kernel_rfl)

def disk_Disk_Block.ret (Q : Sl → Int → Heap → Prop) (v : V) (h : Heap) : Prop :=
  match v with
  | .tup [.sl r1, .int .i64 r2] => Q r1 r2 h
  | _ => False

def disk_Disk_Block.C (vs : List V) (κ : V → Heap → Prop) (h : Heap) : Prop :=
  match vs with
  | [.ptr a1, .int .i64 a2] => disk_Disk_Block a1 a2 (fun r1 r2 h => κ (.tup [.sl r1, .int .i64 r2]) h) h
  | _ => False

noncomputable def disk_Disk_Block.calls : List (Nat × (List V → (V → Heap → Prop) → Heap → Prop)) := [(36, disk_Disk_wrong.C)]

noncomputable def disk_Disk_Block.E (Q : Sl → Int → Heap → Prop) (cuts : List (Nat × (List Nat × (List V → Heap → Prop)))) : Env := { tis := tisT, fns := fnsT, tys := tysT, gls := [], rts := rtsT, unk := [], nxt := [], calls := disk_Disk_Block.calls, ifc := noIfc, cuts := cuts, ret := disk_Disk_Block.ret Q, rets := [.tmp 4, .tmp 5], n := 24 }

theorem disk_Disk_Block.callsOK {W0 : World} : CallsOK sg W0 disk_Disk_Block.calls := ⟨disk_Disk_wrong.S, trivial⟩

theorem disk_Disk_Block.e : ∀ (a1 : Option Ptr) (a2 : Int) (Q : Sl → Int → Heap → Prop) (h : Heap), disk_Disk_Block a1 a2 Q h = pts (disk_Disk_Block.E Q []) 3000 true [.code disk_Disk_Block.code] (frOf 0 [.ptr a1, .int .i64 a2]) h := by
  intros; kernel_rfl

theorem disk_Disk_Block.S {W0 : World} : FnS sg W0 87 disk_Disk_Block.C := by
  intro vs κ h wv hx w s
  unfold disk_Disk_Block.C at hx
  split at hx
  · rename_i a1 a2
    refine postImp (ret := disk_Disk_Block.ret (fun r1 r2 h => κ (.tup [.sl r1, .int .i64 r2]) h)) (fun v h hr => by unfold disk_Disk_Block.ret at hr; split at hr; exact hr; exact hr.elim) ?_
    exact calls_of_pts (E := disk_Disk_Block.E (fun r1 r2 h => κ (.tup [.sl r1, .int .i64 r2]) h) []) (envOK seatOK disk_Disk_Block.callsOK noIfc_ok) seatOK.mixed disk_Disk_Block.fun (Nat.le_of_ble_eq_true rfl) wv (cutL_ok trivial) s (fuel := 3000) (by rw [← disk_Disk_Block.e]; exact hx)
  · exact hx.elim

noncomputable def palisaderef12_Disk_Block.code : Code := Go.Proofs.Try.f18.body.getD .skip

theorem palisaderef12_Disk_Block.fun : Fun sg.P 18 22 [.tmp 4, .tmp 5] palisaderef12_Disk_Block.code := mkFun Go.Proofs.Try.func18 (by kernel_rfl) (by kernel_rfl) (by kernel_rfl) (by kernel_rfl)

def palisaderef12_Disk_Block.ret (Q : Sl → Int → Heap → Prop) (v : V) (h : Heap) : Prop :=
  match v with
  | .tup [.sl r1, .int .i64 r2] => Q r1 r2 h
  | _ => False

def palisaderef12_Disk_Block.C (vs : List V) (κ : V → Heap → Prop) (h : Heap) : Prop :=
  match vs with
  | [.ptr a1, .int .i64 a2] => palisaderef12_Disk_Block a1 a2 (fun r1 r2 h => κ (.tup [.sl r1, .int .i64 r2]) h) h
  | _ => False

noncomputable def palisaderef12_Disk_Block.calls : List (Nat × (List V → (V → Heap → Prop) → Heap → Prop)) := [(44, palisaderef12_Disk_has.C)]

noncomputable def palisaderef12_Disk_Block.E (Q : Sl → Int → Heap → Prop) (cuts : List (Nat × (List Nat × (List V → Heap → Prop)))) : Env := { tis := tisT, fns := fnsT, tys := tysT, gls := [], rts := rtsT, unk := [], nxt := [], calls := palisaderef12_Disk_Block.calls, ifc := noIfc, cuts := cuts, ret := palisaderef12_Disk_Block.ret Q, rets := [.tmp 4, .tmp 5], n := 22 }

theorem palisaderef12_Disk_Block.callsOK {W0 : World} : CallsOK sg W0 palisaderef12_Disk_Block.calls := ⟨palisaderef12_Disk_has.S, trivial⟩

theorem palisaderef12_Disk_Block.e : ∀ (a1 : Option Ptr) (a2 : Int) (Q : Sl → Int → Heap → Prop) (h : Heap), palisaderef12_Disk_Block a1 a2 Q h = pts (palisaderef12_Disk_Block.E Q []) 3000 true [.code palisaderef12_Disk_Block.code] (frOf 0 [.ptr a1, .int .i64 a2]) h := by
  intros; kernel_rfl

theorem palisaderef12_Disk_Block.S {W0 : World} : FnS sg W0 49 palisaderef12_Disk_Block.C := by
  intro vs κ h wv hx w s
  unfold palisaderef12_Disk_Block.C at hx
  split at hx
  · rename_i a1 a2
    refine postImp (ret := palisaderef12_Disk_Block.ret (fun r1 r2 h => κ (.tup [.sl r1, .int .i64 r2]) h)) (fun v h hr => by unfold palisaderef12_Disk_Block.ret at hr; split at hr; exact hr; exact hr.elim) ?_
    exact calls_of_pts (E := palisaderef12_Disk_Block.E (fun r1 r2 h => κ (.tup [.sl r1, .int .i64 r2]) h) []) (envOK seatOK palisaderef12_Disk_Block.callsOK noIfc_ok) seatOK.mixed palisaderef12_Disk_Block.fun (Nat.le_of_ble_eq_true rfl) wv (cutL_ok trivial) s (fuel := 3000) (by rw [← palisaderef12_Disk_Block.e]; exact hx)
  · exact hx.elim

noncomputable def slices_Clone_disk_Request_disk_Request.code : Code := Go.Proofs.Try.f41.body.getD .skip

theorem slices_Clone_disk_Request_disk_Request.fun : Fun sg.P 41 8 [.tmp 2] slices_Clone_disk_Request_disk_Request.code := mkFun Go.Proofs.Try.func41 (by kernel_rfl) (by kernel_rfl) (by kernel_rfl) (by kernel_rfl)

def slices_Clone_disk_Request_disk_Request.ret (Q : Sl → Heap → Prop) (v : V) (h : Heap) : Prop :=
  match v with
  | .sl r1 => Q r1 h
  | _ => False

def slices_Clone_disk_Request_disk_Request.C (vs : List V) (κ : V → Heap → Prop) (h : Heap) : Prop :=
  match vs with
  | [.sl a1] => slices_Clone_disk_Request_disk_Request a1 (fun r1 h => κ (.sl r1) h) h
  | _ => False

noncomputable def slices_Clone_disk_Request_disk_Request.calls : List (Nat × (List V → (V → Heap → Prop) → Heap → Prop)) := []

noncomputable def slices_Clone_disk_Request_disk_Request.E (Q : Sl → Heap → Prop) (cuts : List (Nat × (List Nat × (List V → Heap → Prop)))) : Env := { tis := tisT, fns := fnsT, tys := tysT, gls := [], rts := rtsT, unk := [], nxt := [], calls := slices_Clone_disk_Request_disk_Request.calls, ifc := noIfc, cuts := cuts, ret := slices_Clone_disk_Request_disk_Request.ret Q, rets := [.tmp 2], n := 8 }

theorem slices_Clone_disk_Request_disk_Request.callsOK {W0 : World} : CallsOK sg W0 slices_Clone_disk_Request_disk_Request.calls := trivial

theorem slices_Clone_disk_Request_disk_Request.e : ∀ (a1 : Sl) (Q : Sl → Heap → Prop) (h : Heap), slices_Clone_disk_Request_disk_Request a1 Q h = pts (slices_Clone_disk_Request_disk_Request.E Q []) 3000 true [.code slices_Clone_disk_Request_disk_Request.code] (frOf 0 [.sl a1]) h := by
  intros; kernel_rfl

theorem slices_Clone_disk_Request_disk_Request.S {W0 : World} : FnS sg W0 37 slices_Clone_disk_Request_disk_Request.C := by
  intro vs κ h wv hx w s
  unfold slices_Clone_disk_Request_disk_Request.C at hx
  split at hx
  · rename_i a1
    refine postImp (ret := slices_Clone_disk_Request_disk_Request.ret (fun r1 h => κ (.sl r1) h)) (fun v h hr => by unfold slices_Clone_disk_Request_disk_Request.ret at hr; split at hr; exact hr; exact hr.elim) ?_
    exact calls_of_pts (E := slices_Clone_disk_Request_disk_Request.E (fun r1 h => κ (.sl r1) h) []) (envOK seatOK slices_Clone_disk_Request_disk_Request.callsOK noIfc_ok) seatOK.mixed slices_Clone_disk_Request_disk_Request.fun (Nat.le_of_ble_eq_true rfl) wv (cutL_ok trivial) s (fuel := 3000) (by rw [← slices_Clone_disk_Request_disk_Request.e]; exact hx)
  · exact hx.elim

noncomputable def disk_Disk_Pending.code : Code := Go.Proofs.Try.f34.body.getD .skip

theorem disk_Disk_Pending.fun : Fun sg.P 34 10 [.tmp 2] disk_Disk_Pending.code := mkFun Go.Proofs.Try.func34 (by kernel_rfl) (by kernel_rfl) (by kernel_rfl) (by kernel_rfl)

def disk_Disk_Pending.ret (Q : Sl → Heap → Prop) (v : V) (h : Heap) : Prop :=
  match v with
  | .sl r1 => Q r1 h
  | _ => False

def disk_Disk_Pending.C (vs : List V) (κ : V → Heap → Prop) (h : Heap) : Prop :=
  match vs with
  | [.ptr a1] => disk_Disk_Pending a1 (fun r1 h => κ (.sl r1) h) h
  | _ => False

noncomputable def disk_Disk_Pending.calls : List (Nat × (List V → (V → Heap → Prop) → Heap → Prop)) := [(29, disk_Disk_none.C), (37, slices_Clone_disk_Request_disk_Request.C)]

noncomputable def disk_Disk_Pending.E (Q : Sl → Heap → Prop) (cuts : List (Nat × (List Nat × (List V → Heap → Prop)))) : Env := { tis := tisT, fns := fnsT, tys := tysT, gls := [], rts := rtsT, unk := [], nxt := [], calls := disk_Disk_Pending.calls, ifc := noIfc, cuts := cuts, ret := disk_Disk_Pending.ret Q, rets := [.tmp 2], n := 10 }

theorem disk_Disk_Pending.callsOK {W0 : World} : CallsOK sg W0 disk_Disk_Pending.calls := ⟨disk_Disk_none.S, slices_Clone_disk_Request_disk_Request.S, trivial⟩

theorem disk_Disk_Pending.e : ∀ (a1 : Option Ptr) (Q : Sl → Heap → Prop) (h : Heap), disk_Disk_Pending a1 Q h = pts (disk_Disk_Pending.E Q []) 3000 true [.code disk_Disk_Pending.code] (frOf 0 [.ptr a1]) h := by
  intros; kernel_rfl

theorem disk_Disk_Pending.S {W0 : World} : FnS sg W0 38 disk_Disk_Pending.C := by
  intro vs κ h wv hx w s
  unfold disk_Disk_Pending.C at hx
  split at hx
  · rename_i a1
    refine postImp (ret := disk_Disk_Pending.ret (fun r1 h => κ (.sl r1) h)) (fun v h hr => by unfold disk_Disk_Pending.ret at hr; split at hr; exact hr; exact hr.elim) ?_
    exact calls_of_pts (E := disk_Disk_Pending.E (fun r1 h => κ (.sl r1) h) []) (envOK seatOK disk_Disk_Pending.callsOK noIfc_ok) seatOK.mixed disk_Disk_Pending.fun (Nat.le_of_ble_eq_true rfl) wv (cutL_ok trivial) s (fuel := 3000) (by rw [← disk_Disk_Pending.e]; exact hx)
  · exact hx.elim

noncomputable def disk_Disk_Blocks.code : Code := Go.Proofs.Try.f35.body.getD .skip

theorem disk_Disk_Blocks.fun : Fun sg.P 35 9 [.tmp 2] disk_Disk_Blocks.code := mkFun Go.Proofs.Try.func35 (by kernel_rfl) (by kernel_rfl) (by kernel_rfl) (by kernel_rfl)

def disk_Disk_Blocks.ret (Q : Int → Heap → Prop) (v : V) (h : Heap) : Prop :=
  match v with
  | .int .i64 r1 => Q r1 h
  | _ => False

def disk_Disk_Blocks.C (vs : List V) (κ : V → Heap → Prop) (h : Heap) : Prop :=
  match vs with
  | [.ptr a1] => disk_Disk_Blocks a1 (fun r1 h => κ (.int .i64 r1) h) h
  | _ => False

noncomputable def disk_Disk_Blocks.calls : List (Nat × (List V → (V → Heap → Prop) → Heap → Prop)) := [(29, disk_Disk_none.C)]

noncomputable def disk_Disk_Blocks.E (Q : Int → Heap → Prop) (cuts : List (Nat × (List Nat × (List V → Heap → Prop)))) : Env := { tis := tisT, fns := fnsT, tys := tysT, gls := [], rts := rtsT, unk := [], nxt := [], calls := disk_Disk_Blocks.calls, ifc := noIfc, cuts := cuts, ret := disk_Disk_Blocks.ret Q, rets := [.tmp 2], n := 9 }

theorem disk_Disk_Blocks.callsOK {W0 : World} : CallsOK sg W0 disk_Disk_Blocks.calls := ⟨disk_Disk_none.S, trivial⟩

theorem disk_Disk_Blocks.e : ∀ (a1 : Option Ptr) (Q : Int → Heap → Prop) (h : Heap), disk_Disk_Blocks a1 Q h = pts (disk_Disk_Blocks.E Q []) 3000 true [.code disk_Disk_Blocks.code] (frOf 0 [.ptr a1]) h := by
  intros; kernel_rfl

theorem disk_Disk_Blocks.S {W0 : World} : FnS sg W0 50 disk_Disk_Blocks.C := by
  intro vs κ h wv hx w s
  unfold disk_Disk_Blocks.C at hx
  split at hx
  · rename_i a1
    refine postImp (ret := disk_Disk_Blocks.ret (fun r1 h => κ (.int .i64 r1) h)) (fun v h hr => by unfold disk_Disk_Blocks.ret at hr; split at hr; exact hr; exact hr.elim) ?_
    exact calls_of_pts (E := disk_Disk_Blocks.E (fun r1 h => κ (.int .i64 r1) h) []) (envOK seatOK disk_Disk_Blocks.callsOK noIfc_ok) seatOK.mixed disk_Disk_Blocks.fun (Nat.le_of_ble_eq_true rfl) wv (cutL_ok trivial) s (fuel := 3000) (by rw [← disk_Disk_Blocks.e]; exact hx)
  · exact hx.elim

noncomputable def palisadelaw12_stands.code : Code := Go.Proofs.Try.f19.body.getD .skip

theorem palisadelaw12_stands.fun : Fun sg.P 19 50 [.tmp 4] palisadelaw12_stands.code := mkFun Go.Proofs.Try.func19 (by kernel_rfl) (by kernel_rfl) (by kernel_rfl) (by kernel_rfl)

def palisadelaw12_stands.ret (Q : Bool → Heap → Prop) (v : V) (h : Heap) : Prop :=
  match v with
  | .bool r1 => Q r1 h
  | _ => False

def palisadelaw12_stands.C (vs : List V) (κ : V → Heap → Prop) (h : Heap) : Prop :=
  match vs with
  | [.ptr a1, .ptr a2] => palisadelaw12_stands a1 a2 (fun r1 h => κ (.bool r1) h) h
  | _ => False

noncomputable def palisadelaw12_stands.calls : List (Nat × (List V → (V → Heap → Prop) → Heap → Prop)) := [(38, disk_Disk_Pending.C), (50, disk_Disk_Blocks.C)]

noncomputable def palisadelaw12_stands.E (Q : Bool → Heap → Prop) (cuts : List (Nat × (List Nat × (List V → Heap → Prop)))) : Env := { tis := tisT, fns := fnsT, tys := tysT, gls := [], rts := rtsT, unk := [], nxt := [], calls := palisadelaw12_stands.calls, ifc := noIfc, cuts := cuts, ret := palisadelaw12_stands.ret Q, rets := [.tmp 4], n := 50 }

theorem palisadelaw12_stands.callsOK {W0 : World} : CallsOK sg W0 palisadelaw12_stands.calls := ⟨disk_Disk_Pending.S, disk_Disk_Blocks.S, trivial⟩

def palisadelaw12_stands.k3 (I : Heap → Prop) (vs : List V) (h : Heap) : Prop :=
  match vs with
  | [] => I  h
  | _ => False

def palisadelaw12_stands.k5 (I : (Option Ptr) → Sl → Int → Heap → Prop) (vs : List V) (h : Heap) : Prop :=
  match vs with
  | [.ptr a1, .sl a2, .int .i64 a3] => I a1 a2 a3 h
  | _ => False

theorem palisadelaw12_stands.p3 : (posC palisadelaw12_stands.code []).filter (fun p => Nat.beq p.1 3) = [(3, atPos (posC palisadelaw12_stands.code []) 3)] := by kernel_rfl

theorem palisadelaw12_stands.e3 : ∀   (Q : Bool → Heap → Prop) (h : Heap), palisadelaw12_stands.j3   Q h = pts (palisadelaw12_stands.E Q []) 3000 true (atPos (posC palisadelaw12_stands.code []) 3) (frAt [] []) h := by
  intros; kernel_rfl

theorem palisadelaw12_stands.s3 {W0 : World} (Q : Bool → Heap → Prop)   : CutOK sg W0 50 (entered 19) (Post sg W0 (palisadelaw12_stands.ret Q)) (posC palisadelaw12_stands.code []) 3 [] (palisadelaw12_stands.k3 (fun  h => palisadelaw12_stands.j3   Q h)) := by
  refine cutOK_head (fun vs h hk => ?_)
  unfold palisadelaw12_stands.k3 at hk
  split at hk
  · skip
    intro todo hm ρ a w s f hp
    exact piece (E := palisadelaw12_stands.E Q []) (vs := []) (envOK seatOK palisadelaw12_stands.callsOK noIfc_ok) (fnOK seatOK palisadelaw12_stands.fun) trivial palisadelaw12_stands.p3 (fuel := 3000) (by rw [← palisadelaw12_stands.e3]; exact hk) hm s f hp
  · exact hk.elim

theorem palisadelaw12_stands.p5 : (posC palisadelaw12_stands.code []).filter (fun p => Nat.beq p.1 5) = [(5, atPos (posC palisadelaw12_stands.code []) 5)] := by kernel_rfl

theorem palisadelaw12_stands.e5 : ∀  (I5 : (Option Ptr) → Sl → Int → Heap → Prop) (a1 : Option Ptr) (a2 : Sl) (a3 : Int) (Q : Bool → Heap → Prop) (h : Heap), palisadelaw12_stands.b5  I5 a1 a2 a3 Q h = pts (palisadelaw12_stands.E Q [(5, ([1, 5, 6], palisadelaw12_stands.k5 I5))]) 3000 true (atPos (posC palisadelaw12_stands.code []) 5) (frAt [1, 5, 6] [.ptr a1, .sl a2, .int .i64 a3]) h := by
  intros; kernel_rfl

theorem palisadelaw12_stands.s5 {W0 : World} (Q : Bool → Heap → Prop)   : CutOK sg W0 50 (entered 19) (Post sg W0 (palisadelaw12_stands.ret Q)) (posC palisadelaw12_stands.code []) 5 [1, 5, 6] (palisadelaw12_stands.k5 (fun a1 a2 a3 h => palisadelaw12_stands.j5  a1 a2 a3 Q h)) := by
  refine cutOK_head (fun vs h hk => ?_)
  unfold palisadelaw12_stands.k5 at hk
  split at hk
  · rename_i a1 a2 a3
    refine hk (fun a1 a2 a3 h => Head sg W0 50 (entered 19) (Post sg W0 (palisadelaw12_stands.ret Q)) (posC palisadelaw12_stands.code []) 5 [1, 5, 6] [.ptr a1, .sl a2, .int .i64 a3] h) ?_
    intro a1 a2 a3 h hb todo hm ρ a w s f hp
    have hself : CutOK sg W0 50 (entered 19) (Post sg W0 (palisadelaw12_stands.ret Q)) (posC palisadelaw12_stands.code []) 5 [1, 5, 6] (palisadelaw12_stands.k5 (fun a1 a2 a3 h => Head sg W0 50 (entered 19) (Post sg W0 (palisadelaw12_stands.ret Q)) (posC palisadelaw12_stands.code []) 5 [1, 5, 6] [.ptr a1, .sl a2, .int .i64 a3] h)) := cutOK_head (fun vs h hk => by unfold palisadelaw12_stands.k5 at hk; split at hk; exact hk; exact hk.elim)
    exact piece (E := palisadelaw12_stands.E Q [(5, ([1, 5, 6], palisadelaw12_stands.k5 (fun a1 a2 a3 h => Head sg W0 50 (entered 19) (Post sg W0 (palisadelaw12_stands.ret Q)) (posC palisadelaw12_stands.code []) 5 [1, 5, 6] [.ptr a1, .sl a2, .int .i64 a3] h)))]) (vs := [.ptr a1, .sl a2, .int .i64 a3]) (envOK seatOK palisadelaw12_stands.callsOK noIfc_ok) (fnOK seatOK palisadelaw12_stands.fun) ⟨hself, trivial⟩ palisadelaw12_stands.p5 (fuel := 3000) (by rw [← palisadelaw12_stands.e5]; exact hb) hm s f hp
  · exact hk.elim

theorem palisadelaw12_stands.e : ∀ (a1 : Option Ptr) (a2 : Option Ptr) (Q : Bool → Heap → Prop) (h : Heap), palisadelaw12_stands a1 a2 Q h = pts (palisadelaw12_stands.E Q [(3, ([], palisadelaw12_stands.k3 (fun  h => palisadelaw12_stands.j3   Q h))), (5, ([1, 5, 6], palisadelaw12_stands.k5 (fun a1 a2 a3 h => palisadelaw12_stands.j5  a1 a2 a3 Q h)))]) 3000 true [.code palisadelaw12_stands.code] (frOf 0 [.ptr a1, .ptr a2]) h := by
  intros; kernel_rfl

theorem palisadelaw12_stands.S {W0 : World} : FnS sg W0 51 palisadelaw12_stands.C := by
  intro vs κ h wv hx w s
  unfold palisadelaw12_stands.C at hx
  split at hx
  · rename_i a1 a2
    refine postImp (ret := palisadelaw12_stands.ret (fun r1 h => κ (.bool r1) h)) (fun v h hr => by unfold palisadelaw12_stands.ret at hr; split at hr; exact hr; exact hr.elim) ?_
    exact calls_of_pts (E := palisadelaw12_stands.E (fun r1 h => κ (.bool r1) h) [(3, ([], palisadelaw12_stands.k3 (fun  h => palisadelaw12_stands.j3   (fun r1 h => κ (.bool r1) h) h))), (5, ([1, 5, 6], palisadelaw12_stands.k5 (fun a1 a2 a3 h => palisadelaw12_stands.j5  a1 a2 a3 (fun r1 h => κ (.bool r1) h) h)))]) (envOK seatOK palisadelaw12_stands.callsOK noIfc_ok) seatOK.mixed palisadelaw12_stands.fun (Nat.le_of_ble_eq_true rfl) wv (cutL_ok ⟨(palisadelaw12_stands.s3 (fun r1 h => κ (.bool r1) h)), (palisadelaw12_stands.s5 (fun r1 h => κ (.bool r1) h)), trivial⟩) s (fuel := 3000) (by rw [← palisadelaw12_stands.e]; exact hx)
  · exact hx.elim

noncomputable def mem_Memory_none.code : Code := Go.Proofs.Try.f38.body.getD .skip

theorem mem_Memory_none.fun : Fun sg.P 38 12 [.tmp 2] mem_Memory_none.code := mkFun Go.Proofs.Try.func38 (by kernel_rfl) (by kernel_rfl) (by kernel_rfl) (by kernel_rfl)

def mem_Memory_none.ret (Q : Bool → Heap → Prop) (v : V) (h : Heap) : Prop :=
  match v with
  | .bool r1 => Q r1 h
  | _ => False

def mem_Memory_none.C (vs : List V) (κ : V → Heap → Prop) (h : Heap) : Prop :=
  match vs with
  | [.ptr a1] => mem_Memory_none a1 (fun r1 h => κ (.bool r1) h) h
  | _ => False

noncomputable def mem_Memory_none.calls : List (Nat × (List V → (V → Heap → Prop) → Heap → Prop)) := []

noncomputable def mem_Memory_none.E (Q : Bool → Heap → Prop) (cuts : List (Nat × (List Nat × (List V → Heap → Prop)))) : Env := { tis := tisT, fns := fnsT, tys := tysT, gls := [], rts := rtsT, unk := [], nxt := [], calls := mem_Memory_none.calls, ifc := noIfc, cuts := cuts, ret := mem_Memory_none.ret Q, rets := [.tmp 2], n := 12 }

theorem mem_Memory_none.callsOK {W0 : World} : CallsOK sg W0 mem_Memory_none.calls := trivial

theorem mem_Memory_none.e : ∀ (a1 : Option Ptr) (Q : Bool → Heap → Prop) (h : Heap), mem_Memory_none a1 Q h = pts (mem_Memory_none.E Q []) 3000 true [.code mem_Memory_none.code] (frOf 0 [.ptr a1]) h := by
  intros; kernel_rfl

theorem mem_Memory_none.S {W0 : World} : FnS sg W0 31 mem_Memory_none.C := by
  intro vs κ h wv hx w s
  unfold mem_Memory_none.C at hx
  split at hx
  · rename_i a1
    refine postImp (ret := mem_Memory_none.ret (fun r1 h => κ (.bool r1) h)) (fun v h hr => by unfold mem_Memory_none.ret at hr; split at hr; exact hr; exact hr.elim) ?_
    exact calls_of_pts (E := mem_Memory_none.E (fun r1 h => κ (.bool r1) h) []) (envOK seatOK mem_Memory_none.callsOK noIfc_ok) seatOK.mixed mem_Memory_none.fun (Nat.le_of_ble_eq_true rfl) wv (cutL_ok trivial) s (fuel := 3000) (by rw [← mem_Memory_none.e]; exact hx)
  · exact hx.elim

noncomputable def mem_Memory_Frames.code : Code := Go.Proofs.Try.f26.body.getD .skip

theorem mem_Memory_Frames.fun : Fun sg.P 26 11 [.tmp 2] mem_Memory_Frames.code := mkFun Go.Proofs.Try.func26 (by kernel_rfl) (by kernel_rfl) (by kernel_rfl) (by kernel_rfl)

def mem_Memory_Frames.ret (Q : Int → Heap → Prop) (v : V) (h : Heap) : Prop :=
  match v with
  | .int .i64 r1 => Q r1 h
  | _ => False

def mem_Memory_Frames.C (vs : List V) (κ : V → Heap → Prop) (h : Heap) : Prop :=
  match vs with
  | [.ptr a1] => mem_Memory_Frames a1 (fun r1 h => κ (.int .i64 r1) h) h
  | _ => False

noncomputable def mem_Memory_Frames.calls : List (Nat × (List V → (V → Heap → Prop) → Heap → Prop)) := [(31, mem_Memory_none.C)]

noncomputable def mem_Memory_Frames.E (Q : Int → Heap → Prop) (cuts : List (Nat × (List Nat × (List V → Heap → Prop)))) : Env := { tis := tisT, fns := fnsT, tys := tysT, gls := [], rts := rtsT, unk := [], nxt := [], calls := mem_Memory_Frames.calls, ifc := noIfc, cuts := cuts, ret := mem_Memory_Frames.ret Q, rets := [.tmp 2], n := 11 }

theorem mem_Memory_Frames.callsOK {W0 : World} : CallsOK sg W0 mem_Memory_Frames.calls := ⟨mem_Memory_none.S, trivial⟩

theorem mem_Memory_Frames.e : ∀ (a1 : Option Ptr) (Q : Int → Heap → Prop) (h : Heap), mem_Memory_Frames a1 Q h = pts (mem_Memory_Frames.E Q []) 3000 true [.code mem_Memory_Frames.code] (frOf 0 [.ptr a1]) h := by
  intros; kernel_rfl

theorem mem_Memory_Frames.S {W0 : World} : FnS sg W0 55 mem_Memory_Frames.C := by
  intro vs κ h wv hx w s
  unfold mem_Memory_Frames.C at hx
  split at hx
  · rename_i a1
    refine postImp (ret := mem_Memory_Frames.ret (fun r1 h => κ (.int .i64 r1) h)) (fun v h hr => by unfold mem_Memory_Frames.ret at hr; split at hr; exact hr; exact hr.elim) ?_
    exact calls_of_pts (E := mem_Memory_Frames.E (fun r1 h => κ (.int .i64 r1) h) []) (envOK seatOK mem_Memory_Frames.callsOK noIfc_ok) seatOK.mixed mem_Memory_Frames.fun (Nat.le_of_ble_eq_true rfl) wv (cutL_ok trivial) s (fuel := 3000) (by rw [← mem_Memory_Frames.e]; exact hx)
  · exact hx.elim

noncomputable def slices_DeleteFunc_disk_Request_disk_Request.code : Code := Go.Proofs.Try.f27.body.getD .skip

theorem slices_DeleteFunc_disk_Request_disk_Request.fun : Fun sg.P 27 42 [.tmp 4] slices_DeleteFunc_disk_Request_disk_Request.code := mkFun Go.Proofs.Try.func27 (by kernel_rfl) (by kernel_rfl) (by kernel_rfl) (by kernel_rfl)

def slices_DeleteFunc_disk_Request_disk_Request.ret (Q : Sl → Heap → Prop) (v : V) (h : Heap) : Prop :=
  match v with
  | .sl r1 => Q r1 h
  | _ => False

def slices_DeleteFunc_disk_Request_disk_Request.C (U : Ifc) (vs : List V) (κ : V → Heap → Prop) (h : Heap) : Prop :=
  match vs with
  | [.sl a1, a2] => slices_DeleteFunc_disk_Request_disk_Request U a1 a2 (fun r1 h => κ (.sl r1) h) h
  | _ => False

noncomputable def slices_DeleteFunc_disk_Request_disk_Request.calls (U : Ifc) : List (Nat × (List V → (V → Heap → Prop) → Heap → Prop)) := [(70, slices_IndexFunc_disk_Request_disk_Request.C U)]

noncomputable def slices_DeleteFunc_disk_Request_disk_Request.E (U : Ifc) (Q : Sl → Heap → Prop) (cuts : List (Nat × (List Nat × (List V → Heap → Prop)))) : Env := { tis := tisT, fns := fnsT, tys := tysT, gls := glsT, rts := rtsT, unk := [26], nxt := [], calls := slices_DeleteFunc_disk_Request_disk_Request.calls U, ifc := U, cuts := cuts, ret := slices_DeleteFunc_disk_Request_disk_Request.ret Q, rets := [.tmp 4], n := 42 }

theorem slices_DeleteFunc_disk_Request_disk_Request.callsOK {W0 : World} {U : Ifc} (hU : IfcOK sg W0 glsT U) : CallsOK sg W0 (slices_DeleteFunc_disk_Request_disk_Request.calls U) := ⟨(slices_IndexFunc_disk_Request_disk_Request.S hU), trivial⟩

def slices_DeleteFunc_disk_Request_disk_Request.k6 (I : Sl → V → Int → Int → Heap → Prop) (vs : List V) (h : Heap) : Prop :=
  match vs with
  | [.sl a1, a2, .int .i64 a3, .int .i64 a4] => I a1 a2 a3 a4 h
  | _ => False

def slices_DeleteFunc_disk_Request_disk_Request.k5 (I : Sl → V → Int → Int → Heap → Prop) (vs : List V) (h : Heap) : Prop :=
  match vs with
  | [.sl a1, a2, .int .i64 a3, .int .i64 a4] => I a1 a2 a3 a4 h
  | _ => False

theorem slices_DeleteFunc_disk_Request_disk_Request.p6 : (posC slices_DeleteFunc_disk_Request_disk_Request.code []).filter (fun p => Nat.beq p.1 6) = [(6, atPos (posC slices_DeleteFunc_disk_Request_disk_Request.code []) 6)] := by kernel_rfl

theorem slices_DeleteFunc_disk_Request_disk_Request.e6 : ∀ (U : Ifc) (I5 : Sl → V → Int → Int → Heap → Prop) (a1 : Sl) (a2 : V) (a3 : Int) (a4 : Int) (Q : Sl → Heap → Prop) (h : Heap), slices_DeleteFunc_disk_Request_disk_Request.j6 U I5 a1 a2 a3 a4 Q h = pts (slices_DeleteFunc_disk_Request_disk_Request.E U Q [(5, ([0, 1, 5, 6], slices_DeleteFunc_disk_Request_disk_Request.k5 I5))]) 3000 true (atPos (posC slices_DeleteFunc_disk_Request_disk_Request.code []) 6) (frAt [0, 1, 5, 6] [.sl a1, a2, .int .i64 a3, .int .i64 a4]) h := by
  intros; kernel_rfl

theorem slices_DeleteFunc_disk_Request_disk_Request.s6 {W0 : World} {U : Ifc} (hU : IfcOK sg W0 glsT U) (Q : Sl → Heap → Prop) (I5 : Sl → V → Int → Int → Heap → Prop) (h5 : CutOK sg W0 42 (entered 27) (Post sg W0 (slices_DeleteFunc_disk_Request_disk_Request.ret Q)) (posC slices_DeleteFunc_disk_Request_disk_Request.code []) 5 [0, 1, 5, 6] (slices_DeleteFunc_disk_Request_disk_Request.k5 I5)) : CutOK sg W0 42 (entered 27) (Post sg W0 (slices_DeleteFunc_disk_Request_disk_Request.ret Q)) (posC slices_DeleteFunc_disk_Request_disk_Request.code []) 6 [0, 1, 5, 6] (slices_DeleteFunc_disk_Request_disk_Request.k6 (fun a1 a2 a3 a4 h => slices_DeleteFunc_disk_Request_disk_Request.j6 U I5 a1 a2 a3 a4 Q h)) := by
  refine cutOK_head (fun vs h hk => ?_)
  unfold slices_DeleteFunc_disk_Request_disk_Request.k6 at hk
  split at hk
  · rename_i a1 a2 a3 a4
    intro todo hm ρ a w s f hp
    exact piece (E := slices_DeleteFunc_disk_Request_disk_Request.E U Q [(5, ([0, 1, 5, 6], slices_DeleteFunc_disk_Request_disk_Request.k5 I5))]) (vs := [.sl a1, a2, .int .i64 a3, .int .i64 a4]) (envOK seatOK (slices_DeleteFunc_disk_Request_disk_Request.callsOK hU) hU) (fnOK seatOK slices_DeleteFunc_disk_Request_disk_Request.fun) ⟨h5, trivial⟩ slices_DeleteFunc_disk_Request_disk_Request.p6 (fuel := 3000) (by rw [← slices_DeleteFunc_disk_Request_disk_Request.e6]; exact hk) hm s f hp
  · exact hk.elim

theorem slices_DeleteFunc_disk_Request_disk_Request.p5 : (posC slices_DeleteFunc_disk_Request_disk_Request.code []).filter (fun p => Nat.beq p.1 5) = [(5, atPos (posC slices_DeleteFunc_disk_Request_disk_Request.code []) 5)] := by kernel_rfl

theorem slices_DeleteFunc_disk_Request_disk_Request.e5 : ∀ (U : Ifc)  (I5 : Sl → V → Int → Int → Heap → Prop) (a1 : Sl) (a2 : V) (a3 : Int) (a4 : Int) (Q : Sl → Heap → Prop) (h : Heap), slices_DeleteFunc_disk_Request_disk_Request.b5 U  I5 a1 a2 a3 a4 Q h = pts (slices_DeleteFunc_disk_Request_disk_Request.E U Q [(6, ([0, 1, 5, 6], slices_DeleteFunc_disk_Request_disk_Request.k6 (fun a1 a2 a3 a4 h => slices_DeleteFunc_disk_Request_disk_Request.j6 U I5 a1 a2 a3 a4 Q h)))]) 3000 true (atPos (posC slices_DeleteFunc_disk_Request_disk_Request.code []) 5) (frAt [0, 1, 5, 6] [.sl a1, a2, .int .i64 a3, .int .i64 a4]) h := by
  intros; kernel_rfl

theorem slices_DeleteFunc_disk_Request_disk_Request.s5 {W0 : World} {U : Ifc} (hU : IfcOK sg W0 glsT U) (Q : Sl → Heap → Prop)   : CutOK sg W0 42 (entered 27) (Post sg W0 (slices_DeleteFunc_disk_Request_disk_Request.ret Q)) (posC slices_DeleteFunc_disk_Request_disk_Request.code []) 5 [0, 1, 5, 6] (slices_DeleteFunc_disk_Request_disk_Request.k5 (fun a1 a2 a3 a4 h => slices_DeleteFunc_disk_Request_disk_Request.j5 U  a1 a2 a3 a4 Q h)) := by
  refine cutOK_head (fun vs h hk => ?_)
  unfold slices_DeleteFunc_disk_Request_disk_Request.k5 at hk
  split at hk
  · rename_i a1 a2 a3 a4
    refine hk (fun a1 a2 a3 a4 h => Head sg W0 42 (entered 27) (Post sg W0 (slices_DeleteFunc_disk_Request_disk_Request.ret Q)) (posC slices_DeleteFunc_disk_Request_disk_Request.code []) 5 [0, 1, 5, 6] [.sl a1, a2, .int .i64 a3, .int .i64 a4] h) ?_
    intro a1 a2 a3 a4 h hb todo hm ρ a w s f hp
    have hself : CutOK sg W0 42 (entered 27) (Post sg W0 (slices_DeleteFunc_disk_Request_disk_Request.ret Q)) (posC slices_DeleteFunc_disk_Request_disk_Request.code []) 5 [0, 1, 5, 6] (slices_DeleteFunc_disk_Request_disk_Request.k5 (fun a1 a2 a3 a4 h => Head sg W0 42 (entered 27) (Post sg W0 (slices_DeleteFunc_disk_Request_disk_Request.ret Q)) (posC slices_DeleteFunc_disk_Request_disk_Request.code []) 5 [0, 1, 5, 6] [.sl a1, a2, .int .i64 a3, .int .i64 a4] h)) := cutOK_head (fun vs h hk => by unfold slices_DeleteFunc_disk_Request_disk_Request.k5 at hk; split at hk; exact hk; exact hk.elim)
    exact piece (E := slices_DeleteFunc_disk_Request_disk_Request.E U Q [(6, ([0, 1, 5, 6], slices_DeleteFunc_disk_Request_disk_Request.k6 (fun a1 a2 a3 a4 h => slices_DeleteFunc_disk_Request_disk_Request.j6 U (fun a1 a2 a3 a4 h => Head sg W0 42 (entered 27) (Post sg W0 (slices_DeleteFunc_disk_Request_disk_Request.ret Q)) (posC slices_DeleteFunc_disk_Request_disk_Request.code []) 5 [0, 1, 5, 6] [.sl a1, a2, .int .i64 a3, .int .i64 a4] h) a1 a2 a3 a4 Q h)))]) (vs := [.sl a1, a2, .int .i64 a3, .int .i64 a4]) (envOK seatOK (slices_DeleteFunc_disk_Request_disk_Request.callsOK hU) hU) (fnOK seatOK slices_DeleteFunc_disk_Request_disk_Request.fun) ⟨(slices_DeleteFunc_disk_Request_disk_Request.s6 hU Q (fun a1 a2 a3 a4 h => Head sg W0 42 (entered 27) (Post sg W0 (slices_DeleteFunc_disk_Request_disk_Request.ret Q)) (posC slices_DeleteFunc_disk_Request_disk_Request.code []) 5 [0, 1, 5, 6] [.sl a1, a2, .int .i64 a3, .int .i64 a4] h) hself), trivial⟩ slices_DeleteFunc_disk_Request_disk_Request.p5 (fuel := 3000) (by rw [← slices_DeleteFunc_disk_Request_disk_Request.e5]; exact hb) hm s f hp
  · exact hk.elim

theorem slices_DeleteFunc_disk_Request_disk_Request.e : ∀ (U : Ifc) (a1 : Sl) (a2 : V) (Q : Sl → Heap → Prop) (h : Heap), slices_DeleteFunc_disk_Request_disk_Request U a1 a2 Q h = pts (slices_DeleteFunc_disk_Request_disk_Request.E U Q [(5, ([0, 1, 5, 6], slices_DeleteFunc_disk_Request_disk_Request.k5 (fun a1 a2 a3 a4 h => slices_DeleteFunc_disk_Request_disk_Request.j5 U  a1 a2 a3 a4 Q h)))]) 3000 true [.code slices_DeleteFunc_disk_Request_disk_Request.code] (frOf 0 [.sl a1, a2]) h := by
  intros; kernel_rfl

theorem slices_DeleteFunc_disk_Request_disk_Request.S {W0 : World} {U : Ifc} (hU : IfcOK sg W0 glsT U) : FnS sg W0 71 (slices_DeleteFunc_disk_Request_disk_Request.C U) := by
  intro vs κ h wv hx w s
  unfold slices_DeleteFunc_disk_Request_disk_Request.C at hx
  split at hx
  · rename_i a1 a2
    refine postImp (ret := slices_DeleteFunc_disk_Request_disk_Request.ret (fun r1 h => κ (.sl r1) h)) (fun v h hr => by unfold slices_DeleteFunc_disk_Request_disk_Request.ret at hr; split at hr; exact hr; exact hr.elim) ?_
    exact calls_of_pts (E := slices_DeleteFunc_disk_Request_disk_Request.E U (fun r1 h => κ (.sl r1) h) [(5, ([0, 1, 5, 6], slices_DeleteFunc_disk_Request_disk_Request.k5 (fun a1 a2 a3 a4 h => slices_DeleteFunc_disk_Request_disk_Request.j5 U  a1 a2 a3 a4 (fun r1 h => κ (.sl r1) h) h)))]) (envOK seatOK (slices_DeleteFunc_disk_Request_disk_Request.callsOK hU) hU) seatOK.mixed slices_DeleteFunc_disk_Request_disk_Request.fun (Nat.le_of_ble_eq_true rfl) wv (cutL_ok ⟨(slices_DeleteFunc_disk_Request_disk_Request.s5 hU (fun r1 h => κ (.sl r1) h)), trivial⟩) s (fuel := 3000) (by rw [← slices_DeleteFunc_disk_Request_disk_Request.e]; exact hx)
  · exact hx.elim

noncomputable def mem_Memory_part_c1.code : Code := Go.Proofs.Try.f40.body.getD .skip

theorem mem_Memory_part_c1.fun : Fun sg.P 40 23 [.tmp 3] mem_Memory_part_c1.code := mkFun Go.Proofs.Try.func40 (by kernel_rfl) (by kernel_rfl) (by kernel_rfl) (by kernel_rfl)

def mem_Memory_part_c1.ret (Q : Bool → Heap → Prop) (v : V) (h : Heap) : Prop :=
  match v with
  | .bool r1 => Q r1 h
  | _ => False

def mem_Memory_part_c1.C (vs : List V) (κ : V → Heap → Prop) (h : Heap) : Prop :=
  match vs with
  | [.ptr (some a1), .ptr (some a2), .ptr (some a3)] => mem_Memory_part_c1 a1 a2 a3 (fun r1 h => κ (.bool r1) h) h
  | _ => False

noncomputable def mem_Memory_part_c1.calls : List (Nat × (List V → (V → Heap → Prop) → Heap → Prop)) := []

noncomputable def mem_Memory_part_c1.E (Q : Bool → Heap → Prop) (cuts : List (Nat × (List Nat × (List V → Heap → Prop)))) : Env := { tis := tisT, fns := fnsT, tys := tysT, gls := [], rts := rtsT, unk := [], nxt := [], calls := mem_Memory_part_c1.calls, ifc := noIfc, cuts := cuts, ret := mem_Memory_part_c1.ret Q, rets := [.tmp 3], n := 23 }

theorem mem_Memory_part_c1.callsOK {W0 : World} : CallsOK sg W0 mem_Memory_part_c1.calls := trivial

theorem mem_Memory_part_c1.e : ∀ (a1 : Ptr) (a2 : Ptr) (a3 : Ptr) (Q : Bool → Heap → Prop) (h : Heap), mem_Memory_part_c1 a1 a2 a3 Q h = pts (mem_Memory_part_c1.E Q []) 3000 true [.code mem_Memory_part_c1.code] (frOf 0 [.ptr (some a1), .ptr (some a2), .ptr (some a3)]) h := by
  intros; kernel_rfl

theorem mem_Memory_part_c1.S {W0 : World} : FnS sg W0 2 mem_Memory_part_c1.C := by
  intro vs κ h wv hx w s
  unfold mem_Memory_part_c1.C at hx
  split at hx
  · rename_i a1 a2 a3
    refine postImp (ret := mem_Memory_part_c1.ret (fun r1 h => κ (.bool r1) h)) (fun v h hr => by unfold mem_Memory_part_c1.ret at hr; split at hr; exact hr; exact hr.elim) ?_
    exact calls_of_pts (E := mem_Memory_part_c1.E (fun r1 h => κ (.bool r1) h) []) (envOK seatOK mem_Memory_part_c1.callsOK noIfc_ok) seatOK.mixed mem_Memory_part_c1.fun (Nat.le_of_ble_eq_true rfl) wv (cutL_ok trivial) s (fuel := 3000) (by rw [← mem_Memory_part_c1.e]; exact hx)
  · exact hx.elim

noncomputable def mem_Memory_part.code : Code := Go.Proofs.Try.f32.body.getD .skip

theorem mem_Memory_part.fun : Fun sg.P 32 33 [.tmp 6, .tmp 7] mem_Memory_part.code := mkFun Go.Proofs.Try.func32 (by kernel_rfl) (by kernel_rfl) (by kernel_rfl) (by kernel_rfl)

def mem_Memory_part.ret (Q : Sl → Int → Heap → Prop) (v : V) (h : Heap) : Prop :=
  match v with
  | .tup [.sl r1, .int .i64 r2] => Q r1 r2 h
  | _ => False

def mem_Memory_part.C (vs : List V) (κ : V → Heap → Prop) (h : Heap) : Prop :=
  match vs with
  | [.ptr a1, .int .u64 a2, .int .i64 a3] => mem_Memory_part a1 a2 a3 (fun r1 r2 h => κ (.tup [.sl r1, .int .i64 r2]) h) h
  | _ => False

noncomputable def mem_Memory_part.calls : List (Nat × (List V → (V → Heap → Prop) → Heap → Prop)) := [(31, mem_Memory_none.C), (2, mem_Memory_part_c1.C)]

noncomputable def mem_Memory_part.E (Q : Sl → Int → Heap → Prop) (cuts : List (Nat × (List Nat × (List V → Heap → Prop)))) : Env := { tis := tisT, fns := fnsT, tys := tysT, gls := [], rts := rtsT, unk := [], nxt := [], calls := mem_Memory_part.calls, ifc := noIfc, cuts := cuts, ret := mem_Memory_part.ret Q, rets := [.tmp 6, .tmp 7], n := 33 }

theorem mem_Memory_part.callsOK {W0 : World} : CallsOK sg W0 mem_Memory_part.calls := ⟨mem_Memory_none.S, mem_Memory_part_c1.S, trivial⟩

theorem mem_Memory_part.e : ∀ (a1 : Option Ptr) (a2 : Int) (a3 : Int) (Q : Sl → Int → Heap → Prop) (h : Heap), mem_Memory_part a1 a2 a3 Q h = pts (mem_Memory_part.E Q []) 3000 true [.code mem_Memory_part.code] (frOf 0 [.ptr a1, .int .u64 a2, .int .i64 a3]) h := by
  intros; kernel_rfl

theorem mem_Memory_part.S {W0 : World} : FnS sg W0 32 mem_Memory_part.C := by
  intro vs κ h wv hx w s
  unfold mem_Memory_part.C at hx
  split at hx
  · rename_i a1 a2 a3
    refine postImp (ret := mem_Memory_part.ret (fun r1 r2 h => κ (.tup [.sl r1, .int .i64 r2]) h)) (fun v h hr => by unfold mem_Memory_part.ret at hr; split at hr; exact hr; exact hr.elim) ?_
    exact calls_of_pts (E := mem_Memory_part.E (fun r1 r2 h => κ (.tup [.sl r1, .int .i64 r2]) h) []) (envOK seatOK mem_Memory_part.callsOK noIfc_ok) seatOK.mixed mem_Memory_part.fun (Nat.le_of_ble_eq_true rfl) wv (cutL_ok trivial) s (fuel := 3000) (by rw [← mem_Memory_part.e]; exact hx)
  · exact hx.elim

noncomputable def bytes_Clone.code : Code := Go.Proofs.Try.f36.body.getD .skip

theorem bytes_Clone.fun : Fun sg.P 36 8 [.tmp 2] bytes_Clone.code := mkFun Go.Proofs.Try.func36 (by kernel_rfl) (by kernel_rfl) (by kernel_rfl) (by kernel_rfl)

def bytes_Clone.ret (Q : Sl → Heap → Prop) (v : V) (h : Heap) : Prop :=
  match v with
  | .sl r1 => Q r1 h
  | _ => False

def bytes_Clone.C (vs : List V) (κ : V → Heap → Prop) (h : Heap) : Prop :=
  match vs with
  | [.sl a1] => bytes_Clone a1 (fun r1 h => κ (.sl r1) h) h
  | _ => False

noncomputable def bytes_Clone.calls : List (Nat × (List V → (V → Heap → Prop) → Heap → Prop)) := []

noncomputable def bytes_Clone.E (Q : Sl → Heap → Prop) (cuts : List (Nat × (List Nat × (List V → Heap → Prop)))) : Env := { tis := tisT, fns := fnsT, tys := tysT, gls := [], rts := rtsT, unk := [], nxt := [], calls := bytes_Clone.calls, ifc := noIfc, cuts := cuts, ret := bytes_Clone.ret Q, rets := [.tmp 2], n := 8 }

theorem bytes_Clone.callsOK {W0 : World} : CallsOK sg W0 bytes_Clone.calls := trivial

theorem bytes_Clone.e : ∀ (a1 : Sl) (Q : Sl → Heap → Prop) (h : Heap), bytes_Clone a1 Q h = pts (bytes_Clone.E Q []) 3000 true [.code bytes_Clone.code] (frOf 0 [.sl a1]) h := by
  intros; kernel_rfl

theorem bytes_Clone.S {W0 : World} : FnS sg W0 39 bytes_Clone.C := by
  intro vs κ h wv hx w s
  unfold bytes_Clone.C at hx
  split at hx
  · rename_i a1
    refine postImp (ret := bytes_Clone.ret (fun r1 h => κ (.sl r1) h)) (fun v h hr => by unfold bytes_Clone.ret at hr; split at hr; exact hr; exact hr.elim) ?_
    exact calls_of_pts (E := bytes_Clone.E (fun r1 h => κ (.sl r1) h) []) (envOK seatOK bytes_Clone.callsOK noIfc_ok) seatOK.mixed bytes_Clone.fun (Nat.le_of_ble_eq_true rfl) wv (cutL_ok trivial) s (fuel := 3000) (by rw [← bytes_Clone.e]; exact hx)
  · exact hx.elim

noncomputable def mem_Memory_Bytes.code : Code := Go.Proofs.Try.f20.body.getD .skip

theorem mem_Memory_Bytes.fun : Fun sg.P 20 20 [.tmp 6, .tmp 7] mem_Memory_Bytes.code := mkFun Go.Proofs.Try.func20 (by kernel_rfl) (by kernel_rfl) (by kernel_rfl) (by kernel_rfl)

def mem_Memory_Bytes.ret (Q : Sl → Int → Heap → Prop) (v : V) (h : Heap) : Prop :=
  match v with
  | .tup [.sl r1, .int .i64 r2] => Q r1 r2 h
  | _ => False

def mem_Memory_Bytes.C (vs : List V) (κ : V → Heap → Prop) (h : Heap) : Prop :=
  match vs with
  | [.ptr a1, .int .u64 a2, .int .i64 a3] => mem_Memory_Bytes a1 a2 a3 (fun r1 r2 h => κ (.tup [.sl r1, .int .i64 r2]) h) h
  | _ => False

noncomputable def mem_Memory_Bytes.calls : List (Nat × (List V → (V → Heap → Prop) → Heap → Prop)) := [(32, mem_Memory_part.C), (39, bytes_Clone.C)]

noncomputable def mem_Memory_Bytes.E (Q : Sl → Int → Heap → Prop) (cuts : List (Nat × (List Nat × (List V → Heap → Prop)))) : Env := { tis := tisT, fns := fnsT, tys := tysT, gls := [], rts := rtsT, unk := [], nxt := [], calls := mem_Memory_Bytes.calls, ifc := noIfc, cuts := cuts, ret := mem_Memory_Bytes.ret Q, rets := [.tmp 6, .tmp 7], n := 20 }

theorem mem_Memory_Bytes.callsOK {W0 : World} : CallsOK sg W0 mem_Memory_Bytes.calls := ⟨mem_Memory_part.S, bytes_Clone.S, trivial⟩

theorem mem_Memory_Bytes.e : ∀ (a1 : Option Ptr) (a2 : Int) (a3 : Int) (Q : Sl → Int → Heap → Prop) (h : Heap), mem_Memory_Bytes a1 a2 a3 Q h = pts (mem_Memory_Bytes.E Q []) 3000 true [.code mem_Memory_Bytes.code] (frOf 0 [.ptr a1, .int .u64 a2, .int .i64 a3]) h := by
  intros; kernel_rfl

theorem mem_Memory_Bytes.S {W0 : World} : FnS sg W0 40 mem_Memory_Bytes.C := by
  intro vs κ h wv hx w s
  unfold mem_Memory_Bytes.C at hx
  split at hx
  · rename_i a1 a2 a3
    refine postImp (ret := mem_Memory_Bytes.ret (fun r1 r2 h => κ (.tup [.sl r1, .int .i64 r2]) h)) (fun v h hr => by unfold mem_Memory_Bytes.ret at hr; split at hr; exact hr; exact hr.elim) ?_
    exact calls_of_pts (E := mem_Memory_Bytes.E (fun r1 r2 h => κ (.tup [.sl r1, .int .i64 r2]) h) []) (envOK seatOK mem_Memory_Bytes.callsOK noIfc_ok) seatOK.mixed mem_Memory_Bytes.fun (Nat.le_of_ble_eq_true rfl) wv (cutL_ok trivial) s (fuel := 3000) (by rw [← mem_Memory_Bytes.e]; exact hx)
  · exact hx.elim

noncomputable def slices_IndexFunc_byte_byte.code : Code := Go.Proofs.Try.f39.body.getD .skip

theorem slices_IndexFunc_byte_byte.fun : Fun sg.P 39 19 [.tmp 4] slices_IndexFunc_byte_byte.code := mkFun Go.Proofs.Try.func39 (by kernel_rfl) (by kernel_rfl) (by kernel_rfl) (by kernel_rfl)

def slices_IndexFunc_byte_byte.ret (Q : Int → Heap → Prop) (v : V) (h : Heap) : Prop :=
  match v with
  | .int .i64 r1 => Q r1 h
  | _ => False

def slices_IndexFunc_byte_byte.C (U : Ifc) (vs : List V) (κ : V → Heap → Prop) (h : Heap) : Prop :=
  match vs with
  | [.sl a1, a2] => slices_IndexFunc_byte_byte U a1 a2 (fun r1 h => κ (.int .i64 r1) h) h
  | _ => False

noncomputable def slices_IndexFunc_byte_byte.calls (U : Ifc) : List (Nat × (List V → (V → Heap → Prop) → Heap → Prop)) := []

noncomputable def slices_IndexFunc_byte_byte.E (U : Ifc) (Q : Int → Heap → Prop) (cuts : List (Nat × (List Nat × (List V → Heap → Prop)))) : Env := { tis := tisT, fns := fnsT, tys := tysT, gls := glsT, rts := rtsT, unk := [11], nxt := [], calls := slices_IndexFunc_byte_byte.calls U, ifc := U, cuts := cuts, ret := slices_IndexFunc_byte_byte.ret Q, rets := [.tmp 4], n := 19 }

theorem slices_IndexFunc_byte_byte.callsOK {W0 : World} {U : Ifc} (hU : IfcOK sg W0 glsT U) : CallsOK sg W0 (slices_IndexFunc_byte_byte.calls U) := trivial

def slices_IndexFunc_byte_byte.k2 (I : Sl → V → Int → Int → Heap → Prop) (vs : List V) (h : Heap) : Prop :=
  match vs with
  | [.sl a1, a2, .int .i64 a3, .int .i64 a4] => I a1 a2 a3 a4 h
  | _ => False

theorem slices_IndexFunc_byte_byte.p2 : (posC slices_IndexFunc_byte_byte.code []).filter (fun p => Nat.beq p.1 2) = [(2, atPos (posC slices_IndexFunc_byte_byte.code []) 2)] := by kernel_rfl

theorem slices_IndexFunc_byte_byte.e2 : ∀ (U : Ifc)  (I2 : Sl → V → Int → Int → Heap → Prop) (a1 : Sl) (a2 : V) (a3 : Int) (a4 : Int) (Q : Int → Heap → Prop) (h : Heap), slices_IndexFunc_byte_byte.b2 U  I2 a1 a2 a3 a4 Q h = pts (slices_IndexFunc_byte_byte.E U Q [(2, ([0, 1, 7, 8], slices_IndexFunc_byte_byte.k2 I2))]) 3000 true (atPos (posC slices_IndexFunc_byte_byte.code []) 2) (frAt [0, 1, 7, 8] [.sl a1, a2, .int .i64 a3, .int .i64 a4]) h := by
  intros; kernel_rfl

theorem slices_IndexFunc_byte_byte.s2 {W0 : World} {U : Ifc} (hU : IfcOK sg W0 glsT U) (Q : Int → Heap → Prop)   : CutOK sg W0 19 (entered 39) (Post sg W0 (slices_IndexFunc_byte_byte.ret Q)) (posC slices_IndexFunc_byte_byte.code []) 2 [0, 1, 7, 8] (slices_IndexFunc_byte_byte.k2 (fun a1 a2 a3 a4 h => slices_IndexFunc_byte_byte.j2 U  a1 a2 a3 a4 Q h)) := by
  refine cutOK_head (fun vs h hk => ?_)
  unfold slices_IndexFunc_byte_byte.k2 at hk
  split at hk
  · rename_i a1 a2 a3 a4
    refine hk (fun a1 a2 a3 a4 h => Head sg W0 19 (entered 39) (Post sg W0 (slices_IndexFunc_byte_byte.ret Q)) (posC slices_IndexFunc_byte_byte.code []) 2 [0, 1, 7, 8] [.sl a1, a2, .int .i64 a3, .int .i64 a4] h) ?_
    intro a1 a2 a3 a4 h hb todo hm ρ a w s f hp
    have hself : CutOK sg W0 19 (entered 39) (Post sg W0 (slices_IndexFunc_byte_byte.ret Q)) (posC slices_IndexFunc_byte_byte.code []) 2 [0, 1, 7, 8] (slices_IndexFunc_byte_byte.k2 (fun a1 a2 a3 a4 h => Head sg W0 19 (entered 39) (Post sg W0 (slices_IndexFunc_byte_byte.ret Q)) (posC slices_IndexFunc_byte_byte.code []) 2 [0, 1, 7, 8] [.sl a1, a2, .int .i64 a3, .int .i64 a4] h)) := cutOK_head (fun vs h hk => by unfold slices_IndexFunc_byte_byte.k2 at hk; split at hk; exact hk; exact hk.elim)
    exact piece (E := slices_IndexFunc_byte_byte.E U Q [(2, ([0, 1, 7, 8], slices_IndexFunc_byte_byte.k2 (fun a1 a2 a3 a4 h => Head sg W0 19 (entered 39) (Post sg W0 (slices_IndexFunc_byte_byte.ret Q)) (posC slices_IndexFunc_byte_byte.code []) 2 [0, 1, 7, 8] [.sl a1, a2, .int .i64 a3, .int .i64 a4] h)))]) (vs := [.sl a1, a2, .int .i64 a3, .int .i64 a4]) (envOK seatOK (slices_IndexFunc_byte_byte.callsOK hU) hU) (fnOK seatOK slices_IndexFunc_byte_byte.fun) ⟨hself, trivial⟩ slices_IndexFunc_byte_byte.p2 (fuel := 3000) (by rw [← slices_IndexFunc_byte_byte.e2]; exact hb) hm s f hp
  · exact hk.elim

theorem slices_IndexFunc_byte_byte.e : ∀ (U : Ifc) (a1 : Sl) (a2 : V) (Q : Int → Heap → Prop) (h : Heap), slices_IndexFunc_byte_byte U a1 a2 Q h = pts (slices_IndexFunc_byte_byte.E U Q [(2, ([0, 1, 7, 8], slices_IndexFunc_byte_byte.k2 (fun a1 a2 a3 a4 h => slices_IndexFunc_byte_byte.j2 U  a1 a2 a3 a4 Q h)))]) 3000 true [.code slices_IndexFunc_byte_byte.code] (frOf 0 [.sl a1, a2]) h := by
  intros; kernel_rfl

theorem slices_IndexFunc_byte_byte.S {W0 : World} {U : Ifc} (hU : IfcOK sg W0 glsT U) : FnS sg W0 72 (slices_IndexFunc_byte_byte.C U) := by
  intro vs κ h wv hx w s
  unfold slices_IndexFunc_byte_byte.C at hx
  split at hx
  · rename_i a1 a2
    refine postImp (ret := slices_IndexFunc_byte_byte.ret (fun r1 h => κ (.int .i64 r1) h)) (fun v h hr => by unfold slices_IndexFunc_byte_byte.ret at hr; split at hr; exact hr; exact hr.elim) ?_
    exact calls_of_pts (E := slices_IndexFunc_byte_byte.E U (fun r1 h => κ (.int .i64 r1) h) [(2, ([0, 1, 7, 8], slices_IndexFunc_byte_byte.k2 (fun a1 a2 a3 a4 h => slices_IndexFunc_byte_byte.j2 U  a1 a2 a3 a4 (fun r1 h => κ (.int .i64 r1) h) h)))]) (envOK seatOK (slices_IndexFunc_byte_byte.callsOK hU) hU) seatOK.mixed slices_IndexFunc_byte_byte.fun (Nat.le_of_ble_eq_true rfl) wv (cutL_ok ⟨(slices_IndexFunc_byte_byte.s2 hU (fun r1 h => κ (.int .i64 r1) h)), trivial⟩) s (fuel := 3000) (by rw [← slices_IndexFunc_byte_byte.e]; exact hx)
  · exact hx.elim

noncomputable def slices_ContainsFunc_byte_byte.code : Code := Go.Proofs.Try.f29.body.getD .skip

theorem slices_ContainsFunc_byte_byte.fun : Fun sg.P 29 9 [.tmp 4] slices_ContainsFunc_byte_byte.code := mkFun Go.Proofs.Try.func29 (by kernel_rfl) (by kernel_rfl) (by kernel_rfl) (by kernel_rfl)

def slices_ContainsFunc_byte_byte.ret (Q : Bool → Heap → Prop) (v : V) (h : Heap) : Prop :=
  match v with
  | .bool r1 => Q r1 h
  | _ => False

def slices_ContainsFunc_byte_byte.C (U : Ifc) (vs : List V) (κ : V → Heap → Prop) (h : Heap) : Prop :=
  match vs with
  | [.sl a1, a2] => slices_ContainsFunc_byte_byte U a1 a2 (fun r1 h => κ (.bool r1) h) h
  | _ => False

noncomputable def slices_ContainsFunc_byte_byte.calls (U : Ifc) : List (Nat × (List V → (V → Heap → Prop) → Heap → Prop)) := [(72, slices_IndexFunc_byte_byte.C U)]

noncomputable def slices_ContainsFunc_byte_byte.E (U : Ifc) (Q : Bool → Heap → Prop) (cuts : List (Nat × (List Nat × (List V → Heap → Prop)))) : Env := { tis := tisT, fns := fnsT, tys := tysT, gls := glsT, rts := rtsT, unk := [], nxt := [], calls := slices_ContainsFunc_byte_byte.calls U, ifc := U, cuts := cuts, ret := slices_ContainsFunc_byte_byte.ret Q, rets := [.tmp 4], n := 9 }

theorem slices_ContainsFunc_byte_byte.callsOK {W0 : World} {U : Ifc} (hU : IfcOK sg W0 glsT U) : CallsOK sg W0 (slices_ContainsFunc_byte_byte.calls U) := ⟨(slices_IndexFunc_byte_byte.S hU), trivial⟩

theorem slices_ContainsFunc_byte_byte.e : ∀ (U : Ifc) (a1 : Sl) (a2 : V) (Q : Bool → Heap → Prop) (h : Heap), slices_ContainsFunc_byte_byte U a1 a2 Q h = pts (slices_ContainsFunc_byte_byte.E U Q []) 3000 true [.code slices_ContainsFunc_byte_byte.code] (frOf 0 [.sl a1, a2]) h := by
  intros; kernel_rfl

theorem slices_ContainsFunc_byte_byte.S {W0 : World} {U : Ifc} (hU : IfcOK sg W0 glsT U) : FnS sg W0 73 (slices_ContainsFunc_byte_byte.C U) := by
  intro vs κ h wv hx w s
  unfold slices_ContainsFunc_byte_byte.C at hx
  split at hx
  · rename_i a1 a2
    refine postImp (ret := slices_ContainsFunc_byte_byte.ret (fun r1 h => κ (.bool r1) h)) (fun v h hr => by unfold slices_ContainsFunc_byte_byte.ret at hr; split at hr; exact hr; exact hr.elim) ?_
    exact calls_of_pts (E := slices_ContainsFunc_byte_byte.E U (fun r1 h => κ (.bool r1) h) []) (envOK seatOK (slices_ContainsFunc_byte_byte.callsOK hU) hU) seatOK.mixed slices_ContainsFunc_byte_byte.fun (Nat.le_of_ble_eq_true rfl) wv (cutL_ok trivial) s (fuel := 3000) (by rw [← slices_ContainsFunc_byte_byte.e]; exact hx)
  · exact hx.elim

noncomputable def slices_Clone_byte_byte.code : Code := Go.Proofs.Try.f31.body.getD .skip

theorem slices_Clone_byte_byte.fun : Fun sg.P 31 8 [.tmp 2] slices_Clone_byte_byte.code := mkFun Go.Proofs.Try.func31 (by kernel_rfl) (by kernel_rfl) (by kernel_rfl) (by kernel_rfl)

def slices_Clone_byte_byte.ret (Q : Sl → Heap → Prop) (v : V) (h : Heap) : Prop :=
  match v with
  | .sl r1 => Q r1 h
  | _ => False

def slices_Clone_byte_byte.C (vs : List V) (κ : V → Heap → Prop) (h : Heap) : Prop :=
  match vs with
  | [.sl a1] => slices_Clone_byte_byte a1 (fun r1 h => κ (.sl r1) h) h
  | _ => False

noncomputable def slices_Clone_byte_byte.calls : List (Nat × (List V → (V → Heap → Prop) → Heap → Prop)) := []

noncomputable def slices_Clone_byte_byte.E (Q : Sl → Heap → Prop) (cuts : List (Nat × (List Nat × (List V → Heap → Prop)))) : Env := { tis := tisT, fns := fnsT, tys := tysT, gls := [], rts := rtsT, unk := [], nxt := [], calls := slices_Clone_byte_byte.calls, ifc := noIfc, cuts := cuts, ret := slices_Clone_byte_byte.ret Q, rets := [.tmp 2], n := 8 }

theorem slices_Clone_byte_byte.callsOK {W0 : World} : CallsOK sg W0 slices_Clone_byte_byte.calls := trivial

theorem slices_Clone_byte_byte.e : ∀ (a1 : Sl) (Q : Sl → Heap → Prop) (h : Heap), slices_Clone_byte_byte a1 Q h = pts (slices_Clone_byte_byte.E Q []) 3000 true [.code slices_Clone_byte_byte.code] (frOf 0 [.sl a1]) h := by
  intros; kernel_rfl

theorem slices_Clone_byte_byte.S {W0 : World} : FnS sg W0 58 slices_Clone_byte_byte.C := by
  intro vs κ h wv hx w s
  unfold slices_Clone_byte_byte.C at hx
  split at hx
  · rename_i a1
    refine postImp (ret := slices_Clone_byte_byte.ret (fun r1 h => κ (.sl r1) h)) (fun v h hr => by unfold slices_Clone_byte_byte.ret at hr; split at hr; exact hr; exact hr.elim) ?_
    exact calls_of_pts (E := slices_Clone_byte_byte.E (fun r1 h => κ (.sl r1) h) []) (envOK seatOK slices_Clone_byte_byte.callsOK noIfc_ok) seatOK.mixed slices_Clone_byte_byte.fun (Nat.le_of_ble_eq_true rfl) wv (cutL_ok trivial) s (fuel := 3000) (by rw [← slices_Clone_byte_byte.e]; exact hx)
  · exact hx.elim

noncomputable def disk_Disk_Put.code : Code := Go.Proofs.Try.f13.body.getD .skip

theorem disk_Disk_Put.fun : Fun sg.P 13 34 [.tmp 6] disk_Disk_Put.code := mkFun Go.Proofs.Try.func13 (by kernel_rfl) (by kernel_rfl) (by kernel_rfl) (by kernel_rfl)

def disk_Disk_Put.ret (Q : Int → Heap → Prop) (v : V) (h : Heap) : Prop :=
  match v with
  | .int .i64 r1 => Q r1 h
  | _ => False

def disk_Disk_Put.C (U : Ifc) (vs : List V) (κ : V → Heap → Prop) (h : Heap) : Prop :=
  match vs with
  | [.ptr a1, .int .i64 a2, .sl a3] => disk_Disk_Put U a1 a2 a3 (fun r1 h => κ (.int .i64 r1) h) h
  | _ => False

noncomputable def disk_Disk_Put.calls (U : Ifc) : List (Nat × (List V → (V → Heap → Prop) → Heap → Prop)) := [(36, disk_Disk_wrong.C), (73, slices_ContainsFunc_byte_byte.C U), (58, slices_Clone_byte_byte.C)]

noncomputable def disk_Disk_Put.E (U : Ifc) (Q : Int → Heap → Prop) (cuts : List (Nat × (List Nat × (List V → Heap → Prop)))) : Env := { tis := tisT, fns := fnsT, tys := tysT, gls := glsT, rts := rtsT, unk := [], nxt := [], calls := disk_Disk_Put.calls U, ifc := U, cuts := cuts, ret := disk_Disk_Put.ret Q, rets := [.tmp 6], n := 34 }

theorem disk_Disk_Put.callsOK {W0 : World} {U : Ifc} (hU : IfcOK sg W0 glsT U) : CallsOK sg W0 (disk_Disk_Put.calls U) := ⟨disk_Disk_wrong.S, (slices_ContainsFunc_byte_byte.S hU), slices_Clone_byte_byte.S, trivial⟩

theorem disk_Disk_Put.e : ∀ (U : Ifc) (a1 : Option Ptr) (a2 : Int) (a3 : Sl) (Q : Int → Heap → Prop) (h : Heap), disk_Disk_Put U a1 a2 a3 Q h = pts (disk_Disk_Put.E U Q []) 3000 true [.code disk_Disk_Put.code] (frOf 0 [.ptr a1, .int .i64 a2, .sl a3]) h := by
  intros; kernel_rfl

theorem disk_Disk_Put.S {W0 : World} {U : Ifc} (hU : IfcOK sg W0 glsT U) : FnS sg W0 86 (disk_Disk_Put.C U) := by
  intro vs κ h wv hx w s
  unfold disk_Disk_Put.C at hx
  split at hx
  · rename_i a1 a2 a3
    refine postImp (ret := disk_Disk_Put.ret (fun r1 h => κ (.int .i64 r1) h)) (fun v h hr => by unfold disk_Disk_Put.ret at hr; split at hr; exact hr; exact hr.elim) ?_
    exact calls_of_pts (E := disk_Disk_Put.E U (fun r1 h => κ (.int .i64 r1) h) []) (envOK seatOK (disk_Disk_Put.callsOK hU) hU) seatOK.mixed disk_Disk_Put.fun (Nat.le_of_ble_eq_true rfl) wv (cutL_ok trivial) s (fuel := 3000) (by rw [← disk_Disk_Put.e]; exact hx)
  · exact hx.elim

noncomputable def mem_Memory_Put.code : Code := Go.Proofs.Try.f15.body.getD .skip

theorem mem_Memory_Put.fun : Fun sg.P 15 23 [.tmp 6] mem_Memory_Put.code := mkFun Go.Proofs.Try.func15 (by kernel_rfl) (by kernel_rfl) (by kernel_rfl) (by kernel_rfl)

def mem_Memory_Put.ret (Q : Int → Heap → Prop) (v : V) (h : Heap) : Prop :=
  match v with
  | .int .i64 r1 => Q r1 h
  | _ => False

def mem_Memory_Put.C (vs : List V) (κ : V → Heap → Prop) (h : Heap) : Prop :=
  match vs with
  | [.ptr a1, .int .u64 a2, .sl a3] => mem_Memory_Put a1 a2 a3 (fun r1 h => κ (.int .i64 r1) h) h
  | _ => False

noncomputable def mem_Memory_Put.calls : List (Nat × (List V → (V → Heap → Prop) → Heap → Prop)) := [(32, mem_Memory_part.C)]

noncomputable def mem_Memory_Put.E (Q : Int → Heap → Prop) (cuts : List (Nat × (List Nat × (List V → Heap → Prop)))) : Env := { tis := tisT, fns := fnsT, tys := tysT, gls := [], rts := rtsT, unk := [], nxt := [], calls := mem_Memory_Put.calls, ifc := noIfc, cuts := cuts, ret := mem_Memory_Put.ret Q, rets := [.tmp 6], n := 23 }

theorem mem_Memory_Put.callsOK {W0 : World} : CallsOK sg W0 mem_Memory_Put.calls := ⟨mem_Memory_part.S, trivial⟩

theorem mem_Memory_Put.e : ∀ (a1 : Option Ptr) (a2 : Int) (a3 : Sl) (Q : Int → Heap → Prop) (h : Heap), mem_Memory_Put a1 a2 a3 Q h = pts (mem_Memory_Put.E Q []) 3000 true [.code mem_Memory_Put.code] (frOf 0 [.ptr a1, .int .u64 a2, .sl a3]) h := by
  intros; kernel_rfl

theorem mem_Memory_Put.S {W0 : World} : FnS sg W0 33 mem_Memory_Put.C := by
  intro vs κ h wv hx w s
  unfold mem_Memory_Put.C at hx
  split at hx
  · rename_i a1 a2 a3
    refine postImp (ret := mem_Memory_Put.ret (fun r1 h => κ (.int .i64 r1) h)) (fun v h hr => by unfold mem_Memory_Put.ret at hr; split at hr; exact hr; exact hr.elim) ?_
    exact calls_of_pts (E := mem_Memory_Put.E (fun r1 h => κ (.int .i64 r1) h) []) (envOK seatOK mem_Memory_Put.callsOK noIfc_ok) seatOK.mixed mem_Memory_Put.fun (Nat.le_of_ble_eq_true rfl) wv (cutL_ok trivial) s (fuel := 3000) (by rw [← mem_Memory_Put.e]; exact hx)
  · exact hx.elim

end Go.Fn
