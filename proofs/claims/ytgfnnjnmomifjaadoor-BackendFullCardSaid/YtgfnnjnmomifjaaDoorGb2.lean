/- The links of the shallow functions to the machine. PRINTED by lift.py. -/
import Derived.Test.YtgfnnjnmomifjaaDoorGb1
set_option linter.unusedVariables false
set_option maxRecDepth 100000
namespace Go.Fn
open Go.Lift

noncomputable def disk_Disk_wrong.code : Code := Go.Proofs.Tryd.f97.body.getD .skip

theorem disk_Disk_wrong.fun : Fun sg.P 97 19 [.tmp 4] disk_Disk_wrong.code := mkFun Go.Proofs.Tryd.func97 (by kernel_rfl) (by kernel_rfl) (by kernel_rfl) (by kernel_rfl)

def disk_Disk_wrong.ret (Q : Int → Heap → Prop) (v : V) (h : Heap) : Prop :=
  match v with
  | .int .i64 r1 => Q r1 h
  | _ => False

def disk_Disk_wrong.C (vs : List V) (κ : V → Heap → Prop) (h : Heap) : Prop :=
  match vs with
  | [.ptr a1, .int .i64 a2] => disk_Disk_wrong a1 a2 (fun r1 h => κ (.int .i64 r1) h) h
  | _ => False

noncomputable def disk_Disk_wrong.calls : List (Nat × (List V → (V → Heap → Prop) → Heap → Prop)) := [(29, disk_Disk_none.C)]

noncomputable def disk_Disk_wrong.E (Q : Int → Heap → Prop) (cuts : List (Nat × (List Nat × (List V → Heap → Prop)))) : Env := { tis := tisT, fns := fnsT, tys := tysT, gls := [], rts := rtsT, unk := [], nxt := [], calls := disk_Disk_wrong.calls, ifc := noIfc, cuts := cuts, ret := disk_Disk_wrong.ret Q, rets := [.tmp 4], n := 19 }

theorem disk_Disk_wrong.callsOK {W0 : World} : CallsOK sg W0 disk_Disk_wrong.calls := ⟨disk_Disk_none.S, trivial⟩

theorem disk_Disk_wrong.e : ∀ (a1 : Option Ptr) (a2 : Int) (Q : Int → Heap → Prop) (h : Heap), disk_Disk_wrong a1 a2 Q h = pts (disk_Disk_wrong.E Q []) 3000 true [.code disk_Disk_wrong.code] (frOf 0 [.ptr a1, .int .i64 a2]) h := by
  intros; kernel_rfl

theorem disk_Disk_wrong.S {W0 : World} : FnS sg W0 36 disk_Disk_wrong.C := by
  intro vs κ h wv hx w s
  unfold disk_Disk_wrong.C at hx
  split at hx
  · rename_i a1 a2
    refine postImp (ret := disk_Disk_wrong.ret (fun r1 h => κ (.int .i64 r1) h)) (fun v h hr => by unfold disk_Disk_wrong.ret at hr; split at hr; exact hr; exact hr.elim) ?_
    exact calls_of_pts (E := disk_Disk_wrong.E (fun r1 h => κ (.int .i64 r1) h) []) (envOK seatOK disk_Disk_wrong.callsOK noIfc_ok) seatOK.mixed disk_Disk_wrong.fun (Nat.le_of_ble_eq_true rfl) wv (cutL_ok trivial) s (fuel := 3000) (by rw [← disk_Disk_wrong.e]; exact hx)
  · exact hx.elim

noncomputable def slices_IndexFunc_disk_Request_disk_Request.code : Code := Go.Proofs.Tryd.f96.body.getD .skip

theorem slices_IndexFunc_disk_Request_disk_Request.fun : Fun sg.P 96 19 [.tmp 4] slices_IndexFunc_disk_Request_disk_Request.code := mkFun Go.Proofs.Tryd.func96 (by kernel_rfl) (by kernel_rfl) (by kernel_rfl) (by kernel_rfl)

def slices_IndexFunc_disk_Request_disk_Request.ret (Q : Int → Heap → Prop) (v : V) (h : Heap) : Prop :=
  match v with
  | .int .i64 r1 => Q r1 h
  | _ => False

def slices_IndexFunc_disk_Request_disk_Request.C (U : Ifc) (vs : List V) (κ : V → Heap → Prop) (h : Heap) : Prop :=
  match vs with
  | [.sl a1, a2] => slices_IndexFunc_disk_Request_disk_Request U a1 a2 (fun r1 h => κ (.int .i64 r1) h) h
  | _ => False

noncomputable def slices_IndexFunc_disk_Request_disk_Request.calls (U : Ifc) : List (Nat × (List V → (V → Heap → Prop) → Heap → Prop)) := []

noncomputable def slices_IndexFunc_disk_Request_disk_Request.E (U : Ifc) (Q : Int → Heap → Prop) (cuts : List (Nat × (List Nat × (List V → Heap → Prop)))) : Env := { tis := tisT, fns := fnsT, tys := tysT, gls := glsT, rts := rtsT, unk := [11], nxt := [], calls := slices_IndexFunc_disk_Request_disk_Request.calls U, ifc := U, cuts := cuts, ret := slices_IndexFunc_disk_Request_disk_Request.ret Q, rets := [.tmp 4], n := 19 }

theorem slices_IndexFunc_disk_Request_disk_Request.callsOK {W0 : World} {U : Ifc} (hU : IfcOK sg W0 glsT U) : CallsOK sg W0 (slices_IndexFunc_disk_Request_disk_Request.calls U) := trivial

def slices_IndexFunc_disk_Request_disk_Request.k2 (I : Sl → V → Int → Int → Heap → Prop) (vs : List V) (h : Heap) : Prop :=
  match vs with
  | [.sl a1, a2, .int .i64 a3, .int .i64 a4] => I a1 a2 a3 a4 h
  | _ => False

theorem slices_IndexFunc_disk_Request_disk_Request.p2 : (posC slices_IndexFunc_disk_Request_disk_Request.code []).filter (fun p => Nat.beq p.1 2) = [(2, atPos (posC slices_IndexFunc_disk_Request_disk_Request.code []) 2)] := by kernel_rfl

theorem slices_IndexFunc_disk_Request_disk_Request.e2 : ∀ (U : Ifc)  (I2 : Sl → V → Int → Int → Heap → Prop) (a1 : Sl) (a2 : V) (a3 : Int) (a4 : Int) (Q : Int → Heap → Prop) (h : Heap), slices_IndexFunc_disk_Request_disk_Request.b2 U  I2 a1 a2 a3 a4 Q h = pts (slices_IndexFunc_disk_Request_disk_Request.E U Q [(2, ([0, 1, 7, 8], slices_IndexFunc_disk_Request_disk_Request.k2 I2))]) 3000 true (atPos (posC slices_IndexFunc_disk_Request_disk_Request.code []) 2) (frAt [0, 1, 7, 8] [.sl a1, a2, .int .i64 a3, .int .i64 a4]) h := by
  intros; kernel_rfl

theorem slices_IndexFunc_disk_Request_disk_Request.s2 {W0 : World} {U : Ifc} (hU : IfcOK sg W0 glsT U) (Q : Int → Heap → Prop)   : CutOK sg W0 19 (entered 96) (Post sg W0 (slices_IndexFunc_disk_Request_disk_Request.ret Q)) (posC slices_IndexFunc_disk_Request_disk_Request.code []) 2 [0, 1, 7, 8] (slices_IndexFunc_disk_Request_disk_Request.k2 (fun a1 a2 a3 a4 h => slices_IndexFunc_disk_Request_disk_Request.j2 U  a1 a2 a3 a4 Q h)) := by
  refine cutOK_head (fun vs h hk => ?_)
  unfold slices_IndexFunc_disk_Request_disk_Request.k2 at hk
  split at hk
  · rename_i a1 a2 a3 a4
    refine hk (fun a1 a2 a3 a4 h => Head sg W0 19 (entered 96) (Post sg W0 (slices_IndexFunc_disk_Request_disk_Request.ret Q)) (posC slices_IndexFunc_disk_Request_disk_Request.code []) 2 [0, 1, 7, 8] [.sl a1, a2, .int .i64 a3, .int .i64 a4] h) ?_
    intro a1 a2 a3 a4 h hb todo hm ρ a w s f hp
    have hself : CutOK sg W0 19 (entered 96) (Post sg W0 (slices_IndexFunc_disk_Request_disk_Request.ret Q)) (posC slices_IndexFunc_disk_Request_disk_Request.code []) 2 [0, 1, 7, 8] (slices_IndexFunc_disk_Request_disk_Request.k2 (fun a1 a2 a3 a4 h => Head sg W0 19 (entered 96) (Post sg W0 (slices_IndexFunc_disk_Request_disk_Request.ret Q)) (posC slices_IndexFunc_disk_Request_disk_Request.code []) 2 [0, 1, 7, 8] [.sl a1, a2, .int .i64 a3, .int .i64 a4] h)) := cutOK_head (fun vs h hk => by unfold slices_IndexFunc_disk_Request_disk_Request.k2 at hk; split at hk; exact hk; exact hk.elim)
    exact piece (E := slices_IndexFunc_disk_Request_disk_Request.E U Q [(2, ([0, 1, 7, 8], slices_IndexFunc_disk_Request_disk_Request.k2 (fun a1 a2 a3 a4 h => Head sg W0 19 (entered 96) (Post sg W0 (slices_IndexFunc_disk_Request_disk_Request.ret Q)) (posC slices_IndexFunc_disk_Request_disk_Request.code []) 2 [0, 1, 7, 8] [.sl a1, a2, .int .i64 a3, .int .i64 a4] h)))]) (vs := [.sl a1, a2, .int .i64 a3, .int .i64 a4]) (envOK seatOK (slices_IndexFunc_disk_Request_disk_Request.callsOK hU) hU) (fnOK seatOK slices_IndexFunc_disk_Request_disk_Request.fun) ⟨hself, trivial⟩ slices_IndexFunc_disk_Request_disk_Request.p2 (fuel := 3000) (by rw [← slices_IndexFunc_disk_Request_disk_Request.e2]; exact hb) hm s f hp
  · exact hk.elim

theorem slices_IndexFunc_disk_Request_disk_Request.e : ∀ (U : Ifc) (a1 : Sl) (a2 : V) (Q : Int → Heap → Prop) (h : Heap), slices_IndexFunc_disk_Request_disk_Request U a1 a2 Q h = pts (slices_IndexFunc_disk_Request_disk_Request.E U Q [(2, ([0, 1, 7, 8], slices_IndexFunc_disk_Request_disk_Request.k2 (fun a1 a2 a3 a4 h => slices_IndexFunc_disk_Request_disk_Request.j2 U  a1 a2 a3 a4 Q h)))]) 3000 true [.code slices_IndexFunc_disk_Request_disk_Request.code] (frOf 0 [.sl a1, a2]) h := by
  intros; kernel_rfl

theorem slices_IndexFunc_disk_Request_disk_Request.S {W0 : World} {U : Ifc} (hU : IfcOK sg W0 glsT U) : FnS sg W0 70 (slices_IndexFunc_disk_Request_disk_Request.C U) := by
  intro vs κ h wv hx w s
  unfold slices_IndexFunc_disk_Request_disk_Request.C at hx
  split at hx
  · rename_i a1 a2
    refine postImp (ret := slices_IndexFunc_disk_Request_disk_Request.ret (fun r1 h => κ (.int .i64 r1) h)) (fun v h hr => by unfold slices_IndexFunc_disk_Request_disk_Request.ret at hr; split at hr; exact hr; exact hr.elim) ?_
    exact calls_of_pts (E := slices_IndexFunc_disk_Request_disk_Request.E U (fun r1 h => κ (.int .i64 r1) h) [(2, ([0, 1, 7, 8], slices_IndexFunc_disk_Request_disk_Request.k2 (fun a1 a2 a3 a4 h => slices_IndexFunc_disk_Request_disk_Request.j2 U  a1 a2 a3 a4 (fun r1 h => κ (.int .i64 r1) h) h)))]) (envOK seatOK (slices_IndexFunc_disk_Request_disk_Request.callsOK hU) hU) seatOK.mixed slices_IndexFunc_disk_Request_disk_Request.fun (Nat.le_of_ble_eq_true rfl) wv (cutL_ok ⟨(slices_IndexFunc_disk_Request_disk_Request.s2 hU (fun r1 h => κ (.int .i64 r1) h)), trivial⟩) s (fuel := 3000) (by rw [← slices_IndexFunc_disk_Request_disk_Request.e]; exact hx)
  · exact hx.elim

noncomputable def slices_ContainsFunc_disk_Request_disk_Request.code : Code := Go.Proofs.Tryd.f102.body.getD .skip

theorem slices_ContainsFunc_disk_Request_disk_Request.fun : Fun sg.P 102 9 [.tmp 4] slices_ContainsFunc_disk_Request_disk_Request.code := mkFun Go.Proofs.Tryd.func102 (by kernel_rfl) (by kernel_rfl) (by kernel_rfl) (by kernel_rfl)

def slices_ContainsFunc_disk_Request_disk_Request.ret (Q : Bool → Heap → Prop) (v : V) (h : Heap) : Prop :=
  match v with
  | .bool r1 => Q r1 h
  | _ => False

def slices_ContainsFunc_disk_Request_disk_Request.C (U : Ifc) (vs : List V) (κ : V → Heap → Prop) (h : Heap) : Prop :=
  match vs with
  | [.sl a1, a2] => slices_ContainsFunc_disk_Request_disk_Request U a1 a2 (fun r1 h => κ (.bool r1) h) h
  | _ => False

noncomputable def slices_ContainsFunc_disk_Request_disk_Request.calls (U : Ifc) : List (Nat × (List V → (V → Heap → Prop) → Heap → Prop)) := [(70, slices_IndexFunc_disk_Request_disk_Request.C U)]

noncomputable def slices_ContainsFunc_disk_Request_disk_Request.E (U : Ifc) (Q : Bool → Heap → Prop) (cuts : List (Nat × (List Nat × (List V → Heap → Prop)))) : Env := { tis := tisT, fns := fnsT, tys := tysT, gls := glsT, rts := rtsT, unk := [], nxt := [], calls := slices_ContainsFunc_disk_Request_disk_Request.calls U, ifc := U, cuts := cuts, ret := slices_ContainsFunc_disk_Request_disk_Request.ret Q, rets := [.tmp 4], n := 9 }

theorem slices_ContainsFunc_disk_Request_disk_Request.callsOK {W0 : World} {U : Ifc} (hU : IfcOK sg W0 glsT U) : CallsOK sg W0 (slices_ContainsFunc_disk_Request_disk_Request.calls U) := ⟨(slices_IndexFunc_disk_Request_disk_Request.S hU), trivial⟩

theorem slices_ContainsFunc_disk_Request_disk_Request.e : ∀ (U : Ifc) (a1 : Sl) (a2 : V) (Q : Bool → Heap → Prop) (h : Heap), slices_ContainsFunc_disk_Request_disk_Request U a1 a2 Q h = pts (slices_ContainsFunc_disk_Request_disk_Request.E U Q []) 3000 true [.code slices_ContainsFunc_disk_Request_disk_Request.code] (frOf 0 [.sl a1, a2]) h := by
  intros; kernel_rfl

theorem slices_ContainsFunc_disk_Request_disk_Request.S {W0 : World} {U : Ifc} (hU : IfcOK sg W0 glsT U) : FnS sg W0 81 (slices_ContainsFunc_disk_Request_disk_Request.C U) := by
  intro vs κ h wv hx w s
  unfold slices_ContainsFunc_disk_Request_disk_Request.C at hx
  split at hx
  · rename_i a1 a2
    refine postImp (ret := slices_ContainsFunc_disk_Request_disk_Request.ret (fun r1 h => κ (.bool r1) h)) (fun v h hr => by unfold slices_ContainsFunc_disk_Request_disk_Request.ret at hr; split at hr; exact hr; exact hr.elim) ?_
    exact calls_of_pts (E := slices_ContainsFunc_disk_Request_disk_Request.E U (fun r1 h => κ (.bool r1) h) []) (envOK seatOK (slices_ContainsFunc_disk_Request_disk_Request.callsOK hU) hU) seatOK.mixed slices_ContainsFunc_disk_Request_disk_Request.fun (Nat.le_of_ble_eq_true rfl) wv (cutL_ok trivial) s (fuel := 3000) (by rw [← slices_ContainsFunc_disk_Request_disk_Request.e]; exact hx)
  · exact hx.elim

noncomputable def disk_Disk_Submit.code : Code := Go.Proofs.Tryd.f89.body.getD .skip

theorem disk_Disk_Submit.fun : Fun sg.P 89 38 [.tmp 4] disk_Disk_Submit.code := mkFun Go.Proofs.Tryd.func89 (by kernel_rfl) (by kernel_rfl) (by kernel_rfl) (by kernel_rfl)

def disk_Disk_Submit.ret (Q : Int → Heap → Prop) (v : V) (h : Heap) : Prop :=
  match v with
  | .int .i64 r1 => Q r1 h
  | _ => False

def disk_Disk_Submit.C (U : Ifc) (vs : List V) (κ : V → Heap → Prop) (h : Heap) : Prop :=
  match vs with
  | [.ptr a1, .agg [.int .i64 a2, .bool a3, .int .i64 a4, .int .i64 a5]] => disk_Disk_Submit U a1 a2 a3 a4 a5 (fun r1 h => κ (.int .i64 r1) h) h
  | _ => False

noncomputable def disk_Disk_Submit.calls (U : Ifc) : List (Nat × (List V → (V → Heap → Prop) → Heap → Prop)) := [(36, disk_Disk_wrong.C), (81, slices_ContainsFunc_disk_Request_disk_Request.C U)]

noncomputable def disk_Disk_Submit.E (U : Ifc) (Q : Int → Heap → Prop) (cuts : List (Nat × (List Nat × (List V → Heap → Prop)))) : Env := { tis := tisT, fns := fnsT, tys := tysT, gls := glsT, rts := rtsT, unk := [], nxt := [], calls := disk_Disk_Submit.calls U, ifc := U, cuts := cuts, ret := disk_Disk_Submit.ret Q, rets := [.tmp 4], n := 38 }

theorem disk_Disk_Submit.callsOK {W0 : World} {U : Ifc} (hU : IfcOK sg W0 glsT U) : CallsOK sg W0 (disk_Disk_Submit.calls U) := ⟨disk_Disk_wrong.S, (slices_ContainsFunc_disk_Request_disk_Request.S hU), trivial⟩

def disk_Disk_Submit.k9 (I : Heap → Prop) (vs : List V) (h : Heap) : Prop :=
  match vs with
  | [] => I  h
  | _ => False

theorem disk_Disk_Submit.p9 : (posC disk_Disk_Submit.code []).filter (fun p => Nat.beq p.1 9) = [(9, atPos (posC disk_Disk_Submit.code []) 9)] := by kernel_rfl

theorem disk_Disk_Submit.e9 : ∀ (U : Ifc)   (Q : Int → Heap → Prop) (h : Heap), disk_Disk_Submit.j9 U   Q h = pts (disk_Disk_Submit.E U Q []) 3000 true (atPos (posC disk_Disk_Submit.code []) 9) (frAt [] []) h := by
  intros; kernel_rfl

theorem disk_Disk_Submit.s9 {W0 : World} {U : Ifc} (hU : IfcOK sg W0 glsT U) (Q : Int → Heap → Prop)   : CutOK sg W0 38 (entered 89) (Post sg W0 (disk_Disk_Submit.ret Q)) (posC disk_Disk_Submit.code []) 9 [] (disk_Disk_Submit.k9 (fun  h => disk_Disk_Submit.j9 U   Q h)) := by
  refine cutOK_head (fun vs h hk => ?_)
  unfold disk_Disk_Submit.k9 at hk
  split at hk
  · skip
    intro todo hm ρ a w s f hp
    exact piece (E := disk_Disk_Submit.E U Q []) (vs := []) (envOK seatOK (disk_Disk_Submit.callsOK hU) hU) (fnOK seatOK disk_Disk_Submit.fun) trivial disk_Disk_Submit.p9 (fuel := 3000) (by rw [← disk_Disk_Submit.e9]; exact hk) hm s f hp
  · exact hk.elim

theorem disk_Disk_Submit.e : ∀ (U : Ifc) (a1 : Option Ptr) (a2 : Int) (a3 : Bool) (a4 : Int) (a5 : Int) (Q : Int → Heap → Prop) (h : Heap), disk_Disk_Submit U a1 a2 a3 a4 a5 Q h = pts (disk_Disk_Submit.E U Q [(9, ([], disk_Disk_Submit.k9 (fun  h => disk_Disk_Submit.j9 U   Q h)))]) 3000 true [.code disk_Disk_Submit.code] (frOf 0 [.ptr a1, .agg [.int .i64 a2, .bool a3, .int .i64 a4, .int .i64 a5]]) h := by
  intros; kernel_rfl

theorem disk_Disk_Submit.S {W0 : World} {U : Ifc} (hU : IfcOK sg W0 glsT U) : FnS sg W0 82 (disk_Disk_Submit.C U) := by
  intro vs κ h wv hx w s
  unfold disk_Disk_Submit.C at hx
  split at hx
  · rename_i a1 a2 a3 a4 a5
    refine postImp (ret := disk_Disk_Submit.ret (fun r1 h => κ (.int .i64 r1) h)) (fun v h hr => by unfold disk_Disk_Submit.ret at hr; split at hr; exact hr; exact hr.elim) ?_
    exact calls_of_pts (E := disk_Disk_Submit.E U (fun r1 h => κ (.int .i64 r1) h) [(9, ([], disk_Disk_Submit.k9 (fun  h => disk_Disk_Submit.j9 U   (fun r1 h => κ (.int .i64 r1) h) h)))]) (envOK seatOK (disk_Disk_Submit.callsOK hU) hU) seatOK.mixed disk_Disk_Submit.fun (Nat.le_of_ble_eq_true rfl) wv (cutL_ok ⟨(disk_Disk_Submit.s9 hU (fun r1 h => κ (.int .i64 r1) h)), trivial⟩) s (fuel := 3000) (by rw [← disk_Disk_Submit.e]; exact hx)
  · exact hx.elim

noncomputable def frames_Frames_Free.code : Code := Go.Proofs.Tryd.f36.body.getD .skip

theorem frames_Frames_Free.fun : Fun sg.P 36 68 [.tmp 6, .tmp 7] frames_Frames_Free.code := mkFun Go.Proofs.Tryd.func36 (by kernel_rfl) (by kernel_rfl) (by kernel_rfl) (by kernel_rfl)

def frames_Frames_Free.ret (Q : Bool → Int → Heap → Prop) (v : V) (h : Heap) : Prop :=
  match v with
  | .tup [.bool r1, .int .i64 r2] => Q r1 r2 h
  | _ => False

def frames_Frames_Free.C (vs : List V) (κ : V → Heap → Prop) (h : Heap) : Prop :=
  match vs with
  | [.ptr a1, .int .i64 a2, .int .i64 a3] => frames_Frames_Free a1 a2 a3 (fun r1 r2 h => κ (.tup [.bool r1, .int .i64 r2]) h) h
  | _ => False

noncomputable def frames_Frames_Free.calls : List (Nat × (List V → (V → Heap → Prop) → Heap → Prop)) := [(270, frames_Frames_wrong.C)]

noncomputable def frames_Frames_Free.E (Q : Bool → Int → Heap → Prop) (cuts : List (Nat × (List Nat × (List V → Heap → Prop)))) : Env := { tis := tisT, fns := fnsT, tys := tysT, gls := [], rts := rtsT, unk := [], nxt := [], calls := frames_Frames_Free.calls, ifc := noIfc, cuts := cuts, ret := frames_Frames_Free.ret Q, rets := [.tmp 6, .tmp 7], n := 68 }

theorem frames_Frames_Free.callsOK {W0 : World} : CallsOK sg W0 frames_Frames_Free.calls := ⟨frames_Frames_wrong.S, trivial⟩

def frames_Frames_Free.k12 (I : (Option Ptr) → Int → Heap → Prop) (vs : List V) (h : Heap) : Prop :=
  match vs with
  | [.ptr a1, .int .i64 a2] => I a1 a2 h
  | _ => False

def frames_Frames_Free.k7 (I : (Option Ptr) → Int → Int → Heap → Prop) (vs : List V) (h : Heap) : Prop :=
  match vs with
  | [.ptr a1, .int .i64 a2, .int .i64 a3] => I a1 a2 a3 h
  | _ => False

theorem frames_Frames_Free.p12 : (posC frames_Frames_Free.code []).filter (fun p => Nat.beq p.1 12) = [(12, atPos (posC frames_Frames_Free.code []) 12)] := by kernel_rfl

theorem frames_Frames_Free.e12 : ∀  (a1 : Option Ptr) (a2 : Int) (Q : Bool → Int → Heap → Prop) (h : Heap), frames_Frames_Free.j12  a1 a2 Q h = pts (frames_Frames_Free.E Q []) 3000 true (atPos (posC frames_Frames_Free.code []) 12) (frAt [0, 1] [.ptr a1, .int .i64 a2]) h := by
  intros; kernel_rfl

theorem frames_Frames_Free.s12 {W0 : World} (Q : Bool → Int → Heap → Prop)   : CutOK sg W0 68 (entered 36) (Post sg W0 (frames_Frames_Free.ret Q)) (posC frames_Frames_Free.code []) 12 [0, 1] (frames_Frames_Free.k12 (fun a1 a2 h => frames_Frames_Free.j12  a1 a2 Q h)) := by
  refine cutOK_head (fun vs h hk => ?_)
  unfold frames_Frames_Free.k12 at hk
  split at hk
  · rename_i a1 a2
    intro todo hm ρ a w s f hp
    exact piece (E := frames_Frames_Free.E Q []) (vs := [.ptr a1, .int .i64 a2]) (envOK seatOK frames_Frames_Free.callsOK noIfc_ok) (fnOK seatOK frames_Frames_Free.fun) trivial frames_Frames_Free.p12 (fuel := 3000) (by rw [← frames_Frames_Free.e12]; exact hk) hm s f hp
  · exact hk.elim

theorem frames_Frames_Free.p7 : (posC frames_Frames_Free.code []).filter (fun p => Nat.beq p.1 7) = [(7, atPos (posC frames_Frames_Free.code []) 7)] := by kernel_rfl

theorem frames_Frames_Free.e7 : ∀  (a1 : Option Ptr) (a2 : Int) (a3 : Int) (Q : Bool → Int → Heap → Prop) (h : Heap), frames_Frames_Free.j7  a1 a2 a3 Q h = pts (frames_Frames_Free.E Q [(12, ([0, 1], frames_Frames_Free.k12 (fun a1 a2 h => frames_Frames_Free.j12  a1 a2 Q h)))]) 3000 true (atPos (posC frames_Frames_Free.code []) 7) (frAt [0, 1, 2] [.ptr a1, .int .i64 a2, .int .i64 a3]) h := by
  intros; kernel_rfl

theorem frames_Frames_Free.s7 {W0 : World} (Q : Bool → Int → Heap → Prop)   : CutOK sg W0 68 (entered 36) (Post sg W0 (frames_Frames_Free.ret Q)) (posC frames_Frames_Free.code []) 7 [0, 1, 2] (frames_Frames_Free.k7 (fun a1 a2 a3 h => frames_Frames_Free.j7  a1 a2 a3 Q h)) := by
  refine cutOK_head (fun vs h hk => ?_)
  unfold frames_Frames_Free.k7 at hk
  split at hk
  · rename_i a1 a2 a3
    intro todo hm ρ a w s f hp
    exact piece (E := frames_Frames_Free.E Q [(12, ([0, 1], frames_Frames_Free.k12 (fun a1 a2 h => frames_Frames_Free.j12  a1 a2 Q h)))]) (vs := [.ptr a1, .int .i64 a2, .int .i64 a3]) (envOK seatOK frames_Frames_Free.callsOK noIfc_ok) (fnOK seatOK frames_Frames_Free.fun) ⟨(frames_Frames_Free.s12 Q  ), trivial⟩ frames_Frames_Free.p7 (fuel := 3000) (by rw [← frames_Frames_Free.e7]; exact hk) hm s f hp
  · exact hk.elim

theorem frames_Frames_Free.e : ∀ (a1 : Option Ptr) (a2 : Int) (a3 : Int) (Q : Bool → Int → Heap → Prop) (h : Heap), frames_Frames_Free a1 a2 a3 Q h = pts (frames_Frames_Free.E Q [(7, ([0, 1, 2], frames_Frames_Free.k7 (fun a1 a2 a3 h => frames_Frames_Free.j7  a1 a2 a3 Q h)))]) 3000 true [.code frames_Frames_Free.code] (frOf 0 [.ptr a1, .int .i64 a2, .int .i64 a3]) h := by
  intros; kernel_rfl

theorem frames_Frames_Free.S {W0 : World} : FnS sg W0 272 frames_Frames_Free.C := by
  intro vs κ h wv hx w s
  unfold frames_Frames_Free.C at hx
  split at hx
  · rename_i a1 a2 a3
    refine postImp (ret := frames_Frames_Free.ret (fun r1 r2 h => κ (.tup [.bool r1, .int .i64 r2]) h)) (fun v h hr => by unfold frames_Frames_Free.ret at hr; split at hr; exact hr; exact hr.elim) ?_
    exact calls_of_pts (E := frames_Frames_Free.E (fun r1 r2 h => κ (.tup [.bool r1, .int .i64 r2]) h) [(7, ([0, 1, 2], frames_Frames_Free.k7 (fun a1 a2 a3 h => frames_Frames_Free.j7  a1 a2 a3 (fun r1 r2 h => κ (.tup [.bool r1, .int .i64 r2]) h) h)))]) (envOK seatOK frames_Frames_Free.callsOK noIfc_ok) seatOK.mixed frames_Frames_Free.fun (Nat.le_of_ble_eq_true rfl) wv (cutL_ok ⟨(frames_Frames_Free.s7 (fun r1 r2 h => κ (.tup [.bool r1, .int .i64 r2]) h)), trivial⟩) s (fuel := 3000) (by rw [← frames_Frames_Free.e]; exact hx)
  · exact hx.elim

noncomputable def backend_Block_submit.code : Code := Go.Proofs.Tryd.f56.body.getD .skip

theorem backend_Block_submit.fun : Fun sg.P 56 57 [.tmp 6] backend_Block_submit.code := mkFun Go.Proofs.Tryd.func56 (by kernel_rfl) (by kernel_rfl) (by kernel_rfl) (by kernel_rfl)

def backend_Block_submit.ret (Q : Int → Heap → Prop) (v : V) (h : Heap) : Prop :=
  match v with
  | .int .u8 r1 => Q r1 h
  | _ => False

def backend_Block_submit.C (U : Ifc) (vs : List V) (κ : V → Heap → Prop) (h : Heap) : Prop :=
  match vs with
  | [.ptr a1, .agg [.int .i64 a2, .sl a3], .agg [.int .i64 a4, .bool a5, .int .i64 a6, .int .i64 a7]] => backend_Block_submit U a1 a2 a3 a4 a5 a6 a7 (fun r1 h => κ (.int .u8 r1) h) h
  | _ => False

noncomputable def backend_Block_submit.calls (U : Ifc) : List (Nat × (List V → (V → Heap → Prop) → Heap → Prop)) := [(272, frames_Frames_Free.C), (271, frames_Frames_Hold.C), (82, disk_Disk_Submit.C U)]

noncomputable def backend_Block_submit.E (U : Ifc) (Q : Int → Heap → Prop) (cuts : List (Nat × (List Nat × (List V → Heap → Prop)))) : Env := { tis := tisT, fns := fnsT, tys := tysT, gls := glsT, rts := rtsT, unk := [], nxt := [], calls := backend_Block_submit.calls U, ifc := U, cuts := cuts, ret := backend_Block_submit.ret Q, rets := [.tmp 6], n := 57 }

theorem backend_Block_submit.callsOK {W0 : World} {U : Ifc} (hU : IfcOK sg W0 glsT U) : CallsOK sg W0 (backend_Block_submit.calls U) := ⟨frames_Frames_Free.S, frames_Frames_Hold.S, (disk_Disk_Submit.S hU), trivial⟩

def backend_Block_submit.k5 (I : Heap → Prop) (vs : List V) (h : Heap) : Prop :=
  match vs with
  | [] => I  h
  | _ => False

def backend_Block_submit.k7 (I : (Option Ptr) → Heap → Prop) (vs : List V) (h : Heap) : Prop :=
  match vs with
  | [.ptr a1] => I a1 h
  | _ => False

theorem backend_Block_submit.p5 : (posC backend_Block_submit.code []).filter (fun p => Nat.beq p.1 5) = [(5, atPos (posC backend_Block_submit.code []) 5)] := by kernel_rfl

theorem backend_Block_submit.e5 : ∀ (U : Ifc)   (Q : Int → Heap → Prop) (h : Heap), backend_Block_submit.j5 U   Q h = pts (backend_Block_submit.E U Q []) 3000 true (atPos (posC backend_Block_submit.code []) 5) (frAt [] []) h := by
  intros; kernel_rfl

theorem backend_Block_submit.s5 {W0 : World} {U : Ifc} (hU : IfcOK sg W0 glsT U) (Q : Int → Heap → Prop)   : CutOK sg W0 57 (entered 56) (Post sg W0 (backend_Block_submit.ret Q)) (posC backend_Block_submit.code []) 5 [] (backend_Block_submit.k5 (fun  h => backend_Block_submit.j5 U   Q h)) := by
  refine cutOK_head (fun vs h hk => ?_)
  unfold backend_Block_submit.k5 at hk
  split at hk
  · skip
    intro todo hm ρ a w s f hp
    exact piece (E := backend_Block_submit.E U Q []) (vs := []) (envOK seatOK (backend_Block_submit.callsOK hU) hU) (fnOK seatOK backend_Block_submit.fun) trivial backend_Block_submit.p5 (fuel := 3000) (by rw [← backend_Block_submit.e5]; exact hk) hm s f hp
  · exact hk.elim

theorem backend_Block_submit.p7 : (posC backend_Block_submit.code []).filter (fun p => Nat.beq p.1 7) = [(7, atPos (posC backend_Block_submit.code []) 7)] := by kernel_rfl

theorem backend_Block_submit.e7 : ∀ (U : Ifc)  (a1 : Option Ptr) (Q : Int → Heap → Prop) (h : Heap), backend_Block_submit.j7 U  a1 Q h = pts (backend_Block_submit.E U Q []) 3000 true (atPos (posC backend_Block_submit.code []) 7) (frAt [0] [.ptr a1]) h := by
  intros; kernel_rfl

theorem backend_Block_submit.s7 {W0 : World} {U : Ifc} (hU : IfcOK sg W0 glsT U) (Q : Int → Heap → Prop)   : CutOK sg W0 57 (entered 56) (Post sg W0 (backend_Block_submit.ret Q)) (posC backend_Block_submit.code []) 7 [0] (backend_Block_submit.k7 (fun a1 h => backend_Block_submit.j7 U  a1 Q h)) := by
  refine cutOK_head (fun vs h hk => ?_)
  unfold backend_Block_submit.k7 at hk
  split at hk
  · rename_i a1
    intro todo hm ρ a w s f hp
    exact piece (E := backend_Block_submit.E U Q []) (vs := [.ptr a1]) (envOK seatOK (backend_Block_submit.callsOK hU) hU) (fnOK seatOK backend_Block_submit.fun) trivial backend_Block_submit.p7 (fuel := 3000) (by rw [← backend_Block_submit.e7]; exact hk) hm s f hp
  · exact hk.elim

theorem backend_Block_submit.e : ∀ (U : Ifc) (a1 : Option Ptr) (a2 : Int) (a3 : Sl) (a4 : Int) (a5 : Bool) (a6 : Int) (a7 : Int) (Q : Int → Heap → Prop) (h : Heap), backend_Block_submit U a1 a2 a3 a4 a5 a6 a7 Q h = pts (backend_Block_submit.E U Q [(5, ([], backend_Block_submit.k5 (fun  h => backend_Block_submit.j5 U   Q h))), (7, ([0], backend_Block_submit.k7 (fun a1 h => backend_Block_submit.j7 U  a1 Q h)))]) 3000 true [.code backend_Block_submit.code] (frOf 0 [.ptr a1, .agg [.int .i64 a2, .sl a3], .agg [.int .i64 a4, .bool a5, .int .i64 a6, .int .i64 a7]]) h := by
  intros; kernel_rfl

theorem backend_Block_submit.S {W0 : World} {U : Ifc} (hU : IfcOK sg W0 glsT U) : FnS sg W0 273 (backend_Block_submit.C U) := by
  intro vs κ h wv hx w s
  unfold backend_Block_submit.C at hx
  split at hx
  · rename_i a1 a2 a3 a4 a5 a6 a7
    refine postImp (ret := backend_Block_submit.ret (fun r1 h => κ (.int .u8 r1) h)) (fun v h hr => by unfold backend_Block_submit.ret at hr; split at hr; exact hr; exact hr.elim) ?_
    exact calls_of_pts (E := backend_Block_submit.E U (fun r1 h => κ (.int .u8 r1) h) [(5, ([], backend_Block_submit.k5 (fun  h => backend_Block_submit.j5 U   (fun r1 h => κ (.int .u8 r1) h) h))), (7, ([0], backend_Block_submit.k7 (fun a1 h => backend_Block_submit.j7 U  a1 (fun r1 h => κ (.int .u8 r1) h) h)))]) (envOK seatOK (backend_Block_submit.callsOK hU) hU) seatOK.mixed backend_Block_submit.fun (Nat.le_of_ble_eq_true rfl) wv (cutL_ok ⟨(backend_Block_submit.s5 hU (fun r1 h => κ (.int .u8 r1) h)), (backend_Block_submit.s7 hU (fun r1 h => κ (.int .u8 r1) h)), trivial⟩) s (fuel := 3000) (by rw [← backend_Block_submit.e]; exact hx)
  · exact hx.elim

noncomputable def backend_tell.code : Code := Go.Proofs.Tryd.f58.body.getD .skip

theorem backend_tell.fun : Fun sg.P 58 27 [.tmp 6] backend_tell.code := mkFun Go.Proofs.Tryd.func58 (by kernel_rfl) (by kernel_rfl) (by kernel_rfl) (by kernel_rfl)

def backend_tell.ret (Q : Int → Heap → Prop) (v : V) (h : Heap) : Prop :=
  match v with
  | .int .i64 r1 => Q r1 h
  | _ => False

def backend_tell.C (U : Ifc) (vs : List V) (κ : V → Heap → Prop) (h : Heap) : Prop :=
  match vs with
  | [a1, .agg [.int .i64 a2, .sl a3], .int .u8 a4] => backend_tell U a1 a2 a3 a4 (fun r1 h => κ (.int .i64 r1) h) h
  | _ => False

noncomputable def backend_tell.calls (U : Ifc) : List (Nat × (List V → (V → Heap → Prop) → Heap → Prop)) := []

noncomputable def backend_tell.E (U : Ifc) (Q : Int → Heap → Prop) (cuts : List (Nat × (List Nat × (List V → Heap → Prop)))) : Env := { tis := tisT, fns := fnsT, tys := tysT, gls := glsT, rts := rtsT, unk := [], nxt := [], calls := backend_tell.calls U, ifc := U, cuts := cuts, ret := backend_tell.ret Q, rets := [.tmp 6], n := 27 }

theorem backend_tell.callsOK {W0 : World} {U : Ifc} (hU : IfcOK sg W0 glsT U) : CallsOK sg W0 (backend_tell.calls U) := trivial

theorem backend_tell.e : ∀ (U : Ifc) (a1 : V) (a2 : Int) (a3 : Sl) (a4 : Int) (Q : Int → Heap → Prop) (h : Heap), backend_tell U a1 a2 a3 a4 Q h = pts (backend_tell.E U Q []) 3000 true [.code backend_tell.code] (frOf 0 [a1, .agg [.int .i64 a2, .sl a3], .int .u8 a4]) h := by
  intros; kernel_rfl

theorem backend_tell.S {W0 : World} {U : Ifc} (hU : IfcOK sg W0 glsT U) : FnS sg W0 274 (backend_tell.C U) := by
  intro vs κ h wv hx w s
  unfold backend_tell.C at hx
  split at hx
  · rename_i a1 a2 a3 a4
    refine postImp (ret := backend_tell.ret (fun r1 h => κ (.int .i64 r1) h)) (fun v h hr => by unfold backend_tell.ret at hr; split at hr; exact hr; exact hr.elim) ?_
    exact calls_of_pts (E := backend_tell.E U (fun r1 h => κ (.int .i64 r1) h) []) (envOK seatOK (backend_tell.callsOK hU) hU) seatOK.mixed backend_tell.fun (Nat.le_of_ble_eq_true rfl) wv (cutL_ok trivial) s (fuel := 3000) (by rw [← backend_tell.e]; exact hx)
  · exact hx.elim

noncomputable def ring_Ring_Push.code : Code := Go.Proofs.Tryd.f57.body.getD .skip

theorem ring_Ring_Push.fun : Fun sg.P 57 111 [.tmp 8] ring_Ring_Push.code := mkFun Go.Proofs.Tryd.func57 (by kernel_rfl) (by kernel_rfl) (by kernel_rfl) (by kernel_rfl)

def ring_Ring_Push.ret (Q : Int → Heap → Prop) (v : V) (h : Heap) : Prop :=
  match v with
  | .int .i64 r1 => Q r1 h
  | _ => False

def ring_Ring_Push.C (U : Ifc) (vs : List V) (κ : V → Heap → Prop) (h : Heap) : Prop :=
  match vs with
  | [.ptr a1, a2, .int .i64 a3, .int .i64 a4] => ring_Ring_Push U a1 a2 a3 a4 (fun r1 h => κ (.int .i64 r1) h) h
  | _ => False

noncomputable def ring_Ring_Push.calls (U : Ifc) : List (Nat × (List V → (V → Heap → Prop) → Heap → Prop)) := [(30, ring_Ring_usable.C)]

noncomputable def ring_Ring_Push.E (U : Ifc) (Q : Int → Heap → Prop) (cuts : List (Nat × (List Nat × (List V → Heap → Prop)))) : Env := { tis := tisT, fns := fnsT, tys := tysT, gls := glsT, rts := rtsT, unk := [], nxt := [], calls := ring_Ring_Push.calls U, ifc := U, cuts := cuts, ret := ring_Ring_Push.ret Q, rets := [.tmp 8], n := 111 }

theorem ring_Ring_Push.callsOK {W0 : World} {U : Ifc} (hU : IfcOK sg W0 glsT U) : CallsOK sg W0 (ring_Ring_Push.calls U) := ⟨ring_Ring_usable.S, trivial⟩

def ring_Ring_Push.k5 (I : Heap → Prop) (vs : List V) (h : Heap) : Prop :=
  match vs with
  | [] => I  h
  | _ => False

def ring_Ring_Push.k7 (I : Heap → Prop) (vs : List V) (h : Heap) : Prop :=
  match vs with
  | [] => I  h
  | _ => False

def ring_Ring_Push.k11 (I : (Option Ptr) → V → Sl → Int → Int → Heap → Prop) (vs : List V) (h : Heap) : Prop :=
  match vs with
  | [.ptr a1, a2, .sl a3, .int .i64 a4, .int .i64 a5] => I a1 a2 a3 a4 a5 h
  | _ => False

def ring_Ring_Push.k10 (I : (Option Ptr) → V → Int → Int → Int → Int → Heap → Prop) (vs : List V) (h : Heap) : Prop :=
  match vs with
  | [.ptr a1, a2, .int .i64 a3, .int .i64 a4, .int .u64 a5, .int .u64 a6] => I a1 a2 a3 a4 a5 a6 h
  | _ => False

def ring_Ring_Push.k8 (I : (Option Ptr) → V → Int → Int → Heap → Prop) (vs : List V) (h : Heap) : Prop :=
  match vs with
  | [.ptr a1, a2, .int .i64 a3, .int .i64 a4] => I a1 a2 a3 a4 h
  | _ => False

theorem ring_Ring_Push.p5 : (posC ring_Ring_Push.code []).filter (fun p => Nat.beq p.1 5) = [(5, atPos (posC ring_Ring_Push.code []) 5)] := by kernel_rfl

theorem ring_Ring_Push.e5 : ∀ (U : Ifc)   (Q : Int → Heap → Prop) (h : Heap), ring_Ring_Push.j5 U   Q h = pts (ring_Ring_Push.E U Q []) 3000 true (atPos (posC ring_Ring_Push.code []) 5) (frAt [] []) h := by
  intros; kernel_rfl

theorem ring_Ring_Push.s5 {W0 : World} {U : Ifc} (hU : IfcOK sg W0 glsT U) (Q : Int → Heap → Prop)   : CutOK sg W0 111 (entered 57) (Post sg W0 (ring_Ring_Push.ret Q)) (posC ring_Ring_Push.code []) 5 [] (ring_Ring_Push.k5 (fun  h => ring_Ring_Push.j5 U   Q h)) := by
  refine cutOK_head (fun vs h hk => ?_)
  unfold ring_Ring_Push.k5 at hk
  split at hk
  · skip
    intro todo hm ρ a w s f hp
    exact piece (E := ring_Ring_Push.E U Q []) (vs := []) (envOK seatOK (ring_Ring_Push.callsOK hU) hU) (fnOK seatOK ring_Ring_Push.fun) trivial ring_Ring_Push.p5 (fuel := 3000) (by rw [← ring_Ring_Push.e5]; exact hk) hm s f hp
  · exact hk.elim

theorem ring_Ring_Push.p7 : (posC ring_Ring_Push.code []).filter (fun p => Nat.beq p.1 7) = [(7, atPos (posC ring_Ring_Push.code []) 7)] := by kernel_rfl

theorem ring_Ring_Push.e7 : ∀ (U : Ifc)   (Q : Int → Heap → Prop) (h : Heap), ring_Ring_Push.j7 U   Q h = pts (ring_Ring_Push.E U Q []) 3000 true (atPos (posC ring_Ring_Push.code []) 7) (frAt [] []) h := by
  intros; kernel_rfl

theorem ring_Ring_Push.s7 {W0 : World} {U : Ifc} (hU : IfcOK sg W0 glsT U) (Q : Int → Heap → Prop)   : CutOK sg W0 111 (entered 57) (Post sg W0 (ring_Ring_Push.ret Q)) (posC ring_Ring_Push.code []) 7 [] (ring_Ring_Push.k7 (fun  h => ring_Ring_Push.j7 U   Q h)) := by
  refine cutOK_head (fun vs h hk => ?_)
  unfold ring_Ring_Push.k7 at hk
  split at hk
  · skip
    intro todo hm ρ a w s f hp
    exact piece (E := ring_Ring_Push.E U Q []) (vs := []) (envOK seatOK (ring_Ring_Push.callsOK hU) hU) (fnOK seatOK ring_Ring_Push.fun) trivial ring_Ring_Push.p7 (fuel := 3000) (by rw [← ring_Ring_Push.e7]; exact hk) hm s f hp
  · exact hk.elim

theorem ring_Ring_Push.p11 : (posC ring_Ring_Push.code []).filter (fun p => Nat.beq p.1 11) = [(11, atPos (posC ring_Ring_Push.code []) 11)] := by kernel_rfl

theorem ring_Ring_Push.e11 : ∀ (U : Ifc)  (I11 : (Option Ptr) → V → Sl → Int → Int → Heap → Prop) (a1 : Option Ptr) (a2 : V) (a3 : Sl) (a4 : Int) (a5 : Int) (Q : Int → Heap → Prop) (h : Heap), ring_Ring_Push.b11 U  I11 a1 a2 a3 a4 a5 Q h = pts (ring_Ring_Push.E U Q [(11, ([0, 1, 87, 88, 89], ring_Ring_Push.k11 I11))]) 3000 true (atPos (posC ring_Ring_Push.code []) 11) (frAt [0, 1, 87, 88, 89] [.ptr a1, a2, .sl a3, .int .i64 a4, .int .i64 a5]) h := by
  intros; kernel_rfl

theorem ring_Ring_Push.s11 {W0 : World} {U : Ifc} (hU : IfcOK sg W0 glsT U) (Q : Int → Heap → Prop)   : CutOK sg W0 111 (entered 57) (Post sg W0 (ring_Ring_Push.ret Q)) (posC ring_Ring_Push.code []) 11 [0, 1, 87, 88, 89] (ring_Ring_Push.k11 (fun a1 a2 a3 a4 a5 h => ring_Ring_Push.j11 U  a1 a2 a3 a4 a5 Q h)) := by
  refine cutOK_head (fun vs h hk => ?_)
  unfold ring_Ring_Push.k11 at hk
  split at hk
  · rename_i a1 a2 a3 a4 a5
    refine hk (fun a1 a2 a3 a4 a5 h => Head sg W0 111 (entered 57) (Post sg W0 (ring_Ring_Push.ret Q)) (posC ring_Ring_Push.code []) 11 [0, 1, 87, 88, 89] [.ptr a1, a2, .sl a3, .int .i64 a4, .int .i64 a5] h) ?_
    intro a1 a2 a3 a4 a5 h hb todo hm ρ a w s f hp
    have hself : CutOK sg W0 111 (entered 57) (Post sg W0 (ring_Ring_Push.ret Q)) (posC ring_Ring_Push.code []) 11 [0, 1, 87, 88, 89] (ring_Ring_Push.k11 (fun a1 a2 a3 a4 a5 h => Head sg W0 111 (entered 57) (Post sg W0 (ring_Ring_Push.ret Q)) (posC ring_Ring_Push.code []) 11 [0, 1, 87, 88, 89] [.ptr a1, a2, .sl a3, .int .i64 a4, .int .i64 a5] h)) := cutOK_head (fun vs h hk => by unfold ring_Ring_Push.k11 at hk; split at hk; exact hk; exact hk.elim)
    exact piece (E := ring_Ring_Push.E U Q [(11, ([0, 1, 87, 88, 89], ring_Ring_Push.k11 (fun a1 a2 a3 a4 a5 h => Head sg W0 111 (entered 57) (Post sg W0 (ring_Ring_Push.ret Q)) (posC ring_Ring_Push.code []) 11 [0, 1, 87, 88, 89] [.ptr a1, a2, .sl a3, .int .i64 a4, .int .i64 a5] h)))]) (vs := [.ptr a1, a2, .sl a3, .int .i64 a4, .int .i64 a5]) (envOK seatOK (ring_Ring_Push.callsOK hU) hU) (fnOK seatOK ring_Ring_Push.fun) ⟨hself, trivial⟩ ring_Ring_Push.p11 (fuel := 3000) (by rw [← ring_Ring_Push.e11]; exact hb) hm s f hp
  · exact hk.elim

theorem ring_Ring_Push.p10 : (posC ring_Ring_Push.code []).filter (fun p => Nat.beq p.1 10) = [(10, atPos (posC ring_Ring_Push.code []) 10)] := by kernel_rfl

theorem ring_Ring_Push.e10 : ∀ (U : Ifc)  (a1 : Option Ptr) (a2 : V) (a3 : Int) (a4 : Int) (a5 : Int) (a6 : Int) (Q : Int → Heap → Prop) (h : Heap), ring_Ring_Push.j10 U  a1 a2 a3 a4 a5 a6 Q h = pts (ring_Ring_Push.E U Q [(11, ([0, 1, 87, 88, 89], ring_Ring_Push.k11 (fun a1 a2 a3 a4 a5 h => ring_Ring_Push.j11 U  a1 a2 a3 a4 a5 Q h)))]) 3000 true (atPos (posC ring_Ring_Push.code []) 10) (frAt [0, 1, 2, 3, 10, 11] [.ptr a1, a2, .int .i64 a3, .int .i64 a4, .int .u64 a5, .int .u64 a6]) h := by
  intros; kernel_rfl

theorem ring_Ring_Push.s10 {W0 : World} {U : Ifc} (hU : IfcOK sg W0 glsT U) (Q : Int → Heap → Prop)   : CutOK sg W0 111 (entered 57) (Post sg W0 (ring_Ring_Push.ret Q)) (posC ring_Ring_Push.code []) 10 [0, 1, 2, 3, 10, 11] (ring_Ring_Push.k10 (fun a1 a2 a3 a4 a5 a6 h => ring_Ring_Push.j10 U  a1 a2 a3 a4 a5 a6 Q h)) := by
  refine cutOK_head (fun vs h hk => ?_)
  unfold ring_Ring_Push.k10 at hk
  split at hk
  · rename_i a1 a2 a3 a4 a5 a6
    intro todo hm ρ a w s f hp
    exact piece (E := ring_Ring_Push.E U Q [(11, ([0, 1, 87, 88, 89], ring_Ring_Push.k11 (fun a1 a2 a3 a4 a5 h => ring_Ring_Push.j11 U  a1 a2 a3 a4 a5 Q h)))]) (vs := [.ptr a1, a2, .int .i64 a3, .int .i64 a4, .int .u64 a5, .int .u64 a6]) (envOK seatOK (ring_Ring_Push.callsOK hU) hU) (fnOK seatOK ring_Ring_Push.fun) ⟨(ring_Ring_Push.s11 hU Q  ), trivial⟩ ring_Ring_Push.p10 (fuel := 3000) (by rw [← ring_Ring_Push.e10]; exact hk) hm s f hp
  · exact hk.elim

theorem ring_Ring_Push.p8 : (posC ring_Ring_Push.code []).filter (fun p => Nat.beq p.1 8) = [(8, atPos (posC ring_Ring_Push.code []) 8)] := by kernel_rfl

theorem ring_Ring_Push.e8 : ∀ (U : Ifc)  (a1 : Option Ptr) (a2 : V) (a3 : Int) (a4 : Int) (Q : Int → Heap → Prop) (h : Heap), ring_Ring_Push.j8 U  a1 a2 a3 a4 Q h = pts (ring_Ring_Push.E U Q [(10, ([0, 1, 2, 3, 10, 11], ring_Ring_Push.k10 (fun a1 a2 a3 a4 a5 a6 h => ring_Ring_Push.j10 U  a1 a2 a3 a4 a5 a6 Q h)))]) 3000 true (atPos (posC ring_Ring_Push.code []) 8) (frAt [0, 1, 2, 3] [.ptr a1, a2, .int .i64 a3, .int .i64 a4]) h := by
  intros; kernel_rfl

theorem ring_Ring_Push.s8 {W0 : World} {U : Ifc} (hU : IfcOK sg W0 glsT U) (Q : Int → Heap → Prop)   : CutOK sg W0 111 (entered 57) (Post sg W0 (ring_Ring_Push.ret Q)) (posC ring_Ring_Push.code []) 8 [0, 1, 2, 3] (ring_Ring_Push.k8 (fun a1 a2 a3 a4 h => ring_Ring_Push.j8 U  a1 a2 a3 a4 Q h)) := by
  refine cutOK_head (fun vs h hk => ?_)
  unfold ring_Ring_Push.k8 at hk
  split at hk
  · rename_i a1 a2 a3 a4
    intro todo hm ρ a w s f hp
    exact piece (E := ring_Ring_Push.E U Q [(10, ([0, 1, 2, 3, 10, 11], ring_Ring_Push.k10 (fun a1 a2 a3 a4 a5 a6 h => ring_Ring_Push.j10 U  a1 a2 a3 a4 a5 a6 Q h)))]) (vs := [.ptr a1, a2, .int .i64 a3, .int .i64 a4]) (envOK seatOK (ring_Ring_Push.callsOK hU) hU) (fnOK seatOK ring_Ring_Push.fun) ⟨(ring_Ring_Push.s10 hU Q  ), trivial⟩ ring_Ring_Push.p8 (fuel := 3000) (by rw [← ring_Ring_Push.e8]; exact hk) hm s f hp
  · exact hk.elim

theorem ring_Ring_Push.e : ∀ (U : Ifc) (a1 : Option Ptr) (a2 : V) (a3 : Int) (a4 : Int) (Q : Int → Heap → Prop) (h : Heap), ring_Ring_Push U a1 a2 a3 a4 Q h = pts (ring_Ring_Push.E U Q [(5, ([], ring_Ring_Push.k5 (fun  h => ring_Ring_Push.j5 U   Q h))), (7, ([], ring_Ring_Push.k7 (fun  h => ring_Ring_Push.j7 U   Q h))), (8, ([0, 1, 2, 3], ring_Ring_Push.k8 (fun a1 a2 a3 a4 h => ring_Ring_Push.j8 U  a1 a2 a3 a4 Q h)))]) 3000 true [.code ring_Ring_Push.code] (frOf 0 [.ptr a1, a2, .int .i64 a3, .int .i64 a4]) h := by
  intros; kernel_rfl

theorem ring_Ring_Push.S {W0 : World} {U : Ifc} (hU : IfcOK sg W0 glsT U) : FnS sg W0 78 (ring_Ring_Push.C U) := by
  intro vs κ h wv hx w s
  unfold ring_Ring_Push.C at hx
  split at hx
  · rename_i a1 a2 a3 a4
    refine postImp (ret := ring_Ring_Push.ret (fun r1 h => κ (.int .i64 r1) h)) (fun v h hr => by unfold ring_Ring_Push.ret at hr; split at hr; exact hr; exact hr.elim) ?_
    exact calls_of_pts (E := ring_Ring_Push.E U (fun r1 h => κ (.int .i64 r1) h) [(5, ([], ring_Ring_Push.k5 (fun  h => ring_Ring_Push.j5 U   (fun r1 h => κ (.int .i64 r1) h) h))), (7, ([], ring_Ring_Push.k7 (fun  h => ring_Ring_Push.j7 U   (fun r1 h => κ (.int .i64 r1) h) h))), (8, ([0, 1, 2, 3], ring_Ring_Push.k8 (fun a1 a2 a3 a4 h => ring_Ring_Push.j8 U  a1 a2 a3 a4 (fun r1 h => κ (.int .i64 r1) h) h)))]) (envOK seatOK (ring_Ring_Push.callsOK hU) hU) seatOK.mixed ring_Ring_Push.fun (Nat.le_of_ble_eq_true rfl) wv (cutL_ok ⟨(ring_Ring_Push.s5 hU (fun r1 h => κ (.int .i64 r1) h)), (ring_Ring_Push.s7 hU (fun r1 h => κ (.int .i64 r1) h)), (ring_Ring_Push.s8 hU (fun r1 h => κ (.int .i64 r1) h)), trivial⟩) s (fuel := 3000) (by rw [← ring_Ring_Push.e]; exact hx)
  · exact hx.elim

noncomputable def backend_Block_Kick.code : Code := Go.Proofs.Tryd.f20.body.getD .skip

theorem backend_Block_Kick.fun : Fun sg.P 20 74 [.tmp 4, .tmp 5] backend_Block_Kick.code := mkFun Go.Proofs.Tryd.func20 (by kernel_rfl) (by kernel_rfl) (by kernel_rfl) (by kernel_rfl)

def backend_Block_Kick.ret (Q : Int → Int → Heap → Prop) (v : V) (h : Heap) : Prop :=
  match v with
  | .tup [.int .i64 r1, .int .i64 r2] => Q r1 r2 h
  | _ => False

def backend_Block_Kick.C (U : Ifc) (vs : List V) (κ : V → Heap → Prop) (h : Heap) : Prop :=
  match vs with
  | [.ptr a1, a2] => backend_Block_Kick U a1 a2 (fun r1 r2 h => κ (.tup [.int .i64 r1, .int .i64 r2]) h) h
  | _ => False

noncomputable def backend_Block_Kick.calls (U : Ifc) : List (Nat × (List V → (V → Heap → Prop) → Heap → Prop)) := [(266, backend_Block_none.C), (77, ring_Ring_Next.C U), (269, backend_Block_ask.C U), (273, backend_Block_submit.C U), (78, ring_Ring_Push.C U), (274, backend_tell.C U)]

noncomputable def backend_Block_Kick.E (U : Ifc) (Q : Int → Int → Heap → Prop) (cuts : List (Nat × (List Nat × (List V → Heap → Prop)))) : Env := { tis := tisT, fns := fnsT, tys := tysT, gls := glsT, rts := rtsT, unk := [], nxt := [], calls := backend_Block_Kick.calls U, ifc := U, cuts := cuts, ret := backend_Block_Kick.ret Q, rets := [.tmp 4, .tmp 5], n := 74 }

theorem backend_Block_Kick.callsOK {W0 : World} {U : Ifc} (hU : IfcOK sg W0 glsT U) : CallsOK sg W0 (backend_Block_Kick.calls U) := ⟨backend_Block_none.S, (ring_Ring_Next.S hU), (backend_Block_ask.S hU), (backend_Block_submit.S hU), (ring_Ring_Push.S hU), (backend_tell.S hU), trivial⟩

def backend_Block_Kick.k7 (I : Int → Int → Heap → Prop) (vs : List V) (h : Heap) : Prop :=
  match vs with
  | [.int .i64 a1, .int .i64 a2] => I a1 a2 h
  | _ => False

def backend_Block_Kick.k11 (I : (Option Ptr) → V → Int → Ptr → Int → Heap → Prop) (vs : List V) (h : Heap) : Prop :=
  match vs with
  | [.ptr a1, a2, .int .i64 a3, .ptr (some a4), .int .u8 a5] => I a1 a2 a3 a4 a5 h
  | _ => False

def backend_Block_Kick.k8 (I : (Option Ptr) → V → Int → Ptr → Heap → Prop) (vs : List V) (h : Heap) : Prop :=
  match vs with
  | [.ptr a1, a2, .int .i64 a3, .ptr (some a4)] => I a1 a2 a3 a4 h
  | _ => False

def backend_Block_Kick.k4 (I : (Option Ptr) → V → Int → Heap → Prop) (vs : List V) (h : Heap) : Prop :=
  match vs with
  | [.ptr a1, a2, .int .i64 a3] => I a1 a2 a3 h
  | _ => False

theorem backend_Block_Kick.p7 : (posC backend_Block_Kick.code []).filter (fun p => Nat.beq p.1 7) = [(7, atPos (posC backend_Block_Kick.code []) 7)] := by kernel_rfl

theorem backend_Block_Kick.e7 : ∀ (U : Ifc) (I4 : (Option Ptr) → V → Int → Heap → Prop) (a1 : Int) (a2 : Int) (Q : Int → Int → Heap → Prop) (h : Heap), backend_Block_Kick.j7 U I4 a1 a2 Q h = pts (backend_Block_Kick.E U Q []) 3000 true (atPos (posC backend_Block_Kick.code []) 7) (frAt [6, 9] [.int .i64 a1, .int .i64 a2]) h := by
  intros; kernel_rfl

theorem backend_Block_Kick.s7 {W0 : World} {U : Ifc} (hU : IfcOK sg W0 glsT U) (Q : Int → Int → Heap → Prop) (I4 : (Option Ptr) → V → Int → Heap → Prop) (h4 : CutOK sg W0 74 (entered 20) (Post sg W0 (backend_Block_Kick.ret Q)) (posC backend_Block_Kick.code []) 4 [0, 1, 6] (backend_Block_Kick.k4 I4)) : CutOK sg W0 74 (entered 20) (Post sg W0 (backend_Block_Kick.ret Q)) (posC backend_Block_Kick.code []) 7 [6, 9] (backend_Block_Kick.k7 (fun a1 a2 h => backend_Block_Kick.j7 U I4 a1 a2 Q h)) := by
  refine cutOK_head (fun vs h hk => ?_)
  unfold backend_Block_Kick.k7 at hk
  split at hk
  · rename_i a1 a2
    intro todo hm ρ a w s f hp
    exact piece (E := backend_Block_Kick.E U Q []) (vs := [.int .i64 a1, .int .i64 a2]) (envOK seatOK (backend_Block_Kick.callsOK hU) hU) (fnOK seatOK backend_Block_Kick.fun) trivial backend_Block_Kick.p7 (fuel := 3000) (by rw [← backend_Block_Kick.e7]; exact hk) hm s f hp
  · exact hk.elim

theorem backend_Block_Kick.p11 : (posC backend_Block_Kick.code []).filter (fun p => Nat.beq p.1 11) = [(11, atPos (posC backend_Block_Kick.code []) 11)] := by kernel_rfl

theorem backend_Block_Kick.e11 : ∀ (U : Ifc) (I4 : (Option Ptr) → V → Int → Heap → Prop) (a1 : Option Ptr) (a2 : V) (a3 : Int) (a4 : Ptr) (a5 : Int) (Q : Int → Int → Heap → Prop) (h : Heap), backend_Block_Kick.j11 U I4 a1 a2 a3 a4 a5 Q h = pts (backend_Block_Kick.E U Q [(4, ([0, 1, 6], backend_Block_Kick.k4 I4))]) 3000 true (atPos (posC backend_Block_Kick.code []) 11) (frAt [0, 1, 6, 7, 11] [.ptr a1, a2, .int .i64 a3, .ptr (some a4), .int .u8 a5]) h := by
  intros; kernel_rfl

theorem backend_Block_Kick.s11 {W0 : World} {U : Ifc} (hU : IfcOK sg W0 glsT U) (Q : Int → Int → Heap → Prop) (I4 : (Option Ptr) → V → Int → Heap → Prop) (h4 : CutOK sg W0 74 (entered 20) (Post sg W0 (backend_Block_Kick.ret Q)) (posC backend_Block_Kick.code []) 4 [0, 1, 6] (backend_Block_Kick.k4 I4)) : CutOK sg W0 74 (entered 20) (Post sg W0 (backend_Block_Kick.ret Q)) (posC backend_Block_Kick.code []) 11 [0, 1, 6, 7, 11] (backend_Block_Kick.k11 (fun a1 a2 a3 a4 a5 h => backend_Block_Kick.j11 U I4 a1 a2 a3 a4 a5 Q h)) := by
  refine cutOK_head (fun vs h hk => ?_)
  unfold backend_Block_Kick.k11 at hk
  split at hk
  · rename_i a1 a2 a3 a4 a5
    intro todo hm ρ a w s f hp
    exact piece (E := backend_Block_Kick.E U Q [(4, ([0, 1, 6], backend_Block_Kick.k4 I4))]) (vs := [.ptr a1, a2, .int .i64 a3, .ptr (some a4), .int .u8 a5]) (envOK seatOK (backend_Block_Kick.callsOK hU) hU) (fnOK seatOK backend_Block_Kick.fun) ⟨h4, trivial⟩ backend_Block_Kick.p11 (fuel := 3000) (by rw [← backend_Block_Kick.e11]; exact hk) hm s f hp
  · exact hk.elim

theorem backend_Block_Kick.p8 : (posC backend_Block_Kick.code []).filter (fun p => Nat.beq p.1 8) = [(8, atPos (posC backend_Block_Kick.code []) 8)] := by kernel_rfl

theorem backend_Block_Kick.e8 : ∀ (U : Ifc) (I4 : (Option Ptr) → V → Int → Heap → Prop) (a1 : Option Ptr) (a2 : V) (a3 : Int) (a4 : Ptr) (Q : Int → Int → Heap → Prop) (h : Heap), backend_Block_Kick.j8 U I4 a1 a2 a3 a4 Q h = pts (backend_Block_Kick.E U Q [(11, ([0, 1, 6, 7, 11], backend_Block_Kick.k11 (fun a1 a2 a3 a4 a5 h => backend_Block_Kick.j11 U I4 a1 a2 a3 a4 a5 Q h)))]) 3000 true (atPos (posC backend_Block_Kick.code []) 8) (frAt [0, 1, 6, 7] [.ptr a1, a2, .int .i64 a3, .ptr (some a4)]) h := by
  intros; kernel_rfl

theorem backend_Block_Kick.s8 {W0 : World} {U : Ifc} (hU : IfcOK sg W0 glsT U) (Q : Int → Int → Heap → Prop) (I4 : (Option Ptr) → V → Int → Heap → Prop) (h4 : CutOK sg W0 74 (entered 20) (Post sg W0 (backend_Block_Kick.ret Q)) (posC backend_Block_Kick.code []) 4 [0, 1, 6] (backend_Block_Kick.k4 I4)) : CutOK sg W0 74 (entered 20) (Post sg W0 (backend_Block_Kick.ret Q)) (posC backend_Block_Kick.code []) 8 [0, 1, 6, 7] (backend_Block_Kick.k8 (fun a1 a2 a3 a4 h => backend_Block_Kick.j8 U I4 a1 a2 a3 a4 Q h)) := by
  refine cutOK_head (fun vs h hk => ?_)
  unfold backend_Block_Kick.k8 at hk
  split at hk
  · rename_i a1 a2 a3 a4
    intro todo hm ρ a w s f hp
    exact piece (E := backend_Block_Kick.E U Q [(11, ([0, 1, 6, 7, 11], backend_Block_Kick.k11 (fun a1 a2 a3 a4 a5 h => backend_Block_Kick.j11 U I4 a1 a2 a3 a4 a5 Q h)))]) (vs := [.ptr a1, a2, .int .i64 a3, .ptr (some a4)]) (envOK seatOK (backend_Block_Kick.callsOK hU) hU) (fnOK seatOK backend_Block_Kick.fun) ⟨(backend_Block_Kick.s11 hU Q I4 h4), trivial⟩ backend_Block_Kick.p8 (fuel := 3000) (by rw [← backend_Block_Kick.e8]; exact hk) hm s f hp
  · exact hk.elim

theorem backend_Block_Kick.p4 : (posC backend_Block_Kick.code []).filter (fun p => Nat.beq p.1 4) = [(4, atPos (posC backend_Block_Kick.code []) 4)] := by kernel_rfl

theorem backend_Block_Kick.e4 : ∀ (U : Ifc)  (I4 : (Option Ptr) → V → Int → Heap → Prop) (a1 : Option Ptr) (a2 : V) (a3 : Int) (Q : Int → Int → Heap → Prop) (h : Heap), backend_Block_Kick.b4 U  I4 a1 a2 a3 Q h = pts (backend_Block_Kick.E U Q [(7, ([6, 9], backend_Block_Kick.k7 (fun a1 a2 h => backend_Block_Kick.j7 U I4 a1 a2 Q h))), (8, ([0, 1, 6, 7], backend_Block_Kick.k8 (fun a1 a2 a3 a4 h => backend_Block_Kick.j8 U I4 a1 a2 a3 a4 Q h)))]) 3000 true (atPos (posC backend_Block_Kick.code []) 4) (frAt [0, 1, 6] [.ptr a1, a2, .int .i64 a3]) h := by
  intros; kernel_rfl

theorem backend_Block_Kick.s4 {W0 : World} {U : Ifc} (hU : IfcOK sg W0 glsT U) (Q : Int → Int → Heap → Prop)   : CutOK sg W0 74 (entered 20) (Post sg W0 (backend_Block_Kick.ret Q)) (posC backend_Block_Kick.code []) 4 [0, 1, 6] (backend_Block_Kick.k4 (fun a1 a2 a3 h => backend_Block_Kick.j4 U  a1 a2 a3 Q h)) := by
  refine cutOK_head (fun vs h hk => ?_)
  unfold backend_Block_Kick.k4 at hk
  split at hk
  · rename_i a1 a2 a3
    refine hk (fun a1 a2 a3 h => Head sg W0 74 (entered 20) (Post sg W0 (backend_Block_Kick.ret Q)) (posC backend_Block_Kick.code []) 4 [0, 1, 6] [.ptr a1, a2, .int .i64 a3] h) ?_
    intro a1 a2 a3 h hb todo hm ρ a w s f hp
    have hself : CutOK sg W0 74 (entered 20) (Post sg W0 (backend_Block_Kick.ret Q)) (posC backend_Block_Kick.code []) 4 [0, 1, 6] (backend_Block_Kick.k4 (fun a1 a2 a3 h => Head sg W0 74 (entered 20) (Post sg W0 (backend_Block_Kick.ret Q)) (posC backend_Block_Kick.code []) 4 [0, 1, 6] [.ptr a1, a2, .int .i64 a3] h)) := cutOK_head (fun vs h hk => by unfold backend_Block_Kick.k4 at hk; split at hk; exact hk; exact hk.elim)
    exact piece (E := backend_Block_Kick.E U Q [(7, ([6, 9], backend_Block_Kick.k7 (fun a1 a2 h => backend_Block_Kick.j7 U (fun a1 a2 a3 h => Head sg W0 74 (entered 20) (Post sg W0 (backend_Block_Kick.ret Q)) (posC backend_Block_Kick.code []) 4 [0, 1, 6] [.ptr a1, a2, .int .i64 a3] h) a1 a2 Q h))), (8, ([0, 1, 6, 7], backend_Block_Kick.k8 (fun a1 a2 a3 a4 h => backend_Block_Kick.j8 U (fun a1 a2 a3 h => Head sg W0 74 (entered 20) (Post sg W0 (backend_Block_Kick.ret Q)) (posC backend_Block_Kick.code []) 4 [0, 1, 6] [.ptr a1, a2, .int .i64 a3] h) a1 a2 a3 a4 Q h)))]) (vs := [.ptr a1, a2, .int .i64 a3]) (envOK seatOK (backend_Block_Kick.callsOK hU) hU) (fnOK seatOK backend_Block_Kick.fun) ⟨(backend_Block_Kick.s7 hU Q (fun a1 a2 a3 h => Head sg W0 74 (entered 20) (Post sg W0 (backend_Block_Kick.ret Q)) (posC backend_Block_Kick.code []) 4 [0, 1, 6] [.ptr a1, a2, .int .i64 a3] h) hself), (backend_Block_Kick.s8 hU Q (fun a1 a2 a3 h => Head sg W0 74 (entered 20) (Post sg W0 (backend_Block_Kick.ret Q)) (posC backend_Block_Kick.code []) 4 [0, 1, 6] [.ptr a1, a2, .int .i64 a3] h) hself), trivial⟩ backend_Block_Kick.p4 (fuel := 3000) (by rw [← backend_Block_Kick.e4]; exact hb) hm s f hp
  · exact hk.elim

theorem backend_Block_Kick.e : ∀ (U : Ifc) (a1 : Option Ptr) (a2 : V) (Q : Int → Int → Heap → Prop) (h : Heap), backend_Block_Kick U a1 a2 Q h = pts (backend_Block_Kick.E U Q [(4, ([0, 1, 6], backend_Block_Kick.k4 (fun a1 a2 a3 h => backend_Block_Kick.j4 U  a1 a2 a3 Q h)))]) 3000 true [.code backend_Block_Kick.code] (frOf 0 [.ptr a1, a2]) h := by
  intros; kernel_rfl

theorem backend_Block_Kick.S {W0 : World} {U : Ifc} (hU : IfcOK sg W0 glsT U) : FnS sg W0 275 (backend_Block_Kick.C U) := by
  intro vs κ h wv hx w s
  unfold backend_Block_Kick.C at hx
  split at hx
  · rename_i a1 a2
    refine postImp (ret := backend_Block_Kick.ret (fun r1 r2 h => κ (.tup [.int .i64 r1, .int .i64 r2]) h)) (fun v h hr => by unfold backend_Block_Kick.ret at hr; split at hr; exact hr; exact hr.elim) ?_
    exact calls_of_pts (E := backend_Block_Kick.E U (fun r1 r2 h => κ (.tup [.int .i64 r1, .int .i64 r2]) h) [(4, ([0, 1, 6], backend_Block_Kick.k4 (fun a1 a2 a3 h => backend_Block_Kick.j4 U  a1 a2 a3 (fun r1 r2 h => κ (.tup [.int .i64 r1, .int .i64 r2]) h) h)))]) (envOK seatOK (backend_Block_Kick.callsOK hU) hU) seatOK.mixed backend_Block_Kick.fun (Nat.le_of_ble_eq_true rfl) wv (cutL_ok ⟨(backend_Block_Kick.s4 hU (fun r1 r2 h => κ (.tup [.int .i64 r1, .int .i64 r2]) h)), trivial⟩) s (fuel := 3000) (by rw [← backend_Block_Kick.e]; exact hx)
  · exact hx.elim

noncomputable def backend_Block_Waits.code : Code := Go.Proofs.Tryd.f32.body.getD .skip

theorem backend_Block_Waits.fun : Fun sg.P 32 10 [.tmp 2] backend_Block_Waits.code := mkFun Go.Proofs.Tryd.func32 (by kernel_rfl) (by kernel_rfl) (by kernel_rfl) (by kernel_rfl)

def backend_Block_Waits.ret (Q : Int → Heap → Prop) (v : V) (h : Heap) : Prop :=
  match v with
  | .int .i64 r1 => Q r1 h
  | _ => False

def backend_Block_Waits.C (vs : List V) (κ : V → Heap → Prop) (h : Heap) : Prop :=
  match vs with
  | [.ptr a1] => backend_Block_Waits a1 (fun r1 h => κ (.int .i64 r1) h) h
  | _ => False

noncomputable def backend_Block_Waits.calls : List (Nat × (List V → (V → Heap → Prop) → Heap → Prop)) := []

noncomputable def backend_Block_Waits.E (Q : Int → Heap → Prop) (cuts : List (Nat × (List Nat × (List V → Heap → Prop)))) : Env := { tis := tisT, fns := fnsT, tys := tysT, gls := [], rts := rtsT, unk := [], nxt := [], calls := backend_Block_Waits.calls, ifc := noIfc, cuts := cuts, ret := backend_Block_Waits.ret Q, rets := [.tmp 2], n := 10 }

theorem backend_Block_Waits.callsOK {W0 : World} : CallsOK sg W0 backend_Block_Waits.calls := trivial

theorem backend_Block_Waits.e : ∀ (a1 : Option Ptr) (Q : Int → Heap → Prop) (h : Heap), backend_Block_Waits a1 Q h = pts (backend_Block_Waits.E Q []) 3000 true [.code backend_Block_Waits.code] (frOf 0 [.ptr a1]) h := by
  intros; kernel_rfl

theorem backend_Block_Waits.S {W0 : World} : FnS sg W0 278 backend_Block_Waits.C := by
  intro vs κ h wv hx w s
  unfold backend_Block_Waits.C at hx
  split at hx
  · rename_i a1
    refine postImp (ret := backend_Block_Waits.ret (fun r1 h => κ (.int .i64 r1) h)) (fun v h hr => by unfold backend_Block_Waits.ret at hr; split at hr; exact hr; exact hr.elim) ?_
    exact calls_of_pts (E := backend_Block_Waits.E (fun r1 h => κ (.int .i64 r1) h) []) (envOK seatOK backend_Block_Waits.callsOK noIfc_ok) seatOK.mixed backend_Block_Waits.fun (Nat.le_of_ble_eq_true rfl) wv (cutL_ok trivial) s (fuel := 3000) (by rw [← backend_Block_Waits.e]; exact hx)
  · exact hx.elim

noncomputable def mem_Memory_Frames.code : Code := Go.Proofs.Tryd.f73.body.getD .skip

theorem mem_Memory_Frames.fun : Fun sg.P 73 11 [.tmp 2] mem_Memory_Frames.code := mkFun Go.Proofs.Tryd.func73 (by kernel_rfl) (by kernel_rfl) (by kernel_rfl) (by kernel_rfl)

def mem_Memory_Frames.ret (Q : Int → Heap → Prop) (v : V) (h : Heap) : Prop :=
  match v with
  | .int .i64 r1 => Q r1 h
  | _ => False

def mem_Memory_Frames.C (vs : List V) (κ : V → Heap → Prop) (h : Heap) : Prop :=
  match vs with
  | [.ptr a1] => mem_Memory_Frames a1 (fun r1 h => κ (.int .i64 r1) h) h
  | _ => False

noncomputable def mem_Memory_Frames.calls : List (Nat × (List V → (V → Heap → Prop) → Heap → Prop)) := [(31, mem_Memory_none.C)]

noncomputable def mem_Memory_Frames.E (Q : Int → Heap → Prop) (cuts : List (Nat × (List Nat × (List V → Heap → Prop)))) : Env := { tis := tisT, fns := fnsT, tys := tysT, gls := [], rts := rtsT, unk := [], nxt := [], calls := mem_Memory_Frames.calls, ifc := noIfc, cuts := cuts, ret := mem_Memory_Frames.ret Q, rets := [.tmp 2], n := 11 }

theorem mem_Memory_Frames.callsOK {W0 : World} : CallsOK sg W0 mem_Memory_Frames.calls := ⟨mem_Memory_none.S, trivial⟩

theorem mem_Memory_Frames.e : ∀ (a1 : Option Ptr) (Q : Int → Heap → Prop) (h : Heap), mem_Memory_Frames a1 Q h = pts (mem_Memory_Frames.E Q []) 3000 true [.code mem_Memory_Frames.code] (frOf 0 [.ptr a1]) h := by
  intros; kernel_rfl

theorem mem_Memory_Frames.S {W0 : World} : FnS sg W0 55 mem_Memory_Frames.C := by
  intro vs κ h wv hx w s
  unfold mem_Memory_Frames.C at hx
  split at hx
  · rename_i a1
    refine postImp (ret := mem_Memory_Frames.ret (fun r1 h => κ (.int .i64 r1) h)) (fun v h hr => by unfold mem_Memory_Frames.ret at hr; split at hr; exact hr; exact hr.elim) ?_
    exact calls_of_pts (E := mem_Memory_Frames.E (fun r1 h => κ (.int .i64 r1) h) []) (envOK seatOK mem_Memory_Frames.callsOK noIfc_ok) seatOK.mixed mem_Memory_Frames.fun (Nat.le_of_ble_eq_true rfl) wv (cutL_ok trivial) s (fuel := 3000) (by rw [← mem_Memory_Frames.e]; exact hx)
  · exact hx.elim

noncomputable def slices_DeleteFunc_disk_Request_disk_Request.code : Code := Go.Proofs.Tryd.f74.body.getD .skip

theorem slices_DeleteFunc_disk_Request_disk_Request.fun : Fun sg.P 74 42 [.tmp 4] slices_DeleteFunc_disk_Request_disk_Request.code := mkFun Go.Proofs.Tryd.func74 (by kernel_rfl) (by kernel_rfl) (by kernel_rfl) (by kernel_rfl)

def slices_DeleteFunc_disk_Request_disk_Request.ret (Q : Sl → Heap → Prop) (v : V) (h : Heap) : Prop :=
  match v with
  | .sl r1 => Q r1 h
  | _ => False

def slices_DeleteFunc_disk_Request_disk_Request.C (U : Ifc) (vs : List V) (κ : V → Heap → Prop) (h : Heap) : Prop :=
  match vs with
  | [.sl a1, a2] => slices_DeleteFunc_disk_Request_disk_Request U a1 a2 (fun r1 h => κ (.sl r1) h) h
  | _ => False

noncomputable def slices_DeleteFunc_disk_Request_disk_Request.calls (U : Ifc) : List (Nat × (List V → (V → Heap → Prop) → Heap → Prop)) := [(70, slices_IndexFunc_disk_Request_disk_Request.C U)]

noncomputable def slices_DeleteFunc_disk_Request_disk_Request.E (U : Ifc) (Q : Sl → Heap → Prop) (cuts : List (Nat × (List Nat × (List V → Heap → Prop)))) : Env := { tis := tisT, fns := fnsT, tys := tysT, gls := glsT, rts := rtsT, unk := [26], nxt := [], calls := slices_DeleteFunc_disk_Request_disk_Request.calls U, ifc := U, cuts := cuts, ret := slices_DeleteFunc_disk_Request_disk_Request.ret Q, rets := [.tmp 4], n := 42 }

theorem slices_DeleteFunc_disk_Request_disk_Request.callsOK {W0 : World} {U : Ifc} (hU : IfcOK sg W0 glsT U) : CallsOK sg W0 (slices_DeleteFunc_disk_Request_disk_Request.calls U) := ⟨(slices_IndexFunc_disk_Request_disk_Request.S hU), trivial⟩

def slices_DeleteFunc_disk_Request_disk_Request.k6 (I : Sl → V → Int → Int → Heap → Prop) (vs : List V) (h : Heap) : Prop :=
  match vs with
  | [.sl a1, a2, .int .i64 a3, .int .i64 a4] => I a1 a2 a3 a4 h
  | _ => False

def slices_DeleteFunc_disk_Request_disk_Request.k5 (I : Sl → V → Int → Int → Heap → Prop) (vs : List V) (h : Heap) : Prop :=
  match vs with
  | [.sl a1, a2, .int .i64 a3, .int .i64 a4] => I a1 a2 a3 a4 h
  | _ => False

theorem slices_DeleteFunc_disk_Request_disk_Request.p6 : (posC slices_DeleteFunc_disk_Request_disk_Request.code []).filter (fun p => Nat.beq p.1 6) = [(6, atPos (posC slices_DeleteFunc_disk_Request_disk_Request.code []) 6)] := by kernel_rfl

theorem slices_DeleteFunc_disk_Request_disk_Request.e6 : ∀ (U : Ifc) (I5 : Sl → V → Int → Int → Heap → Prop) (a1 : Sl) (a2 : V) (a3 : Int) (a4 : Int) (Q : Sl → Heap → Prop) (h : Heap), slices_DeleteFunc_disk_Request_disk_Request.j6 U I5 a1 a2 a3 a4 Q h = pts (slices_DeleteFunc_disk_Request_disk_Request.E U Q [(5, ([0, 1, 5, 6], slices_DeleteFunc_disk_Request_disk_Request.k5 I5))]) 3000 true (atPos (posC slices_DeleteFunc_disk_Request_disk_Request.code []) 6) (frAt [0, 1, 5, 6] [.sl a1, a2, .int .i64 a3, .int .i64 a4]) h := by
  intros; kernel_rfl

theorem slices_DeleteFunc_disk_Request_disk_Request.s6 {W0 : World} {U : Ifc} (hU : IfcOK sg W0 glsT U) (Q : Sl → Heap → Prop) (I5 : Sl → V → Int → Int → Heap → Prop) (h5 : CutOK sg W0 42 (entered 74) (Post sg W0 (slices_DeleteFunc_disk_Request_disk_Request.ret Q)) (posC slices_DeleteFunc_disk_Request_disk_Request.code []) 5 [0, 1, 5, 6] (slices_DeleteFunc_disk_Request_disk_Request.k5 I5)) : CutOK sg W0 42 (entered 74) (Post sg W0 (slices_DeleteFunc_disk_Request_disk_Request.ret Q)) (posC slices_DeleteFunc_disk_Request_disk_Request.code []) 6 [0, 1, 5, 6] (slices_DeleteFunc_disk_Request_disk_Request.k6 (fun a1 a2 a3 a4 h => slices_DeleteFunc_disk_Request_disk_Request.j6 U I5 a1 a2 a3 a4 Q h)) := by
  refine cutOK_head (fun vs h hk => ?_)
  unfold slices_DeleteFunc_disk_Request_disk_Request.k6 at hk
  split at hk
  · rename_i a1 a2 a3 a4
    intro todo hm ρ a w s f hp
    exact piece (E := slices_DeleteFunc_disk_Request_disk_Request.E U Q [(5, ([0, 1, 5, 6], slices_DeleteFunc_disk_Request_disk_Request.k5 I5))]) (vs := [.sl a1, a2, .int .i64 a3, .int .i64 a4]) (envOK seatOK (slices_DeleteFunc_disk_Request_disk_Request.callsOK hU) hU) (fnOK seatOK slices_DeleteFunc_disk_Request_disk_Request.fun) ⟨h5, trivial⟩ slices_DeleteFunc_disk_Request_disk_Request.p6 (fuel := 3000) (by rw [← slices_DeleteFunc_disk_Request_disk_Request.e6]; exact hk) hm s f hp
  · exact hk.elim

theorem slices_DeleteFunc_disk_Request_disk_Request.p5 : (posC slices_DeleteFunc_disk_Request_disk_Request.code []).filter (fun p => Nat.beq p.1 5) = [(5, atPos (posC slices_DeleteFunc_disk_Request_disk_Request.code []) 5)] := by kernel_rfl

theorem slices_DeleteFunc_disk_Request_disk_Request.e5 : ∀ (U : Ifc)  (I5 : Sl → V → Int → Int → Heap → Prop) (a1 : Sl) (a2 : V) (a3 : Int) (a4 : Int) (Q : Sl → Heap → Prop) (h : Heap), slices_DeleteFunc_disk_Request_disk_Request.b5 U  I5 a1 a2 a3 a4 Q h = pts (slices_DeleteFunc_disk_Request_disk_Request.E U Q [(6, ([0, 1, 5, 6], slices_DeleteFunc_disk_Request_disk_Request.k6 (fun a1 a2 a3 a4 h => slices_DeleteFunc_disk_Request_disk_Request.j6 U I5 a1 a2 a3 a4 Q h)))]) 3000 true (atPos (posC slices_DeleteFunc_disk_Request_disk_Request.code []) 5) (frAt [0, 1, 5, 6] [.sl a1, a2, .int .i64 a3, .int .i64 a4]) h := by
  intros; kernel_rfl

theorem slices_DeleteFunc_disk_Request_disk_Request.s5 {W0 : World} {U : Ifc} (hU : IfcOK sg W0 glsT U) (Q : Sl → Heap → Prop)   : CutOK sg W0 42 (entered 74) (Post sg W0 (slices_DeleteFunc_disk_Request_disk_Request.ret Q)) (posC slices_DeleteFunc_disk_Request_disk_Request.code []) 5 [0, 1, 5, 6] (slices_DeleteFunc_disk_Request_disk_Request.k5 (fun a1 a2 a3 a4 h => slices_DeleteFunc_disk_Request_disk_Request.j5 U  a1 a2 a3 a4 Q h)) := by
  refine cutOK_head (fun vs h hk => ?_)
  unfold slices_DeleteFunc_disk_Request_disk_Request.k5 at hk
  split at hk
  · rename_i a1 a2 a3 a4
    refine hk (fun a1 a2 a3 a4 h => Head sg W0 42 (entered 74) (Post sg W0 (slices_DeleteFunc_disk_Request_disk_Request.ret Q)) (posC slices_DeleteFunc_disk_Request_disk_Request.code []) 5 [0, 1, 5, 6] [.sl a1, a2, .int .i64 a3, .int .i64 a4] h) ?_
    intro a1 a2 a3 a4 h hb todo hm ρ a w s f hp
    have hself : CutOK sg W0 42 (entered 74) (Post sg W0 (slices_DeleteFunc_disk_Request_disk_Request.ret Q)) (posC slices_DeleteFunc_disk_Request_disk_Request.code []) 5 [0, 1, 5, 6] (slices_DeleteFunc_disk_Request_disk_Request.k5 (fun a1 a2 a3 a4 h => Head sg W0 42 (entered 74) (Post sg W0 (slices_DeleteFunc_disk_Request_disk_Request.ret Q)) (posC slices_DeleteFunc_disk_Request_disk_Request.code []) 5 [0, 1, 5, 6] [.sl a1, a2, .int .i64 a3, .int .i64 a4] h)) := cutOK_head (fun vs h hk => by unfold slices_DeleteFunc_disk_Request_disk_Request.k5 at hk; split at hk; exact hk; exact hk.elim)
    exact piece (E := slices_DeleteFunc_disk_Request_disk_Request.E U Q [(6, ([0, 1, 5, 6], slices_DeleteFunc_disk_Request_disk_Request.k6 (fun a1 a2 a3 a4 h => slices_DeleteFunc_disk_Request_disk_Request.j6 U (fun a1 a2 a3 a4 h => Head sg W0 42 (entered 74) (Post sg W0 (slices_DeleteFunc_disk_Request_disk_Request.ret Q)) (posC slices_DeleteFunc_disk_Request_disk_Request.code []) 5 [0, 1, 5, 6] [.sl a1, a2, .int .i64 a3, .int .i64 a4] h) a1 a2 a3 a4 Q h)))]) (vs := [.sl a1, a2, .int .i64 a3, .int .i64 a4]) (envOK seatOK (slices_DeleteFunc_disk_Request_disk_Request.callsOK hU) hU) (fnOK seatOK slices_DeleteFunc_disk_Request_disk_Request.fun) ⟨(slices_DeleteFunc_disk_Request_disk_Request.s6 hU Q (fun a1 a2 a3 a4 h => Head sg W0 42 (entered 74) (Post sg W0 (slices_DeleteFunc_disk_Request_disk_Request.ret Q)) (posC slices_DeleteFunc_disk_Request_disk_Request.code []) 5 [0, 1, 5, 6] [.sl a1, a2, .int .i64 a3, .int .i64 a4] h) hself), trivial⟩ slices_DeleteFunc_disk_Request_disk_Request.p5 (fuel := 3000) (by rw [← slices_DeleteFunc_disk_Request_disk_Request.e5]; exact hb) hm s f hp
  · exact hk.elim

theorem slices_DeleteFunc_disk_Request_disk_Request.e : ∀ (U : Ifc) (a1 : Sl) (a2 : V) (Q : Sl → Heap → Prop) (h : Heap), slices_DeleteFunc_disk_Request_disk_Request U a1 a2 Q h = pts (slices_DeleteFunc_disk_Request_disk_Request.E U Q [(5, ([0, 1, 5, 6], slices_DeleteFunc_disk_Request_disk_Request.k5 (fun a1 a2 a3 a4 h => slices_DeleteFunc_disk_Request_disk_Request.j5 U  a1 a2 a3 a4 Q h)))]) 3000 true [.code slices_DeleteFunc_disk_Request_disk_Request.code] (frOf 0 [.sl a1, a2]) h := by
  intros; kernel_rfl

theorem slices_DeleteFunc_disk_Request_disk_Request.S {W0 : World} {U : Ifc} (hU : IfcOK sg W0 glsT U) : FnS sg W0 71 (slices_DeleteFunc_disk_Request_disk_Request.C U) := by
  intro vs κ h wv hx w s
  unfold slices_DeleteFunc_disk_Request_disk_Request.C at hx
  split at hx
  · rename_i a1 a2
    refine postImp (ret := slices_DeleteFunc_disk_Request_disk_Request.ret (fun r1 h => κ (.sl r1) h)) (fun v h hr => by unfold slices_DeleteFunc_disk_Request_disk_Request.ret at hr; split at hr; exact hr; exact hr.elim) ?_
    exact calls_of_pts (E := slices_DeleteFunc_disk_Request_disk_Request.E U (fun r1 h => κ (.sl r1) h) [(5, ([0, 1, 5, 6], slices_DeleteFunc_disk_Request_disk_Request.k5 (fun a1 a2 a3 a4 h => slices_DeleteFunc_disk_Request_disk_Request.j5 U  a1 a2 a3 a4 (fun r1 h => κ (.sl r1) h) h)))]) (envOK seatOK (slices_DeleteFunc_disk_Request_disk_Request.callsOK hU) hU) seatOK.mixed slices_DeleteFunc_disk_Request_disk_Request.fun (Nat.le_of_ble_eq_true rfl) wv (cutL_ok ⟨(slices_DeleteFunc_disk_Request_disk_Request.s5 hU (fun r1 h => κ (.sl r1) h)), trivial⟩) s (fuel := 3000) (by rw [← slices_DeleteFunc_disk_Request_disk_Request.e]; exact hx)
  · exact hx.elim

noncomputable def bytes_Clone.code : Code := Go.Proofs.Tryd.f84.body.getD .skip

theorem bytes_Clone.fun : Fun sg.P 84 8 [.tmp 2] bytes_Clone.code := mkFun Go.Proofs.Tryd.func84 (by kernel_rfl) (by kernel_rfl) (by kernel_rfl) (by kernel_rfl)

def bytes_Clone.ret (Q : Sl → Heap → Prop) (v : V) (h : Heap) : Prop :=
  match v with
  | .sl r1 => Q r1 h
  | _ => False

def bytes_Clone.C (vs : List V) (κ : V → Heap → Prop) (h : Heap) : Prop :=
  match vs with
  | [.sl a1] => bytes_Clone a1 (fun r1 h => κ (.sl r1) h) h
  | _ => False

noncomputable def bytes_Clone.calls : List (Nat × (List V → (V → Heap → Prop) → Heap → Prop)) := []

noncomputable def bytes_Clone.E (Q : Sl → Heap → Prop) (cuts : List (Nat × (List Nat × (List V → Heap → Prop)))) : Env := { tis := tisT, fns := fnsT, tys := tysT, gls := [], rts := rtsT, unk := [], nxt := [], calls := bytes_Clone.calls, ifc := noIfc, cuts := cuts, ret := bytes_Clone.ret Q, rets := [.tmp 2], n := 8 }

theorem bytes_Clone.callsOK {W0 : World} : CallsOK sg W0 bytes_Clone.calls := trivial

theorem bytes_Clone.e : ∀ (a1 : Sl) (Q : Sl → Heap → Prop) (h : Heap), bytes_Clone a1 Q h = pts (bytes_Clone.E Q []) 3000 true [.code bytes_Clone.code] (frOf 0 [.sl a1]) h := by
  intros; kernel_rfl

theorem bytes_Clone.S {W0 : World} : FnS sg W0 39 bytes_Clone.C := by
  intro vs κ h wv hx w s
  unfold bytes_Clone.C at hx
  split at hx
  · rename_i a1
    refine postImp (ret := bytes_Clone.ret (fun r1 h => κ (.sl r1) h)) (fun v h hr => by unfold bytes_Clone.ret at hr; split at hr; exact hr; exact hr.elim) ?_
    exact calls_of_pts (E := bytes_Clone.E (fun r1 h => κ (.sl r1) h) []) (envOK seatOK bytes_Clone.callsOK noIfc_ok) seatOK.mixed bytes_Clone.fun (Nat.le_of_ble_eq_true rfl) wv (cutL_ok trivial) s (fuel := 3000) (by rw [← bytes_Clone.e]; exact hx)
  · exact hx.elim

noncomputable def mem_Memory_Bytes.code : Code := Go.Proofs.Tryd.f51.body.getD .skip

theorem mem_Memory_Bytes.fun : Fun sg.P 51 20 [.tmp 6, .tmp 7] mem_Memory_Bytes.code := mkFun Go.Proofs.Tryd.func51 (by kernel_rfl) (by kernel_rfl) (by kernel_rfl) (by kernel_rfl)

def mem_Memory_Bytes.ret (Q : Sl → Int → Heap → Prop) (v : V) (h : Heap) : Prop :=
  match v with
  | .tup [.sl r1, .int .i64 r2] => Q r1 r2 h
  | _ => False

def mem_Memory_Bytes.C (vs : List V) (κ : V → Heap → Prop) (h : Heap) : Prop :=
  match vs with
  | [.ptr a1, .int .u64 a2, .int .i64 a3] => mem_Memory_Bytes a1 a2 a3 (fun r1 r2 h => κ (.tup [.sl r1, .int .i64 r2]) h) h
  | _ => False

noncomputable def mem_Memory_Bytes.calls : List (Nat × (List V → (V → Heap → Prop) → Heap → Prop)) := [(32, mem_Memory_part.C), (39, bytes_Clone.C)]

noncomputable def mem_Memory_Bytes.E (Q : Sl → Int → Heap → Prop) (cuts : List (Nat × (List Nat × (List V → Heap → Prop)))) : Env := { tis := tisT, fns := fnsT, tys := tysT, gls := [], rts := rtsT, unk := [], nxt := [], calls := mem_Memory_Bytes.calls, ifc := noIfc, cuts := cuts, ret := mem_Memory_Bytes.ret Q, rets := [.tmp 6, .tmp 7], n := 20 }

theorem mem_Memory_Bytes.callsOK {W0 : World} : CallsOK sg W0 mem_Memory_Bytes.calls := ⟨mem_Memory_part.S, bytes_Clone.S, trivial⟩

theorem mem_Memory_Bytes.e : ∀ (a1 : Option Ptr) (a2 : Int) (a3 : Int) (Q : Sl → Int → Heap → Prop) (h : Heap), mem_Memory_Bytes a1 a2 a3 Q h = pts (mem_Memory_Bytes.E Q []) 3000 true [.code mem_Memory_Bytes.code] (frOf 0 [.ptr a1, .int .u64 a2, .int .i64 a3]) h := by
  intros; kernel_rfl

theorem mem_Memory_Bytes.S {W0 : World} : FnS sg W0 40 mem_Memory_Bytes.C := by
  intro vs κ h wv hx w s
  unfold mem_Memory_Bytes.C at hx
  split at hx
  · rename_i a1 a2 a3
    refine postImp (ret := mem_Memory_Bytes.ret (fun r1 r2 h => κ (.tup [.sl r1, .int .i64 r2]) h)) (fun v h hr => by unfold mem_Memory_Bytes.ret at hr; split at hr; exact hr; exact hr.elim) ?_
    exact calls_of_pts (E := mem_Memory_Bytes.E (fun r1 r2 h => κ (.tup [.sl r1, .int .i64 r2]) h) []) (envOK seatOK mem_Memory_Bytes.callsOK noIfc_ok) seatOK.mixed mem_Memory_Bytes.fun (Nat.le_of_ble_eq_true rfl) wv (cutL_ok trivial) s (fuel := 3000) (by rw [← mem_Memory_Bytes.e]; exact hx)
  · exact hx.elim

noncomputable def slices_IndexFunc_byte_byte.code : Code := Go.Proofs.Tryd.f105.body.getD .skip

theorem slices_IndexFunc_byte_byte.fun : Fun sg.P 105 19 [.tmp 4] slices_IndexFunc_byte_byte.code := mkFun Go.Proofs.Tryd.func105 (by kernel_rfl) (by kernel_rfl) (by kernel_rfl) (by kernel_rfl)

def slices_IndexFunc_byte_byte.ret (Q : Int → Heap → Prop) (v : V) (h : Heap) : Prop :=
  match v with
  | .int .i64 r1 => Q r1 h
  | _ => False

def slices_IndexFunc_byte_byte.C (U : Ifc) (vs : List V) (κ : V → Heap → Prop) (h : Heap) : Prop :=
  match vs with
  | [.sl a1, a2] => slices_IndexFunc_byte_byte U a1 a2 (fun r1 h => κ (.int .i64 r1) h) h
  | _ => False

noncomputable def slices_IndexFunc_byte_byte.calls (U : Ifc) : List (Nat × (List V → (V → Heap → Prop) → Heap → Prop)) := []

noncomputable def slices_IndexFunc_byte_byte.E (U : Ifc) (Q : Int → Heap → Prop) (cuts : List (Nat × (List Nat × (List V → Heap → Prop)))) : Env := { tis := tisT, fns := fnsT, tys := tysT, gls := glsT, rts := rtsT, unk := [11], nxt := [], calls := slices_IndexFunc_byte_byte.calls U, ifc := U, cuts := cuts, ret := slices_IndexFunc_byte_byte.ret Q, rets := [.tmp 4], n := 19 }

theorem slices_IndexFunc_byte_byte.callsOK {W0 : World} {U : Ifc} (hU : IfcOK sg W0 glsT U) : CallsOK sg W0 (slices_IndexFunc_byte_byte.calls U) := trivial

def slices_IndexFunc_byte_byte.k2 (I : Sl → V → Int → Int → Heap → Prop) (vs : List V) (h : Heap) : Prop :=
  match vs with
  | [.sl a1, a2, .int .i64 a3, .int .i64 a4] => I a1 a2 a3 a4 h
  | _ => False

theorem slices_IndexFunc_byte_byte.p2 : (posC slices_IndexFunc_byte_byte.code []).filter (fun p => Nat.beq p.1 2) = [(2, atPos (posC slices_IndexFunc_byte_byte.code []) 2)] := by kernel_rfl

theorem slices_IndexFunc_byte_byte.e2 : ∀ (U : Ifc)  (I2 : Sl → V → Int → Int → Heap → Prop) (a1 : Sl) (a2 : V) (a3 : Int) (a4 : Int) (Q : Int → Heap → Prop) (h : Heap), slices_IndexFunc_byte_byte.b2 U  I2 a1 a2 a3 a4 Q h = pts (slices_IndexFunc_byte_byte.E U Q [(2, ([0, 1, 7, 8], slices_IndexFunc_byte_byte.k2 I2))]) 3000 true (atPos (posC slices_IndexFunc_byte_byte.code []) 2) (frAt [0, 1, 7, 8] [.sl a1, a2, .int .i64 a3, .int .i64 a4]) h := by
  intros; kernel_rfl

theorem slices_IndexFunc_byte_byte.s2 {W0 : World} {U : Ifc} (hU : IfcOK sg W0 glsT U) (Q : Int → Heap → Prop)   : CutOK sg W0 19 (entered 105) (Post sg W0 (slices_IndexFunc_byte_byte.ret Q)) (posC slices_IndexFunc_byte_byte.code []) 2 [0, 1, 7, 8] (slices_IndexFunc_byte_byte.k2 (fun a1 a2 a3 a4 h => slices_IndexFunc_byte_byte.j2 U  a1 a2 a3 a4 Q h)) := by
  refine cutOK_head (fun vs h hk => ?_)
  unfold slices_IndexFunc_byte_byte.k2 at hk
  split at hk
  · rename_i a1 a2 a3 a4
    refine hk (fun a1 a2 a3 a4 h => Head sg W0 19 (entered 105) (Post sg W0 (slices_IndexFunc_byte_byte.ret Q)) (posC slices_IndexFunc_byte_byte.code []) 2 [0, 1, 7, 8] [.sl a1, a2, .int .i64 a3, .int .i64 a4] h) ?_
    intro a1 a2 a3 a4 h hb todo hm ρ a w s f hp
    have hself : CutOK sg W0 19 (entered 105) (Post sg W0 (slices_IndexFunc_byte_byte.ret Q)) (posC slices_IndexFunc_byte_byte.code []) 2 [0, 1, 7, 8] (slices_IndexFunc_byte_byte.k2 (fun a1 a2 a3 a4 h => Head sg W0 19 (entered 105) (Post sg W0 (slices_IndexFunc_byte_byte.ret Q)) (posC slices_IndexFunc_byte_byte.code []) 2 [0, 1, 7, 8] [.sl a1, a2, .int .i64 a3, .int .i64 a4] h)) := cutOK_head (fun vs h hk => by unfold slices_IndexFunc_byte_byte.k2 at hk; split at hk; exact hk; exact hk.elim)
    exact piece (E := slices_IndexFunc_byte_byte.E U Q [(2, ([0, 1, 7, 8], slices_IndexFunc_byte_byte.k2 (fun a1 a2 a3 a4 h => Head sg W0 19 (entered 105) (Post sg W0 (slices_IndexFunc_byte_byte.ret Q)) (posC slices_IndexFunc_byte_byte.code []) 2 [0, 1, 7, 8] [.sl a1, a2, .int .i64 a3, .int .i64 a4] h)))]) (vs := [.sl a1, a2, .int .i64 a3, .int .i64 a4]) (envOK seatOK (slices_IndexFunc_byte_byte.callsOK hU) hU) (fnOK seatOK slices_IndexFunc_byte_byte.fun) ⟨hself, trivial⟩ slices_IndexFunc_byte_byte.p2 (fuel := 3000) (by rw [← slices_IndexFunc_byte_byte.e2]; exact hb) hm s f hp
  · exact hk.elim

theorem slices_IndexFunc_byte_byte.e : ∀ (U : Ifc) (a1 : Sl) (a2 : V) (Q : Int → Heap → Prop) (h : Heap), slices_IndexFunc_byte_byte U a1 a2 Q h = pts (slices_IndexFunc_byte_byte.E U Q [(2, ([0, 1, 7, 8], slices_IndexFunc_byte_byte.k2 (fun a1 a2 a3 a4 h => slices_IndexFunc_byte_byte.j2 U  a1 a2 a3 a4 Q h)))]) 3000 true [.code slices_IndexFunc_byte_byte.code] (frOf 0 [.sl a1, a2]) h := by
  intros; kernel_rfl

theorem slices_IndexFunc_byte_byte.S {W0 : World} {U : Ifc} (hU : IfcOK sg W0 glsT U) : FnS sg W0 72 (slices_IndexFunc_byte_byte.C U) := by
  intro vs κ h wv hx w s
  unfold slices_IndexFunc_byte_byte.C at hx
  split at hx
  · rename_i a1 a2
    refine postImp (ret := slices_IndexFunc_byte_byte.ret (fun r1 h => κ (.int .i64 r1) h)) (fun v h hr => by unfold slices_IndexFunc_byte_byte.ret at hr; split at hr; exact hr; exact hr.elim) ?_
    exact calls_of_pts (E := slices_IndexFunc_byte_byte.E U (fun r1 h => κ (.int .i64 r1) h) [(2, ([0, 1, 7, 8], slices_IndexFunc_byte_byte.k2 (fun a1 a2 a3 a4 h => slices_IndexFunc_byte_byte.j2 U  a1 a2 a3 a4 (fun r1 h => κ (.int .i64 r1) h) h)))]) (envOK seatOK (slices_IndexFunc_byte_byte.callsOK hU) hU) seatOK.mixed slices_IndexFunc_byte_byte.fun (Nat.le_of_ble_eq_true rfl) wv (cutL_ok ⟨(slices_IndexFunc_byte_byte.s2 hU (fun r1 h => κ (.int .i64 r1) h)), trivial⟩) s (fuel := 3000) (by rw [← slices_IndexFunc_byte_byte.e]; exact hx)
  · exact hx.elim

noncomputable def slices_ContainsFunc_byte_byte.code : Code := Go.Proofs.Tryd.f98.body.getD .skip

theorem slices_ContainsFunc_byte_byte.fun : Fun sg.P 98 9 [.tmp 4] slices_ContainsFunc_byte_byte.code := mkFun Go.Proofs.Tryd.func98 (by kernel_rfl) (by kernel_rfl) (by kernel_rfl) (by kernel_rfl)

def slices_ContainsFunc_byte_byte.ret (Q : Bool → Heap → Prop) (v : V) (h : Heap) : Prop :=
  match v with
  | .bool r1 => Q r1 h
  | _ => False

def slices_ContainsFunc_byte_byte.C (U : Ifc) (vs : List V) (κ : V → Heap → Prop) (h : Heap) : Prop :=
  match vs with
  | [.sl a1, a2] => slices_ContainsFunc_byte_byte U a1 a2 (fun r1 h => κ (.bool r1) h) h
  | _ => False

noncomputable def slices_ContainsFunc_byte_byte.calls (U : Ifc) : List (Nat × (List V → (V → Heap → Prop) → Heap → Prop)) := [(72, slices_IndexFunc_byte_byte.C U)]

noncomputable def slices_ContainsFunc_byte_byte.E (U : Ifc) (Q : Bool → Heap → Prop) (cuts : List (Nat × (List Nat × (List V → Heap → Prop)))) : Env := { tis := tisT, fns := fnsT, tys := tysT, gls := glsT, rts := rtsT, unk := [], nxt := [], calls := slices_ContainsFunc_byte_byte.calls U, ifc := U, cuts := cuts, ret := slices_ContainsFunc_byte_byte.ret Q, rets := [.tmp 4], n := 9 }

theorem slices_ContainsFunc_byte_byte.callsOK {W0 : World} {U : Ifc} (hU : IfcOK sg W0 glsT U) : CallsOK sg W0 (slices_ContainsFunc_byte_byte.calls U) := ⟨(slices_IndexFunc_byte_byte.S hU), trivial⟩

theorem slices_ContainsFunc_byte_byte.e : ∀ (U : Ifc) (a1 : Sl) (a2 : V) (Q : Bool → Heap → Prop) (h : Heap), slices_ContainsFunc_byte_byte U a1 a2 Q h = pts (slices_ContainsFunc_byte_byte.E U Q []) 3000 true [.code slices_ContainsFunc_byte_byte.code] (frOf 0 [.sl a1, a2]) h := by
  intros; kernel_rfl

theorem slices_ContainsFunc_byte_byte.S {W0 : World} {U : Ifc} (hU : IfcOK sg W0 glsT U) : FnS sg W0 73 (slices_ContainsFunc_byte_byte.C U) := by
  intro vs κ h wv hx w s
  unfold slices_ContainsFunc_byte_byte.C at hx
  split at hx
  · rename_i a1 a2
    refine postImp (ret := slices_ContainsFunc_byte_byte.ret (fun r1 h => κ (.bool r1) h)) (fun v h hr => by unfold slices_ContainsFunc_byte_byte.ret at hr; split at hr; exact hr; exact hr.elim) ?_
    exact calls_of_pts (E := slices_ContainsFunc_byte_byte.E U (fun r1 h => κ (.bool r1) h) []) (envOK seatOK (slices_ContainsFunc_byte_byte.callsOK hU) hU) seatOK.mixed slices_ContainsFunc_byte_byte.fun (Nat.le_of_ble_eq_true rfl) wv (cutL_ok trivial) s (fuel := 3000) (by rw [← slices_ContainsFunc_byte_byte.e]; exact hx)
  · exact hx.elim

noncomputable def slices_Clone_byte_byte.code : Code := Go.Proofs.Tryd.f52.body.getD .skip

theorem slices_Clone_byte_byte.fun : Fun sg.P 52 8 [.tmp 2] slices_Clone_byte_byte.code := mkFun Go.Proofs.Tryd.func52 (by kernel_rfl) (by kernel_rfl) (by kernel_rfl) (by kernel_rfl)

def slices_Clone_byte_byte.ret (Q : Sl → Heap → Prop) (v : V) (h : Heap) : Prop :=
  match v with
  | .sl r1 => Q r1 h
  | _ => False

def slices_Clone_byte_byte.C (vs : List V) (κ : V → Heap → Prop) (h : Heap) : Prop :=
  match vs with
  | [.sl a1] => slices_Clone_byte_byte a1 (fun r1 h => κ (.sl r1) h) h
  | _ => False

noncomputable def slices_Clone_byte_byte.calls : List (Nat × (List V → (V → Heap → Prop) → Heap → Prop)) := []

noncomputable def slices_Clone_byte_byte.E (Q : Sl → Heap → Prop) (cuts : List (Nat × (List Nat × (List V → Heap → Prop)))) : Env := { tis := tisT, fns := fnsT, tys := tysT, gls := [], rts := rtsT, unk := [], nxt := [], calls := slices_Clone_byte_byte.calls, ifc := noIfc, cuts := cuts, ret := slices_Clone_byte_byte.ret Q, rets := [.tmp 2], n := 8 }

theorem slices_Clone_byte_byte.callsOK {W0 : World} : CallsOK sg W0 slices_Clone_byte_byte.calls := trivial

theorem slices_Clone_byte_byte.e : ∀ (a1 : Sl) (Q : Sl → Heap → Prop) (h : Heap), slices_Clone_byte_byte a1 Q h = pts (slices_Clone_byte_byte.E Q []) 3000 true [.code slices_Clone_byte_byte.code] (frOf 0 [.sl a1]) h := by
  intros; kernel_rfl

theorem slices_Clone_byte_byte.S {W0 : World} : FnS sg W0 58 slices_Clone_byte_byte.C := by
  intro vs κ h wv hx w s
  unfold slices_Clone_byte_byte.C at hx
  split at hx
  · rename_i a1
    refine postImp (ret := slices_Clone_byte_byte.ret (fun r1 h => κ (.sl r1) h)) (fun v h hr => by unfold slices_Clone_byte_byte.ret at hr; split at hr; exact hr; exact hr.elim) ?_
    exact calls_of_pts (E := slices_Clone_byte_byte.E (fun r1 h => κ (.sl r1) h) []) (envOK seatOK slices_Clone_byte_byte.callsOK noIfc_ok) seatOK.mixed slices_Clone_byte_byte.fun (Nat.le_of_ble_eq_true rfl) wv (cutL_ok trivial) s (fuel := 3000) (by rw [← slices_Clone_byte_byte.e]; exact hx)
  · exact hx.elim

noncomputable def disk_Disk_Put.code : Code := Go.Proofs.Tryd.f76.body.getD .skip

theorem disk_Disk_Put.fun : Fun sg.P 76 34 [.tmp 6] disk_Disk_Put.code := mkFun Go.Proofs.Tryd.func76 (by kernel_rfl) (by kernel_rfl) (by kernel_rfl) (by kernel_rfl)

def disk_Disk_Put.ret (Q : Int → Heap → Prop) (v : V) (h : Heap) : Prop :=
  match v with
  | .int .i64 r1 => Q r1 h
  | _ => False

def disk_Disk_Put.C (U : Ifc) (vs : List V) (κ : V → Heap → Prop) (h : Heap) : Prop :=
  match vs with
  | [.ptr a1, .int .i64 a2, .sl a3] => disk_Disk_Put U a1 a2 a3 (fun r1 h => κ (.int .i64 r1) h) h
  | _ => False

noncomputable def disk_Disk_Put.calls (U : Ifc) : List (Nat × (List V → (V → Heap → Prop) → Heap → Prop)) := [(58, slices_Clone_byte_byte.C), (36, disk_Disk_wrong.C), (73, slices_ContainsFunc_byte_byte.C U)]

noncomputable def disk_Disk_Put.E (U : Ifc) (Q : Int → Heap → Prop) (cuts : List (Nat × (List Nat × (List V → Heap → Prop)))) : Env := { tis := tisT, fns := fnsT, tys := tysT, gls := glsT, rts := rtsT, unk := [], nxt := [], calls := disk_Disk_Put.calls U, ifc := U, cuts := cuts, ret := disk_Disk_Put.ret Q, rets := [.tmp 6], n := 34 }

theorem disk_Disk_Put.callsOK {W0 : World} {U : Ifc} (hU : IfcOK sg W0 glsT U) : CallsOK sg W0 (disk_Disk_Put.calls U) := ⟨slices_Clone_byte_byte.S, disk_Disk_wrong.S, (slices_ContainsFunc_byte_byte.S hU), trivial⟩

theorem disk_Disk_Put.e : ∀ (U : Ifc) (a1 : Option Ptr) (a2 : Int) (a3 : Sl) (Q : Int → Heap → Prop) (h : Heap), disk_Disk_Put U a1 a2 a3 Q h = pts (disk_Disk_Put.E U Q []) 3000 true [.code disk_Disk_Put.code] (frOf 0 [.ptr a1, .int .i64 a2, .sl a3]) h := by
  intros; kernel_rfl

theorem disk_Disk_Put.S {W0 : World} {U : Ifc} (hU : IfcOK sg W0 glsT U) : FnS sg W0 86 (disk_Disk_Put.C U) := by
  intro vs κ h wv hx w s
  unfold disk_Disk_Put.C at hx
  split at hx
  · rename_i a1 a2 a3
    refine postImp (ret := disk_Disk_Put.ret (fun r1 h => κ (.int .i64 r1) h)) (fun v h hr => by unfold disk_Disk_Put.ret at hr; split at hr; exact hr; exact hr.elim) ?_
    exact calls_of_pts (E := disk_Disk_Put.E U (fun r1 h => κ (.int .i64 r1) h) []) (envOK seatOK (disk_Disk_Put.callsOK hU) hU) seatOK.mixed disk_Disk_Put.fun (Nat.le_of_ble_eq_true rfl) wv (cutL_ok trivial) s (fuel := 3000) (by rw [← disk_Disk_Put.e]; exact hx)
  · exact hx.elim

noncomputable def disk_Disk_Block.code : Code := Go.Proofs.Tryd.f77.body.getD .skip

theorem disk_Disk_Block.fun : Fun sg.P 77 24 [.tmp 4, .tmp 5] disk_Disk_Block.code := mkFun Go.Proofs.Tryd.func77 (by kernel_rfl) (by kernel_rfl) (by kernel_rfl) (by kernel_rfl)

def disk_Disk_Block.ret (Q : Sl → Int → Heap → Prop) (v : V) (h : Heap) : Prop :=
  match v with
  | .tup [.sl r1, .int .i64 r2] => Q r1 r2 h
  | _ => False

def disk_Disk_Block.C (vs : List V) (κ : V → Heap → Prop) (h : Heap) : Prop :=
  match vs with
  | [.ptr a1, .int .i64 a2] => disk_Disk_Block a1 a2 (fun r1 r2 h => κ (.tup [.sl r1, .int .i64 r2]) h) h
  | _ => False

noncomputable def disk_Disk_Block.calls : List (Nat × (List V → (V → Heap → Prop) → Heap → Prop)) := [(36, disk_Disk_wrong.C)]

noncomputable def disk_Disk_Block.E (Q : Sl → Int → Heap → Prop) (cuts : List (Nat × (List Nat × (List V → Heap → Prop)))) : Env := { tis := tisT, fns := fnsT, tys := tysT, gls := [], rts := rtsT, unk := [], nxt := [], calls := disk_Disk_Block.calls, ifc := noIfc, cuts := cuts, ret := disk_Disk_Block.ret Q, rets := [.tmp 4, .tmp 5], n := 24 }

theorem disk_Disk_Block.callsOK {W0 : World} : CallsOK sg W0 disk_Disk_Block.calls := ⟨disk_Disk_wrong.S, trivial⟩

theorem disk_Disk_Block.e : ∀ (a1 : Option Ptr) (a2 : Int) (Q : Sl → Int → Heap → Prop) (h : Heap), disk_Disk_Block a1 a2 Q h = pts (disk_Disk_Block.E Q []) 3000 true [.code disk_Disk_Block.code] (frOf 0 [.ptr a1, .int .i64 a2]) h := by
  intros; kernel_rfl

theorem disk_Disk_Block.S {W0 : World} : FnS sg W0 87 disk_Disk_Block.C := by
  intro vs κ h wv hx w s
  unfold disk_Disk_Block.C at hx
  split at hx
  · rename_i a1 a2
    refine postImp (ret := disk_Disk_Block.ret (fun r1 r2 h => κ (.tup [.sl r1, .int .i64 r2]) h)) (fun v h hr => by unfold disk_Disk_Block.ret at hr; split at hr; exact hr; exact hr.elim) ?_
    exact calls_of_pts (E := disk_Disk_Block.E (fun r1 r2 h => κ (.tup [.sl r1, .int .i64 r2]) h) []) (envOK seatOK disk_Disk_Block.callsOK noIfc_ok) seatOK.mixed disk_Disk_Block.fun (Nat.le_of_ble_eq_true rfl) wv (cutL_ok trivial) s (fuel := 3000) (by rw [← disk_Disk_Block.e]; exact hx)
  · exact hx.elim

noncomputable def mem_Memory_Put.code : Code := Go.Proofs.Tryd.f44.body.getD .skip

theorem mem_Memory_Put.fun : Fun sg.P 44 23 [.tmp 6] mem_Memory_Put.code := mkFun Go.Proofs.Tryd.func44 (by kernel_rfl) (by kernel_rfl) (by kernel_rfl) (by kernel_rfl)

def mem_Memory_Put.ret (Q : Int → Heap → Prop) (v : V) (h : Heap) : Prop :=
  match v with
  | .int .i64 r1 => Q r1 h
  | _ => False

def mem_Memory_Put.C (vs : List V) (κ : V → Heap → Prop) (h : Heap) : Prop :=
  match vs with
  | [.ptr a1, .int .u64 a2, .sl a3] => mem_Memory_Put a1 a2 a3 (fun r1 h => κ (.int .i64 r1) h) h
  | _ => False

noncomputable def mem_Memory_Put.calls : List (Nat × (List V → (V → Heap → Prop) → Heap → Prop)) := [(32, mem_Memory_part.C)]

noncomputable def mem_Memory_Put.E (Q : Int → Heap → Prop) (cuts : List (Nat × (List Nat × (List V → Heap → Prop)))) : Env := { tis := tisT, fns := fnsT, tys := tysT, gls := [], rts := rtsT, unk := [], nxt := [], calls := mem_Memory_Put.calls, ifc := noIfc, cuts := cuts, ret := mem_Memory_Put.ret Q, rets := [.tmp 6], n := 23 }

theorem mem_Memory_Put.callsOK {W0 : World} : CallsOK sg W0 mem_Memory_Put.calls := ⟨mem_Memory_part.S, trivial⟩

theorem mem_Memory_Put.e : ∀ (a1 : Option Ptr) (a2 : Int) (a3 : Sl) (Q : Int → Heap → Prop) (h : Heap), mem_Memory_Put a1 a2 a3 Q h = pts (mem_Memory_Put.E Q []) 3000 true [.code mem_Memory_Put.code] (frOf 0 [.ptr a1, .int .u64 a2, .sl a3]) h := by
  intros; kernel_rfl

theorem mem_Memory_Put.S {W0 : World} : FnS sg W0 33 mem_Memory_Put.C := by
  intro vs κ h wv hx w s
  unfold mem_Memory_Put.C at hx
  split at hx
  · rename_i a1 a2 a3
    refine postImp (ret := mem_Memory_Put.ret (fun r1 h => κ (.int .i64 r1) h)) (fun v h hr => by unfold mem_Memory_Put.ret at hr; split at hr; exact hr; exact hr.elim) ?_
    exact calls_of_pts (E := mem_Memory_Put.E (fun r1 h => κ (.int .i64 r1) h) []) (envOK seatOK mem_Memory_Put.callsOK noIfc_ok) seatOK.mixed mem_Memory_Put.fun (Nat.le_of_ble_eq_true rfl) wv (cutL_ok trivial) s (fuel := 3000) (by rw [← mem_Memory_Put.e]; exact hx)
  · exact hx.elim

end Go.Fn
