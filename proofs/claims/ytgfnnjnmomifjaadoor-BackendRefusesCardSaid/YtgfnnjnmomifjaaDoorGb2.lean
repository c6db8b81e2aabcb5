/- The links of the shallow functions to the machine. PRINTED by lift.py. -/
import Derived.Test.YtgfnnjnmomifjaaDoorGb1
set_option linter.unusedVariables false
set_option maxRecDepth 100000
namespace Go.Fn
open Go.Lift

noncomputable def disk_Disk_wrong.code : Code := Go.Proofs.Tryd.f97.body.getD .skip

theorem disk_Disk_wrong.fun : Fun sg.P 97 19 [.tmp 4] disk_Disk_wrong.code := mkFun Go.Proofs.Tryd.func97 (by kernel_rfl) (by kernel_rfl) (by kernel_rfl) (by kernel_rfl)

def disk_Disk_wrong.ret (Q : Int → Heap → Prop) (v : V) (h : Heap) : Prop :=
  match v with
  | .int .i64 r1 => Q r1 h
  | _ => False

def disk_Disk_wrong.C (vs : List V) (κ : V → Heap → Prop) (h : Heap) : Prop :=
  match vs with
  | [.ptr a1, .int .i64 a2] => disk_Disk_wrong a1 a2 (fun r1 h => κ (.int .i64 r1) h) h
  | _ => False

noncomputable def disk_Disk_wrong.calls : List (Nat × (List V → (V → Heap → Prop) → Heap → Prop)) := [(29, disk_Disk_none.C)]

noncomputable def disk_Disk_wrong.E (Q : Int → Heap → Prop) (cuts : List (Nat × (List Nat × (List V → Heap → Prop)))) : Env := { tis := tisT, fns := fnsT, tys := tysT, gls := [], rts := rtsT, unk := [], nxt := [], calls := disk_Disk_wrong.calls, ifc := noIfc, cuts := cuts, ret := disk_Disk_wrong.ret Q, rets := [.tmp 4], n := 19 }

theorem disk_Disk_wrong.callsOK {W0 : World} : CallsOK sg W0 disk_Disk_wrong.calls := ⟨disk_Disk_none.S, trivial⟩

theorem disk_Disk_wrong.e : ∀ (a1 : Option Ptr) (a2 : Int) (Q : Int → Heap → Prop) (h : Heap), disk_Disk_wrong a1 a2 Q h = pts (disk_Disk_wrong.E Q []) 3000 true [.code disk_Disk_wrong.code] (frOf 0 [.ptr a1, .int .i64 a2]) h := by
  intros; kernel_rfl

theorem disk_Disk_wrong.S {W0 : World} : FnS sg W0 36 disk_Disk_wrong.C := by
  intro vs κ h wv hx w s
  unfold disk_Disk_wrong.C at hx
  split at hx
  · rename_i a1 a2
    refine postImp (ret := disk_Disk_wrong.ret (fun r1 h => κ (.int .i64 r1) h)) (fun v h hr => by unfold disk_Disk_wrong.ret at hr; split at hr; exact hr; exact hr.elim) ?_
    exact calls_of_pts (E := disk_Disk_wrong.E (fun r1 h => κ (.int .i64 r1) h) []) (envOK seatOK disk_Disk_wrong.callsOK noIfc_ok) seatOK.mixed disk_Disk_wrong.fun (Nat.le_of_ble_eq_true rfl) wv (cutL_ok trivial) s (fuel := 3000) (by rw [← disk_Disk_wrong.e]; exact hx)
  · exact hx.elim

noncomputable def slices_IndexFunc_disk_Request_disk_Request.code : Code := Go.Proofs.Tryd.f96.body.getD .skip

theorem slices_IndexFunc_disk_Request_disk_Request.fun : Fun sg.P 96 19 [.tmp 4] slices_IndexFunc_disk_Request_disk_Request.code := mkFun Go.Proofs.Tryd.func96 (by kernel_rfl) (by kernel_rfl) (by kernel_rfl) (by kernel_rfl)

def slices_IndexFunc_disk_Request_disk_Request.ret (Q : Int → Heap → Prop) (v : V) (h : Heap) : Prop :=
  match v with
  | .int .i64 r1 => Q r1 h
  | _ => False

def slices_IndexFunc_disk_Request_disk_Request.C (U : Ifc) (vs : List V) (κ : V → Heap → Prop) (h : Heap) : Prop :=
  match vs with
  | [.sl a1, a2] => slices_IndexFunc_disk_Request_disk_Request U a1 a2 (fun r1 h => κ (.int .i64 r1) h) h
  | _ => False

noncomputable def slices_IndexFunc_disk_Request_disk_Request.calls (U : Ifc) : List (Nat × (List V → (V → Heap → Prop) → Heap → Prop)) := []

noncomputable def slices_IndexFunc_disk_Request_disk_Request.E (U : Ifc) (Q : Int → Heap → Prop) (cuts : List (Nat × (List Nat × (List V → Heap → Prop)))) : Env := { tis := tisT, fns := fnsT, tys := tysT, gls := glsT, rts := rtsT, unk := [11], nxt := [], calls := slices_IndexFunc_disk_Request_disk_Request.calls U, ifc := U, cuts := cuts, ret := slices_IndexFunc_disk_Request_disk_Request.ret Q, rets := [.tmp 4], n := 19 }

theorem slices_IndexFunc_disk_Request_disk_Request.callsOK {W0 : World} {U : Ifc} (hU : IfcOK sg W0 glsT U) : CallsOK sg W0 (slices_IndexFunc_disk_Request_disk_Request.calls U) := trivial

def slices_IndexFunc_disk_Request_disk_Request.k2 (I : Sl → V → Int → Int → Heap → Prop) (vs : List V) (h : Heap) : Prop :=
  match vs with
  | [.sl a1, a2, .int .i64 a3, .int .i64 a4] => I a1 a2 a3 a4 h
  | _ => False

theorem slices_IndexFunc_disk_Request_disk_Request.p2 : (posC slices_IndexFunc_disk_Request_disk_Request.code []).filter (fun p => Nat.beq p.1 2) = [(2, atPos (posC slices_IndexFunc_disk_Request_disk_Request.code []) 2)] := by kernel_rfl

theorem slices_IndexFunc_disk_Request_disk_Request.e2 : ∀ (U : Ifc)  (I2 : Sl → V → Int → Int → Heap → Prop) (a1 : Sl) (a2 : V) (a3 : Int) (a4 : Int) (Q : Int → Heap → Prop) (h : Heap), slices_IndexFunc_disk_Request_disk_Request.b2 U  I2 a1 a2 a3 a4 Q h = pts (slices_IndexFunc_disk_Request_disk_Request.E U Q [(2, ([0, 1, 7, 8], slices_IndexFunc_disk_Request_disk_Request.k2 I2))]) 3000 true (atPos (posC slices_IndexFunc_disk_Request_disk_Request.code []) 2) (frAt [0, 1, 7, 8] [.sl a1, a2, .int .i64 a3, .int .i64 a4]) h := by
  intros; kernel_rfl

theorem slices_IndexFunc_disk_Request_disk_Request.s2 {W0 : World} {U : Ifc} (hU : IfcOK sg W0 glsT U) (Q : Int → Heap → Prop)   : CutOK sg W0 19 (entered 96) (Post sg W0 (slices_IndexFunc_disk_Request_disk_Request.ret Q)) (posC slices_IndexFunc_disk_Request_disk_Request.code []) 2 [0, 1, 7, 8] (slices_IndexFunc_disk_Request_disk_Request.k2 (fun a1 a2 a3 a4 h => slices_IndexFunc_disk_Request_disk_Request.j2 U  a1 a2 a3 a4 Q h)) := by
  refine cutOK_head (fun vs h hk => ?_)
  unfold slices_IndexFunc_disk_Request_disk_Request.k2 at hk
  split at hk
  · rename_i a1 a2 a3 a4
    refine hk (fun a1 a2 a3 a4 h => Head sg W0 19 (entered 96) (Post sg W0 (slices_IndexFunc_disk_Request_disk_Request.ret Q)) (posC slices_IndexFunc_disk_Request_disk_Request.code []) 2 [0, 1, 7, 8] [.sl a1, a2, .int .i64 a3, .int .i64 a4] h) ?_
    intro a1 a2 a3 a4 h hb todo hm ρ a w s f hp
    have hself : CutOK sg W0 19 (entered 96) (Post sg W0 (slices_IndexFunc_disk_Request_disk_Request.ret Q)) (posC slices_IndexFunc_disk_Request_disk_Request.code []) 2 [0, 1, 7, 8] (slices_IndexFunc_disk_Request_disk_Request.k2 (fun a1 a2 a3 a4 h => Head sg W0 19 (entered 96) (Post sg W0 (slices_IndexFunc_disk_Request_disk_Request.ret Q)) (posC slices_IndexFunc_disk_Request_disk_Request.code []) 2 [0, 1, 7, 8] [.sl a1, a2, .int .i64 a3, .int .i64 a4] h)) := cutOK_head (fun vs h hk => by unfold slices_IndexFunc_disk_Request_disk_Request.k2 at hk; split at hk; exact hk; exact hk.elim)
    exact piece (E := slices_IndexFunc_disk_Request_disk_Request.E U Q [(2, ([0, 1, 7, 8], slices_IndexFunc_disk_Request_disk_Request.k2 (fun a1 a2 a3 a4 h => Head sg W0 19 (entered 96) (Post sg W0 (slices_IndexFunc_disk_Request_disk_Request.ret Q)) (posC slices_IndexFunc_disk_Request_disk_Request.code []) 2 [0, 1, 7, 8] [.sl a1, a2, .int .i64 a3, .int .i64 a4] h)))]) (vs := [.sl a1, a2, .int .i64 a3, .int .i64 a4]) (envOK seatOK (slices_IndexFunc_disk_Request_disk_Request.callsOK hU) hU) (fnOK seatOK slices_IndexFunc_disk_Request_disk_Request.fun) ⟨hself, trivial⟩ slices_IndexFunc_disk_Request_disk_Request.p2 (fuel := 3000) (by rw [← slices_IndexFunc_disk_Request_disk_Request.e2]; exact hb) hm s f hp
  · exact hk.elim

theorem slices_IndexFunc_disk_Request_disk_Request.e : ∀ (U : Ifc) (a1 : Sl) (a2 : V) (Q : Int → Heap → Prop) (h : Heap), slices_IndexFunc_disk_Request_disk_Request U a1 a2 Q h = pts (slices_IndexFunc_disk_Request_disk_Request.E U Q [(2, ([0, 1, 7, 8], slices_IndexFunc_disk_Request_disk_Request.k2 (fun a1 a2 a3 a4 h => slices_IndexFunc_disk_Request_disk_Request.j2 U  a1 a2 a3 a4 Q h)))]) 3000 true [.code slices_IndexFunc_disk_Request_disk_Request.code] (frOf 0 [.sl a1, a2]) h := by
  intros; kernel_rfl

theorem slices_IndexFunc_disk_Request_disk_Request.S {W0 : World} {U : Ifc} (hU : IfcOK sg W0 glsT U) : FnS sg W0 70 (slices_IndexFunc_disk_Request_disk_Request.C U) := by
  intro vs κ h wv hx w s
  unfold slices_IndexFunc_disk_Request_disk_Request.C at hx
  split at hx
  · rename_i a1 a2
    refine postImp (ret := slices_IndexFunc_disk_Request_disk_Request.ret (fun r1 h => κ (.int .i64 r1) h)) (fun v h hr => by unfold slices_IndexFunc_disk_Request_disk_Request.ret at hr; split at hr; exact hr; exact hr.elim) ?_
    exact calls_of_pts (E := slices_IndexFunc_disk_Request_disk_Request.E U (fun r1 h => κ (.int .i64 r1) h) [(2, ([0, 1, 7, 8], slices_IndexFunc_disk_Request_disk_Request.k2 (fun a1 a2 a3 a4 h => slices_IndexFunc_disk_Request_disk_Request.j2 U  a1 a2 a3 a4 (fun r1 h => κ (.int .i64 r1) h) h)))]) (envOK seatOK (slices_IndexFunc_disk_Request_disk_Request.callsOK hU) hU) seatOK.mixed slices_IndexFunc_disk_Request_disk_Request.fun (Nat.le_of_ble_eq_true rfl) wv (cutL_ok ⟨(slices_IndexFunc_disk_Request_disk_Request.s2 hU (fun r1 h => κ (.int .i64 r1) h)), trivial⟩) s (fuel := 3000) (by rw [← slices_IndexFunc_disk_Request_disk_Request.e]; exact hx)
  · exact hx.elim

noncomputable def slices_ContainsFunc_disk_Request_disk_Request.code : Code := Go.Proofs.Tryd.f102.body.getD .skip

theorem slices_ContainsFunc_disk_Request_disk_Request.fun : Fun sg.P 102 9 [.tmp 4] slices_ContainsFunc_disk_Request_disk_Request.code := mkFun Go.Proofs.Tryd.func102 (by kernel_rfl) (by kernel_rfl) (by kernel_rfl) (by kernel_rfl)

def slices_ContainsFunc_disk_Request_disk_Request.ret (Q : Bool → Heap → Prop) (v : V) (h : Heap) : Prop :=
  match v with
  | .bool r1 => Q r1 h
  | _ => False

def slices_ContainsFunc_disk_Request_disk_Request.C (U : Ifc) (vs : List V) (κ : V → Heap → Prop) (h : Heap) : Prop :=
  match vs with
  | [.sl a1, a2] => slices_ContainsFunc_disk_Request_disk_Request U a1 a2 (fun r1 h => κ (.bool r1) h) h
  | _ => False

noncomputable def slices_ContainsFunc_disk_Request_disk_Request.calls (U : Ifc) : List (Nat × (List V → (V → Heap → Prop) → Heap → Prop)) := [(70, slices_IndexFunc_disk_Request_disk_Request.C U)]

noncomputable def slices_ContainsFunc_disk_Request_disk_Request.E (U : Ifc) (Q : Bool → Heap → Prop) (cuts : List (Nat × (List Nat × (List V → Heap → Prop)))) : Env := { tis := tisT, fns := fnsT, tys := tysT, gls := glsT, rts := rtsT, unk := [], nxt := [], calls := slices_ContainsFunc_disk_Request_disk_Request.calls U, ifc := U, cuts := cuts, ret := slices_ContainsFunc_disk_Request_disk_Request.ret Q, rets := [.tmp 4], n := 9 }

theorem slices_ContainsFunc_disk_Request_disk_Request.callsOK {W0 : World} {U : Ifc} (hU : IfcOK sg W0 glsT U) : CallsOK sg W0 (slices_ContainsFunc_disk_Request_disk_Request.calls U) := ⟨(slices_IndexFunc_disk_Request_disk_Request.S hU), trivial⟩

theorem slices_ContainsFunc_disk_Request_disk_Request.e : ∀ (U : Ifc) (a1 : Sl) (a2 : V) (Q : Bool → Heap → Prop) (h : Heap), slices_ContainsFunc_disk_Request_disk_Request U a1 a2 Q h = pts (slices_ContainsFunc_disk_Request_disk_Request.E U Q []) 3000 true [.code slices_ContainsFunc_disk_Request_disk_Request.code] (frOf 0 [.sl a1, a2]) h := by
  intros; kernel_rfl

theorem slices_ContainsFunc_disk_Request_disk_Request.S {W0 : World} {U : Ifc} (hU : IfcOK sg W0 glsT U) : FnS sg W0 81 (slices_ContainsFunc_disk_Request_disk_Request.C U) := by
  intro vs κ h wv hx w s
  unfold slices_ContainsFunc_disk_Request_disk_Request.C at hx
  split at hx
  · rename_i a1 a2
    refine postImp (ret := slices_ContainsFunc_disk_Request_disk_Request.ret (fun r1 h => κ (.bool r1) h)) (fun v h hr => by unfold slices_ContainsFunc_disk_Request_disk_Request.ret at hr; split at hr; exact hr; exact hr.elim) ?_
    exact calls_of_pts (E := slices_ContainsFunc_disk_Request_disk_Request.E U (fun r1 h => κ (.bool r1) h) []) (envOK seatOK (slices_ContainsFunc_disk_Request_disk_Request.callsOK hU) hU) seatOK.mixed slices_ContainsFunc_disk_Request_disk_Request.fun (Nat.le_of_ble_eq_true rfl) wv (cutL_ok trivial) s (fuel := 3000) (by rw [← slices_ContainsFunc_disk_Request_disk_Request.e]; exact hx)
  · exact hx.elim

noncomputable def disk_Disk_Submit.code : Code := Go.Proofs.Tryd.f89.body.getD .skip

theorem disk_Disk_Submit.fun : Fun sg.P 89 38 [.tmp 4] disk_Disk_Submit.code := mkFun Go.Proofs.Tryd.func89 (by kernel_rfl) (by kernel_rfl) (by kernel_rfl) (by kernel_rfl)

def disk_Disk_Submit.ret (Q : Int → Heap → Prop) (v : V) (h : Heap) : Prop :=
  match v with
  | .int .i64 r1 => Q r1 h
  | _ => False

def disk_Disk_Submit.C (U : Ifc) (vs : List V) (κ : V → Heap → Prop) (h : Heap) : Prop :=
  match vs with
  | [.ptr a1, .agg [.int .i64 a2, .bool a3, .int .i64 a4, .int .i64 a5]] => disk_Disk_Submit U a1 a2 a3 a4 a5 (fun r1 h => κ (.int .i64 r1) h) h
  | _ => False

noncomputable def disk_Disk_Submit.calls (U : Ifc) : List (Nat × (List V → (V → Heap → Prop) → Heap → Prop)) := [(36, disk_Disk_wrong.C), (81, slices_ContainsFunc_disk_Request_disk_Request.C U)]

noncomputable def disk_Disk_Submit.E (U : Ifc) (Q : Int → Heap → Prop) (cuts : List (Nat × (List Nat × (List V → Heap → Prop)))) : Env := { tis := tisT, fns := fnsT, tys := tysT, gls := glsT, rts := rtsT, unk := [], nxt := [], calls := disk_Disk_Submit.calls U, ifc := U, cuts := cuts, ret := disk_Disk_Submit.ret Q, rets := [.tmp 4], n := 38 }

theorem disk_Disk_Submit.callsOK {W0 : World} {U : Ifc} (hU : IfcOK sg W0 glsT U) : CallsOK sg W0 (disk_Disk_Submit.calls U) := ⟨disk_Disk_wrong.S, (slices_ContainsFunc_disk_Request_disk_Request.S hU), trivial⟩

def disk_Disk_Submit.k9 (I : Heap → Prop) (vs : List V) (h : Heap) : Prop :=
  match vs with
  | [] => I  h
  | _ => False

theorem disk_Disk_Submit.p9 : (posC disk_Disk_Submit.code []).filter (fun p => Nat.beq p.1 9) = [(9, atPos (posC disk_Disk_Submit.code []) 9)] := by kernel_rfl

theorem disk_Disk_Submit.e9 : ∀ (U : Ifc)   (Q : Int → Heap → Prop) (h : Heap), disk_Disk_Submit.j9 U   Q h = pts (disk_Disk_Submit.E U Q []) 3000 true (atPos (posC disk_Disk_Submit.code []) 9) (frAt [] []) h := by
  intros; kernel_rfl

theorem disk_Disk_Submit.s9 {W0 : World} {U : Ifc} (hU : IfcOK sg W0 glsT U) (Q : Int → Heap → Prop)   : CutOK sg W0 38 (entered 89) (Post sg W0 (disk_Disk_Submit.ret Q)) (posC disk_Disk_Submit.code []) 9 [] (disk_Disk_Submit.k9 (fun  h => disk_Disk_Submit.j9 U   Q h)) := by
  refine cutOK_head (fun vs h hk => ?_)
  unfold disk_Disk_Submit.k9 at hk
  split at hk
  · skip
    intro todo hm ρ a w s f hp
    exact piece (E := disk_Disk_Submit.E U Q []) (vs := []) (envOK seatOK (disk_Disk_Submit.callsOK hU) hU) (fnOK seatOK disk_Disk_Submit.fun) trivial disk_Disk_Submit.p9 (fuel := 3000) (by rw [← disk_Disk_Submit.e9]; exact hk) hm s f hp
  · exact hk.elim

theorem disk_Disk_Submit.e : ∀ (U : Ifc) (a1 : Option Ptr) (a2 : Int) (a3 : Bool) (a4 : Int) (a5 : Int) (Q : Int → Heap → Prop) (h : Heap), disk_Disk_Submit U a1 a2 a3 a4 a5 Q h = pts (disk_Disk_Submit.E U Q [(9, ([], disk_Disk_Submit.k9 (fun  h => disk_Disk_Submit.j9 U   Q h)))]) 3000 true [.code disk_Disk_Submit.code] (frOf 0 [.ptr a1, .agg [.int .i64 a2, .bool a3, .int .i64 a4, .int .i64 a5]]) h := by
  intros; kernel_rfl

theorem disk_Disk_Submit.S {W0 : World} {U : Ifc} (hU : IfcOK sg W0 glsT U) : FnS sg W0 82 (disk_Disk_Submit.C U) := by
  intro vs κ h wv hx w s
  unfold disk_Disk_Submit.C at hx
  split at hx
  · rename_i a1 a2 a3 a4 a5
    refine postImp (ret := disk_Disk_Submit.ret (fun r1 h => κ (.int .i64 r1) h)) (fun v h hr => by unfold disk_Disk_Submit.ret at hr; split at hr; exact hr; exact hr.elim) ?_
    exact calls_of_pts (E := disk_Disk_Submit.E U (fun r1 h => κ (.int .i64 r1) h) [(9, ([], disk_Disk_Submit.k9 (fun  h => disk_Disk_Submit.j9 U   (fun r1 h => κ (.int .i64 r1) h) h)))]) (envOK seatOK (disk_Disk_Submit.callsOK hU) hU) seatOK.mixed disk_Disk_Submit.fun (Nat.le_of_ble_eq_true rfl) wv (cutL_ok ⟨(disk_Disk_Submit.s9 hU (fun r1 h => κ (.int .i64 r1) h)), trivial⟩) s (fuel := 3000) (by rw [← disk_Disk_Submit.e]; exact hx)
  · exact hx.elim

noncomputable def frames_Frames_Free.code : Code := Go.Proofs.Tryd.f36.body.getD .skip

theorem frames_Frames_Free.fun : Fun sg.P 36 68 [.tmp 6, .tmp 7] frames_Frames_Free.code := mkFun Go.Proofs.Tryd.func36 (by kernel_rfl) (by kernel_rfl) (by kernel_rfl) (by kernel_rfl)

def frames_Frames_Free.ret (Q : Bool → Int → Heap → Prop) (v : V) (h : Heap) : Prop :=
  match v with
  | .tup [.bool r1, .int .i64 r2] => Q r1 r2 h
  | _ => False

def frames_Frames_Free.C (vs : List V) (κ : V → Heap → Prop) (h : Heap) : Prop :=
  match vs with
  | [.ptr a1, .int .i64 a2, .int .i64 a3] => frames_Frames_Free a1 a2 a3 (fun r1 r2 h => κ (.tup [.bool r1, .int .i64 r2]) h) h
  | _ => False

noncomputable def frames_Frames_Free.calls : List (Nat × (List V → (V → Heap → Prop) → Heap → Prop)) := [(270, frames_Frames_wrong.C)]

noncomputable def frames_Frames_Free.E (Q : Bool → Int → Heap → Prop) (cuts : List (Nat × (List Nat × (List V → Heap → Prop)))) : Env := { tis := tisT, fns := fnsT, tys := tysT, gls := [], rts := rtsT, unk := [], nxt := [], calls := frames_Frames_Free.calls, ifc := noIfc, cuts := cuts, ret := frames_Frames_Free.ret Q, rets := [.tmp 6, .tmp 7], n := 68 }

theorem frames_Frames_Free.callsOK {W0 : World} : CallsOK sg W0 frames_Frames_Free.calls := ⟨frames_Frames_wrong.S, trivial⟩

def frames_Frames_Free.k12 (I : (Option Ptr) → Int → Heap → Prop) (vs : List V) (h : Heap) : Prop :=
  match vs with
  | [.ptr a1, .int .i64 a2] => I a1 a2 h
  | _ => False

def frames_Frames_Free.k7 (I : (Option Ptr) → Int → Int → Heap → Prop) (vs : List V) (h : Heap) : Prop :=
  match vs with
  | [.ptr a1, .int .i64 a2, .int .i64 a3] => I a1 a2 a3 h
  | _ => False

theorem frames_Frames_Free.p12 : (posC frames_Frames_Free.code []).filter (fun p => Nat.beq p.1 12) = [(12, atPos (posC frames_Frames_Free.code []) 12)] := by kernel_rfl

theorem frames_Frames_Free.e12 : ∀  (a1 : Option Ptr) (a2 : Int) (Q : Bool → Int → Heap → Prop) (h : Heap), frames_Frames_Free.j12  a1 a2 Q h = pts (frames_Frames_Free.E Q []) 3000 true (atPos (posC frames_Frames_Free.code []) 12) (frAt [0, 1] [.ptr a1, .int .i64 a2]) h := by
  intros; kernel_rfl

theorem frames_Frames_Free.s12 {W0 : World} (Q : Bool → Int → Heap → Prop)   : CutOK sg W0 68 (entered 36) (Post sg W0 (frames_Frames_Free.ret Q)) (posC frames_Frames_Free.code []) 12 [0, 1] (frames_Frames_Free.k12 (fun a1 a2 h => frames_Frames_Free.j12  a1 a2 Q h)) := by
  refine cutOK_head (fun vs h hk => ?_)
  unfold frames_Frames_Free.k12 at hk
  split at hk
  · rename_i a1 a2
    intro todo hm ρ a w s f hp
    exact piece (E := frames_Frames_Free.E Q []) (vs := [.ptr a1, .int .i64 a2]) (envOK seatOK frames_Frames_Free.callsOK noIfc_ok) (fnOK seatOK frames_Frames_Free.fun) trivial frames_Frames_Free.p12 (fuel := 3000) (by rw [← frames_Frames_Free.e12]; exact hk) hm s f hp
  · exact hk.elim

theorem frames_Frames_Free.p7 : (posC frames_Frames_Free.code []).filter (fun p => Nat.beq p.1 7) = [(7, atPos (posC frames_Frames_Free.code []) 7)] := by kernel_rfl

theorem frames_Frames_Free.e7 : ∀  (a1 : Option Ptr) (a2 : Int) (a3 : Int) (Q : Bool → Int → Heap → Prop) (h : Heap), frames_Frames_Free.j7  a1 a2 a3 Q h = pts (frames_Frames_Free.E Q [(12, ([0, 1], frames_Frames_Free.k12 (fun a1 a2 h => frames_Frames_Free.j12  a1 a2 Q h)))]) 3000 true (atPos (posC frames_Frames_Free.code []) 7) (frAt [0, 1, 2] [.ptr a1, .int .i64 a2, .int .i64 a3]) h := by
  intros; kernel_rfl

theorem frames_Frames_Free.s7 {W0 : World} (Q : Bool → Int → Heap → Prop)   : CutOK sg W0 68 (entered 36) (Post sg W0 (frames_Frames_Free.ret Q)) (posC frames_Frames_Free.code []) 7 [0, 1, 2] (frames_Frames_Free.k7 (fun a1 a2 a3 h => frames_Frames_Free.j7  a1 a2 a3 Q h)) := by
  refine cutOK_head (fun vs h hk => ?_)
  unfold frames_Frames_Free.k7 at hk
  split at hk
  · rename_i a1 a2 a3
    intro todo hm ρ a w s f hp
    exact piece (E := frames_Frames_Free.E Q [(12, ([0, 1], frames_Frames_Free.k12 (fun a1 a2 h => frames_Frames_Free.j12  a1 a2 Q h)))]) (vs := [.ptr a1, .int .i64 a2, .int .i64 a3]) (envOK seatOK frames_Frames_Free.callsOK noIfc_ok) (fnOK seatOK frames_Frames_Free.fun) ⟨(frames_Frames_Free.s12 Q  ), trivial⟩ frames_Frames_Free.p7 (fuel := 3000) (by rw [← frames_Frames_Free.e7]; exact hk) hm s f hp
  · exact hk.elim

theorem frames_Frames_Free.e : ∀ (a1 : Option Ptr) (a2 : Int) (a3 : Int) (Q : Bool → Int → Heap → Prop) (h : Heap), frames_Frames_Free a1 a2 a3 Q h = pts (frames_Frames_Free.E Q [(7, ([0, 1, 2], frames_Frames_Free.k7 (fun a1 a2 a3 h => frames_Frames_Free.j7  a1 a2 a3 Q h)))]) 3000 true [.code frames_Frames_Free.code] (frOf 0 [.ptr a1, .int .i64 a2, .int .i64 a3]) h := by
  intros; kernel_rfl

theorem frames_Frames_Free.S {W0 : World} : FnS sg W0 272 frames_Frames_Free.C := by
  intro vs κ h wv hx w s
  unfold frames_Frames_Free.C at hx
  split at hx
  · rename_i a1 a2 a3
    refine postImp (ret := frames_Frames_Free.ret (fun r1 r2 h => κ (.tup [.bool r1, .int .i64 r2]) h)) (fun v h hr => by unfold frames_Frames_Free.ret at hr; split at hr; exact hr; exact hr.elim) ?_
    exact calls_of_pts (E := frames_Frames_Free.E (fun r1 r2 h => κ (.tup [.bool r1, .int .i64 r2]) h) [(7, ([0, 1, 2], frames_Frames_Free.k7 (fun a1 a2 a3 h => frames_Frames_Free.j7  a1 a2 a3 (fun r1 r2 h => κ (.tup [.bool r1, .int .i64 r2]) h) h)))]) (envOK seatOK frames_Frames_Free.callsOK noIfc_ok) seatOK.mixed frames_Frames_Free.fun (Nat.le_of_ble_eq_true rfl) wv (cutL_ok ⟨(frames_Frames_Free.s7 (fun r1 r2 h => κ (.tup [.bool r1, .int .i64 r2]) h)), trivial⟩) s (fuel := 3000) (by rw [← frames_Frames_Free.e]; exact hx)
  · exact hx.elim

noncomputable def backend_Block_submit.code : Code := Go.Proofs.Tryd.f56.body.getD .skip

theorem backend_Block_submit.fun : Fun sg.P 56 57 [.tmp 6] backend_Block_submit.code := mkFun Go.Proofs.Tryd.func56 (by kernel_rfl) (by kernel_rfl) (by kernel_rfl) (by kernel_rfl)

def backend_Block_submit.ret (Q : Int → Heap → Prop) (v : V) (h : Heap) : Prop :=
  match v with
  | .int .u8 r1 => Q r1 h
  | _ => False

def backend_Block_submit.C (U : Ifc) (vs : List V) (κ : V → Heap → Prop) (h : Heap) : Prop :=
  match vs with
  | [.ptr a1, .agg [.int .i64 a2, .sl a3], .agg [.int .i64 a4, .bool a5, .int .i64 a6, .int .i64 a7]] => backend_Block_submit U a1 a2 a3 a4 a5 a6 a7 (fun r1 h => κ (.int .u8 r1) h) h
  | _ => False

noncomputable def backend_Block_submit.calls (U : Ifc) : List (Nat × (List V → (V → Heap → Prop) → Heap → Prop)) := [(272, frames_Frames_Free.C), (271, frames_Frames_Hold.C), (82, disk_Disk_Submit.C U)]

noncomputable def backend_Block_submit.E (U : Ifc) (Q : Int → Heap → Prop) (cuts : List (Nat × (List Nat × (List V → Heap → Prop)))) : Env := { tis := tisT, fns := fnsT, tys := tysT, gls := glsT, rts := rtsT, unk := [], nxt := [], calls := backend_Block_submit.calls U, ifc := U, cuts := cuts, ret := backend_Block_submit.ret Q, rets := [.tmp 6], n := 57 }

theorem backend_Block_submit.callsOK {W0 : World} {U : Ifc} (hU : IfcOK sg W0 glsT U) : CallsOK sg W0 (backend_Block_submit.calls U) := ⟨frames_Frames_Free.S, frames_Frames_Hold.S, (disk_Disk_Submit.S hU), trivial⟩

def backend_Block_submit.k5 (I : Heap → Prop) (vs : List V) (h : Heap) : Prop :=
  match vs with
  | [] => I  h
  | _ => False

def backend_Block_submit.k7 (I : (Option Ptr) → Heap → Prop) (vs : List V) (h : Heap) : Prop :=
  match vs with
  | [.ptr a1] => I a1 h
  | _ => False

theorem backend_Block_submit.p5 : (posC backend_Block_submit.code []).filter (fun p => Nat.beq p.1 5) = [(5, atPos (posC backend_Block_submit.code []) 5)] := by kernel_rfl

theorem backend_Block_submit.e5 : ∀ (U : Ifc)   (Q : Int → Heap → Prop) (h : Heap), backend_Block_submit.j5 U   Q h = pts (backend_Block_submit.E U Q []) 3000 true (atPos (posC backend_Block_submit.code []) 5) (frAt [] []) h := by
  intros; kernel_rfl

theorem backend_Block_submit.s5 {W0 : World} {U : Ifc} (hU : IfcOK sg W0 glsT U) (Q : Int → Heap → Prop)   : CutOK sg W0 57 (entered 56) (Post sg W0 (backend_Block_submit.ret Q)) (posC backend_Block_submit.code []) 5 [] (backend_Block_submit.k5 (fun  h => backend_Block_submit.j5 U   Q h)) := by
  refine cutOK_head (fun vs h hk => ?_)
  unfold backend_Block_submit.k5 at hk
  split at hk
  · skip
    intro todo hm ρ a w s f hp
    exact piece (E := backend_Block_submit.E U Q []) (vs := []) (envOK seatOK (backend_Block_submit.callsOK hU) hU) (fnOK seatOK backend_Block_submit.fun) trivial backend_Block_submit.p5 (fuel := 3000) (by rw [← backend_Block_submit.e5]; exact hk) hm s f hp
  · exact hk.elim

theorem backend_Block_submit.p7 : (posC backend_Block_submit.code []).filter (fun p => Nat.beq p.1 7) = [(7, atPos (posC backend_Block_submit.code []) 7)] := by kernel_rfl

theorem backend_Block_submit.e7 : ∀ (U : Ifc)  (a1 : Option Ptr) (Q : Int → Heap → Prop) (h : Heap), backend_Block_submit.j7 U  a1 Q h = pts (backend_Block_submit.E U Q []) 3000 true (atPos (posC backend_Block_submit.code []) 7) (frAt [0] [.ptr a1]) h := by
  intros; kernel_rfl

theorem backend_Block_submit.s7 {W0 : World} {U : Ifc} (hU : IfcOK sg W0 glsT U) (Q : Int → Heap → Prop)   : CutOK sg W0 57 (entered 56) (Post sg W0 (backend_Block_submit.ret Q)) (posC backend_Block_submit.code []) 7 [0] (backend_Block_submit.k7 (fun a1 h => backend_Block_submit.j7 U  a1 Q h)) := by
  refine cutOK_head (fun vs h hk => ?_)
  unfold backend_Block_submit.k7 at hk
  split at hk
  · rename_i a1
    intro todo hm ρ a w s f hp
    exact piece (E := backend_Block_submit.E U Q []) (vs := [.ptr a1]) (envOK seatOK (backend_Block_submit.callsOK hU) hU) (fnOK seatOK backend_Block_submit.fun) trivial backend_Block_submit.p7 (fuel := 3000) (by rw [← backend_Block_submit.e7]; exact hk) hm s f hp
  · exact hk.elim

theorem backend_Block_submit.e : ∀ (U : Ifc) (a1 : Option Ptr) (a2 : Int) (a3 : Sl) (a4 : Int) (a5 : Bool) (a6 : Int) (a7 : Int) (Q : Int → Heap → Prop) (h : Heap), backend_Block_submit U a1 a2 a3 a4 a5 a6 a7 Q h = pts (backend_Block_submit.E U Q [(5, ([], backend_Block_submit.k5 (fun  h => backend_Block_submit.j5 U   Q h))), (7, ([0], backend_Block_submit.k7 (fun a1 h => backend_Block_submit.j7 U  a1 Q h)))]) 3000 true [.code backend_Block_submit.code] (frOf 0 [.ptr a1, .agg [.int .i64 a2, .sl a3], .agg [.int .i64 a4, .bool a5, .int .i64 a6, .int .i64 a7]]) h := by
  intros; kernel_rfl

theorem backend_Block_submit.S {W0 : World} {U : Ifc} (hU : IfcOK sg W0 glsT U) : FnS sg W0 273 (backend_Block_submit.C U) := by
  intro vs κ h wv hx w s
  unfold backend_Block_submit.C at hx
  split at hx
  · rename_i a1 a2 a3 a4 a5 a6 a7
    refine postImp (ret := backend_Block_submit.ret (fun r1 h => κ (.int .u8 r1) h)) (fun v h hr => by unfold backend_Block_submit.ret at hr; split at hr; exact hr; exact hr.elim) ?_
    exact calls_of_pts (E := backend_Block_submit.E U (fun r1 h => κ (.int .u8 r1) h) [(5, ([], backend_Block_submit.k5 (fun  h => backend_Block_submit.j5 U   (fun r1 h => κ (.int .u8 r1) h) h))), (7, ([0], backend_Block_submit.k7 (fun a1 h => backend_Block_submit.j7 U  a1 (fun r1 h => κ (.int .u8 r1) h) h)))]) (envOK seatOK (backend_Block_submit.callsOK hU) hU) seatOK.mixed backend_Block_submit.fun (Nat.le_of_ble_eq_true rfl) wv (cutL_ok ⟨(backend_Block_submit.s5 hU (fun r1 h => κ (.int .u8 r1) h)), (backend_Block_submit.s7 hU (fun r1 h => κ (.int .u8 r1) h)), trivial⟩) s (fuel := 3000) (by rw [← backend_Block_submit.e]; exact hx)
  · exact hx.elim

noncomputable def backend_tell.code : Code := Go.Proofs.Tryd.f58.body.getD .skip

theorem backend_tell.fun : Fun sg.P 58 27 [.tmp 6] backend_tell.code := mkFun Go.Proofs.Tryd.func58 (by kernel_rfl) (by kernel_rfl) (by kernel_rfl) (by kernel_rfl)

def backend_tell.ret (Q : Int → Heap → Prop) (v : V) (h : Heap) : Prop :=
  match v with
  | .int .i64 r1 => Q r1 h
  | _ => False

def backend_tell.C (U : Ifc) (vs : List V) (κ : V → Heap → Prop) (h : Heap) : Prop :=
  match vs with
  | [a1, .agg [.int .i64 a2, .sl a3], .int .u8 a4] => backend_tell U a1 a2 a3 a4 (fun r1 h => κ (.int .i64 r1) h) h
  | _ => False

noncomputable def backend_tell.calls (U : Ifc) : List (Nat × (List V → (V → Heap → Prop) → Heap → Prop)) := []

noncomputable def backend_tell.E (U : Ifc) (Q : Int → Heap → Prop) (cuts : List (Nat × (List Nat × (List V → Heap → Prop)))) : Env := { tis := tisT, fns := fnsT, tys := tysT, gls := glsT, rts := rtsT, unk := [], nxt := [], calls := backend_tell.calls U, ifc := U, cuts := cuts, ret := backend_tell.ret Q, rets := [.tmp 6], n := 27 }

theorem backend_tell.callsOK {W0 : World} {U : Ifc} (hU : IfcOK sg W0 glsT U) : CallsOK sg W0 (backend_tell.calls U) := trivial

theorem backend_tell.e : ∀ (U : Ifc) (a1 : V) (a2 : Int) (a3 : Sl) (a4 : Int) (Q : Int → Heap → Prop) (h : Heap), backend_tell U a1 a2 a3 a4 Q h = pts (backend_tell.E U Q []) 3000 true [.code backend_tell.code] (frOf 0 [a1, .agg [.int .i64 a2, .sl a3], .int .u8 a4]) h := by
  intros; kernel_rfl

theorem backend_tell.S {W0 : World} {U : Ifc} (hU : IfcOK sg W0 glsT U) : FnS sg W0 274 (backend_tell.C U) := by
  intro vs κ h wv hx w s
  unfold backend_tell.C at hx
  split at hx
  · rename_i a1 a2 a3 a4
    refine postImp (ret := backend_tell.ret (fun r1 h => κ (.int .i64 r1) h)) (fun v h hr => by unfold backend_tell.ret at hr; split at hr; exact hr; exact hr.elim) ?_
    exact calls_of_pts (E := backend_tell.E U (fun r1 h => κ (.int .i64 r1) h) []) (envOK seatOK (backend_tell.callsOK hU) hU) seatOK.mixed backend_tell.fun (Nat.le_of_ble_eq_true rfl) wv (cutL_ok trivial) s (fuel := 3000) (by rw [← backend_tell.e]; exact hx)
  · exact hx.elim

noncomputable def ring_Ring_Push.code : Code := Go.Proofs.Tryd.f57.body.getD .skip

theorem ring_Ring_Push.fun : Fun sg.P 57 111 [.tmp 8] ring_Ring_Push.code := mkFun Go.Proofs.Tryd.func57 (by kernel_rfl) (by kernel_rfl) (by kernel_rfl) (by kernel_rfl)

def ring_Ring_Push.ret (Q : Int → Heap → Prop) (v : V) (h : Heap) : Prop :=
  match v with
  | .int .i64 r1 => Q r1 h
  | _ => False

def ring_Ring_Push.C (U : Ifc) (vs : List V) (κ : V → Heap → Prop) (h : Heap) : Prop :=
  match vs with
  | [.ptr a1, a2, .int .i64 a3, .int .i64 a4] => ring_Ring_Push U a1 a2 a3 a4 (fun r1 h => κ (.int .i64 r1) h) h
  | _ => False

noncomputable def ring_Ring_Push.calls (U : Ifc) : List (Nat × (List V → (V → Heap → Prop) → Heap → Prop)) := [(30, ring_Ring_usable.C)]

noncomputable def ring_Ring_Push.E (U : Ifc) (Q : Int → Heap → Prop) (cuts : List (Nat × (List Nat × (List V → Heap → Prop)))) : Env := { tis := tisT, fns := fnsT, tys := tysT, gls := glsT, rts := rtsT, unk := [], nxt := [], calls := ring_Ring_Push.calls U, ifc := U, cuts := cuts, ret := ring_Ring_Push.ret Q, rets := [.tmp 8], n := 111 }

theorem ring_Ring_Push.callsOK {W0 : World} {U : Ifc} (hU : IfcOK sg W0 glsT U) : CallsOK sg W0 (ring_Ring_Push.calls U) := ⟨ring_Ring_usable.S, trivial⟩

def ring_Ring_Push.k5 (I : Heap → Prop) (vs : List V) (h : Heap) : Prop :=
  match vs with
  | [] => I  h
  | _ => False

def ring_Ring_Push.k7 (I : Heap → Prop) (vs : List V) (h : Heap) : Prop :=
  match vs with
  | [] => I  h
  | _ => False

def ring_Ring_Push.k11 (I : (Option Ptr) → V → Sl → Int → Int → Heap → Prop) (vs : List V) (h : Heap) : Prop :=
  match vs with
  | [.ptr a1, a2, .sl a3, .int .i64 a4, .int .i64 a5] => I a1 a2 a3 a4 a5 h
  | _ => False

def ring_Ring_Push.k10 (I : (Option Ptr) → V → Int → Int → Int → Int → Heap → Prop) (vs : List V) (h : Heap) : Prop :=
  match vs with
  | [.ptr a1, a2, .int .i64 a3, .int .i64 a4, .int .u64 a5, .int .u64 a6] => I a1 a2 a3 a4 a5 a6 h
  | _ => False

def ring_Ring_Push.k8 (I : (Option Ptr) → V → Int → Int → Heap → Prop) (vs : List V) (h : Heap) : Prop :=
  match vs with
  | [.ptr a1, a2, .int .i64 a3, .int .i64 a4] => I a1 a2 a3 a4 h
  | _ => False

theorem ring_Ring_Push.p5 : (posC ring_Ring_Push.code []).filter (fun p => Nat.beq p.1 5) = [(5, atPos (posC ring_Ring_Push.code []) 5)] := by kernel_rfl

theorem ring_Ring_Push.e5 : ∀ (U : Ifc)   (Q : Int → Heap → Prop) (h : Heap), ring_Ring_Push.j5 U   Q h = pts (ring_Ring_Push.E U Q []) 3000 true (atPos (posC ring_Ring_Push.code []) 5) (frAt [] []) h := by
  intros; kernel_rfl

theorem ring_Ring_Push.s5 {W0 : World} {U : Ifc} (hU : IfcOK sg W0 glsT U) (Q : Int → Heap → Prop)   : CutOK sg W0 111 (entered 57) (Post sg W0 (ring_Ring_Push.ret Q)) (posC ring_Ring_Push.code []) 5 [] (ring_Ring_Push.k5 (fun  h => ring_Ring_Push.j5 U   Q h)) := by
  refine cutOK_head (fun vs h hk => ?_)
  unfold ring_Ring_Push.k5 at hk
  split at hk
  · skip
    intro todo hm ρ a w s f hp
    exact piece (E := ring_Ring_Push.E U Q []) (vs := []) (envOK seatOK (ring_Ring_Push.callsOK hU) hU) (fnOK seatOK ring_Ring_Push.fun) trivial ring_Ring_Push.p5 (fuel := 3000) (by rw [← ring_Ring_Push.e5]; exact hk) hm s f hp
  · exact hk.elim

theorem ring_Ring_Push.p7 : (posC ring_Ring_Push.code []).filter (fun p => Nat.beq p.1 7) = [(7, atPos (posC ring_Ring_Push.code []) 7)] := by kernel_rfl

theorem ring_Ring_Push.e7 : ∀ (U : Ifc)   (Q : Int → Heap → Prop) (h : Heap), ring_Ring_Push.j7 U   Q h = pts (ring_Ring_Push.E U Q []) 3000 true (atPos (posC ring_Ring_Push.code []) 7) (frAt [] []) h := by
  intros; kernel_rfl

theorem ring_Ring_Push.s7 {W0 : World} {U : Ifc} (hU : IfcOK sg W0 glsT U) (Q : Int → Heap → Prop)   : CutOK sg W0 111 (entered 57) (Post sg W0 (ring_Ring_Push.ret Q)) (posC ring_Ring_Push.code []) 7 [] (ring_Ring_Push.k7 (fun  h => ring_Ring_Push.j7 U   Q h)) := by
  refine cutOK_head (fun vs h hk => ?_)
  unfold ring_Ring_Push.k7 at hk
  split at hk
  · skip
    intro todo hm ρ a w s f hp
    exact piece (E := ring_Ring_Push.E U Q []) (vs := []) (envOK seatOK (ring_Ring_Push.callsOK hU) hU) (fnOK seatOK ring_Ring_Push.fun) trivial ring_Ring_Push.p7 (fuel := 3000) (by rw [← ring_Ring_Push.e7]; exact hk) hm s f hp
  · exact hk.elim

theorem ring_Ring_Push.p11 : (posC ring_Ring_Push.code []).filter (fun p => Nat.beq p.1 11) = [(11, atPos (posC ring_Ring_Push.code []) 11)] := by kernel_rfl

theorem ring_Ring_Push.e11 : ∀ (U : Ifc)  (I11 : (Option Ptr) → V → Sl → Int → Int → Heap → Prop) (a1 : Option Ptr) (a2 : V) (a3 : Sl) (a4 : Int) (a5 : Int) (Q : Int → Heap → Prop) (h : Heap), ring_Ring_Push.b11 U  I11 a1 a2 a3 a4 a5 Q h = pts (ring_Ring_Push.E U Q [(11, ([0, 1, 87, 88, 89], ring_Ring_Push.k11 I11))]) 3000 true (atPos (posC ring_Ring_Push.code []) 11) (frAt [0, 1, 87, 88, 89] [.ptr a1, a2, .sl a3, .int .i64 a4, .int .i64 a5]) h := by
  intros; kernel_rfl

theorem ring_Ring_Push.s11 {W0 : World} {U : Ifc} (hU : IfcOK sg W0 glsT U) (Q : Int → Heap → Prop)   : CutOK sg W0 111 (entered 57) (Post sg W0 (ring_Ring_Push.ret Q)) (posC ring_Ring_Push.code []) 11 [0, 1, 87, 88, 89] (ring_Ring_Push.k11 (fun a1 a2 a3 a4 a5 h => ring_Ring_Push.j11 U  a1 a2 a3 a4 a5 Q h)) := by
  refine cutOK_head (fun vs h hk => ?_)
  unfold ring_Ring_Push.k11 at hk
  split at hk
  · rename_i a1 a2 a3 a4 a5
    refine hk (fun a1 a2 a3 a4 a5 h => Head sg W0 111 (entered 57) (Post sg W0 (ring_Ring_Push.ret Q)) (posC ring_Ring_Push.code []) 11 [0, 1, 87, 88, 89] [.ptr a1, a2, .sl a3, .int .i64 a4, .int .i64 a5] h) ?_
    intro a1 a2 a3 a4 a5 h hb todo hm ρ a w s f hp
    have hself : CutOK sg W0 111 (entered 57) (Post sg W0 (ring_Ring_Push.ret Q)) (posC ring_Ring_Push.code []) 11 [0, 1, 87, 88, 89] (ring_Ring_Push.k11 (fun a1 a2 a3 a4 a5 h => Head sg W0 111 (entered 57) (Post sg W0 (ring_Ring_Push.ret Q)) (posC ring_Ring_Push.code []) 11 [0, 1, 87, 88, 89] [.ptr a1, a2, .sl a3, .int .i64 a4, .int .i64 a5] h)) := cutOK_head (fun vs h hk => by unfold ring_Ring_Push.k11 at hk; split at hk; exact hk; exact hk.elim)
    exact piece (E := ring_Ring_Push.E U Q [(11, ([0, 1, 87, 88, 89], ring_Ring_Push.k11 (fun a1 a2 a3 a4 a5 h => Head sg W0 111 (entered 57) (Post sg W0 (ring_Ring_Push.ret Q)) (posC ring_Ring_Push.code []) 11 [0, 1, 87, 88, 89] [.ptr a1, a2, .sl a3, .int .i64 a4, .int .i64 a5] h)))]) (vs := [.ptr a1, a2, .sl a3, .int .i64 a4, .int .i64 a5]) (envOK seatOK (ring_Ring_Push.callsOK hU) hU) (fnOK seatOK ring_Ring_Push.fun) ⟨hself, trivial⟩ ring_Ring_Push.p11 (fuel := 3000) (by rw [← ring_Ring_Push.e11]; exact hb) hm s f hp
  · exact hk.elim

theorem ring_Ring_Push.p10 : (posC ring_Ring_Push.code []).filter (fun p => Nat.beq p.1 10) = [(10, atPos (posC ring_Ring_Push.code []) 10)] := by kernel_rfl

theorem ring_Ring_Push.e10 : ∀ (U : Ifc)  (a1 : Option Ptr) (a2 : V) (a3 : Int) (a4 : Int) (a5 : Int) (a6 : Int) (Q : Int → Heap → Prop) (h : Heap), ring_Ring_Push.j10 U  a1 a2 a3 a4 a5 a6 Q h = pts (ring_Ring_Push.E U Q [(11, ([0, 1, 87, 88, 89], ring_Ring_Push.k11 (fun a1 a2 a3 a4 a5 h => ring_Ring_Push.j11 U  a1 a2 a3 a4 a5 Q h)))]) 3000 true (atPos (posC ring_Ring_Push.code []) 10) (frAt [0, 1, 2, 3, 10, 11] [.ptr a1, a2, .int .i64 a3, .int .i64 a4, .int .u64 a5, .int .u64 a6]) h := by
  intros; kernel_rfl

theorem ring_Ring_Push.s10 {W0 : World} {U : Ifc} (hU : IfcOK sg W0 glsT U) (Q : Int → Heap → Prop)   : CutOK sg W0 111 (entered 57) (Post sg W0 (ring_Ring_Push.ret Q)) (posC ring_Ring_Push.code []) 10 [0, 1, 2, 3, 10, 11] (ring_Ring_Push.k10 (fun a1 a2 a3 a4 a5 a6 h => ring_Ring_Push.j10 U  a1 a2 a3 a4 a5 a6 Q h)) := by
  refine cutOK_head (fun vs h hk => ?_)
  unfold ring_Ring_Push.k10 at hk
  split at hk
  · rename_i a1 a2 a3 a4 a5 a6
    intro todo hm ρ a w s f hp
    exact piece (E := ring_Ring_Push.E U Q [(11, ([0, 1, 87, 88, 89], ring_Ring_Push.k11 (fun a1 a2 a3 a4 a5 h => ring_Ring_Push.j11 U  a1 a2 a3 a4 a5 Q h)))]) (vs := [.ptr a1, a2, .int .i64 a3, .int .i64 a4, .int .u64 a5, .int .u64 a6]) (envOK seatOK (ring_Ring_Push.callsOK hU) hU) (fnOK seatOK ring_Ring_Push.fun) ⟨(ring_Ring_Push.s11 hU Q  ), trivial⟩ ring_Ring_Push.p10 (fuel := 3000) (by rw [← ring_Ring_Push.e10]; exact hk) hm s f hp
  · exact hk.elim

theorem ring_Ring_Push.p8 : (posC ring_Ring_Push.code []).filter (fun p => Nat.beq p.1 8) = [(8, atPos (posC ring_Ring_Push.code []) 8)] := by kernel_rfl

theorem ring_Ring_Push.e8 : ∀ (U : Ifc)  (a1 : Option Ptr) (a2 : V) (a3 : Int) (a4 : Int) (Q : Int → Heap → Prop) (h : Heap), ring_Ring_Push.j8 U  a1 a2 a3 a4 Q h = pts (ring_Ring_Push.E U Q [(10, ([0, 1, 2, 3, 10, 11], ring_Ring_Push.k10 (fun a1 a2 a3 a4 a5 a6 h => ring_Ring_Push.j10 U  a1 a2 a3 a4 a5 a6 Q h)))]) 3000 true (atPos (posC ring_Ring_Push.code []) 8) (frAt [0, 1, 2, 3] [.ptr a1, a2, .int .i64 a3, .int .i64 a4]) h := by
  intros; kernel_rfl

theorem ring_Ring_Push.s8 {W0 : World} {U : Ifc} (hU : IfcOK sg W0 glsT U) (Q : Int → Heap → Prop)   : CutOK sg W0 111 (entered 57) (Post sg W0 (ring_Ring_Push.ret Q)) (posC ring_Ring_Push.code []) 8 [0, 1, 2, 3] (ring_Ring_Push.k8 (fun a1 a2 a3 a4 h => ring_Ring_Push.j8 U  a1 a2 a3 a4 Q h)) := by
  refine cutOK_head (fun vs h hk => ?_)
  unfold ring_Ring_Push.k8 at hk
  split at hk
  · rename_i a1 a2 a3 a4
    intro todo hm ρ a w s f hp
    exact piece (E := ring_Ring_Push.E U Q [(10, ([0, 1, 2, 3, 10, 11], ring_Ring_Push.k10 (fun a1 a2 a3 a4 a5 a6 h => ring_Ring_Push.j10 U  a1 a2 a3 a4 a5 a6 Q h)))]) (vs := [.ptr a1, a2, .int .i64 a3, .int .i64 a4]) (envOK seatOK (ring_Ring_Push.callsOK hU) hU) (fnOK seatOK ring_Ring_Push.fun) ⟨(ring_Ring_Push.s10 hU Q  ), trivial⟩ ring_Ring_Push.p8 (fuel := 3000) (by rw [← ring_Ring_Push.e8]; exact hk) hm s f hp
  · exact hk.elim

theorem ring_Ring_Push.e : ∀ (U : Ifc) (a1 : Option Ptr) (a2 : V) (a3 : Int) (a4 : Int) (Q : Int → Heap → Prop) (h : Heap), ring_Ring_Push U a1 a2 a3 a4 Q h = pts (ring_Ring_Push.E U Q [(5, ([], ring_Ring_Push.k5 (fun  h => ring_Ring_Push.j5 U   Q h))), (7, ([], ring_Ring_Push.k7 (fun  h => ring_Ring_Push.j7 U   Q h))), (8, ([0, 1, 2, 3], ring_Ring_Push.k8 (fun a1 a2 a3 a4 h => ring_Ring_Push.j8 U  a1 a2 a3 a4 Q h)))]) 3000 true [.code ring_Ring_Push.code] (frOf 0 [.ptr a1, a2, .int .i64 a3, .int .i64 a4]) h := by
  intros; kernel_rfl

theorem ring_Ring_Push.S {W0 : World} {U : Ifc} (hU : IfcOK sg W0 glsT U) : FnS sg W0 78 (ring_Ring_Push.C U) := by
  intro vs κ h wv hx w s
  unfold ring_Ring_Push.C at hx
  split at hx
  · rename_i a1 a2 a3 a4
    refine postImp (ret := ring_Ring_Push.ret (fun r1 h => κ (.int .i64 r1) h)) (fun v h hr => by unfold ring_Ring_Push.ret at hr; split at hr; exact hr; exact hr.elim) ?_
    exact calls_of_pts (E := ring_Ring_Push.E U (fun r1 h => κ (.int .i64 r1) h) [(5, ([], ring_Ring_Push.k5 (fun  h => ring_Ring_Push.j5 U   (fun r1 h => κ (.int .i64 r1) h) h))), (7, ([], ring_Ring_Push.k7 (fun  h => ring_Ring_Push.j7 U   (fun r1 h => κ (.int .i64 r1) h) h))), (8, ([0, 1, 2, 3], ring_Ring_Push.k8 (fun a1 a2 a3 a4 h => ring_Ring_Push.j8 U  a1 a2 a3 a4 (fun r1 h => κ (.int .i64 r1) h) h)))]) (envOK seatOK (ring_Ring_Push.callsOK hU) hU) seatOK.mixed ring_Ring_Push.fun (Nat.le_of_ble_eq_true rfl) wv (cutL_ok ⟨(ring_Ring_Push.s5 hU (fun r1 h => κ (.int .i64 r1) h)), (ring_Ring_Push.s7 hU (fun r1 h => κ (.int .i64 r1) h)), (ring_Ring_Push.s8 hU (fun r1 h => κ (.int .i64 r1) h)), trivial⟩) s (fuel := 3000) (by rw [← ring_Ring_Push.e]; exact hx)
  · exact hx.elim

noncomputable def backend_Block_Kick.code : Code := Go.Proofs.Tryd.f20.body.getD .skip

theorem backend_Block_Kick.fun : Fun sg.P 20 74 [.tmp 4, .tmp 5] backend_Block_Kick.code := mkFun Go.Proofs.Tryd.func20 (by kernel_rfl) (by kernel_rfl) (by kernel_rfl) (by kernel_rfl)

def backend_Block_Kick.ret (Q : Int → Int → Heap → Prop) (v : V) (h : Heap) : Prop :=
  match v with
  | .tup [.int .i64 r1, .int .i64 r2] => Q r1 r2 h
  | _ => False

def backend_Block_Kick.C (U : Ifc) (vs : List V) (κ : V → Heap → Prop) (h : Heap) : Prop :=
  match vs with
  | [.ptr a1, a2] => backend_Block_Kick U a1 a2 (fun r1 r2 h => κ (.tup [.int .i64 r1, .int .i64 r2]) h) h
  | _ => False

noncomputable def backend_Block_Kick.calls (U : Ifc) : List (Nat × (List V → (V → Heap → Prop) → Heap → Prop)) := [(266, backend_Block_none.C), (77, ring_Ring_Next.C U), (269, backend_Block_ask.C U), (273, backend_Block_submit.C U), (78, ring_Ring_Push.C U), (274, backend_tell.C U)]

noncomputable def backend_Block_Kick.E (U : Ifc) (Q : Int → Int → Heap → Prop) (cuts : List (Nat × (List Nat × (List V → Heap → Prop)))) : Env := { tis := tisT, fns := fnsT, tys := tysT, gls := glsT, rts := rtsT, unk := [], nxt := [], calls := backend_Block_Kick.calls U, ifc := U, cuts := cuts, ret := backend_Block_Kick.ret Q, rets := [.tmp 4, .tmp 5], n := 74 }

theorem backend_Block_Kick.callsOK {W0 : World} {U : Ifc} (hU : IfcOK sg W0 glsT U) : CallsOK sg W0 (backend_Block_Kick.calls U) := ⟨backend_Block_none.S, (ring_Ring_Next.S hU), (backend_Block_ask.S hU), (backend_Block_submit.S hU), (ring_Ring_Push.S hU), (backend_tell.S hU), trivial⟩

def backend_Block_Kick.k7 (I : Int → Int → Heap → Prop) (vs : List V) (h : Heap) : Prop :=
  match vs with
  | [.int .i64 a1, .int .i64 a2] => I a1 a2 h
  | _ => False

def backend_Block_Kick.k11 (I : (Option Ptr) → V → Int → Ptr → Int → Heap → Prop) (vs : List V) (h : Heap) : Prop :=
  match vs with
  | [.ptr a1, a2, .int .i64 a3, .ptr (some a4), .int .u8 a5] => I a1 a2 a3 a4 a5 h
  | _ => False

def backend_Block_Kick.k8 (I : (Option Ptr) → V → Int → Ptr → Heap → Prop) (vs : List V) (h : Heap) : Prop :=
  match vs with
  | [.ptr a1, a2, .int .i64 a3, .ptr (some a4)] => I a1 a2 a3 a4 h
  | _ => False

def backend_Block_Kick.k4 (I : (Option Ptr) → V → Int → Heap → Prop) (vs : List V) (h : Heap) : Prop :=
  match vs with
  | [.ptr a1, a2, .int .i64 a3] => I a1 a2 a3 h
  | _ => False

theorem backend_Block_Kick.p7 : (posC backend_Block_Kick.code []).filter (fun p => Nat.beq p.1 7) = [(7, atPos (posC backend_Block_Kick.code []) 7)] := by kernel_rfl

theorem backend_Block_Kick.e7 : ∀ (U : Ifc) (I4 : (Option Ptr) → V → Int → Heap → Prop) (a1 : Int) (a2 : Int) (Q : Int → Int → Heap → Prop) (h : Heap), backend_Block_Kick.j7 U I4 a1 a2 Q h = pts (backend_Block_Kick.E U Q []) 3000 true (atPos (posC backend_Block_Kick.code []) 7) (frAt [6, 9] [.int .i64 a1, .int .i64 a2]) h := by
  intros; kernel_rfl

theorem backend_Block_Kick.s7 {W0 : World} {U : Ifc} (hU : IfcOK sg W0 glsT U) (Q : Int → Int → Heap → Prop) (I4 : (Option Ptr) → V → Int → Heap → Prop) (h4 : CutOK sg W0 74 (entered 20) (Post sg W0 (backend_Block_Kick.ret Q)) (posC backend_Block_Kick.code []) 4 [0, 1, 6] (backend_Block_Kick.k4 I4)) : CutOK sg W0 74 (entered 20) (Post sg W0 (backend_Block_Kick.ret Q)) (posC backend_Block_Kick.code []) 7 [6, 9] (backend_Block_Kick.k7 (fun a1 a2 h => backend_Block_Kick.j7 U I4 a1 a2 Q h)) := by
  refine cutOK_head (fun vs h hk => ?_)
  unfold backend_Block_Kick.k7 at hk
  split at hk
  · rename_i a1 a2
    intro todo hm ρ a w s f hp
    exact piece (E := backend_Block_Kick.E U Q []) (vs := [.int .i64 a1, .int .i64 a2]) (envOK seatOK (backend_Block_Kick.callsOK hU) hU) (fnOK seatOK backend_Block_Kick.fun) trivial backend_Block_Kick.p7 (fuel := 3000) (by rw [← backend_Block_Kick.e7]; exact hk) hm s f hp
  · exact hk.elim

theorem backend_Block_Kick.p11 : (posC backend_Block_Kick.code []).filter (fun p => Nat.beq p.1 11) = [(11, atPos (posC backend_Block_Kick.code []) 11)] := by kernel_rfl

theorem backend_Block_Kick.e11 : ∀ (U : Ifc) (I4 : (Option Ptr) → V → Int → Heap → Prop) (a1 : Option Ptr) (a2 : V) (a3 : Int) (a4 : Ptr) (a5 : Int) (Q : Int → Int → Heap → Prop) (h : Heap), backend_Block_Kick.j11 U I4 a1 a2 a3 a4 a5 Q h = pts (backend_Block_Kick.E U Q [(4, ([0, 1, 6], backend_Block_Kick.k4 I4))]) 3000 true (atPos (posC backend_Block_Kick.code []) 11) (frAt [0, 1, 6, 7, 11] [.ptr a1, a2, .int .i64 a3, .ptr (some a4), .int .u8 a5]) h := by
  intros; kernel_rfl

theorem backend_Block_Kick.s11 {W0 : World} {U : Ifc} (hU : IfcOK sg W0 glsT U) (Q : Int → Int → Heap → Prop) (I4 : (Option Ptr) → V → Int → Heap → Prop) (h4 : CutOK sg W0 74 (entered 20) (Post sg W0 (backend_Block_Kick.ret Q)) (posC backend_Block_Kick.code []) 4 [0, 1, 6] (backend_Block_Kick.k4 I4)) : CutOK sg W0 74 (entered 20) (Post sg W0 (backend_Block_Kick.ret Q)) (posC backend_Block_Kick.code []) 11 [0, 1, 6, 7, 11] (backend_Block_Kick.k11 (fun a1 a2 a3 a4 a5 h => backend_Block_Kick.j11 U I4 a1 a2 a3 a4 a5 Q h)) := by
  refine cutOK_head (fun vs h hk => ?_)
  unfold backend_Block_Kick.k11 at hk
  split at hk
  · rename_i a1 a2 a3 a4 a5
    intro todo hm ρ a w s f hp
    exact piece (E := backend_Block_Kick.E U Q [(4, ([0, 1, 6], backend_Block_Kick.k4 I4))]) (vs := [.ptr a1, a2, .int .i64 a3, .ptr (some a4), .int .u8 a5]) (envOK seatOK (backend_Block_Kick.callsOK hU) hU) (fnOK seatOK backend_Block_Kick.fun) ⟨h4, trivial⟩ backend_Block_Kick.p11 (fuel := 3000) (by rw [← backend_Block_Kick.e11]; exact hk) hm s f hp
  · exact hk.elim

theorem backend_Block_Kick.p8 : (posC backend_Block_Kick.code []).filter (fun p => Nat.beq p.1 8) = [(8, atPos (posC backend_Block_Kick.code []) 8)] := by kernel_rfl

theorem backend_Block_Kick.e8 : ∀ (U : Ifc) (I4 : (Option Ptr) → V → Int → Heap → Prop) (a1 : Option Ptr) (a2 : V) (a3 : Int) (a4 : Ptr) (Q : Int → Int → Heap → Prop) (h : Heap), backend_Block_Kick.j8 U I4 a1 a2 a3 a4 Q h = pts (backend_Block_Kick.E U Q [(11, ([0, 1, 6, 7, 11], backend_Block_Kick.k11 (fun a1 a2 a3 a4 a5 h => backend_Block_Kick.j11 U I4 a1 a2 a3 a4 a5 Q h)))]) 3000 true (atPos (posC backend_Block_Kick.code []) 8) (frAt [0, 1, 6, 7] [.ptr a1, a2, .int .i64 a3, .ptr (some a4)]) h := by
  intros; kernel_rfl

theorem backend_Block_Kick.s8 {W0 : World} {U : Ifc} (hU : IfcOK sg W0 glsT U) (Q : Int → Int → Heap → Prop) (I4 : (Option Ptr) → V → Int → Heap → Prop) (h4 : CutOK sg W0 74 (entered 20) (Post sg W0 (backend_Block_Kick.ret Q)) (posC backend_Block_Kick.code []) 4 [0, 1, 6] (backend_Block_Kick.k4 I4)) : CutOK sg W0 74 (entered 20) (Post sg W0 (backend_Block_Kick.ret Q)) (posC backend_Block_Kick.code []) 8 [0, 1, 6, 7] (backend_Block_Kick.k8 (fun a1 a2 a3 a4 h => backend_Block_Kick.j8 U I4 a1 a2 a3 a4 Q h)) := by
  refine cutOK_head (fun vs h hk => ?_)
  unfold backend_Block_Kick.k8 at hk
  split at hk
  · rename_i a1 a2 a3 a4
    intro todo hm ρ a w s f hp
    exact piece (E := backend_Block_Kick.E U Q [(11, ([0, 1, 6, 7, 11], backend_Block_Kick.k11 (fun a1 a2 a3 a4 a5 h => backend_Block_Kick.j11 U I4 a1 a2 a3 a4 a5 Q h)))]) (vs := [.ptr a1, a2, .int .i64 a3, .ptr (some a4)]) (envOK seatOK (backend_Block_Kick.callsOK hU) hU) (fnOK seatOK backend_Block_Kick.fun) ⟨(backend_Block_Kick.s11 hU Q I4 h4), trivial⟩ backend_Block_Kick.p8 (fuel := 3000) (by rw [← backend_Block_Kick.e8]; exact hk) hm s f hp
  · exact hk.elim

theorem backend_Block_Kick.p4 : (posC backend_Block_Kick.code []).filter (fun p => Nat.beq p.1 4) = [(4, atPos (posC backend_Block_Kick.code []) 4)] := by kernel_rfl

theorem backend_Block_Kick.e4 : ∀ (U : Ifc)  (I4 : (Option Ptr) → V → Int → Heap → Prop) (a1 : Option Ptr) (a2 : V) (a3 : Int) (Q : Int → Int → Heap → Prop) (h : Heap), backend_Block_Kick.b4 U  I4 a1 a2 a3 Q h = pts (backend_Block_Kick.E U Q [(7, ([6, 9], backend_Block_Kick.k7 (fun a1 a2 h => backend_Block_Kick.j7 U I4 a1 a2 Q h))), (8, ([0, 1, 6, 7], backend_Block_Kick.k8 (fun a1 a2 a3 a4 h => backend_Block_Kick.j8 U I4 a1 a2 a3 a4 Q h)))]) 3000 true (atPos (posC backend_Block_Kick.code []) 4) (frAt [0, 1, 6] [.ptr a1, a2, .int .i64 a3]) h := by
  intros; kernel_rfl

theorem backend_Block_Kick.s4 {W0 : World} {U : Ifc} (hU : IfcOK sg W0 glsT U) (Q : Int → Int → Heap → Prop)   : CutOK sg W0 74 (entered 20) (Post sg W0 (backend_Block_Kick.ret Q)) (posC backend_Block_Kick.code []) 4 [0, 1, 6] (backend_Block_Kick.k4 (fun a1 a2 a3 h => backend_Block_Kick.j4 U  a1 a2 a3 Q h)) := by
  refine cutOK_head (fun vs h hk => ?_)
  unfold backend_Block_Kick.k4 at hk
  split at hk
  · rename_i a1 a2 a3
    refine hk (fun a1 a2 a3 h => Head sg W0 74 (entered 20) (Post sg W0 (backend_Block_Kick.ret Q)) (posC backend_Block_Kick.code []) 4 [0, 1, 6] [.ptr a1, a2, .int .i64 a3] h) ?_
    intro a1 a2 a3 h hb todo hm ρ a w s f hp
    have hself : CutOK sg W0 74 (entered 20) (Post sg W0 (backend_Block_Kick.ret Q)) (posC backend_Block_Kick.code []) 4 [0, 1, 6] (backend_Block_Kick.k4 (fun a1 a2 a3 h => Head sg W0 74 (entered 20) (Post sg W0 (backend_Block_Kick.ret Q)) (posC backend_Block_Kick.code []) 4 [0, 1, 6] [.ptr a1, a2, .int .i64 a3] h)) := cutOK_head (fun vs h hk => by unfold backend_Block_Kick.k4 at hk; split at hk; exact hk; exact hk.elim)
    exact piece (E := backend_Block_Kick.E U Q [(7, ([6, 9], backend_Block_Kick.k7 (fun a1 a2 h => backend_Block_Kick.j7 U (fun a1 a2 a3 h => Head sg W0 74 (entered 20) (Post sg W0 (backend_Block_Kick.ret Q)) (posC backend_Block_Kick.code []) 4 [0, 1, 6] [.ptr a1, a2, .int .i64 a3] h) a1 a2 Q h))), (8, ([0, 1, 6, 7], backend_Block_Kick.k8 (fun a1 a2 a3 a4 h => backend_Block_Kick.j8 U (fun a1 a2 a3 h => Head sg W0 74 (entered 20) (Post sg W0 (backend_Block_Kick.ret Q)) (posC backend_Block_Kick.code []) 4 [0, 1, 6] [.ptr a1, a2, .int .i64 a3] h) a1 a2 a3 a4 Q h)))]) (vs := [.ptr a1, a2, .int .i64 a3]) (envOK seatOK (backend_Block_Kick.callsOK hU) hU) (fnOK seatOK backend_Block_Kick.fun) ⟨(backend_Block_Kick.s7 hU Q (fun a1 a2 a3 h => Head sg W0 74 (entered 20) (Post sg W0 (backend_Block_Kick.ret Q)) (posC backend_Block_Kick.code []) 4 [0, 1, 6] [.ptr a1, a2, .int .i64 a3] h) hself), (backend_Block_Kick.s8 hU Q (fun a1 a2 a3 h => Head sg W0 74 (entered 20) (Post sg W0 (backend_Block_Kick.ret Q)) (posC backend_Block_Kick.code []) 4 [0, 1, 6] [.ptr a1, a2, .int .i64 a3] h) hself), trivial⟩ backend_Block_Kick.p4 (fuel := 3000) (by rw [← backend_Block_Kick.e4]; exact hb) hm s f hp
  · exact hk.elim

theorem backend_Block_Kick.e : ∀ (U : Ifc) (a1 : Option Ptr) (a2 : V) (Q : Int → Int → Heap → Prop) (h : Heap), backend_Block_Kick U a1 a2 Q h = pts (backend_Block_Kick.E U Q [(4, ([0, 1, 6], backend_Block_Kick.k4 (fun a1 a2 a3 h => backend_Block_Kick.j4 U  a1 a2 a3 Q h)))]) 3000 true [.code backend_Block_Kick.code] (frOf 0 [.ptr a1, a2]) h := by
  intros; kernel_rfl

theorem backend_Block_Kick.S {W0 : World} {U : Ifc} (hU : IfcOK sg W0 glsT U) : FnS sg W0 275 (backend_Block_Kick.C U) := by
  intro vs κ h wv hx w s
  unfold backend_Block_Kick.C at hx
  split at hx
  · rename_i a1 a2
    refine postImp (ret := backend_Block_Kick.ret (fun r1 r2 h => κ (.tup [.int .i64 r1, .int .i64 r2]) h)) (fun v h hr => by unfold backend_Block_Kick.ret at hr; split at hr; exact hr; exact hr.elim) ?_
    exact calls_of_pts (E := backend_Block_Kick.E U (fun r1 r2 h => κ (.tup [.int .i64 r1, .int .i64 r2]) h) [(4, ([0, 1, 6], backend_Block_Kick.k4 (fun a1 a2 a3 h => backend_Block_Kick.j4 U  a1 a2 a3 (fun r1 r2 h => κ (.tup [.int .i64 r1, .int .i64 r2]) h) h)))]) (envOK seatOK (backend_Block_Kick.callsOK hU) hU) seatOK.mixed backend_Block_Kick.fun (Nat.le_of_ble_eq_true rfl) wv (cutL_ok ⟨(backend_Block_Kick.s4 hU (fun r1 r2 h => κ (.tup [.int .i64 r1, .int .i64 r2]) h)), trivial⟩) s (fuel := 3000) (by rw [← backend_Block_Kick.e]; exact hx)
  · exact hx.elim

noncomputable def word_Load.code : Code := Go.Proofs.Tryd.f91.body.getD .skip

theorem word_Load.fun : Fun sg.P 91 53 [.tmp 6, .tmp 7] word_Load.code := mkFun Go.Proofs.Tryd.func91 (by kernel_rfl) (by kernel_rfl) (by kernel_rfl) (by kernel_rfl)

def word_Load.ret (Q : Int → Bool → Heap → Prop) (v : V) (h : Heap) : Prop :=
  match v with
  | .tup [.int .u64 r1, .bool r2] => Q r1 r2 h
  | _ => False

def word_Load.C (U : Ifc) (vs : List V) (κ : V → Heap → Prop) (h : Heap) : Prop :=
  match vs with
  | [.sl a1, .int .i64 a2, .int .i64 a3] => word_Load U a1 a2 a3 (fun r1 r2 h => κ (.tup [.int .u64 r1, .bool r2]) h) h
  | _ => False

noncomputable def word_Load.calls (U : Ifc) : List (Nat × (List V → (V → Heap → Prop) → Heap → Prop)) := [(93, word_known.C U)]

noncomputable def word_Load.E (U : Ifc) (Q : Int → Bool → Heap → Prop) (cuts : List (Nat × (List Nat × (List V → Heap → Prop)))) : Env := { tis := tisT, fns := fnsT, tys := tysT, gls := glsT, rts := rtsT, unk := [], nxt := [], calls := word_Load.calls U, ifc := U, cuts := cuts, ret := word_Load.ret Q, rets := [.tmp 6, .tmp 7], n := 53 }

theorem word_Load.callsOK {W0 : World} {U : Ifc} (hU : IfcOK sg W0 glsT U) : CallsOK sg W0 (word_Load.calls U) := ⟨(word_known.S hU), trivial⟩

def word_Load.k2 (I : Heap → Prop) (vs : List V) (h : Heap) : Prop :=
  match vs with
  | [] => I  h
  | _ => False

def word_Load.k5 (I : Int → Int → Sl → Int → Int → Heap → Prop) (vs : List V) (h : Heap) : Prop :=
  match vs with
  | [.int .i64 a1, .int .u64 a2, .sl a3, .int .i64 a4, .int .i64 a5] => I a1 a2 a3 a4 a5 h
  | _ => False

theorem word_Load.p2 : (posC word_Load.code []).filter (fun p => Nat.beq p.1 2) = [(2, atPos (posC word_Load.code []) 2)] := by kernel_rfl

theorem word_Load.e2 : ∀ (U : Ifc)   (Q : Int → Bool → Heap → Prop) (h : Heap), word_Load.j2 U   Q h = pts (word_Load.E U Q []) 3000 true (atPos (posC word_Load.code []) 2) (frAt [] []) h := by
  intros; kernel_rfl

theorem word_Load.s2 {W0 : World} {U : Ifc} (hU : IfcOK sg W0 glsT U) (Q : Int → Bool → Heap → Prop)   : CutOK sg W0 53 (entered 91) (Post sg W0 (word_Load.ret Q)) (posC word_Load.code []) 2 [] (word_Load.k2 (fun  h => word_Load.j2 U   Q h)) := by
  refine cutOK_head (fun vs h hk => ?_)
  unfold word_Load.k2 at hk
  split at hk
  · skip
    intro todo hm ρ a w s f hp
    exact piece (E := word_Load.E U Q []) (vs := []) (envOK seatOK (word_Load.callsOK hU) hU) (fnOK seatOK word_Load.fun) trivial word_Load.p2 (fuel := 3000) (by rw [← word_Load.e2]; exact hk) hm s f hp
  · exact hk.elim

theorem word_Load.p5 : (posC word_Load.code []).filter (fun p => Nat.beq p.1 5) = [(5, atPos (posC word_Load.code []) 5)] := by kernel_rfl

theorem word_Load.e5 : ∀ (U : Ifc)  (I5 : Int → Int → Sl → Int → Int → Heap → Prop) (a1 : Int) (a2 : Int) (a3 : Sl) (a4 : Int) (a5 : Int) (Q : Int → Bool → Heap → Prop) (h : Heap), word_Load.b5 U  I5 a1 a2 a3 a4 a5 Q h = pts (word_Load.E U Q [(5, ([2, 8, 31, 32, 33], word_Load.k5 I5))]) 3000 true (atPos (posC word_Load.code []) 5) (frAt [2, 8, 31, 32, 33] [.int .i64 a1, .int .u64 a2, .sl a3, .int .i64 a4, .int .i64 a5]) h := by
  intros; kernel_rfl

theorem word_Load.s5 {W0 : World} {U : Ifc} (hU : IfcOK sg W0 glsT U) (Q : Int → Bool → Heap → Prop)   : CutOK sg W0 53 (entered 91) (Post sg W0 (word_Load.ret Q)) (posC word_Load.code []) 5 [2, 8, 31, 32, 33] (word_Load.k5 (fun a1 a2 a3 a4 a5 h => word_Load.j5 U  a1 a2 a3 a4 a5 Q h)) := by
  refine cutOK_head (fun vs h hk => ?_)
  unfold word_Load.k5 at hk
  split at hk
  · rename_i a1 a2 a3 a4 a5
    refine hk (fun a1 a2 a3 a4 a5 h => Head sg W0 53 (entered 91) (Post sg W0 (word_Load.ret Q)) (posC word_Load.code []) 5 [2, 8, 31, 32, 33] [.int .i64 a1, .int .u64 a2, .sl a3, .int .i64 a4, .int .i64 a5] h) ?_
    intro a1 a2 a3 a4 a5 h hb todo hm ρ a w s f hp
    have hself : CutOK sg W0 53 (entered 91) (Post sg W0 (word_Load.ret Q)) (posC word_Load.code []) 5 [2, 8, 31, 32, 33] (word_Load.k5 (fun a1 a2 a3 a4 a5 h => Head sg W0 53 (entered 91) (Post sg W0 (word_Load.ret Q)) (posC word_Load.code []) 5 [2, 8, 31, 32, 33] [.int .i64 a1, .int .u64 a2, .sl a3, .int .i64 a4, .int .i64 a5] h)) := cutOK_head (fun vs h hk => by unfold word_Load.k5 at hk; split at hk; exact hk; exact hk.elim)
    exact piece (E := word_Load.E U Q [(5, ([2, 8, 31, 32, 33], word_Load.k5 (fun a1 a2 a3 a4 a5 h => Head sg W0 53 (entered 91) (Post sg W0 (word_Load.ret Q)) (posC word_Load.code []) 5 [2, 8, 31, 32, 33] [.int .i64 a1, .int .u64 a2, .sl a3, .int .i64 a4, .int .i64 a5] h)))]) (vs := [.int .i64 a1, .int .u64 a2, .sl a3, .int .i64 a4, .int .i64 a5]) (envOK seatOK (word_Load.callsOK hU) hU) (fnOK seatOK word_Load.fun) ⟨hself, trivial⟩ word_Load.p5 (fuel := 3000) (by rw [← word_Load.e5]; exact hb) hm s f hp
  · exact hk.elim

theorem word_Load.e : ∀ (U : Ifc) (a1 : Sl) (a2 : Int) (a3 : Int) (Q : Int → Bool → Heap → Prop) (h : Heap), word_Load U a1 a2 a3 Q h = pts (word_Load.E U Q [(2, ([], word_Load.k2 (fun  h => word_Load.j2 U   Q h))), (5, ([2, 8, 31, 32, 33], word_Load.k5 (fun a1 a2 a3 a4 a5 h => word_Load.j5 U  a1 a2 a3 a4 a5 Q h)))]) 3000 true [.code word_Load.code] (frOf 0 [.sl a1, .int .i64 a2, .int .i64 a3]) h := by
  intros; kernel_rfl

theorem word_Load.S {W0 : World} {U : Ifc} (hU : IfcOK sg W0 glsT U) : FnS sg W0 94 (word_Load.C U) := by
  intro vs κ h wv hx w s
  unfold word_Load.C at hx
  split at hx
  · rename_i a1 a2 a3
    refine postImp (ret := word_Load.ret (fun r1 r2 h => κ (.tup [.int .u64 r1, .bool r2]) h)) (fun v h hr => by unfold word_Load.ret at hr; split at hr; exact hr; exact hr.elim) ?_
    exact calls_of_pts (E := word_Load.E U (fun r1 r2 h => κ (.tup [.int .u64 r1, .bool r2]) h) [(2, ([], word_Load.k2 (fun  h => word_Load.j2 U   (fun r1 r2 h => κ (.tup [.int .u64 r1, .bool r2]) h) h))), (5, ([2, 8, 31, 32, 33], word_Load.k5 (fun a1 a2 a3 a4 a5 h => word_Load.j5 U  a1 a2 a3 a4 a5 (fun r1 r2 h => κ (.tup [.int .u64 r1, .bool r2]) h) h)))]) (envOK seatOK (word_Load.callsOK hU) hU) seatOK.mixed word_Load.fun (Nat.le_of_ble_eq_true rfl) wv (cutL_ok ⟨(word_Load.s2 hU (fun r1 r2 h => κ (.tup [.int .u64 r1, .bool r2]) h)), (word_Load.s5 hU (fun r1 r2 h => κ (.tup [.int .u64 r1, .bool r2]) h)), trivial⟩) s (fuel := 3000) (by rw [← word_Load.e]; exact hx)
  · exact hx.elim

noncomputable def mem_Memory_Load.code : Code := Go.Proofs.Tryd.f59.body.getD .skip

theorem mem_Memory_Load.fun : Fun sg.P 59 29 [.tmp 6, .tmp 7] mem_Memory_Load.code := mkFun Go.Proofs.Tryd.func59 (by kernel_rfl) (by kernel_rfl) (by kernel_rfl) (by kernel_rfl)

def mem_Memory_Load.ret (Q : Int → Int → Heap → Prop) (v : V) (h : Heap) : Prop :=
  match v with
  | .tup [.int .u64 r1, .int .i64 r2] => Q r1 r2 h
  | _ => False

def mem_Memory_Load.C (U : Ifc) (vs : List V) (κ : V → Heap → Prop) (h : Heap) : Prop :=
  match vs with
  | [.ptr a1, .int .u64 a2, .int .i64 a3] => mem_Memory_Load U a1 a2 a3 (fun r1 r2 h => κ (.tup [.int .u64 r1, .int .i64 r2]) h) h
  | _ => False

noncomputable def mem_Memory_Load.calls (U : Ifc) : List (Nat × (List V → (V → Heap → Prop) → Heap → Prop)) := [(59, mem_Memory_number.C), (94, word_Load.C U)]

noncomputable def mem_Memory_Load.E (U : Ifc) (Q : Int → Int → Heap → Prop) (cuts : List (Nat × (List Nat × (List V → Heap → Prop)))) : Env := { tis := tisT, fns := fnsT, tys := tysT, gls := glsT, rts := rtsT, unk := [], nxt := [], calls := mem_Memory_Load.calls U, ifc := U, cuts := cuts, ret := mem_Memory_Load.ret Q, rets := [.tmp 6, .tmp 7], n := 29 }

theorem mem_Memory_Load.callsOK {W0 : World} {U : Ifc} (hU : IfcOK sg W0 glsT U) : CallsOK sg W0 (mem_Memory_Load.calls U) := ⟨mem_Memory_number.S, (word_Load.S hU), trivial⟩

theorem mem_Memory_Load.e : ∀ (U : Ifc) (a1 : Option Ptr) (a2 : Int) (a3 : Int) (Q : Int → Int → Heap → Prop) (h : Heap), mem_Memory_Load U a1 a2 a3 Q h = pts (mem_Memory_Load.E U Q []) 3000 true [.code mem_Memory_Load.code] (frOf 0 [.ptr a1, .int .u64 a2, .int .i64 a3]) h := by
  intros; kernel_rfl

theorem mem_Memory_Load.S {W0 : World} {U : Ifc} (hU : IfcOK sg W0 glsT U) : FnS sg W0 95 (mem_Memory_Load.C U) := by
  intro vs κ h wv hx w s
  unfold mem_Memory_Load.C at hx
  split at hx
  · rename_i a1 a2 a3
    refine postImp (ret := mem_Memory_Load.ret (fun r1 r2 h => κ (.tup [.int .u64 r1, .int .i64 r2]) h)) (fun v h hr => by unfold mem_Memory_Load.ret at hr; split at hr; exact hr; exact hr.elim) ?_
    exact calls_of_pts (E := mem_Memory_Load.E U (fun r1 r2 h => κ (.tup [.int .u64 r1, .int .i64 r2]) h) []) (envOK seatOK (mem_Memory_Load.callsOK hU) hU) seatOK.mixed mem_Memory_Load.fun (Nat.le_of_ble_eq_true rfl) wv (cutL_ok trivial) s (fuel := 3000) (by rw [← mem_Memory_Load.e]; exact hx)
  · exact hx.elim

noncomputable def palisadelaw24_Flat_Load.code : Code := Go.Proofs.Tryd.f21.body.getD .skip

theorem palisadelaw24_Flat_Load.fun : Fun sg.P 21 32 [.tmp 6, .tmp 7] palisadelaw24_Flat_Load.code := mkFun Go.Proofs.Tryd.func21 (by kernel_rfl) (by kernel_rfl) (by kernel_rfl) (by kernel_rfl)

def palisadelaw24_Flat_Load.ret (Q : Int → Int → Heap → Prop) (v : V) (h : Heap) : Prop :=
  match v with
  | .tup [.int .u64 r1, .int .i64 r2] => Q r1 r2 h
  | _ => False

def palisadelaw24_Flat_Load.C (U : Ifc) (vs : List V) (κ : V → Heap → Prop) (h : Heap) : Prop :=
  match vs with
  | [.ptr a1, .int .u64 a2, .int .i64 a3] => palisadelaw24_Flat_Load U a1 a2 a3 (fun r1 r2 h => κ (.tup [.int .u64 r1, .int .i64 r2]) h) h
  | _ => False

noncomputable def palisadelaw24_Flat_Load.calls (U : Ifc) : List (Nat × (List V → (V → Heap → Prop) → Heap → Prop)) := [(95, mem_Memory_Load.C U)]

noncomputable def palisadelaw24_Flat_Load.E (U : Ifc) (Q : Int → Int → Heap → Prop) (cuts : List (Nat × (List Nat × (List V → Heap → Prop)))) : Env := { tis := tisT, fns := fnsT, tys := tysT, gls := glsT, rts := rtsT, unk := [], nxt := [], calls := palisadelaw24_Flat_Load.calls U, ifc := U, cuts := cuts, ret := palisadelaw24_Flat_Load.ret Q, rets := [.tmp 6, .tmp 7], n := 32 }

theorem palisadelaw24_Flat_Load.callsOK {W0 : World} {U : Ifc} (hU : IfcOK sg W0 glsT U) : CallsOK sg W0 (palisadelaw24_Flat_Load.calls U) := ⟨(mem_Memory_Load.S hU), trivial⟩

theorem palisadelaw24_Flat_Load.e : ∀ (U : Ifc) (a1 : Option Ptr) (a2 : Int) (a3 : Int) (Q : Int → Int → Heap → Prop) (h : Heap), palisadelaw24_Flat_Load U a1 a2 a3 Q h = pts (palisadelaw24_Flat_Load.E U Q []) 3000 true [.code palisadelaw24_Flat_Load.code] (frOf 0 [.ptr a1, .int .u64 a2, .int .i64 a3]) h := by
  intros; kernel_rfl

theorem palisadelaw24_Flat_Load.S {W0 : World} {U : Ifc} (hU : IfcOK sg W0 glsT U) : FnS sg W0 297 (palisadelaw24_Flat_Load.C U) := by
  intro vs κ h wv hx w s
  unfold palisadelaw24_Flat_Load.C at hx
  split at hx
  · rename_i a1 a2 a3
    refine postImp (ret := palisadelaw24_Flat_Load.ret (fun r1 r2 h => κ (.tup [.int .u64 r1, .int .i64 r2]) h)) (fun v h hr => by unfold palisadelaw24_Flat_Load.ret at hr; split at hr; exact hr; exact hr.elim) ?_
    exact calls_of_pts (E := palisadelaw24_Flat_Load.E U (fun r1 r2 h => κ (.tup [.int .u64 r1, .int .i64 r2]) h) []) (envOK seatOK (palisadelaw24_Flat_Load.callsOK hU) hU) seatOK.mixed palisadelaw24_Flat_Load.fun (Nat.le_of_ble_eq_true rfl) wv (cutL_ok trivial) s (fuel := 3000) (by rw [← palisadelaw24_Flat_Load.e]; exact hx)
  · exact hx.elim

noncomputable def palisadelaw24_back.code : Code := Go.Proofs.Tryd.f16.body.getD .skip

theorem palisadelaw24_back.fun : Fun sg.P 16 28 [.tmp 2, .tmp 3] palisadelaw24_back.code := mkFun Go.Proofs.Tryd.func16 (by kernel_rfl) (by kernel_rfl) (by kernel_rfl) (by kernel_rfl)

def palisadelaw24_back.ret (Q : Int → Int → Heap → Prop) (v : V) (h : Heap) : Prop :=
  match v with
  | .tup [.int .i64 r1, .int .i64 r2] => Q r1 r2 h
  | _ => False

def palisadelaw24_back.C (U : Ifc) (vs : List V) (κ : V → Heap → Prop) (h : Heap) : Prop :=
  match vs with
  | [.ptr a1] => palisadelaw24_back U a1 (fun r1 r2 h => κ (.tup [.int .i64 r1, .int .i64 r2]) h) h
  | _ => False

noncomputable def palisadelaw24_back.calls (U : Ifc) : List (Nat × (List V → (V → Heap → Prop) → Heap → Prop)) := [(297, palisadelaw24_Flat_Load.C U)]

noncomputable def palisadelaw24_back.E (U : Ifc) (Q : Int → Int → Heap → Prop) (cuts : List (Nat × (List Nat × (List V → Heap → Prop)))) : Env := { tis := tisT, fns := fnsT, tys := tysT, gls := glsT, rts := rtsT, unk := [], nxt := [], calls := palisadelaw24_back.calls U, ifc := U, cuts := cuts, ret := palisadelaw24_back.ret Q, rets := [.tmp 2, .tmp 3], n := 28 }

theorem palisadelaw24_back.callsOK {W0 : World} {U : Ifc} (hU : IfcOK sg W0 glsT U) : CallsOK sg W0 (palisadelaw24_back.calls U) := ⟨(palisadelaw24_Flat_Load.S hU), trivial⟩

theorem palisadelaw24_back.e : ∀ (U : Ifc) (a1 : Option Ptr) (Q : Int → Int → Heap → Prop) (h : Heap), palisadelaw24_back U a1 Q h = pts (palisadelaw24_back.E U Q []) 3000 true [.code palisadelaw24_back.code] (frOf 0 [.ptr a1]) h := by
  intros; kernel_rfl

theorem palisadelaw24_back.S {W0 : World} {U : Ifc} (hU : IfcOK sg W0 glsT U) : FnS sg W0 302 (palisadelaw24_back.C U) := by
  intro vs κ h wv hx w s
  unfold palisadelaw24_back.C at hx
  split at hx
  · rename_i a1
    refine postImp (ret := palisadelaw24_back.ret (fun r1 r2 h => κ (.tup [.int .i64 r1, .int .i64 r2]) h)) (fun v h hr => by unfold palisadelaw24_back.ret at hr; split at hr; exact hr; exact hr.elim) ?_
    exact calls_of_pts (E := palisadelaw24_back.E U (fun r1 r2 h => κ (.tup [.int .i64 r1, .int .i64 r2]) h) []) (envOK seatOK (palisadelaw24_back.callsOK hU) hU) seatOK.mixed palisadelaw24_back.fun (Nat.le_of_ble_eq_true rfl) wv (cutL_ok trivial) s (fuel := 3000) (by rw [← palisadelaw24_back.e]; exact hx)
  · exact hx.elim

noncomputable def slices_Clone_disk_Request_disk_Request.code : Code := Go.Proofs.Tryd.f61.body.getD .skip

theorem slices_Clone_disk_Request_disk_Request.fun : Fun sg.P 61 8 [.tmp 2] slices_Clone_disk_Request_disk_Request.code := mkFun Go.Proofs.Tryd.func61 (by kernel_rfl) (by kernel_rfl) (by kernel_rfl) (by kernel_rfl)

def slices_Clone_disk_Request_disk_Request.ret (Q : Sl → Heap → Prop) (v : V) (h : Heap) : Prop :=
  match v with
  | .sl r1 => Q r1 h
  | _ => False

def slices_Clone_disk_Request_disk_Request.C (vs : List V) (κ : V → Heap → Prop) (h : Heap) : Prop :=
  match vs with
  | [.sl a1] => slices_Clone_disk_Request_disk_Request a1 (fun r1 h => κ (.sl r1) h) h
  | _ => False

noncomputable def slices_Clone_disk_Request_disk_Request.calls : List (Nat × (List V → (V → Heap → Prop) → Heap → Prop)) := []

noncomputable def slices_Clone_disk_Request_disk_Request.E (Q : Sl → Heap → Prop) (cuts : List (Nat × (List Nat × (List V → Heap → Prop)))) : Env := { tis := tisT, fns := fnsT, tys := tysT, gls := [], rts := rtsT, unk := [], nxt := [], calls := slices_Clone_disk_Request_disk_Request.calls, ifc := noIfc, cuts := cuts, ret := slices_Clone_disk_Request_disk_Request.ret Q, rets := [.tmp 2], n := 8 }

theorem slices_Clone_disk_Request_disk_Request.callsOK {W0 : World} : CallsOK sg W0 slices_Clone_disk_Request_disk_Request.calls := trivial

theorem slices_Clone_disk_Request_disk_Request.e : ∀ (a1 : Sl) (Q : Sl → Heap → Prop) (h : Heap), slices_Clone_disk_Request_disk_Request a1 Q h = pts (slices_Clone_disk_Request_disk_Request.E Q []) 3000 true [.code slices_Clone_disk_Request_disk_Request.code] (frOf 0 [.sl a1]) h := by
  intros; kernel_rfl

theorem slices_Clone_disk_Request_disk_Request.S {W0 : World} : FnS sg W0 37 slices_Clone_disk_Request_disk_Request.C := by
  intro vs κ h wv hx w s
  unfold slices_Clone_disk_Request_disk_Request.C at hx
  split at hx
  · rename_i a1
    refine postImp (ret := slices_Clone_disk_Request_disk_Request.ret (fun r1 h => κ (.sl r1) h)) (fun v h hr => by unfold slices_Clone_disk_Request_disk_Request.ret at hr; split at hr; exact hr; exact hr.elim) ?_
    exact calls_of_pts (E := slices_Clone_disk_Request_disk_Request.E (fun r1 h => κ (.sl r1) h) []) (envOK seatOK slices_Clone_disk_Request_disk_Request.callsOK noIfc_ok) seatOK.mixed slices_Clone_disk_Request_disk_Request.fun (Nat.le_of_ble_eq_true rfl) wv (cutL_ok trivial) s (fuel := 3000) (by rw [← slices_Clone_disk_Request_disk_Request.e]; exact hx)
  · exact hx.elim

noncomputable def disk_Disk_Pending.code : Code := Go.Proofs.Tryd.f22.body.getD .skip

theorem disk_Disk_Pending.fun : Fun sg.P 22 10 [.tmp 2] disk_Disk_Pending.code := mkFun Go.Proofs.Tryd.func22 (by kernel_rfl) (by kernel_rfl) (by kernel_rfl) (by kernel_rfl)

def disk_Disk_Pending.ret (Q : Sl → Heap → Prop) (v : V) (h : Heap) : Prop :=
  match v with
  | .sl r1 => Q r1 h
  | _ => False

def disk_Disk_Pending.C (vs : List V) (κ : V → Heap → Prop) (h : Heap) : Prop :=
  match vs with
  | [.ptr a1] => disk_Disk_Pending a1 (fun r1 h => κ (.sl r1) h) h
  | _ => False

noncomputable def disk_Disk_Pending.calls : List (Nat × (List V → (V → Heap → Prop) → Heap → Prop)) := [(29, disk_Disk_none.C), (37, slices_Clone_disk_Request_disk_Request.C)]

noncomputable def disk_Disk_Pending.E (Q : Sl → Heap → Prop) (cuts : List (Nat × (List Nat × (List V → Heap → Prop)))) : Env := { tis := tisT, fns := fnsT, tys := tysT, gls := [], rts := rtsT, unk := [], nxt := [], calls := disk_Disk_Pending.calls, ifc := noIfc, cuts := cuts, ret := disk_Disk_Pending.ret Q, rets := [.tmp 2], n := 10 }

theorem disk_Disk_Pending.callsOK {W0 : World} : CallsOK sg W0 disk_Disk_Pending.calls := ⟨disk_Disk_none.S, slices_Clone_disk_Request_disk_Request.S, trivial⟩

theorem disk_Disk_Pending.e : ∀ (a1 : Option Ptr) (Q : Sl → Heap → Prop) (h : Heap), disk_Disk_Pending a1 Q h = pts (disk_Disk_Pending.E Q []) 3000 true [.code disk_Disk_Pending.code] (frOf 0 [.ptr a1]) h := by
  intros; kernel_rfl

theorem disk_Disk_Pending.S {W0 : World} : FnS sg W0 38 disk_Disk_Pending.C := by
  intro vs κ h wv hx w s
  unfold disk_Disk_Pending.C at hx
  split at hx
  · rename_i a1
    refine postImp (ret := disk_Disk_Pending.ret (fun r1 h => κ (.sl r1) h)) (fun v h hr => by unfold disk_Disk_Pending.ret at hr; split at hr; exact hr; exact hr.elim) ?_
    exact calls_of_pts (E := disk_Disk_Pending.E (fun r1 h => κ (.sl r1) h) []) (envOK seatOK disk_Disk_Pending.callsOK noIfc_ok) seatOK.mixed disk_Disk_Pending.fun (Nat.le_of_ble_eq_true rfl) wv (cutL_ok trivial) s (fuel := 3000) (by rw [← disk_Disk_Pending.e]; exact hx)
  · exact hx.elim

noncomputable def frames_Frames_Sum.code : Code := Go.Proofs.Tryd.f23.body.getD .skip

theorem frames_Frames_Sum.fun : Fun sg.P 23 22 [.tmp 2] frames_Frames_Sum.code := mkFun Go.Proofs.Tryd.func23 (by kernel_rfl) (by kernel_rfl) (by kernel_rfl) (by kernel_rfl)

def frames_Frames_Sum.ret (Q : Int → Heap → Prop) (v : V) (h : Heap) : Prop :=
  match v with
  | .int .i64 r1 => Q r1 h
  | _ => False

def frames_Frames_Sum.C (vs : List V) (κ : V → Heap → Prop) (h : Heap) : Prop :=
  match vs with
  | [.ptr a1] => frames_Frames_Sum a1 (fun r1 h => κ (.int .i64 r1) h) h
  | _ => False

noncomputable def frames_Frames_Sum.calls : List (Nat × (List V → (V → Heap → Prop) → Heap → Prop)) := [(260, frames_Frames_none.C)]

noncomputable def frames_Frames_Sum.E (Q : Int → Heap → Prop) (cuts : List (Nat × (List Nat × (List V → Heap → Prop)))) : Env := { tis := tisT, fns := fnsT, tys := tysT, gls := [], rts := rtsT, unk := [], nxt := [(16, (.one (.int .i64), .one (.int .i64)))], calls := frames_Frames_Sum.calls, ifc := noIfc, cuts := cuts, ret := frames_Frames_Sum.ret Q, rets := [.tmp 2], n := 22 }

theorem frames_Frames_Sum.callsOK {W0 : World} : CallsOK sg W0 frames_Frames_Sum.calls := ⟨frames_Frames_none.S, trivial⟩

def frames_Frames_Sum.k5 (I : Int → Ptr → Heap → Prop) (vs : List V) (h : Heap) : Prop :=
  match vs with
  | [.int .i64 a1, .ptr (some a2)] => I a1 a2 h
  | _ => False

theorem frames_Frames_Sum.p5 : (posC frames_Frames_Sum.code []).filter (fun p => Nat.beq p.1 5) = [(5, atPos (posC frames_Frames_Sum.code []) 5)] := by kernel_rfl

theorem frames_Frames_Sum.e5 : ∀  (I5 : Int → Ptr → Heap → Prop) (a1 : Int) (a2 : Ptr) (Q : Int → Heap → Prop) (h : Heap), frames_Frames_Sum.b5  I5 a1 a2 Q h = pts (frames_Frames_Sum.E Q [(5, ([3, 13], frames_Frames_Sum.k5 I5))]) 3000 true (atPos (posC frames_Frames_Sum.code []) 5) (frAt [3, 13] [.int .i64 a1, .ptr (some a2)]) h := by
  intros; kernel_rfl

theorem frames_Frames_Sum.s5 {W0 : World} (Q : Int → Heap → Prop)   : CutOK sg W0 22 (entered 23) (Post sg W0 (frames_Frames_Sum.ret Q)) (posC frames_Frames_Sum.code []) 5 [3, 13] (frames_Frames_Sum.k5 (fun a1 a2 h => frames_Frames_Sum.j5  a1 a2 Q h)) := by
  refine cutOK_head (fun vs h hk => ?_)
  unfold frames_Frames_Sum.k5 at hk
  split at hk
  · rename_i a1 a2
    refine hk (fun a1 a2 h => Head sg W0 22 (entered 23) (Post sg W0 (frames_Frames_Sum.ret Q)) (posC frames_Frames_Sum.code []) 5 [3, 13] [.int .i64 a1, .ptr (some a2)] h) ?_
    intro a1 a2 h hb todo hm ρ a w s f hp
    have hself : CutOK sg W0 22 (entered 23) (Post sg W0 (frames_Frames_Sum.ret Q)) (posC frames_Frames_Sum.code []) 5 [3, 13] (frames_Frames_Sum.k5 (fun a1 a2 h => Head sg W0 22 (entered 23) (Post sg W0 (frames_Frames_Sum.ret Q)) (posC frames_Frames_Sum.code []) 5 [3, 13] [.int .i64 a1, .ptr (some a2)] h)) := cutOK_head (fun vs h hk => by unfold frames_Frames_Sum.k5 at hk; split at hk; exact hk; exact hk.elim)
    exact piece (E := frames_Frames_Sum.E Q [(5, ([3, 13], frames_Frames_Sum.k5 (fun a1 a2 h => Head sg W0 22 (entered 23) (Post sg W0 (frames_Frames_Sum.ret Q)) (posC frames_Frames_Sum.code []) 5 [3, 13] [.int .i64 a1, .ptr (some a2)] h)))]) (vs := [.int .i64 a1, .ptr (some a2)]) (envOK seatOK frames_Frames_Sum.callsOK noIfc_ok) (fnOK seatOK frames_Frames_Sum.fun) ⟨hself, trivial⟩ frames_Frames_Sum.p5 (fuel := 3000) (by rw [← frames_Frames_Sum.e5]; exact hb) hm s f hp
  · exact hk.elim

theorem frames_Frames_Sum.e : ∀ (a1 : Option Ptr) (Q : Int → Heap → Prop) (h : Heap), frames_Frames_Sum a1 Q h = pts (frames_Frames_Sum.E Q [(5, ([3, 13], frames_Frames_Sum.k5 (fun a1 a2 h => frames_Frames_Sum.j5  a1 a2 Q h)))]) 3000 true [.code frames_Frames_Sum.code] (frOf 0 [.ptr a1]) h := by
  intros; kernel_rfl

theorem frames_Frames_Sum.S {W0 : World} : FnS sg W0 303 frames_Frames_Sum.C := by
  intro vs κ h wv hx w s
  unfold frames_Frames_Sum.C at hx
  split at hx
  · rename_i a1
    refine postImp (ret := frames_Frames_Sum.ret (fun r1 h => κ (.int .i64 r1) h)) (fun v h hr => by unfold frames_Frames_Sum.ret at hr; split at hr; exact hr; exact hr.elim) ?_
    exact calls_of_pts (E := frames_Frames_Sum.E (fun r1 h => κ (.int .i64 r1) h) [(5, ([3, 13], frames_Frames_Sum.k5 (fun a1 a2 h => frames_Frames_Sum.j5  a1 a2 (fun r1 h => κ (.int .i64 r1) h) h)))]) (envOK seatOK frames_Frames_Sum.callsOK noIfc_ok) seatOK.mixed frames_Frames_Sum.fun (Nat.le_of_ble_eq_true rfl) wv (cutL_ok ⟨(frames_Frames_Sum.s5 (fun r1 h => κ (.int .i64 r1) h)), trivial⟩) s (fuel := 3000) (by rw [← frames_Frames_Sum.e]; exact hx)
  · exact hx.elim

end Go.Fn
