/- The links of the shallow functions to the machine. PRINTED by lift.py. -/
import Derived.Test.YtgfnnjnmomifjaaDoorGb2
set_option linter.unusedVariables false
set_option maxRecDepth 100000
namespace Go.Fn
open Go.Lift

noncomputable def disk_Disk_Complete.code : Code := Go.Proofs.Tryd.f33.body.getD .skip

theorem disk_Disk_Complete.fun : Fun sg.P 33 93 [.cell 6 86, .tmp 7] disk_Disk_Complete.code := mkFun Go.Proofs.Tryd.func33 (by kernel_rfl) (by kernel_rfl) (by kernel_rfl) (by kernel_rfl)

def disk_Disk_Complete.ret (Q : Int → Bool → Int → Int → Int → Heap → Prop) (v : V) (h : Heap) : Prop :=
  match v with
  | .tup [.agg [.int .i64 r1, .bool r2, .int .i64 r3, .int .i64 r4], .int .i64 r5] => Q r1 r2 r3 r4 r5 h
  | _ => False

def disk_Disk_Complete.C (U : Ifc) (vs : List V) (κ : V → Heap → Prop) (h : Heap) : Prop :=
  match vs with
  | [.ptr a1, .ptr a2, .int .i64 a3] => disk_Disk_Complete U a1 a2 a3 (fun r1 r2 r3 r4 r5 h => κ (.tup [.agg [.int .i64 r1, .bool r2, .int .i64 r3, .int .i64 r4], .int .i64 r5]) h) h
  | _ => False

noncomputable def disk_Disk_Complete.calls (U : Ifc) : List (Nat × (List V → (V → Heap → Prop) → Heap → Prop)) := [(33, mem_Memory_Put.C), (40, mem_Memory_Bytes.C), (29, disk_Disk_none.C), (55, mem_Memory_Frames.C), (71, slices_DeleteFunc_disk_Request_disk_Request.C U), (86, disk_Disk_Put.C U), (87, disk_Disk_Block.C)]

noncomputable def disk_Disk_Complete.E (U : Ifc) (Q : Int → Bool → Int → Int → Int → Heap → Prop) (cuts : List (Nat × (List Nat × (List V → Heap → Prop)))) : Env := { tis := tisT, fns := fnsT, tys := tysT, gls := glsT, rts := rtsT, unk := [], nxt := [], calls := disk_Disk_Complete.calls U, ifc := U, cuts := cuts, ret := disk_Disk_Complete.ret Q, rets := [.cell 6 86, .tmp 7], n := 93 }

theorem disk_Disk_Complete.callsOK {W0 : World} {U : Ifc} (hU : IfcOK sg W0 glsT U) : CallsOK sg W0 (disk_Disk_Complete.calls U) := ⟨mem_Memory_Put.S, mem_Memory_Bytes.S, disk_Disk_none.S, mem_Memory_Frames.S, (slices_DeleteFunc_disk_Request_disk_Request.S hU), (disk_Disk_Put.S hU), disk_Disk_Block.S, trivial⟩

def disk_Disk_Complete.k2 (I : Ptr → Heap → Prop) (vs : List V) (h : Heap) : Prop :=
  match vs with
  | [.ptr (some a1)] => I a1 h
  | _ => False

def disk_Disk_Complete.k4 (I : Ptr → Heap → Prop) (vs : List V) (h : Heap) : Prop :=
  match vs with
  | [.ptr (some a1)] => I a1 h
  | _ => False

def disk_Disk_Complete.k8 (I : Ptr → Ptr → Heap → Prop) (vs : List V) (h : Heap) : Prop :=
  match vs with
  | [.ptr (some a1), .ptr (some a2)] => I a1 a2 h
  | _ => False

def disk_Disk_Complete.k10 (I : (Option Ptr) → (Option Ptr) → Ptr → Ptr → Int → Heap → Prop) (vs : List V) (h : Heap) : Prop :=
  match vs with
  | [.ptr a1, .ptr a2, .ptr (some a3), .ptr (some a4), .int .u64 a5] => I a1 a2 a3 a4 a5 h
  | _ => False

def disk_Disk_Complete.k6 (I : (Option Ptr) → (Option Ptr) → Ptr → Ptr → Heap → Prop) (vs : List V) (h : Heap) : Prop :=
  match vs with
  | [.ptr a1, .ptr a2, .ptr (some a3), .ptr (some a4)] => I a1 a2 a3 a4 h
  | _ => False

theorem disk_Disk_Complete.p2 : (posC disk_Disk_Complete.code []).filter (fun p => Nat.beq p.1 2) = [(2, atPos (posC disk_Disk_Complete.code []) 2)] := by kernel_rfl

theorem disk_Disk_Complete.e2 : ∀ (U : Ifc)  (a1 : Ptr) (Q : Int → Bool → Int → Int → Int → Heap → Prop) (h : Heap), disk_Disk_Complete.j2 U  a1 Q h = pts (disk_Disk_Complete.E U Q []) 3000 true (atPos (posC disk_Disk_Complete.code []) 2) (frAt [6] [.ptr (some a1)]) h := by
  intros; kernel_rfl

theorem disk_Disk_Complete.s2 {W0 : World} {U : Ifc} (hU : IfcOK sg W0 glsT U) (Q : Int → Bool → Int → Int → Int → Heap → Prop)   : CutOK sg W0 93 (entered 33) (Post sg W0 (disk_Disk_Complete.ret Q)) (posC disk_Disk_Complete.code []) 2 [6] (disk_Disk_Complete.k2 (fun a1 h => disk_Disk_Complete.j2 U  a1 Q h)) := by
  refine cutOK_head (fun vs h hk => ?_)
  unfold disk_Disk_Complete.k2 at hk
  split at hk
  · rename_i a1
    intro todo hm ρ a w s f hp
    exact piece (E := disk_Disk_Complete.E U Q []) (vs := [.ptr (some a1)]) (envOK seatOK (disk_Disk_Complete.callsOK hU) hU) (fnOK seatOK disk_Disk_Complete.fun) trivial disk_Disk_Complete.p2 (fuel := 3000) (by rw [← disk_Disk_Complete.e2]; exact hk) hm s f hp
  · exact hk.elim

theorem disk_Disk_Complete.p4 : (posC disk_Disk_Complete.code []).filter (fun p => Nat.beq p.1 4) = [(4, atPos (posC disk_Disk_Complete.code []) 4)] := by kernel_rfl

theorem disk_Disk_Complete.e4 : ∀ (U : Ifc)  (a1 : Ptr) (Q : Int → Bool → Int → Int → Int → Heap → Prop) (h : Heap), disk_Disk_Complete.j4 U  a1 Q h = pts (disk_Disk_Complete.E U Q []) 3000 true (atPos (posC disk_Disk_Complete.code []) 4) (frAt [6] [.ptr (some a1)]) h := by
  intros; kernel_rfl

theorem disk_Disk_Complete.s4 {W0 : World} {U : Ifc} (hU : IfcOK sg W0 glsT U) (Q : Int → Bool → Int → Int → Int → Heap → Prop)   : CutOK sg W0 93 (entered 33) (Post sg W0 (disk_Disk_Complete.ret Q)) (posC disk_Disk_Complete.code []) 4 [6] (disk_Disk_Complete.k4 (fun a1 h => disk_Disk_Complete.j4 U  a1 Q h)) := by
  refine cutOK_head (fun vs h hk => ?_)
  unfold disk_Disk_Complete.k4 at hk
  split at hk
  · rename_i a1
    intro todo hm ρ a w s f hp
    exact piece (E := disk_Disk_Complete.E U Q []) (vs := [.ptr (some a1)]) (envOK seatOK (disk_Disk_Complete.callsOK hU) hU) (fnOK seatOK disk_Disk_Complete.fun) trivial disk_Disk_Complete.p4 (fuel := 3000) (by rw [← disk_Disk_Complete.e4]; exact hk) hm s f hp
  · exact hk.elim

theorem disk_Disk_Complete.p8 : (posC disk_Disk_Complete.code []).filter (fun p => Nat.beq p.1 8) = [(8, atPos (posC disk_Disk_Complete.code []) 8)] := by kernel_rfl

theorem disk_Disk_Complete.e8 : ∀ (U : Ifc)  (a1 : Ptr) (a2 : Ptr) (Q : Int → Bool → Int → Int → Int → Heap → Prop) (h : Heap), disk_Disk_Complete.j8 U  a1 a2 Q h = pts (disk_Disk_Complete.E U Q []) 3000 true (atPos (posC disk_Disk_Complete.code []) 8) (frAt [6, 8] [.ptr (some a1), .ptr (some a2)]) h := by
  intros; kernel_rfl

theorem disk_Disk_Complete.s8 {W0 : World} {U : Ifc} (hU : IfcOK sg W0 glsT U) (Q : Int → Bool → Int → Int → Int → Heap → Prop)   : CutOK sg W0 93 (entered 33) (Post sg W0 (disk_Disk_Complete.ret Q)) (posC disk_Disk_Complete.code []) 8 [6, 8] (disk_Disk_Complete.k8 (fun a1 a2 h => disk_Disk_Complete.j8 U  a1 a2 Q h)) := by
  refine cutOK_head (fun vs h hk => ?_)
  unfold disk_Disk_Complete.k8 at hk
  split at hk
  · rename_i a1 a2
    intro todo hm ρ a w s f hp
    exact piece (E := disk_Disk_Complete.E U Q []) (vs := [.ptr (some a1), .ptr (some a2)]) (envOK seatOK (disk_Disk_Complete.callsOK hU) hU) (fnOK seatOK disk_Disk_Complete.fun) trivial disk_Disk_Complete.p8 (fuel := 3000) (by rw [← disk_Disk_Complete.e8]; exact hk) hm s f hp
  · exact hk.elim

theorem disk_Disk_Complete.p10 : (posC disk_Disk_Complete.code []).filter (fun p => Nat.beq p.1 10) = [(10, atPos (posC disk_Disk_Complete.code []) 10)] := by kernel_rfl

theorem disk_Disk_Complete.e10 : ∀ (U : Ifc)  (a1 : Option Ptr) (a2 : Option Ptr) (a3 : Ptr) (a4 : Ptr) (a5 : Int) (Q : Int → Bool → Int → Int → Int → Heap → Prop) (h : Heap), disk_Disk_Complete.j10 U  a1 a2 a3 a4 a5 Q h = pts (disk_Disk_Complete.E U Q []) 3000 true (atPos (posC disk_Disk_Complete.code []) 10) (frAt [0, 1, 6, 8, 9] [.ptr a1, .ptr a2, .ptr (some a3), .ptr (some a4), .int .u64 a5]) h := by
  intros; kernel_rfl

theorem disk_Disk_Complete.s10 {W0 : World} {U : Ifc} (hU : IfcOK sg W0 glsT U) (Q : Int → Bool → Int → Int → Int → Heap → Prop)   : CutOK sg W0 93 (entered 33) (Post sg W0 (disk_Disk_Complete.ret Q)) (posC disk_Disk_Complete.code []) 10 [0, 1, 6, 8, 9] (disk_Disk_Complete.k10 (fun a1 a2 a3 a4 a5 h => disk_Disk_Complete.j10 U  a1 a2 a3 a4 a5 Q h)) := by
  refine cutOK_head (fun vs h hk => ?_)
  unfold disk_Disk_Complete.k10 at hk
  split at hk
  · rename_i a1 a2 a3 a4 a5
    intro todo hm ρ a w s f hp
    exact piece (E := disk_Disk_Complete.E U Q []) (vs := [.ptr a1, .ptr a2, .ptr (some a3), .ptr (some a4), .int .u64 a5]) (envOK seatOK (disk_Disk_Complete.callsOK hU) hU) (fnOK seatOK disk_Disk_Complete.fun) trivial disk_Disk_Complete.p10 (fuel := 3000) (by rw [← disk_Disk_Complete.e10]; exact hk) hm s f hp
  · exact hk.elim

theorem disk_Disk_Complete.p6 : (posC disk_Disk_Complete.code []).filter (fun p => Nat.beq p.1 6) = [(6, atPos (posC disk_Disk_Complete.code []) 6)] := by kernel_rfl

theorem disk_Disk_Complete.e6 : ∀ (U : Ifc)  (a1 : Option Ptr) (a2 : Option Ptr) (a3 : Ptr) (a4 : Ptr) (Q : Int → Bool → Int → Int → Int → Heap → Prop) (h : Heap), disk_Disk_Complete.j6 U  a1 a2 a3 a4 Q h = pts (disk_Disk_Complete.E U Q [(8, ([6, 8], disk_Disk_Complete.k8 (fun a1 a2 h => disk_Disk_Complete.j8 U  a1 a2 Q h))), (10, ([0, 1, 6, 8, 9], disk_Disk_Complete.k10 (fun a1 a2 a3 a4 a5 h => disk_Disk_Complete.j10 U  a1 a2 a3 a4 a5 Q h)))]) 3000 true (atPos (posC disk_Disk_Complete.code []) 6) (frAt [0, 1, 6, 8] [.ptr a1, .ptr a2, .ptr (some a3), .ptr (some a4)]) h := by
  intros; kernel_rfl

theorem disk_Disk_Complete.s6 {W0 : World} {U : Ifc} (hU : IfcOK sg W0 glsT U) (Q : Int → Bool → Int → Int → Int → Heap → Prop)   : CutOK sg W0 93 (entered 33) (Post sg W0 (disk_Disk_Complete.ret Q)) (posC disk_Disk_Complete.code []) 6 [0, 1, 6, 8] (disk_Disk_Complete.k6 (fun a1 a2 a3 a4 h => disk_Disk_Complete.j6 U  a1 a2 a3 a4 Q h)) := by
  refine cutOK_head (fun vs h hk => ?_)
  unfold disk_Disk_Complete.k6 at hk
  split at hk
  · rename_i a1 a2 a3 a4
    intro todo hm ρ a w s f hp
    exact piece (E := disk_Disk_Complete.E U Q [(8, ([6, 8], disk_Disk_Complete.k8 (fun a1 a2 h => disk_Disk_Complete.j8 U  a1 a2 Q h))), (10, ([0, 1, 6, 8, 9], disk_Disk_Complete.k10 (fun a1 a2 a3 a4 a5 h => disk_Disk_Complete.j10 U  a1 a2 a3 a4 a5 Q h)))]) (vs := [.ptr a1, .ptr a2, .ptr (some a3), .ptr (some a4)]) (envOK seatOK (disk_Disk_Complete.callsOK hU) hU) (fnOK seatOK disk_Disk_Complete.fun) ⟨(disk_Disk_Complete.s8 hU Q  ), (disk_Disk_Complete.s10 hU Q  ), trivial⟩ disk_Disk_Complete.p6 (fuel := 3000) (by rw [← disk_Disk_Complete.e6]; exact hk) hm s f hp
  · exact hk.elim

theorem disk_Disk_Complete.e : ∀ (U : Ifc) (a1 : Option Ptr) (a2 : Option Ptr) (a3 : Int) (Q : Int → Bool → Int → Int → Int → Heap → Prop) (h : Heap), disk_Disk_Complete U a1 a2 a3 Q h = pts (disk_Disk_Complete.E U Q [(2, ([6], disk_Disk_Complete.k2 (fun a1 h => disk_Disk_Complete.j2 U  a1 Q h))), (4, ([6], disk_Disk_Complete.k4 (fun a1 h => disk_Disk_Complete.j4 U  a1 Q h))), (6, ([0, 1, 6, 8], disk_Disk_Complete.k6 (fun a1 a2 a3 a4 h => disk_Disk_Complete.j6 U  a1 a2 a3 a4 Q h)))]) 3000 true [.code disk_Disk_Complete.code] (frOf 0 [.ptr a1, .ptr a2, .int .i64 a3]) h := by
  intros; kernel_rfl

theorem disk_Disk_Complete.S {W0 : World} {U : Ifc} (hU : IfcOK sg W0 glsT U) : FnS sg W0 88 (disk_Disk_Complete.C U) := by
  intro vs κ h wv hx w s
  unfold disk_Disk_Complete.C at hx
  split at hx
  · rename_i a1 a2 a3
    refine postImp (ret := disk_Disk_Complete.ret (fun r1 r2 r3 r4 r5 h => κ (.tup [.agg [.int .i64 r1, .bool r2, .int .i64 r3, .int .i64 r4], .int .i64 r5]) h)) (fun v h hr => by unfold disk_Disk_Complete.ret at hr; split at hr; exact hr; exact hr.elim) ?_
    exact calls_of_pts (E := disk_Disk_Complete.E U (fun r1 r2 r3 r4 r5 h => κ (.tup [.agg [.int .i64 r1, .bool r2, .int .i64 r3, .int .i64 r4], .int .i64 r5]) h) [(2, ([6], disk_Disk_Complete.k2 (fun a1 h => disk_Disk_Complete.j2 U  a1 (fun r1 r2 r3 r4 r5 h => κ (.tup [.agg [.int .i64 r1, .bool r2, .int .i64 r3, .int .i64 r4], .int .i64 r5]) h) h))), (4, ([6], disk_Disk_Complete.k4 (fun a1 h => disk_Disk_Complete.j4 U  a1 (fun r1 r2 r3 r4 r5 h => κ (.tup [.agg [.int .i64 r1, .bool r2, .int .i64 r3, .int .i64 r4], .int .i64 r5]) h) h))), (6, ([0, 1, 6, 8], disk_Disk_Complete.k6 (fun a1 a2 a3 a4 h => disk_Disk_Complete.j6 U  a1 a2 a3 a4 (fun r1 r2 r3 r4 r5 h => κ (.tup [.agg [.int .i64 r1, .bool r2, .int .i64 r3, .int .i64 r4], .int .i64 r5]) h) h)))]) (envOK seatOK (disk_Disk_Complete.callsOK hU) hU) seatOK.mixed disk_Disk_Complete.fun (Nat.le_of_ble_eq_true rfl) wv (cutL_ok ⟨(disk_Disk_Complete.s2 hU (fun r1 r2 r3 r4 r5 h => κ (.tup [.agg [.int .i64 r1, .bool r2, .int .i64 r3, .int .i64 r4], .int .i64 r5]) h)), (disk_Disk_Complete.s4 hU (fun r1 r2 r3 r4 r5 h => κ (.tup [.agg [.int .i64 r1, .bool r2, .int .i64 r3, .int .i64 r4], .int .i64 r5]) h)), (disk_Disk_Complete.s6 hU (fun r1 r2 r3 r4 r5 h => κ (.tup [.agg [.int .i64 r1, .bool r2, .int .i64 r3, .int .i64 r4], .int .i64 r5]) h)), trivial⟩) s (fuel := 3000) (by rw [← disk_Disk_Complete.e]; exact hx)
  · exact hx.elim

noncomputable def backend_Block_Done.code : Code := Go.Proofs.Tryd.f34.body.getD .skip

theorem backend_Block_Done.fun : Fun sg.P 34 59 [.tmp 6, .tmp 7] backend_Block_Done.code := mkFun Go.Proofs.Tryd.func34 (by kernel_rfl) (by kernel_rfl) (by kernel_rfl) (by kernel_rfl)

def backend_Block_Done.ret (Q : Bool → Int → Heap → Prop) (v : V) (h : Heap) : Prop :=
  match v with
  | .tup [.bool r1, .int .i64 r2] => Q r1 r2 h
  | _ => False

def backend_Block_Done.C (U : Ifc) (vs : List V) (κ : V → Heap → Prop) (h : Heap) : Prop :=
  match vs with
  | [.ptr a1, a2, .int .i64 a3] => backend_Block_Done U a1 a2 a3 (fun r1 r2 h => κ (.tup [.bool r1, .int .i64 r2]) h) h
  | _ => False

noncomputable def backend_Block_Done.calls (U : Ifc) : List (Nat × (List V → (V → Heap → Prop) → Heap → Prop)) := [(272, frames_Frames_Free.C), (266, backend_Block_none.C), (78, ring_Ring_Push.C U), (274, backend_tell.C U)]

noncomputable def backend_Block_Done.E (U : Ifc) (Q : Bool → Int → Heap → Prop) (cuts : List (Nat × (List Nat × (List V → Heap → Prop)))) : Env := { tis := tisT, fns := fnsT, tys := tysT, gls := glsT, rts := rtsT, unk := [], nxt := [], calls := backend_Block_Done.calls U, ifc := U, cuts := cuts, ret := backend_Block_Done.ret Q, rets := [.tmp 6, .tmp 7], n := 59 }

theorem backend_Block_Done.callsOK {W0 : World} {U : Ifc} (hU : IfcOK sg W0 glsT U) : CallsOK sg W0 (backend_Block_Done.calls U) := ⟨frames_Frames_Free.S, backend_Block_none.S, (ring_Ring_Push.S hU), (backend_tell.S hU), trivial⟩

def backend_Block_Done.k7 (I : (Option Ptr) → V → Ptr → Heap → Prop) (vs : List V) (h : Heap) : Prop :=
  match vs with
  | [.ptr a1, a2, .ptr (some a3)] => I a1 a2 a3 h
  | _ => False

theorem backend_Block_Done.p7 : (posC backend_Block_Done.code []).filter (fun p => Nat.beq p.1 7) = [(7, atPos (posC backend_Block_Done.code []) 7)] := by kernel_rfl

theorem backend_Block_Done.e7 : ∀ (U : Ifc)  (a1 : Option Ptr) (a2 : V) (a3 : Ptr) (Q : Bool → Int → Heap → Prop) (h : Heap), backend_Block_Done.j7 U  a1 a2 a3 Q h = pts (backend_Block_Done.E U Q []) 3000 true (atPos (posC backend_Block_Done.code []) 7) (frAt [0, 1, 8] [.ptr a1, a2, .ptr (some a3)]) h := by
  intros; kernel_rfl

theorem backend_Block_Done.s7 {W0 : World} {U : Ifc} (hU : IfcOK sg W0 glsT U) (Q : Bool → Int → Heap → Prop)   : CutOK sg W0 59 (entered 34) (Post sg W0 (backend_Block_Done.ret Q)) (posC backend_Block_Done.code []) 7 [0, 1, 8] (backend_Block_Done.k7 (fun a1 a2 a3 h => backend_Block_Done.j7 U  a1 a2 a3 Q h)) := by
  refine cutOK_head (fun vs h hk => ?_)
  unfold backend_Block_Done.k7 at hk
  split at hk
  · rename_i a1 a2 a3
    intro todo hm ρ a w s f hp
    exact piece (E := backend_Block_Done.E U Q []) (vs := [.ptr a1, a2, .ptr (some a3)]) (envOK seatOK (backend_Block_Done.callsOK hU) hU) (fnOK seatOK backend_Block_Done.fun) trivial backend_Block_Done.p7 (fuel := 3000) (by rw [← backend_Block_Done.e7]; exact hk) hm s f hp
  · exact hk.elim

theorem backend_Block_Done.e : ∀ (U : Ifc) (a1 : Option Ptr) (a2 : V) (a3 : Int) (Q : Bool → Int → Heap → Prop) (h : Heap), backend_Block_Done U a1 a2 a3 Q h = pts (backend_Block_Done.E U Q [(7, ([0, 1, 8], backend_Block_Done.k7 (fun a1 a2 a3 h => backend_Block_Done.j7 U  a1 a2 a3 Q h)))]) 3000 true [.code backend_Block_Done.code] (frOf 0 [.ptr a1, a2, .int .i64 a3]) h := by
  intros; kernel_rfl

theorem backend_Block_Done.S {W0 : World} {U : Ifc} (hU : IfcOK sg W0 glsT U) : FnS sg W0 276 (backend_Block_Done.C U) := by
  intro vs κ h wv hx w s
  unfold backend_Block_Done.C at hx
  split at hx
  · rename_i a1 a2 a3
    refine postImp (ret := backend_Block_Done.ret (fun r1 r2 h => κ (.tup [.bool r1, .int .i64 r2]) h)) (fun v h hr => by unfold backend_Block_Done.ret at hr; split at hr; exact hr; exact hr.elim) ?_
    exact calls_of_pts (E := backend_Block_Done.E U (fun r1 r2 h => κ (.tup [.bool r1, .int .i64 r2]) h) [(7, ([0, 1, 8], backend_Block_Done.k7 (fun a1 a2 a3 h => backend_Block_Done.j7 U  a1 a2 a3 (fun r1 r2 h => κ (.tup [.bool r1, .int .i64 r2]) h) h)))]) (envOK seatOK (backend_Block_Done.callsOK hU) hU) seatOK.mixed backend_Block_Done.fun (Nat.le_of_ble_eq_true rfl) wv (cutL_ok ⟨(backend_Block_Done.s7 hU (fun r1 r2 h => κ (.tup [.bool r1, .int .i64 r2]) h)), trivial⟩) s (fuel := 3000) (by rw [← backend_Block_Done.e]; exact hx)
  · exact hx.elim

noncomputable def backend_Block_Drop.code : Code := Go.Proofs.Tryd.f35.body.getD .skip

theorem backend_Block_Drop.fun : Fun sg.P 35 32 [] backend_Block_Drop.code := mkFun Go.Proofs.Tryd.func35 (by kernel_rfl) (by kernel_rfl) (by kernel_rfl) (by kernel_rfl)

def backend_Block_Drop.ret (Q : Heap → Prop) (v : V) (h : Heap) : Prop :=
  match v with
  | .tup [] => Q  h
  | _ => False

def backend_Block_Drop.C (vs : List V) (κ : V → Heap → Prop) (h : Heap) : Prop :=
  match vs with
  | [.ptr a1] => backend_Block_Drop a1 (fun  h => κ (.tup []) h) h
  | _ => False

noncomputable def backend_Block_Drop.calls : List (Nat × (List V → (V → Heap → Prop) → Heap → Prop)) := [(272, frames_Frames_Free.C)]

noncomputable def backend_Block_Drop.E (Q : Heap → Prop) (cuts : List (Nat × (List Nat × (List V → Heap → Prop)))) : Env := { tis := tisT, fns := fnsT, tys := tysT, gls := [], rts := rtsT, unk := [], nxt := [(13, (.one (.int .i64), .agg [(.int .i64), .sl, (.int .i64), .bool]))], calls := backend_Block_Drop.calls, ifc := noIfc, cuts := cuts, ret := backend_Block_Drop.ret Q, rets := [], n := 32 }

theorem backend_Block_Drop.callsOK {W0 : World} : CallsOK sg W0 backend_Block_Drop.calls := ⟨frames_Frames_Free.S, trivial⟩

def backend_Block_Drop.k2 (I : (Option Ptr) → Ptr → Heap → Prop) (vs : List V) (h : Heap) : Prop :=
  match vs with
  | [.ptr a1, .ptr (some a2)] => I a1 a2 h
  | _ => False

theorem backend_Block_Drop.p2 : (posC backend_Block_Drop.code []).filter (fun p => Nat.beq p.1 2) = [(2, atPos (posC backend_Block_Drop.code []) 2)] := by kernel_rfl

theorem backend_Block_Drop.e2 : ∀  (I2 : (Option Ptr) → Ptr → Heap → Prop) (a1 : Option Ptr) (a2 : Ptr) (Q : Heap → Prop) (h : Heap), backend_Block_Drop.b2  I2 a1 a2 Q h = pts (backend_Block_Drop.E Q [(2, ([0, 10], backend_Block_Drop.k2 I2))]) 3000 true (atPos (posC backend_Block_Drop.code []) 2) (frAt [0, 10] [.ptr a1, .ptr (some a2)]) h := by
  intros; kernel_rfl

theorem backend_Block_Drop.s2 {W0 : World} (Q : Heap → Prop)   : CutOK sg W0 32 (entered 35) (Post sg W0 (backend_Block_Drop.ret Q)) (posC backend_Block_Drop.code []) 2 [0, 10] (backend_Block_Drop.k2 (fun a1 a2 h => backend_Block_Drop.j2  a1 a2 Q h)) := by
  refine cutOK_head (fun vs h hk => ?_)
  unfold backend_Block_Drop.k2 at hk
  split at hk
  · rename_i a1 a2
    refine hk (fun a1 a2 h => Head sg W0 32 (entered 35) (Post sg W0 (backend_Block_Drop.ret Q)) (posC backend_Block_Drop.code []) 2 [0, 10] [.ptr a1, .ptr (some a2)] h) ?_
    intro a1 a2 h hb todo hm ρ a w s f hp
    have hself : CutOK sg W0 32 (entered 35) (Post sg W0 (backend_Block_Drop.ret Q)) (posC backend_Block_Drop.code []) 2 [0, 10] (backend_Block_Drop.k2 (fun a1 a2 h => Head sg W0 32 (entered 35) (Post sg W0 (backend_Block_Drop.ret Q)) (posC backend_Block_Drop.code []) 2 [0, 10] [.ptr a1, .ptr (some a2)] h)) := cutOK_head (fun vs h hk => by unfold backend_Block_Drop.k2 at hk; split at hk; exact hk; exact hk.elim)
    exact piece (E := backend_Block_Drop.E Q [(2, ([0, 10], backend_Block_Drop.k2 (fun a1 a2 h => Head sg W0 32 (entered 35) (Post sg W0 (backend_Block_Drop.ret Q)) (posC backend_Block_Drop.code []) 2 [0, 10] [.ptr a1, .ptr (some a2)] h)))]) (vs := [.ptr a1, .ptr (some a2)]) (envOK seatOK backend_Block_Drop.callsOK noIfc_ok) (fnOK seatOK backend_Block_Drop.fun) ⟨hself, trivial⟩ backend_Block_Drop.p2 (fuel := 3000) (by rw [← backend_Block_Drop.e2]; exact hb) hm s f hp
  · exact hk.elim

theorem backend_Block_Drop.e : ∀ (a1 : Option Ptr) (Q : Heap → Prop) (h : Heap), backend_Block_Drop a1 Q h = pts (backend_Block_Drop.E Q [(2, ([0, 10], backend_Block_Drop.k2 (fun a1 a2 h => backend_Block_Drop.j2  a1 a2 Q h)))]) 3000 true [.code backend_Block_Drop.code] (frOf 0 [.ptr a1]) h := by
  intros; kernel_rfl

theorem backend_Block_Drop.S {W0 : World} : FnS sg W0 277 backend_Block_Drop.C := by
  intro vs κ h wv hx w s
  unfold backend_Block_Drop.C at hx
  split at hx
  · rename_i a1
    refine postImp (ret := backend_Block_Drop.ret (fun  h => κ (.tup []) h)) (fun v h hr => by unfold backend_Block_Drop.ret at hr; split at hr; exact hr; exact hr.elim) ?_
    exact calls_of_pts (E := backend_Block_Drop.E (fun  h => κ (.tup []) h) [(2, ([0, 10], backend_Block_Drop.k2 (fun a1 a2 h => backend_Block_Drop.j2  a1 a2 (fun  h => κ (.tup []) h) h)))]) (envOK seatOK backend_Block_Drop.callsOK noIfc_ok) seatOK.mixed backend_Block_Drop.fun (Nat.le_of_ble_eq_true rfl) wv (cutL_ok ⟨(backend_Block_Drop.s2 (fun  h => κ (.tup []) h)), trivial⟩) s (fuel := 3000) (by rw [← backend_Block_Drop.e]; exact hx)
  · exact hx.elim

noncomputable def palisadelaw24_BackendFull.code : Code := Go.Proofs.Tryd.f7.body.getD .skip

theorem palisadelaw24_BackendFull.fun : Fun sg.P 7 234 [.tmp 4] palisadelaw24_BackendFull.code := mkFun Go.Proofs.Tryd.func7 (by kernel_rfl) (by kernel_rfl) (by kernel_rfl) (by kernel_rfl)

def palisadelaw24_BackendFull.ret (Q : Bool → Heap → Prop) (v : V) (h : Heap) : Prop :=
  match v with
  | .bool r1 => Q r1 h
  | _ => False

def palisadelaw24_BackendFull.C (U : Ifc) (vs : List V) (κ : V → Heap → Prop) (h : Heap) : Prop :=
  match vs with
  | [.int .i64 a1, .int .i64 a2] => palisadelaw24_BackendFull U a1 a2 (fun r1 h => κ (.bool r1) h) h
  | _ => False

noncomputable def palisadelaw24_BackendFull.calls (U : Ifc) : List (Nat × (List V → (V → Heap → Prop) → Heap → Prop)) := [(265, palisadelaw24_begin.C), (301, palisadelaw24_offer.C U), (300, palisadelaw24_request.C U), (275, backend_Block_Kick.C U), (268, frames_Frames_Owner.C), (278, backend_Block_Waits.C), (88, disk_Disk_Complete.C U), (276, backend_Block_Done.C U), (277, backend_Block_Drop.C)]

noncomputable def palisadelaw24_BackendFull.E (U : Ifc) (Q : Bool → Heap → Prop) (cuts : List (Nat × (List Nat × (List V → Heap → Prop)))) : Env := { tis := tisT, fns := fnsT, tys := tysT, gls := glsT, rts := rtsT, unk := [], nxt := [], calls := palisadelaw24_BackendFull.calls U, ifc := U, cuts := cuts, ret := palisadelaw24_BackendFull.ret Q, rets := [.tmp 4], n := 234 }

theorem palisadelaw24_BackendFull.callsOK {W0 : World} {U : Ifc} (hU : IfcOK sg W0 glsT U) : CallsOK sg W0 (palisadelaw24_BackendFull.calls U) := ⟨palisadelaw24_begin.S, (palisadelaw24_offer.S hU), (palisadelaw24_request.S hU), (backend_Block_Kick.S hU), frames_Frames_Owner.S, backend_Block_Waits.S, (disk_Disk_Complete.S hU), (backend_Block_Done.S hU), backend_Block_Drop.S, trivial⟩

def palisadelaw24_BackendFull.k14 (I : Heap → Prop) (vs : List V) (h : Heap) : Prop :=
  match vs with
  | [] => I  h
  | _ => False

def palisadelaw24_BackendFull.k21 (I : Heap → Prop) (vs : List V) (h : Heap) : Prop :=
  match vs with
  | [] => I  h
  | _ => False

def palisadelaw24_BackendFull.k29 (I : Heap → Prop) (vs : List V) (h : Heap) : Prop :=
  match vs with
  | [] => I  h
  | _ => False

def palisadelaw24_BackendFull.k24 (I : Int → (Option Ptr) → (Option Ptr) → Int → Int → Heap → Prop) (vs : List V) (h : Heap) : Prop :=
  match vs with
  | [.int .i64 a1, .ptr a2, .ptr a3, .int .i64 a4, .int .i64 a5] => I a1 a2 a3 a4 a5 h
  | _ => False

def palisadelaw24_BackendFull.k28 (I : Int → (Option Ptr) → (Option Ptr) → Int → Int → Int → Bool → Int → Int → Int → Heap → Prop) (vs : List V) (h : Heap) : Prop :=
  match vs with
  | [.int .i64 a1, .ptr a2, .ptr a3, .int .i64 a4, .int .i64 a5, .int .i64 a6, .bool a7, .int .i64 a8, .int .i64 a9, .int .i64 a10] => I a1 a2 a3 a4 a5 a6 a7 a8 a9 a10 h
  | _ => False

def palisadelaw24_BackendFull.k26 (I : Int → (Option Ptr) → (Option Ptr) → Int → Int → Ptr → Int → Heap → Prop) (vs : List V) (h : Heap) : Prop :=
  match vs with
  | [.int .i64 a1, .ptr a2, .ptr a3, .int .i64 a4, .int .i64 a5, .ptr (some a6), .int .i64 a7] => I a1 a2 a3 a4 a5 a6 a7 h
  | _ => False

def palisadelaw24_BackendFull.k32 (I : Int → (Option Ptr) → (Option Ptr) → Int → Heap → Prop) (vs : List V) (h : Heap) : Prop :=
  match vs with
  | [.int .i64 a1, .ptr a2, .ptr a3, .int .i64 a4] => I a1 a2 a3 a4 h
  | _ => False

def palisadelaw24_BackendFull.k23 (I : Int → (Option Ptr) → (Option Ptr) → Int → Int → Heap → Prop) (vs : List V) (h : Heap) : Prop :=
  match vs with
  | [.int .i64 a1, .ptr a2, .ptr a3, .int .i64 a4, .int .i64 a5] => I a1 a2 a3 a4 a5 h
  | _ => False

def palisadelaw24_BackendFull.k22 (I : Int → (Option Ptr) → (Option Ptr) → Int → Heap → Prop) (vs : List V) (h : Heap) : Prop :=
  match vs with
  | [.int .i64 a1, .ptr a2, .ptr a3, .int .i64 a4] => I a1 a2 a3 a4 h
  | _ => False

def palisadelaw24_BackendFull.k16 (I : Int → (Option Ptr) → (Option Ptr) → Sl → Int → Int → Heap → Prop) (vs : List V) (h : Heap) : Prop :=
  match vs with
  | [.int .i64 a1, .ptr a2, .ptr a3, .sl a4, .int .i64 a5, .int .i64 a6] => I a1 a2 a3 a4 a5 a6 h
  | _ => False

def palisadelaw24_BackendFull.k15 (I : Int → (Option Ptr) → (Option Ptr) → Sl → Int → Heap → Prop) (vs : List V) (h : Heap) : Prop :=
  match vs with
  | [.int .i64 a1, .ptr a2, .ptr a3, .sl a4, .int .i64 a5] => I a1 a2 a3 a4 a5 h
  | _ => False

def palisadelaw24_BackendFull.k9 (I : Int → (Option Ptr) → (Option Ptr) → Sl → Int → Int → Heap → Prop) (vs : List V) (h : Heap) : Prop :=
  match vs with
  | [.int .i64 a1, .ptr a2, .ptr a3, .sl a4, .int .i64 a5, .int .i64 a6] => I a1 a2 a3 a4 a5 a6 h
  | _ => False

theorem palisadelaw24_BackendFull.p14 : (posC palisadelaw24_BackendFull.code []).filter (fun p => Nat.beq p.1 14) = [(14, atPos (posC palisadelaw24_BackendFull.code []) 14)] := by kernel_rfl

theorem palisadelaw24_BackendFull.e14 : ∀ (U : Ifc)   (Q : Bool → Heap → Prop) (h : Heap), palisadelaw24_BackendFull.j14 U   Q h = pts (palisadelaw24_BackendFull.E U Q []) 3000 true (atPos (posC palisadelaw24_BackendFull.code []) 14) (frAt [] []) h := by
  intros; kernel_rfl

theorem palisadelaw24_BackendFull.s14 {W0 : World} {U : Ifc} (hU : IfcOK sg W0 glsT U) (Q : Bool → Heap → Prop)   : CutOK sg W0 234 (entered 7) (Post sg W0 (palisadelaw24_BackendFull.ret Q)) (posC palisadelaw24_BackendFull.code []) 14 [] (palisadelaw24_BackendFull.k14 (fun  h => palisadelaw24_BackendFull.j14 U   Q h)) := by
  refine cutOK_head (fun vs h hk => ?_)
  unfold palisadelaw24_BackendFull.k14 at hk
  split at hk
  · skip
    intro todo hm ρ a w s f hp
    exact piece (E := palisadelaw24_BackendFull.E U Q []) (vs := []) (envOK seatOK (palisadelaw24_BackendFull.callsOK hU) hU) (fnOK seatOK palisadelaw24_BackendFull.fun) trivial palisadelaw24_BackendFull.p14 (fuel := 3000) (by rw [← palisadelaw24_BackendFull.e14]; exact hk) hm s f hp
  · exact hk.elim

theorem palisadelaw24_BackendFull.p21 : (posC palisadelaw24_BackendFull.code []).filter (fun p => Nat.beq p.1 21) = [(21, atPos (posC palisadelaw24_BackendFull.code []) 21)] := by kernel_rfl

theorem palisadelaw24_BackendFull.e21 : ∀ (U : Ifc)   (Q : Bool → Heap → Prop) (h : Heap), palisadelaw24_BackendFull.j21 U   Q h = pts (palisadelaw24_BackendFull.E U Q []) 3000 true (atPos (posC palisadelaw24_BackendFull.code []) 21) (frAt [] []) h := by
  intros; kernel_rfl

theorem palisadelaw24_BackendFull.s21 {W0 : World} {U : Ifc} (hU : IfcOK sg W0 glsT U) (Q : Bool → Heap → Prop)   : CutOK sg W0 234 (entered 7) (Post sg W0 (palisadelaw24_BackendFull.ret Q)) (posC palisadelaw24_BackendFull.code []) 21 [] (palisadelaw24_BackendFull.k21 (fun  h => palisadelaw24_BackendFull.j21 U   Q h)) := by
  refine cutOK_head (fun vs h hk => ?_)
  unfold palisadelaw24_BackendFull.k21 at hk
  split at hk
  · skip
    intro todo hm ρ a w s f hp
    exact piece (E := palisadelaw24_BackendFull.E U Q []) (vs := []) (envOK seatOK (palisadelaw24_BackendFull.callsOK hU) hU) (fnOK seatOK palisadelaw24_BackendFull.fun) trivial palisadelaw24_BackendFull.p21 (fuel := 3000) (by rw [← palisadelaw24_BackendFull.e21]; exact hk) hm s f hp
  · exact hk.elim

theorem palisadelaw24_BackendFull.p29 : (posC palisadelaw24_BackendFull.code []).filter (fun p => Nat.beq p.1 29) = [(29, atPos (posC palisadelaw24_BackendFull.code []) 29)] := by kernel_rfl

theorem palisadelaw24_BackendFull.e29 : ∀ (U : Ifc) (I23 : Int → (Option Ptr) → (Option Ptr) → Int → Int → Heap → Prop)  (Q : Bool → Heap → Prop) (h : Heap), palisadelaw24_BackendFull.j29 U I23  Q h = pts (palisadelaw24_BackendFull.E U Q []) 3000 true (atPos (posC palisadelaw24_BackendFull.code []) 29) (frAt [] []) h := by
  intros; kernel_rfl

theorem palisadelaw24_BackendFull.s29 {W0 : World} {U : Ifc} (hU : IfcOK sg W0 glsT U) (Q : Bool → Heap → Prop) (I23 : Int → (Option Ptr) → (Option Ptr) → Int → Int → Heap → Prop) (h23 : CutOK sg W0 234 (entered 7) (Post sg W0 (palisadelaw24_BackendFull.ret Q)) (posC palisadelaw24_BackendFull.code []) 23 [0, 5, 6, 8, 15] (palisadelaw24_BackendFull.k23 I23)) : CutOK sg W0 234 (entered 7) (Post sg W0 (palisadelaw24_BackendFull.ret Q)) (posC palisadelaw24_BackendFull.code []) 29 [] (palisadelaw24_BackendFull.k29 (fun  h => palisadelaw24_BackendFull.j29 U I23  Q h)) := by
  refine cutOK_head (fun vs h hk => ?_)
  unfold palisadelaw24_BackendFull.k29 at hk
  split at hk
  · skip
    intro todo hm ρ a w s f hp
    exact piece (E := palisadelaw24_BackendFull.E U Q []) (vs := []) (envOK seatOK (palisadelaw24_BackendFull.callsOK hU) hU) (fnOK seatOK palisadelaw24_BackendFull.fun) trivial palisadelaw24_BackendFull.p29 (fuel := 3000) (by rw [← palisadelaw24_BackendFull.e29]; exact hk) hm s f hp
  · exact hk.elim

theorem palisadelaw24_BackendFull.p24 : (posC palisadelaw24_BackendFull.code []).filter (fun p => Nat.beq p.1 24) = [(24, atPos (posC palisadelaw24_BackendFull.code []) 24)] := by kernel_rfl

theorem palisadelaw24_BackendFull.e24 : ∀ (U : Ifc) (I23 : Int → (Option Ptr) → (Option Ptr) → Int → Int → Heap → Prop) (a1 : Int) (a2 : Option Ptr) (a3 : Option Ptr) (a4 : Int) (a5 : Int) (Q : Bool → Heap → Prop) (h : Heap), palisadelaw24_BackendFull.j24 U I23 a1 a2 a3 a4 a5 Q h = pts (palisadelaw24_BackendFull.E U Q [(23, ([0, 5, 6, 8, 15], palisadelaw24_BackendFull.k23 I23))]) 3000 true (atPos (posC palisadelaw24_BackendFull.code []) 24) (frAt [0, 5, 6, 8, 15] [.int .i64 a1, .ptr a2, .ptr a3, .int .i64 a4, .int .i64 a5]) h := by
  intros; kernel_rfl

theorem palisadelaw24_BackendFull.s24 {W0 : World} {U : Ifc} (hU : IfcOK sg W0 glsT U) (Q : Bool → Heap → Prop) (I23 : Int → (Option Ptr) → (Option Ptr) → Int → Int → Heap → Prop) (h23 : CutOK sg W0 234 (entered 7) (Post sg W0 (palisadelaw24_BackendFull.ret Q)) (posC palisadelaw24_BackendFull.code []) 23 [0, 5, 6, 8, 15] (palisadelaw24_BackendFull.k23 I23)) : CutOK sg W0 234 (entered 7) (Post sg W0 (palisadelaw24_BackendFull.ret Q)) (posC palisadelaw24_BackendFull.code []) 24 [0, 5, 6, 8, 15] (palisadelaw24_BackendFull.k24 (fun a1 a2 a3 a4 a5 h => palisadelaw24_BackendFull.j24 U I23 a1 a2 a3 a4 a5 Q h)) := by
  refine cutOK_head (fun vs h hk => ?_)
  unfold palisadelaw24_BackendFull.k24 at hk
  split at hk
  · rename_i a1 a2 a3 a4 a5
    intro todo hm ρ a w s f hp
    exact piece (E := palisadelaw24_BackendFull.E U Q [(23, ([0, 5, 6, 8, 15], palisadelaw24_BackendFull.k23 I23))]) (vs := [.int .i64 a1, .ptr a2, .ptr a3, .int .i64 a4, .int .i64 a5]) (envOK seatOK (palisadelaw24_BackendFull.callsOK hU) hU) (fnOK seatOK palisadelaw24_BackendFull.fun) ⟨h23, trivial⟩ palisadelaw24_BackendFull.p24 (fuel := 3000) (by rw [← palisadelaw24_BackendFull.e24]; exact hk) hm s f hp
  · exact hk.elim

theorem palisadelaw24_BackendFull.p28 : (posC palisadelaw24_BackendFull.code []).filter (fun p => Nat.beq p.1 28) = [(28, atPos (posC palisadelaw24_BackendFull.code []) 28)] := by kernel_rfl

theorem palisadelaw24_BackendFull.e28 : ∀ (U : Ifc) (I23 : Int → (Option Ptr) → (Option Ptr) → Int → Int → Heap → Prop) (a1 : Int) (a2 : Option Ptr) (a3 : Option Ptr) (a4 : Int) (a5 : Int) (a6 : Int) (a7 : Bool) (a8 : Int) (a9 : Int) (a10 : Int) (Q : Bool → Heap → Prop) (h : Heap), palisadelaw24_BackendFull.j28 U I23 a1 a2 a3 a4 a5 a6 a7 a8 a9 a10 Q h = pts (palisadelaw24_BackendFull.E U Q [(29, ([], palisadelaw24_BackendFull.k29 (fun  h => palisadelaw24_BackendFull.j29 U I23  Q h))), (24, ([0, 5, 6, 8, 15], palisadelaw24_BackendFull.k24 (fun a1 a2 a3 a4 a5 h => palisadelaw24_BackendFull.j24 U I23 a1 a2 a3 a4 a5 Q h)))]) 3000 true (atPos (posC palisadelaw24_BackendFull.code []) 28) (frAt [0, 5, 6, 8, 15, 17, 18, 19, 20, 21] [.int .i64 a1, .ptr a2, .ptr a3, .int .i64 a4, .int .i64 a5, .int .i64 a6, .bool a7, .int .i64 a8, .int .i64 a9, .int .i64 a10]) h := by
  intros; kernel_rfl

theorem palisadelaw24_BackendFull.s28 {W0 : World} {U : Ifc} (hU : IfcOK sg W0 glsT U) (Q : Bool → Heap → Prop) (I23 : Int → (Option Ptr) → (Option Ptr) → Int → Int → Heap → Prop) (h23 : CutOK sg W0 234 (entered 7) (Post sg W0 (palisadelaw24_BackendFull.ret Q)) (posC palisadelaw24_BackendFull.code []) 23 [0, 5, 6, 8, 15] (palisadelaw24_BackendFull.k23 I23)) : CutOK sg W0 234 (entered 7) (Post sg W0 (palisadelaw24_BackendFull.ret Q)) (posC palisadelaw24_BackendFull.code []) 28 [0, 5, 6, 8, 15, 17, 18, 19, 20, 21] (palisadelaw24_BackendFull.k28 (fun a1 a2 a3 a4 a5 a6 a7 a8 a9 a10 h => palisadelaw24_BackendFull.j28 U I23 a1 a2 a3 a4 a5 a6 a7 a8 a9 a10 Q h)) := by
  refine cutOK_head (fun vs h hk => ?_)
  unfold palisadelaw24_BackendFull.k28 at hk
  split at hk
  · rename_i a1 a2 a3 a4 a5 a6 a7 a8 a9 a10
    intro todo hm ρ a w s f hp
    exact piece (E := palisadelaw24_BackendFull.E U Q [(29, ([], palisadelaw24_BackendFull.k29 (fun  h => palisadelaw24_BackendFull.j29 U I23  Q h))), (24, ([0, 5, 6, 8, 15], palisadelaw24_BackendFull.k24 (fun a1 a2 a3 a4 a5 h => palisadelaw24_BackendFull.j24 U I23 a1 a2 a3 a4 a5 Q h)))]) (vs := [.int .i64 a1, .ptr a2, .ptr a3, .int .i64 a4, .int .i64 a5, .int .i64 a6, .bool a7, .int .i64 a8, .int .i64 a9, .int .i64 a10]) (envOK seatOK (palisadelaw24_BackendFull.callsOK hU) hU) (fnOK seatOK palisadelaw24_BackendFull.fun) ⟨(palisadelaw24_BackendFull.s29 hU Q I23 h23), (palisadelaw24_BackendFull.s24 hU Q I23 h23), trivial⟩ palisadelaw24_BackendFull.p28 (fuel := 3000) (by rw [← palisadelaw24_BackendFull.e28]; exact hk) hm s f hp
  · exact hk.elim

theorem palisadelaw24_BackendFull.p26 : (posC palisadelaw24_BackendFull.code []).filter (fun p => Nat.beq p.1 26) = [(26, atPos (posC palisadelaw24_BackendFull.code []) 26)] := by kernel_rfl

theorem palisadelaw24_BackendFull.e26 : ∀ (U : Ifc) (I23 : Int → (Option Ptr) → (Option Ptr) → Int → Int → Heap → Prop) (a1 : Int) (a2 : Option Ptr) (a3 : Option Ptr) (a4 : Int) (a5 : Int) (a6 : Ptr) (a7 : Int) (Q : Bool → Heap → Prop) (h : Heap), palisadelaw24_BackendFull.j26 U I23 a1 a2 a3 a4 a5 a6 a7 Q h = pts (palisadelaw24_BackendFull.E U Q [(28, ([0, 5, 6, 8, 15, 17, 18, 19, 20, 21], palisadelaw24_BackendFull.k28 (fun a1 a2 a3 a4 a5 a6 a7 a8 a9 a10 h => palisadelaw24_BackendFull.j28 U I23 a1 a2 a3 a4 a5 a6 a7 a8 a9 a10 Q h)))]) 3000 true (atPos (posC palisadelaw24_BackendFull.code []) 26) (frAt [0, 5, 6, 8, 15, 16, 17] [.int .i64 a1, .ptr a2, .ptr a3, .int .i64 a4, .int .i64 a5, .ptr (some a6), .int .i64 a7]) h := by
  intros; kernel_rfl

theorem palisadelaw24_BackendFull.s26 {W0 : World} {U : Ifc} (hU : IfcOK sg W0 glsT U) (Q : Bool → Heap → Prop) (I23 : Int → (Option Ptr) → (Option Ptr) → Int → Int → Heap → Prop) (h23 : CutOK sg W0 234 (entered 7) (Post sg W0 (palisadelaw24_BackendFull.ret Q)) (posC palisadelaw24_BackendFull.code []) 23 [0, 5, 6, 8, 15] (palisadelaw24_BackendFull.k23 I23)) : CutOK sg W0 234 (entered 7) (Post sg W0 (palisadelaw24_BackendFull.ret Q)) (posC palisadelaw24_BackendFull.code []) 26 [0, 5, 6, 8, 15, 16, 17] (palisadelaw24_BackendFull.k26 (fun a1 a2 a3 a4 a5 a6 a7 h => palisadelaw24_BackendFull.j26 U I23 a1 a2 a3 a4 a5 a6 a7 Q h)) := by
  refine cutOK_head (fun vs h hk => ?_)
  unfold palisadelaw24_BackendFull.k26 at hk
  split at hk
  · rename_i a1 a2 a3 a4 a5 a6 a7
    intro todo hm ρ a w s f hp
    exact piece (E := palisadelaw24_BackendFull.E U Q [(28, ([0, 5, 6, 8, 15, 17, 18, 19, 20, 21], palisadelaw24_BackendFull.k28 (fun a1 a2 a3 a4 a5 a6 a7 a8 a9 a10 h => palisadelaw24_BackendFull.j28 U I23 a1 a2 a3 a4 a5 a6 a7 a8 a9 a10 Q h)))]) (vs := [.int .i64 a1, .ptr a2, .ptr a3, .int .i64 a4, .int .i64 a5, .ptr (some a6), .int .i64 a7]) (envOK seatOK (palisadelaw24_BackendFull.callsOK hU) hU) (fnOK seatOK palisadelaw24_BackendFull.fun) ⟨(palisadelaw24_BackendFull.s28 hU Q I23 h23), trivial⟩ palisadelaw24_BackendFull.p26 (fuel := 3000) (by rw [← palisadelaw24_BackendFull.e26]; exact hk) hm s f hp
  · exact hk.elim

theorem palisadelaw24_BackendFull.p32 : (posC palisadelaw24_BackendFull.code []).filter (fun p => Nat.beq p.1 32) = [(32, atPos (posC palisadelaw24_BackendFull.code []) 32)] := by kernel_rfl

theorem palisadelaw24_BackendFull.e32 : ∀ (U : Ifc)  (a1 : Int) (a2 : Option Ptr) (a3 : Option Ptr) (a4 : Int) (Q : Bool → Heap → Prop) (h : Heap), palisadelaw24_BackendFull.j32 U  a1 a2 a3 a4 Q h = pts (palisadelaw24_BackendFull.E U Q []) 3000 true (atPos (posC palisadelaw24_BackendFull.code []) 32) (frAt [0, 5, 6, 23] [.int .i64 a1, .ptr a2, .ptr a3, .int .i64 a4]) h := by
  intros; kernel_rfl

theorem palisadelaw24_BackendFull.s32 {W0 : World} {U : Ifc} (hU : IfcOK sg W0 glsT U) (Q : Bool → Heap → Prop)   : CutOK sg W0 234 (entered 7) (Post sg W0 (palisadelaw24_BackendFull.ret Q)) (posC palisadelaw24_BackendFull.code []) 32 [0, 5, 6, 23] (palisadelaw24_BackendFull.k32 (fun a1 a2 a3 a4 h => palisadelaw24_BackendFull.j32 U  a1 a2 a3 a4 Q h)) := by
  refine cutOK_head (fun vs h hk => ?_)
  unfold palisadelaw24_BackendFull.k32 at hk
  split at hk
  · rename_i a1 a2 a3 a4
    intro todo hm ρ a w s f hp
    exact piece (E := palisadelaw24_BackendFull.E U Q []) (vs := [.int .i64 a1, .ptr a2, .ptr a3, .int .i64 a4]) (envOK seatOK (palisadelaw24_BackendFull.callsOK hU) hU) (fnOK seatOK palisadelaw24_BackendFull.fun) trivial palisadelaw24_BackendFull.p32 (fuel := 3000) (by rw [← palisadelaw24_BackendFull.e32]; exact hk) hm s f hp
  · exact hk.elim

theorem palisadelaw24_BackendFull.p23 : (posC palisadelaw24_BackendFull.code []).filter (fun p => Nat.beq p.1 23) = [(23, atPos (posC palisadelaw24_BackendFull.code []) 23)] := by kernel_rfl

theorem palisadelaw24_BackendFull.e23 : ∀ (U : Ifc)  (I23 : Int → (Option Ptr) → (Option Ptr) → Int → Int → Heap → Prop) (a1 : Int) (a2 : Option Ptr) (a3 : Option Ptr) (a4 : Int) (a5 : Int) (Q : Bool → Heap → Prop) (h : Heap), palisadelaw24_BackendFull.b23 U  I23 a1 a2 a3 a4 a5 Q h = pts (palisadelaw24_BackendFull.E U Q [(26, ([0, 5, 6, 8, 15, 16, 17], palisadelaw24_BackendFull.k26 (fun a1 a2 a3 a4 a5 a6 a7 h => palisadelaw24_BackendFull.j26 U I23 a1 a2 a3 a4 a5 a6 a7 Q h))), (32, ([0, 5, 6, 23], palisadelaw24_BackendFull.k32 (fun a1 a2 a3 a4 h => palisadelaw24_BackendFull.j32 U  a1 a2 a3 a4 Q h)))]) 3000 true (atPos (posC palisadelaw24_BackendFull.code []) 23) (frAt [0, 5, 6, 8, 15] [.int .i64 a1, .ptr a2, .ptr a3, .int .i64 a4, .int .i64 a5]) h := by
  intros; kernel_rfl

theorem palisadelaw24_BackendFull.s23 {W0 : World} {U : Ifc} (hU : IfcOK sg W0 glsT U) (Q : Bool → Heap → Prop)   : CutOK sg W0 234 (entered 7) (Post sg W0 (palisadelaw24_BackendFull.ret Q)) (posC palisadelaw24_BackendFull.code []) 23 [0, 5, 6, 8, 15] (palisadelaw24_BackendFull.k23 (fun a1 a2 a3 a4 a5 h => palisadelaw24_BackendFull.j23 U  a1 a2 a3 a4 a5 Q h)) := by
  refine cutOK_head (fun vs h hk => ?_)
  unfold palisadelaw24_BackendFull.k23 at hk
  split at hk
  · rename_i a1 a2 a3 a4 a5
    refine hk (fun a1 a2 a3 a4 a5 h => Head sg W0 234 (entered 7) (Post sg W0 (palisadelaw24_BackendFull.ret Q)) (posC palisadelaw24_BackendFull.code []) 23 [0, 5, 6, 8, 15] [.int .i64 a1, .ptr a2, .ptr a3, .int .i64 a4, .int .i64 a5] h) ?_
    intro a1 a2 a3 a4 a5 h hb todo hm ρ a w s f hp
    have hself : CutOK sg W0 234 (entered 7) (Post sg W0 (palisadelaw24_BackendFull.ret Q)) (posC palisadelaw24_BackendFull.code []) 23 [0, 5, 6, 8, 15] (palisadelaw24_BackendFull.k23 (fun a1 a2 a3 a4 a5 h => Head sg W0 234 (entered 7) (Post sg W0 (palisadelaw24_BackendFull.ret Q)) (posC palisadelaw24_BackendFull.code []) 23 [0, 5, 6, 8, 15] [.int .i64 a1, .ptr a2, .ptr a3, .int .i64 a4, .int .i64 a5] h)) := cutOK_head (fun vs h hk => by unfold palisadelaw24_BackendFull.k23 at hk; split at hk; exact hk; exact hk.elim)
    exact piece (E := palisadelaw24_BackendFull.E U Q [(26, ([0, 5, 6, 8, 15, 16, 17], palisadelaw24_BackendFull.k26 (fun a1 a2 a3 a4 a5 a6 a7 h => palisadelaw24_BackendFull.j26 U (fun a1 a2 a3 a4 a5 h => Head sg W0 234 (entered 7) (Post sg W0 (palisadelaw24_BackendFull.ret Q)) (posC palisadelaw24_BackendFull.code []) 23 [0, 5, 6, 8, 15] [.int .i64 a1, .ptr a2, .ptr a3, .int .i64 a4, .int .i64 a5] h) a1 a2 a3 a4 a5 a6 a7 Q h))), (32, ([0, 5, 6, 23], palisadelaw24_BackendFull.k32 (fun a1 a2 a3 a4 h => palisadelaw24_BackendFull.j32 U  a1 a2 a3 a4 Q h)))]) (vs := [.int .i64 a1, .ptr a2, .ptr a3, .int .i64 a4, .int .i64 a5]) (envOK seatOK (palisadelaw24_BackendFull.callsOK hU) hU) (fnOK seatOK palisadelaw24_BackendFull.fun) ⟨(palisadelaw24_BackendFull.s26 hU Q (fun a1 a2 a3 a4 a5 h => Head sg W0 234 (entered 7) (Post sg W0 (palisadelaw24_BackendFull.ret Q)) (posC palisadelaw24_BackendFull.code []) 23 [0, 5, 6, 8, 15] [.int .i64 a1, .ptr a2, .ptr a3, .int .i64 a4, .int .i64 a5] h) hself), (palisadelaw24_BackendFull.s32 hU Q  ), trivial⟩ palisadelaw24_BackendFull.p23 (fuel := 3000) (by rw [← palisadelaw24_BackendFull.e23]; exact hb) hm s f hp
  · exact hk.elim

theorem palisadelaw24_BackendFull.p22 : (posC palisadelaw24_BackendFull.code []).filter (fun p => Nat.beq p.1 22) = [(22, atPos (posC palisadelaw24_BackendFull.code []) 22)] := by kernel_rfl

theorem palisadelaw24_BackendFull.e22 : ∀ (U : Ifc)  (a1 : Int) (a2 : Option Ptr) (a3 : Option Ptr) (a4 : Int) (Q : Bool → Heap → Prop) (h : Heap), palisadelaw24_BackendFull.j22 U  a1 a2 a3 a4 Q h = pts (palisadelaw24_BackendFull.E U Q [(23, ([0, 5, 6, 8, 15], palisadelaw24_BackendFull.k23 (fun a1 a2 a3 a4 a5 h => palisadelaw24_BackendFull.j23 U  a1 a2 a3 a4 a5 Q h)))]) 3000 true (atPos (posC palisadelaw24_BackendFull.code []) 22) (frAt [0, 5, 6, 8] [.int .i64 a1, .ptr a2, .ptr a3, .int .i64 a4]) h := by
  intros; kernel_rfl

theorem palisadelaw24_BackendFull.s22 {W0 : World} {U : Ifc} (hU : IfcOK sg W0 glsT U) (Q : Bool → Heap → Prop)   : CutOK sg W0 234 (entered 7) (Post sg W0 (palisadelaw24_BackendFull.ret Q)) (posC palisadelaw24_BackendFull.code []) 22 [0, 5, 6, 8] (palisadelaw24_BackendFull.k22 (fun a1 a2 a3 a4 h => palisadelaw24_BackendFull.j22 U  a1 a2 a3 a4 Q h)) := by
  refine cutOK_head (fun vs h hk => ?_)
  unfold palisadelaw24_BackendFull.k22 at hk
  split at hk
  · rename_i a1 a2 a3 a4
    intro todo hm ρ a w s f hp
    exact piece (E := palisadelaw24_BackendFull.E U Q [(23, ([0, 5, 6, 8, 15], palisadelaw24_BackendFull.k23 (fun a1 a2 a3 a4 a5 h => palisadelaw24_BackendFull.j23 U  a1 a2 a3 a4 a5 Q h)))]) (vs := [.int .i64 a1, .ptr a2, .ptr a3, .int .i64 a4]) (envOK seatOK (palisadelaw24_BackendFull.callsOK hU) hU) (fnOK seatOK palisadelaw24_BackendFull.fun) ⟨(palisadelaw24_BackendFull.s23 hU Q  ), trivial⟩ palisadelaw24_BackendFull.p22 (fuel := 3000) (by rw [← palisadelaw24_BackendFull.e22]; exact hk) hm s f hp
  · exact hk.elim

theorem palisadelaw24_BackendFull.p16 : (posC palisadelaw24_BackendFull.code []).filter (fun p => Nat.beq p.1 16) = [(16, atPos (posC palisadelaw24_BackendFull.code []) 16)] := by kernel_rfl

theorem palisadelaw24_BackendFull.e16 : ∀ (U : Ifc)  (I16 : Int → (Option Ptr) → (Option Ptr) → Sl → Int → Int → Heap → Prop) (a1 : Int) (a2 : Option Ptr) (a3 : Option Ptr) (a4 : Sl) (a5 : Int) (a6 : Int) (Q : Bool → Heap → Prop) (h : Heap), palisadelaw24_BackendFull.b16 U  I16 a1 a2 a3 a4 a5 a6 Q h = pts (palisadelaw24_BackendFull.E U Q [(16, ([0, 5, 6, 7, 8, 12], palisadelaw24_BackendFull.k16 I16)), (21, ([], palisadelaw24_BackendFull.k21 (fun  h => palisadelaw24_BackendFull.j21 U   Q h))), (22, ([0, 5, 6, 8], palisadelaw24_BackendFull.k22 (fun a1 a2 a3 a4 h => palisadelaw24_BackendFull.j22 U  a1 a2 a3 a4 Q h)))]) 3000 true (atPos (posC palisadelaw24_BackendFull.code []) 16) (frAt [0, 5, 6, 7, 8, 12] [.int .i64 a1, .ptr a2, .ptr a3, .sl a4, .int .i64 a5, .int .i64 a6]) h := by
  intros; kernel_rfl

theorem palisadelaw24_BackendFull.s16 {W0 : World} {U : Ifc} (hU : IfcOK sg W0 glsT U) (Q : Bool → Heap → Prop)   : CutOK sg W0 234 (entered 7) (Post sg W0 (palisadelaw24_BackendFull.ret Q)) (posC palisadelaw24_BackendFull.code []) 16 [0, 5, 6, 7, 8, 12] (palisadelaw24_BackendFull.k16 (fun a1 a2 a3 a4 a5 a6 h => palisadelaw24_BackendFull.j16 U  a1 a2 a3 a4 a5 a6 Q h)) := by
  refine cutOK_head (fun vs h hk => ?_)
  unfold palisadelaw24_BackendFull.k16 at hk
  split at hk
  · rename_i a1 a2 a3 a4 a5 a6
    refine hk (fun a1 a2 a3 a4 a5 a6 h => Head sg W0 234 (entered 7) (Post sg W0 (palisadelaw24_BackendFull.ret Q)) (posC palisadelaw24_BackendFull.code []) 16 [0, 5, 6, 7, 8, 12] [.int .i64 a1, .ptr a2, .ptr a3, .sl a4, .int .i64 a5, .int .i64 a6] h) ?_
    intro a1 a2 a3 a4 a5 a6 h hb todo hm ρ a w s f hp
    have hself : CutOK sg W0 234 (entered 7) (Post sg W0 (palisadelaw24_BackendFull.ret Q)) (posC palisadelaw24_BackendFull.code []) 16 [0, 5, 6, 7, 8, 12] (palisadelaw24_BackendFull.k16 (fun a1 a2 a3 a4 a5 a6 h => Head sg W0 234 (entered 7) (Post sg W0 (palisadelaw24_BackendFull.ret Q)) (posC palisadelaw24_BackendFull.code []) 16 [0, 5, 6, 7, 8, 12] [.int .i64 a1, .ptr a2, .ptr a3, .sl a4, .int .i64 a5, .int .i64 a6] h)) := cutOK_head (fun vs h hk => by unfold palisadelaw24_BackendFull.k16 at hk; split at hk; exact hk; exact hk.elim)
    exact piece (E := palisadelaw24_BackendFull.E U Q [(16, ([0, 5, 6, 7, 8, 12], palisadelaw24_BackendFull.k16 (fun a1 a2 a3 a4 a5 a6 h => Head sg W0 234 (entered 7) (Post sg W0 (palisadelaw24_BackendFull.ret Q)) (posC palisadelaw24_BackendFull.code []) 16 [0, 5, 6, 7, 8, 12] [.int .i64 a1, .ptr a2, .ptr a3, .sl a4, .int .i64 a5, .int .i64 a6] h))), (21, ([], palisadelaw24_BackendFull.k21 (fun  h => palisadelaw24_BackendFull.j21 U   Q h))), (22, ([0, 5, 6, 8], palisadelaw24_BackendFull.k22 (fun a1 a2 a3 a4 h => palisadelaw24_BackendFull.j22 U  a1 a2 a3 a4 Q h)))]) (vs := [.int .i64 a1, .ptr a2, .ptr a3, .sl a4, .int .i64 a5, .int .i64 a6]) (envOK seatOK (palisadelaw24_BackendFull.callsOK hU) hU) (fnOK seatOK palisadelaw24_BackendFull.fun) ⟨hself, (palisadelaw24_BackendFull.s21 hU Q  ), (palisadelaw24_BackendFull.s22 hU Q  ), trivial⟩ palisadelaw24_BackendFull.p16 (fuel := 3000) (by rw [← palisadelaw24_BackendFull.e16]; exact hb) hm s f hp
  · exact hk.elim

theorem palisadelaw24_BackendFull.p15 : (posC palisadelaw24_BackendFull.code []).filter (fun p => Nat.beq p.1 15) = [(15, atPos (posC palisadelaw24_BackendFull.code []) 15)] := by kernel_rfl

theorem palisadelaw24_BackendFull.e15 : ∀ (U : Ifc)  (a1 : Int) (a2 : Option Ptr) (a3 : Option Ptr) (a4 : Sl) (a5 : Int) (Q : Bool → Heap → Prop) (h : Heap), palisadelaw24_BackendFull.j15 U  a1 a2 a3 a4 a5 Q h = pts (palisadelaw24_BackendFull.E U Q [(16, ([0, 5, 6, 7, 8, 12], palisadelaw24_BackendFull.k16 (fun a1 a2 a3 a4 a5 a6 h => palisadelaw24_BackendFull.j16 U  a1 a2 a3 a4 a5 a6 Q h)))]) 3000 true (atPos (posC palisadelaw24_BackendFull.code []) 15) (frAt [0, 5, 6, 7, 8] [.int .i64 a1, .ptr a2, .ptr a3, .sl a4, .int .i64 a5]) h := by
  intros; kernel_rfl

theorem palisadelaw24_BackendFull.s15 {W0 : World} {U : Ifc} (hU : IfcOK sg W0 glsT U) (Q : Bool → Heap → Prop)   : CutOK sg W0 234 (entered 7) (Post sg W0 (palisadelaw24_BackendFull.ret Q)) (posC palisadelaw24_BackendFull.code []) 15 [0, 5, 6, 7, 8] (palisadelaw24_BackendFull.k15 (fun a1 a2 a3 a4 a5 h => palisadelaw24_BackendFull.j15 U  a1 a2 a3 a4 a5 Q h)) := by
  refine cutOK_head (fun vs h hk => ?_)
  unfold palisadelaw24_BackendFull.k15 at hk
  split at hk
  · rename_i a1 a2 a3 a4 a5
    intro todo hm ρ a w s f hp
    exact piece (E := palisadelaw24_BackendFull.E U Q [(16, ([0, 5, 6, 7, 8, 12], palisadelaw24_BackendFull.k16 (fun a1 a2 a3 a4 a5 a6 h => palisadelaw24_BackendFull.j16 U  a1 a2 a3 a4 a5 a6 Q h)))]) (vs := [.int .i64 a1, .ptr a2, .ptr a3, .sl a4, .int .i64 a5]) (envOK seatOK (palisadelaw24_BackendFull.callsOK hU) hU) (fnOK seatOK palisadelaw24_BackendFull.fun) ⟨(palisadelaw24_BackendFull.s16 hU Q  ), trivial⟩ palisadelaw24_BackendFull.p15 (fuel := 3000) (by rw [← palisadelaw24_BackendFull.e15]; exact hk) hm s f hp
  · exact hk.elim

theorem palisadelaw24_BackendFull.p9 : (posC palisadelaw24_BackendFull.code []).filter (fun p => Nat.beq p.1 9) = [(9, atPos (posC palisadelaw24_BackendFull.code []) 9)] := by kernel_rfl

theorem palisadelaw24_BackendFull.e9 : ∀ (U : Ifc)  (I9 : Int → (Option Ptr) → (Option Ptr) → Sl → Int → Int → Heap → Prop) (a1 : Int) (a2 : Option Ptr) (a3 : Option Ptr) (a4 : Sl) (a5 : Int) (a6 : Int) (Q : Bool → Heap → Prop) (h : Heap), palisadelaw24_BackendFull.b9 U  I9 a1 a2 a3 a4 a5 a6 Q h = pts (palisadelaw24_BackendFull.E U Q [(9, ([0, 5, 6, 7, 8, 9], palisadelaw24_BackendFull.k9 I9)), (14, ([], palisadelaw24_BackendFull.k14 (fun  h => palisadelaw24_BackendFull.j14 U   Q h))), (15, ([0, 5, 6, 7, 8], palisadelaw24_BackendFull.k15 (fun a1 a2 a3 a4 a5 h => palisadelaw24_BackendFull.j15 U  a1 a2 a3 a4 a5 Q h)))]) 3000 true (atPos (posC palisadelaw24_BackendFull.code []) 9) (frAt [0, 5, 6, 7, 8, 9] [.int .i64 a1, .ptr a2, .ptr a3, .sl a4, .int .i64 a5, .int .i64 a6]) h := by
  intros; kernel_rfl

theorem palisadelaw24_BackendFull.s9 {W0 : World} {U : Ifc} (hU : IfcOK sg W0 glsT U) (Q : Bool → Heap → Prop)   : CutOK sg W0 234 (entered 7) (Post sg W0 (palisadelaw24_BackendFull.ret Q)) (posC palisadelaw24_BackendFull.code []) 9 [0, 5, 6, 7, 8, 9] (palisadelaw24_BackendFull.k9 (fun a1 a2 a3 a4 a5 a6 h => palisadelaw24_BackendFull.j9 U  a1 a2 a3 a4 a5 a6 Q h)) := by
  refine cutOK_head (fun vs h hk => ?_)
  unfold palisadelaw24_BackendFull.k9 at hk
  split at hk
  · rename_i a1 a2 a3 a4 a5 a6
    refine hk (fun a1 a2 a3 a4 a5 a6 h => Head sg W0 234 (entered 7) (Post sg W0 (palisadelaw24_BackendFull.ret Q)) (posC palisadelaw24_BackendFull.code []) 9 [0, 5, 6, 7, 8, 9] [.int .i64 a1, .ptr a2, .ptr a3, .sl a4, .int .i64 a5, .int .i64 a6] h) ?_
    intro a1 a2 a3 a4 a5 a6 h hb todo hm ρ a w s f hp
    have hself : CutOK sg W0 234 (entered 7) (Post sg W0 (palisadelaw24_BackendFull.ret Q)) (posC palisadelaw24_BackendFull.code []) 9 [0, 5, 6, 7, 8, 9] (palisadelaw24_BackendFull.k9 (fun a1 a2 a3 a4 a5 a6 h => Head sg W0 234 (entered 7) (Post sg W0 (palisadelaw24_BackendFull.ret Q)) (posC palisadelaw24_BackendFull.code []) 9 [0, 5, 6, 7, 8, 9] [.int .i64 a1, .ptr a2, .ptr a3, .sl a4, .int .i64 a5, .int .i64 a6] h)) := cutOK_head (fun vs h hk => by unfold palisadelaw24_BackendFull.k9 at hk; split at hk; exact hk; exact hk.elim)
    exact piece (E := palisadelaw24_BackendFull.E U Q [(9, ([0, 5, 6, 7, 8, 9], palisadelaw24_BackendFull.k9 (fun a1 a2 a3 a4 a5 a6 h => Head sg W0 234 (entered 7) (Post sg W0 (palisadelaw24_BackendFull.ret Q)) (posC palisadelaw24_BackendFull.code []) 9 [0, 5, 6, 7, 8, 9] [.int .i64 a1, .ptr a2, .ptr a3, .sl a4, .int .i64 a5, .int .i64 a6] h))), (14, ([], palisadelaw24_BackendFull.k14 (fun  h => palisadelaw24_BackendFull.j14 U   Q h))), (15, ([0, 5, 6, 7, 8], palisadelaw24_BackendFull.k15 (fun a1 a2 a3 a4 a5 h => palisadelaw24_BackendFull.j15 U  a1 a2 a3 a4 a5 Q h)))]) (vs := [.int .i64 a1, .ptr a2, .ptr a3, .sl a4, .int .i64 a5, .int .i64 a6]) (envOK seatOK (palisadelaw24_BackendFull.callsOK hU) hU) (fnOK seatOK palisadelaw24_BackendFull.fun) ⟨hself, (palisadelaw24_BackendFull.s14 hU Q  ), (palisadelaw24_BackendFull.s15 hU Q  ), trivial⟩ palisadelaw24_BackendFull.p9 (fuel := 3000) (by rw [← palisadelaw24_BackendFull.e9]; exact hb) hm s f hp
  · exact hk.elim

theorem palisadelaw24_BackendFull.e : ∀ (U : Ifc) (a1 : Int) (a2 : Int) (Q : Bool → Heap → Prop) (h : Heap), palisadelaw24_BackendFull U a1 a2 Q h = pts (palisadelaw24_BackendFull.E U Q [(9, ([0, 5, 6, 7, 8, 9], palisadelaw24_BackendFull.k9 (fun a1 a2 a3 a4 a5 a6 h => palisadelaw24_BackendFull.j9 U  a1 a2 a3 a4 a5 a6 Q h)))]) 3000 true [.code palisadelaw24_BackendFull.code] (frOf 0 [.int .i64 a1, .int .i64 a2]) h := by
  intros; kernel_rfl

theorem palisadelaw24_BackendFull.S {W0 : World} {U : Ifc} (hU : IfcOK sg W0 glsT U) : FnS sg W0 305 (palisadelaw24_BackendFull.C U) := by
  intro vs κ h wv hx w s
  unfold palisadelaw24_BackendFull.C at hx
  split at hx
  · rename_i a1 a2
    refine postImp (ret := palisadelaw24_BackendFull.ret (fun r1 h => κ (.bool r1) h)) (fun v h hr => by unfold palisadelaw24_BackendFull.ret at hr; split at hr; exact hr; exact hr.elim) ?_
    exact calls_of_pts (E := palisadelaw24_BackendFull.E U (fun r1 h => κ (.bool r1) h) [(9, ([0, 5, 6, 7, 8, 9], palisadelaw24_BackendFull.k9 (fun a1 a2 a3 a4 a5 a6 h => palisadelaw24_BackendFull.j9 U  a1 a2 a3 a4 a5 a6 (fun r1 h => κ (.bool r1) h) h)))]) (envOK seatOK (palisadelaw24_BackendFull.callsOK hU) hU) seatOK.mixed palisadelaw24_BackendFull.fun (Nat.le_of_ble_eq_true rfl) wv (cutL_ok ⟨(palisadelaw24_BackendFull.s9 hU (fun r1 h => κ (.bool r1) h)), trivial⟩) s (fuel := 3000) (by rw [← palisadelaw24_BackendFull.e]; exact hx)
  · exact hx.elim

noncomputable def slices_Clone_disk_Request_disk_Request.code : Code := Go.Proofs.Tryd.f61.body.getD .skip

theorem slices_Clone_disk_Request_disk_Request.fun : Fun sg.P 61 8 [.tmp 2] slices_Clone_disk_Request_disk_Request.code := mkFun Go.Proofs.Tryd.func61 (by kernel_rfl) (by kernel_rfl) (by kernel_rfl) (by kernel_rfl)

def slices_Clone_disk_Request_disk_Request.ret (Q : Sl → Heap → Prop) (v : V) (h : Heap) : Prop :=
  match v with
  | .sl r1 => Q r1 h
  | _ => False

def slices_Clone_disk_Request_disk_Request.C (vs : List V) (κ : V → Heap → Prop) (h : Heap) : Prop :=
  match vs with
  | [.sl a1] => slices_Clone_disk_Request_disk_Request a1 (fun r1 h => κ (.sl r1) h) h
  | _ => False

noncomputable def slices_Clone_disk_Request_disk_Request.calls : List (Nat × (List V → (V → Heap → Prop) → Heap → Prop)) := []

noncomputable def slices_Clone_disk_Request_disk_Request.E (Q : Sl → Heap → Prop) (cuts : List (Nat × (List Nat × (List V → Heap → Prop)))) : Env := { tis := tisT, fns := fnsT, tys := tysT, gls := [], rts := rtsT, unk := [], nxt := [], calls := slices_Clone_disk_Request_disk_Request.calls, ifc := noIfc, cuts := cuts, ret := slices_Clone_disk_Request_disk_Request.ret Q, rets := [.tmp 2], n := 8 }

theorem slices_Clone_disk_Request_disk_Request.callsOK {W0 : World} : CallsOK sg W0 slices_Clone_disk_Request_disk_Request.calls := trivial

theorem slices_Clone_disk_Request_disk_Request.e : ∀ (a1 : Sl) (Q : Sl → Heap → Prop) (h : Heap), slices_Clone_disk_Request_disk_Request a1 Q h = pts (slices_Clone_disk_Request_disk_Request.E Q []) 3000 true [.code slices_Clone_disk_Request_disk_Request.code] (frOf 0 [.sl a1]) h := by
  intros; kernel_rfl

theorem slices_Clone_disk_Request_disk_Request.S {W0 : World} : FnS sg W0 37 slices_Clone_disk_Request_disk_Request.C := by
  intro vs κ h wv hx w s
  unfold slices_Clone_disk_Request_disk_Request.C at hx
  split at hx
  · rename_i a1
    refine postImp (ret := slices_Clone_disk_Request_disk_Request.ret (fun r1 h => κ (.sl r1) h)) (fun v h hr => by unfold slices_Clone_disk_Request_disk_Request.ret at hr; split at hr; exact hr; exact hr.elim) ?_
    exact calls_of_pts (E := slices_Clone_disk_Request_disk_Request.E (fun r1 h => κ (.sl r1) h) []) (envOK seatOK slices_Clone_disk_Request_disk_Request.callsOK noIfc_ok) seatOK.mixed slices_Clone_disk_Request_disk_Request.fun (Nat.le_of_ble_eq_true rfl) wv (cutL_ok trivial) s (fuel := 3000) (by rw [← slices_Clone_disk_Request_disk_Request.e]; exact hx)
  · exact hx.elim

noncomputable def disk_Disk_Pending.code : Code := Go.Proofs.Tryd.f22.body.getD .skip

theorem disk_Disk_Pending.fun : Fun sg.P 22 10 [.tmp 2] disk_Disk_Pending.code := mkFun Go.Proofs.Tryd.func22 (by kernel_rfl) (by kernel_rfl) (by kernel_rfl) (by kernel_rfl)

def disk_Disk_Pending.ret (Q : Sl → Heap → Prop) (v : V) (h : Heap) : Prop :=
  match v with
  | .sl r1 => Q r1 h
  | _ => False

def disk_Disk_Pending.C (vs : List V) (κ : V → Heap → Prop) (h : Heap) : Prop :=
  match vs with
  | [.ptr a1] => disk_Disk_Pending a1 (fun r1 h => κ (.sl r1) h) h
  | _ => False

noncomputable def disk_Disk_Pending.calls : List (Nat × (List V → (V → Heap → Prop) → Heap → Prop)) := [(29, disk_Disk_none.C), (37, slices_Clone_disk_Request_disk_Request.C)]

noncomputable def disk_Disk_Pending.E (Q : Sl → Heap → Prop) (cuts : List (Nat × (List Nat × (List V → Heap → Prop)))) : Env := { tis := tisT, fns := fnsT, tys := tysT, gls := [], rts := rtsT, unk := [], nxt := [], calls := disk_Disk_Pending.calls, ifc := noIfc, cuts := cuts, ret := disk_Disk_Pending.ret Q, rets := [.tmp 2], n := 10 }

theorem disk_Disk_Pending.callsOK {W0 : World} : CallsOK sg W0 disk_Disk_Pending.calls := ⟨disk_Disk_none.S, slices_Clone_disk_Request_disk_Request.S, trivial⟩

theorem disk_Disk_Pending.e : ∀ (a1 : Option Ptr) (Q : Sl → Heap → Prop) (h : Heap), disk_Disk_Pending a1 Q h = pts (disk_Disk_Pending.E Q []) 3000 true [.code disk_Disk_Pending.code] (frOf 0 [.ptr a1]) h := by
  intros; kernel_rfl

theorem disk_Disk_Pending.S {W0 : World} : FnS sg W0 38 disk_Disk_Pending.C := by
  intro vs κ h wv hx w s
  unfold disk_Disk_Pending.C at hx
  split at hx
  · rename_i a1
    refine postImp (ret := disk_Disk_Pending.ret (fun r1 h => κ (.sl r1) h)) (fun v h hr => by unfold disk_Disk_Pending.ret at hr; split at hr; exact hr; exact hr.elim) ?_
    exact calls_of_pts (E := disk_Disk_Pending.E (fun r1 h => κ (.sl r1) h) []) (envOK seatOK disk_Disk_Pending.callsOK noIfc_ok) seatOK.mixed disk_Disk_Pending.fun (Nat.le_of_ble_eq_true rfl) wv (cutL_ok trivial) s (fuel := 3000) (by rw [← disk_Disk_Pending.e]; exact hx)
  · exact hx.elim

noncomputable def frames_Frames_Count.code : Code := Go.Proofs.Tryd.f37.body.getD .skip

theorem frames_Frames_Count.fun : Fun sg.P 37 27 [.tmp 4, .tmp 5] frames_Frames_Count.code := mkFun Go.Proofs.Tryd.func37 (by kernel_rfl) (by kernel_rfl) (by kernel_rfl) (by kernel_rfl)

def frames_Frames_Count.ret (Q : Int → Int → Heap → Prop) (v : V) (h : Heap) : Prop :=
  match v with
  | .tup [.int .i64 r1, .int .i64 r2] => Q r1 r2 h
  | _ => False

def frames_Frames_Count.C (vs : List V) (κ : V → Heap → Prop) (h : Heap) : Prop :=
  match vs with
  | [.ptr a1, .int .i64 a2] => frames_Frames_Count a1 a2 (fun r1 r2 h => κ (.tup [.int .i64 r1, .int .i64 r2]) h) h
  | _ => False

noncomputable def frames_Frames_Count.calls : List (Nat × (List V → (V → Heap → Prop) → Heap → Prop)) := [(260, frames_Frames_none.C), (261, frames_isOwner.C)]

noncomputable def frames_Frames_Count.E (Q : Int → Int → Heap → Prop) (cuts : List (Nat × (List Nat × (List V → Heap → Prop)))) : Env := { tis := tisT, fns := fnsT, tys := tysT, gls := [], rts := rtsT, unk := [], nxt := [], calls := frames_Frames_Count.calls, ifc := noIfc, cuts := cuts, ret := frames_Frames_Count.ret Q, rets := [.tmp 4, .tmp 5], n := 27 }

theorem frames_Frames_Count.callsOK {W0 : World} : CallsOK sg W0 frames_Frames_Count.calls := ⟨frames_Frames_none.S, frames_isOwner.S, trivial⟩

theorem frames_Frames_Count.e : ∀ (a1 : Option Ptr) (a2 : Int) (Q : Int → Int → Heap → Prop) (h : Heap), frames_Frames_Count a1 a2 Q h = pts (frames_Frames_Count.E Q []) 3000 true [.code frames_Frames_Count.code] (frOf 0 [.ptr a1, .int .i64 a2]) h := by
  intros; kernel_rfl

theorem frames_Frames_Count.S {W0 : World} : FnS sg W0 306 frames_Frames_Count.C := by
  intro vs κ h wv hx w s
  unfold frames_Frames_Count.C at hx
  split at hx
  · rename_i a1 a2
    refine postImp (ret := frames_Frames_Count.ret (fun r1 r2 h => κ (.tup [.int .i64 r1, .int .i64 r2]) h)) (fun v h hr => by unfold frames_Frames_Count.ret at hr; split at hr; exact hr; exact hr.elim) ?_
    exact calls_of_pts (E := frames_Frames_Count.E (fun r1 r2 h => κ (.tup [.int .i64 r1, .int .i64 r2]) h) []) (envOK seatOK frames_Frames_Count.callsOK noIfc_ok) seatOK.mixed frames_Frames_Count.fun (Nat.le_of_ble_eq_true rfl) wv (cutL_ok trivial) s (fuel := 3000) (by rw [← frames_Frames_Count.e]; exact hx)
  · exact hx.elim

noncomputable def palisadelaw24_Flat_Put.code : Code := Go.Proofs.Tryd.f13.body.getD .skip

theorem palisadelaw24_Flat_Put.fun : Fun sg.P 13 43 [.tmp 6] palisadelaw24_Flat_Put.code := mkFun Go.Proofs.Tryd.func13 (by kernel_rfl) (by kernel_rfl) (by kernel_rfl) (by kernel_rfl)

def palisadelaw24_Flat_Put.ret (Q : Int → Heap → Prop) (v : V) (h : Heap) : Prop :=
  match v with
  | .int .i64 r1 => Q r1 h
  | _ => False

def palisadelaw24_Flat_Put.C (vs : List V) (κ : V → Heap → Prop) (h : Heap) : Prop :=
  match vs with
  | [.ptr a1, .int .u64 a2, .sl a3] => palisadelaw24_Flat_Put a1 a2 a3 (fun r1 h => κ (.int .i64 r1) h) h
  | _ => False

noncomputable def palisadelaw24_Flat_Put.calls : List (Nat × (List V → (V → Heap → Prop) → Heap → Prop)) := [(33, mem_Memory_Put.C)]

noncomputable def palisadelaw24_Flat_Put.E (Q : Int → Heap → Prop) (cuts : List (Nat × (List Nat × (List V → Heap → Prop)))) : Env := { tis := tisT, fns := fnsT, tys := tysT, gls := [], rts := rtsT, unk := [], nxt := [], calls := palisadelaw24_Flat_Put.calls, ifc := noIfc, cuts := cuts, ret := palisadelaw24_Flat_Put.ret Q, rets := [.tmp 6], n := 43 }

theorem palisadelaw24_Flat_Put.callsOK {W0 : World} : CallsOK sg W0 palisadelaw24_Flat_Put.calls := ⟨mem_Memory_Put.S, trivial⟩

def palisadelaw24_Flat_Put.k2 (I : Heap → Prop) (vs : List V) (h : Heap) : Prop :=
  match vs with
  | [] => I  h
  | _ => False

theorem palisadelaw24_Flat_Put.p2 : (posC palisadelaw24_Flat_Put.code []).filter (fun p => Nat.beq p.1 2) = [(2, atPos (posC palisadelaw24_Flat_Put.code []) 2)] := by kernel_rfl

theorem palisadelaw24_Flat_Put.e2 : ∀   (Q : Int → Heap → Prop) (h : Heap), palisadelaw24_Flat_Put.j2   Q h = pts (palisadelaw24_Flat_Put.E Q []) 3000 true (atPos (posC palisadelaw24_Flat_Put.code []) 2) (frAt [] []) h := by
  intros; kernel_rfl

theorem palisadelaw24_Flat_Put.s2 {W0 : World} (Q : Int → Heap → Prop)   : CutOK sg W0 43 (entered 13) (Post sg W0 (palisadelaw24_Flat_Put.ret Q)) (posC palisadelaw24_Flat_Put.code []) 2 [] (palisadelaw24_Flat_Put.k2 (fun  h => palisadelaw24_Flat_Put.j2   Q h)) := by
  refine cutOK_head (fun vs h hk => ?_)
  unfold palisadelaw24_Flat_Put.k2 at hk
  split at hk
  · skip
    intro todo hm ρ a w s f hp
    exact piece (E := palisadelaw24_Flat_Put.E Q []) (vs := []) (envOK seatOK palisadelaw24_Flat_Put.callsOK noIfc_ok) (fnOK seatOK palisadelaw24_Flat_Put.fun) trivial palisadelaw24_Flat_Put.p2 (fuel := 3000) (by rw [← palisadelaw24_Flat_Put.e2]; exact hk) hm s f hp
  · exact hk.elim

theorem palisadelaw24_Flat_Put.e : ∀ (a1 : Option Ptr) (a2 : Int) (a3 : Sl) (Q : Int → Heap → Prop) (h : Heap), palisadelaw24_Flat_Put a1 a2 a3 Q h = pts (palisadelaw24_Flat_Put.E Q [(2, ([], palisadelaw24_Flat_Put.k2 (fun  h => palisadelaw24_Flat_Put.j2   Q h)))]) 3000 true [.code palisadelaw24_Flat_Put.code] (frOf 0 [.ptr a1, .int .u64 a2, .sl a3]) h := by
  intros; kernel_rfl

theorem palisadelaw24_Flat_Put.S {W0 : World} : FnS sg W0 298 palisadelaw24_Flat_Put.C := by
  intro vs κ h wv hx w s
  unfold palisadelaw24_Flat_Put.C at hx
  split at hx
  · rename_i a1 a2 a3
    refine postImp (ret := palisadelaw24_Flat_Put.ret (fun r1 h => κ (.int .i64 r1) h)) (fun v h hr => by unfold palisadelaw24_Flat_Put.ret at hr; split at hr; exact hr; exact hr.elim) ?_
    exact calls_of_pts (E := palisadelaw24_Flat_Put.E (fun r1 h => κ (.int .i64 r1) h) [(2, ([], palisadelaw24_Flat_Put.k2 (fun  h => palisadelaw24_Flat_Put.j2   (fun r1 h => κ (.int .i64 r1) h) h)))]) (envOK seatOK palisadelaw24_Flat_Put.callsOK noIfc_ok) seatOK.mixed palisadelaw24_Flat_Put.fun (Nat.le_of_ble_eq_true rfl) wv (cutL_ok ⟨(palisadelaw24_Flat_Put.s2 (fun r1 h => κ (.int .i64 r1) h)), trivial⟩) s (fuel := 3000) (by rw [← palisadelaw24_Flat_Put.e]; exact hx)
  · exact hx.elim

noncomputable def palisadelaw24_Flat_Bytes.code : Code := Go.Proofs.Tryd.f17.body.getD .skip

theorem palisadelaw24_Flat_Bytes.fun : Fun sg.P 17 49 [.tmp 6, .tmp 7] palisadelaw24_Flat_Bytes.code := mkFun Go.Proofs.Tryd.func17 (by kernel_rfl) (by kernel_rfl) (by kernel_rfl) (by kernel_rfl)

def palisadelaw24_Flat_Bytes.ret (Q : Sl → Int → Heap → Prop) (v : V) (h : Heap) : Prop :=
  match v with
  | .tup [.sl r1, .int .i64 r2] => Q r1 r2 h
  | _ => False

def palisadelaw24_Flat_Bytes.C (vs : List V) (κ : V → Heap → Prop) (h : Heap) : Prop :=
  match vs with
  | [.ptr a1, .int .u64 a2, .int .i64 a3] => palisadelaw24_Flat_Bytes a1 a2 a3 (fun r1 r2 h => κ (.tup [.sl r1, .int .i64 r2]) h) h
  | _ => False

noncomputable def palisadelaw24_Flat_Bytes.calls : List (Nat × (List V → (V → Heap → Prop) → Heap → Prop)) := [(40, mem_Memory_Bytes.C)]

noncomputable def palisadelaw24_Flat_Bytes.E (Q : Sl → Int → Heap → Prop) (cuts : List (Nat × (List Nat × (List V → Heap → Prop)))) : Env := { tis := tisT, fns := fnsT, tys := tysT, gls := [], rts := rtsT, unk := [], nxt := [], calls := palisadelaw24_Flat_Bytes.calls, ifc := noIfc, cuts := cuts, ret := palisadelaw24_Flat_Bytes.ret Q, rets := [.tmp 6, .tmp 7], n := 49 }

theorem palisadelaw24_Flat_Bytes.callsOK {W0 : World} : CallsOK sg W0 palisadelaw24_Flat_Bytes.calls := ⟨mem_Memory_Bytes.S, trivial⟩

def palisadelaw24_Flat_Bytes.k2 (I : Heap → Prop) (vs : List V) (h : Heap) : Prop :=
  match vs with
  | [] => I  h
  | _ => False

def palisadelaw24_Flat_Bytes.k3 (I : (Option Ptr) → Int → Int → Heap → Prop) (vs : List V) (h : Heap) : Prop :=
  match vs with
  | [.ptr a1, .int .u64 a2, .int .i64 a3] => I a1 a2 a3 h
  | _ => False

theorem palisadelaw24_Flat_Bytes.p2 : (posC palisadelaw24_Flat_Bytes.code []).filter (fun p => Nat.beq p.1 2) = [(2, atPos (posC palisadelaw24_Flat_Bytes.code []) 2)] := by kernel_rfl

theorem palisadelaw24_Flat_Bytes.e2 : ∀   (Q : Sl → Int → Heap → Prop) (h : Heap), palisadelaw24_Flat_Bytes.j2   Q h = pts (palisadelaw24_Flat_Bytes.E Q []) 3000 true (atPos (posC palisadelaw24_Flat_Bytes.code []) 2) (frAt [] []) h := by
  intros; kernel_rfl

theorem palisadelaw24_Flat_Bytes.s2 {W0 : World} (Q : Sl → Int → Heap → Prop)   : CutOK sg W0 49 (entered 17) (Post sg W0 (palisadelaw24_Flat_Bytes.ret Q)) (posC palisadelaw24_Flat_Bytes.code []) 2 [] (palisadelaw24_Flat_Bytes.k2 (fun  h => palisadelaw24_Flat_Bytes.j2   Q h)) := by
  refine cutOK_head (fun vs h hk => ?_)
  unfold palisadelaw24_Flat_Bytes.k2 at hk
  split at hk
  · skip
    intro todo hm ρ a w s f hp
    exact piece (E := palisadelaw24_Flat_Bytes.E Q []) (vs := []) (envOK seatOK palisadelaw24_Flat_Bytes.callsOK noIfc_ok) (fnOK seatOK palisadelaw24_Flat_Bytes.fun) trivial palisadelaw24_Flat_Bytes.p2 (fuel := 3000) (by rw [← palisadelaw24_Flat_Bytes.e2]; exact hk) hm s f hp
  · exact hk.elim

theorem palisadelaw24_Flat_Bytes.p3 : (posC palisadelaw24_Flat_Bytes.code []).filter (fun p => Nat.beq p.1 3) = [(3, atPos (posC palisadelaw24_Flat_Bytes.code []) 3)] := by kernel_rfl

theorem palisadelaw24_Flat_Bytes.e3 : ∀  (a1 : Option Ptr) (a2 : Int) (a3 : Int) (Q : Sl → Int → Heap → Prop) (h : Heap), palisadelaw24_Flat_Bytes.j3  a1 a2 a3 Q h = pts (palisadelaw24_Flat_Bytes.E Q []) 3000 true (atPos (posC palisadelaw24_Flat_Bytes.code []) 3) (frAt [0, 1, 2] [.ptr a1, .int .u64 a2, .int .i64 a3]) h := by
  intros; kernel_rfl

theorem palisadelaw24_Flat_Bytes.s3 {W0 : World} (Q : Sl → Int → Heap → Prop)   : CutOK sg W0 49 (entered 17) (Post sg W0 (palisadelaw24_Flat_Bytes.ret Q)) (posC palisadelaw24_Flat_Bytes.code []) 3 [0, 1, 2] (palisadelaw24_Flat_Bytes.k3 (fun a1 a2 a3 h => palisadelaw24_Flat_Bytes.j3  a1 a2 a3 Q h)) := by
  refine cutOK_head (fun vs h hk => ?_)
  unfold palisadelaw24_Flat_Bytes.k3 at hk
  split at hk
  · rename_i a1 a2 a3
    intro todo hm ρ a w s f hp
    exact piece (E := palisadelaw24_Flat_Bytes.E Q []) (vs := [.ptr a1, .int .u64 a2, .int .i64 a3]) (envOK seatOK palisadelaw24_Flat_Bytes.callsOK noIfc_ok) (fnOK seatOK palisadelaw24_Flat_Bytes.fun) trivial palisadelaw24_Flat_Bytes.p3 (fuel := 3000) (by rw [← palisadelaw24_Flat_Bytes.e3]; exact hk) hm s f hp
  · exact hk.elim

theorem palisadelaw24_Flat_Bytes.e : ∀ (a1 : Option Ptr) (a2 : Int) (a3 : Int) (Q : Sl → Int → Heap → Prop) (h : Heap), palisadelaw24_Flat_Bytes a1 a2 a3 Q h = pts (palisadelaw24_Flat_Bytes.E Q [(2, ([], palisadelaw24_Flat_Bytes.k2 (fun  h => palisadelaw24_Flat_Bytes.j2   Q h))), (3, ([0, 1, 2], palisadelaw24_Flat_Bytes.k3 (fun a1 a2 a3 h => palisadelaw24_Flat_Bytes.j3  a1 a2 a3 Q h)))]) 3000 true [.code palisadelaw24_Flat_Bytes.code] (frOf 0 [.ptr a1, .int .u64 a2, .int .i64 a3]) h := by
  intros; kernel_rfl

theorem palisadelaw24_Flat_Bytes.S {W0 : World} : FnS sg W0 295 palisadelaw24_Flat_Bytes.C := by
  intro vs κ h wv hx w s
  unfold palisadelaw24_Flat_Bytes.C at hx
  split at hx
  · rename_i a1 a2 a3
    refine postImp (ret := palisadelaw24_Flat_Bytes.ret (fun r1 r2 h => κ (.tup [.sl r1, .int .i64 r2]) h)) (fun v h hr => by unfold palisadelaw24_Flat_Bytes.ret at hr; split at hr; exact hr; exact hr.elim) ?_
    exact calls_of_pts (E := palisadelaw24_Flat_Bytes.E (fun r1 r2 h => κ (.tup [.sl r1, .int .i64 r2]) h) [(2, ([], palisadelaw24_Flat_Bytes.k2 (fun  h => palisadelaw24_Flat_Bytes.j2   (fun r1 r2 h => κ (.tup [.sl r1, .int .i64 r2]) h) h))), (3, ([0, 1, 2], palisadelaw24_Flat_Bytes.k3 (fun a1 a2 a3 h => palisadelaw24_Flat_Bytes.j3  a1 a2 a3 (fun r1 r2 h => κ (.tup [.sl r1, .int .i64 r2]) h) h)))]) (envOK seatOK palisadelaw24_Flat_Bytes.callsOK noIfc_ok) seatOK.mixed palisadelaw24_Flat_Bytes.fun (Nat.le_of_ble_eq_true rfl) wv (cutL_ok ⟨(palisadelaw24_Flat_Bytes.s2 (fun r1 r2 h => κ (.tup [.sl r1, .int .i64 r2]) h)), (palisadelaw24_Flat_Bytes.s3 (fun r1 r2 h => κ (.tup [.sl r1, .int .i64 r2]) h)), trivial⟩) s (fuel := 3000) (by rw [← palisadelaw24_Flat_Bytes.e]; exact hx)
  · exact hx.elim

noncomputable def word_Load.code : Code := Go.Proofs.Tryd.f91.body.getD .skip

theorem word_Load.fun : Fun sg.P 91 53 [.tmp 6, .tmp 7] word_Load.code := mkFun Go.Proofs.Tryd.func91 (by kernel_rfl) (by kernel_rfl) (by kernel_rfl) (by kernel_rfl)

def word_Load.ret (Q : Int → Bool → Heap → Prop) (v : V) (h : Heap) : Prop :=
  match v with
  | .tup [.int .u64 r1, .bool r2] => Q r1 r2 h
  | _ => False

def word_Load.C (U : Ifc) (vs : List V) (κ : V → Heap → Prop) (h : Heap) : Prop :=
  match vs with
  | [.sl a1, .int .i64 a2, .int .i64 a3] => word_Load U a1 a2 a3 (fun r1 r2 h => κ (.tup [.int .u64 r1, .bool r2]) h) h
  | _ => False

noncomputable def word_Load.calls (U : Ifc) : List (Nat × (List V → (V → Heap → Prop) → Heap → Prop)) := [(93, word_known.C U)]

noncomputable def word_Load.E (U : Ifc) (Q : Int → Bool → Heap → Prop) (cuts : List (Nat × (List Nat × (List V → Heap → Prop)))) : Env := { tis := tisT, fns := fnsT, tys := tysT, gls := glsT, rts := rtsT, unk := [], nxt := [], calls := word_Load.calls U, ifc := U, cuts := cuts, ret := word_Load.ret Q, rets := [.tmp 6, .tmp 7], n := 53 }

theorem word_Load.callsOK {W0 : World} {U : Ifc} (hU : IfcOK sg W0 glsT U) : CallsOK sg W0 (word_Load.calls U) := ⟨(word_known.S hU), trivial⟩

def word_Load.k2 (I : Heap → Prop) (vs : List V) (h : Heap) : Prop :=
  match vs with
  | [] => I  h
  | _ => False

def word_Load.k5 (I : Int → Int → Sl → Int → Int → Heap → Prop) (vs : List V) (h : Heap) : Prop :=
  match vs with
  | [.int .i64 a1, .int .u64 a2, .sl a3, .int .i64 a4, .int .i64 a5] => I a1 a2 a3 a4 a5 h
  | _ => False

theorem word_Load.p2 : (posC word_Load.code []).filter (fun p => Nat.beq p.1 2) = [(2, atPos (posC word_Load.code []) 2)] := by kernel_rfl

theorem word_Load.e2 : ∀ (U : Ifc)   (Q : Int → Bool → Heap → Prop) (h : Heap), word_Load.j2 U   Q h = pts (word_Load.E U Q []) 3000 true (atPos (posC word_Load.code []) 2) (frAt [] []) h := by
  intros; kernel_rfl

theorem word_Load.s2 {W0 : World} {U : Ifc} (hU : IfcOK sg W0 glsT U) (Q : Int → Bool → Heap → Prop)   : CutOK sg W0 53 (entered 91) (Post sg W0 (word_Load.ret Q)) (posC word_Load.code []) 2 [] (word_Load.k2 (fun  h => word_Load.j2 U   Q h)) := by
  refine cutOK_head (fun vs h hk => ?_)
  unfold word_Load.k2 at hk
  split at hk
  · skip
    intro todo hm ρ a w s f hp
    exact piece (E := word_Load.E U Q []) (vs := []) (envOK seatOK (word_Load.callsOK hU) hU) (fnOK seatOK word_Load.fun) trivial word_Load.p2 (fuel := 3000) (by rw [← word_Load.e2]; exact hk) hm s f hp
  · exact hk.elim

theorem word_Load.p5 : (posC word_Load.code []).filter (fun p => Nat.beq p.1 5) = [(5, atPos (posC word_Load.code []) 5)] := by kernel_rfl

theorem word_Load.e5 : ∀ (U : Ifc)  (I5 : Int → Int → Sl → Int → Int → Heap → Prop) (a1 : Int) (a2 : Int) (a3 : Sl) (a4 : Int) (a5 : Int) (Q : Int → Bool → Heap → Prop) (h : Heap), word_Load.b5 U  I5 a1 a2 a3 a4 a5 Q h = pts (word_Load.E U Q [(5, ([2, 8, 31, 32, 33], word_Load.k5 I5))]) 3000 true (atPos (posC word_Load.code []) 5) (frAt [2, 8, 31, 32, 33] [.int .i64 a1, .int .u64 a2, .sl a3, .int .i64 a4, .int .i64 a5]) h := by
  intros; kernel_rfl

theorem word_Load.s5 {W0 : World} {U : Ifc} (hU : IfcOK sg W0 glsT U) (Q : Int → Bool → Heap → Prop)   : CutOK sg W0 53 (entered 91) (Post sg W0 (word_Load.ret Q)) (posC word_Load.code []) 5 [2, 8, 31, 32, 33] (word_Load.k5 (fun a1 a2 a3 a4 a5 h => word_Load.j5 U  a1 a2 a3 a4 a5 Q h)) := by
  refine cutOK_head (fun vs h hk => ?_)
  unfold word_Load.k5 at hk
  split at hk
  · rename_i a1 a2 a3 a4 a5
    refine hk (fun a1 a2 a3 a4 a5 h => Head sg W0 53 (entered 91) (Post sg W0 (word_Load.ret Q)) (posC word_Load.code []) 5 [2, 8, 31, 32, 33] [.int .i64 a1, .int .u64 a2, .sl a3, .int .i64 a4, .int .i64 a5] h) ?_
    intro a1 a2 a3 a4 a5 h hb todo hm ρ a w s f hp
    have hself : CutOK sg W0 53 (entered 91) (Post sg W0 (word_Load.ret Q)) (posC word_Load.code []) 5 [2, 8, 31, 32, 33] (word_Load.k5 (fun a1 a2 a3 a4 a5 h => Head sg W0 53 (entered 91) (Post sg W0 (word_Load.ret Q)) (posC word_Load.code []) 5 [2, 8, 31, 32, 33] [.int .i64 a1, .int .u64 a2, .sl a3, .int .i64 a4, .int .i64 a5] h)) := cutOK_head (fun vs h hk => by unfold word_Load.k5 at hk; split at hk; exact hk; exact hk.elim)
    exact piece (E := word_Load.E U Q [(5, ([2, 8, 31, 32, 33], word_Load.k5 (fun a1 a2 a3 a4 a5 h => Head sg W0 53 (entered 91) (Post sg W0 (word_Load.ret Q)) (posC word_Load.code []) 5 [2, 8, 31, 32, 33] [.int .i64 a1, .int .u64 a2, .sl a3, .int .i64 a4, .int .i64 a5] h)))]) (vs := [.int .i64 a1, .int .u64 a2, .sl a3, .int .i64 a4, .int .i64 a5]) (envOK seatOK (word_Load.callsOK hU) hU) (fnOK seatOK word_Load.fun) ⟨hself, trivial⟩ word_Load.p5 (fuel := 3000) (by rw [← word_Load.e5]; exact hb) hm s f hp
  · exact hk.elim

theorem word_Load.e : ∀ (U : Ifc) (a1 : Sl) (a2 : Int) (a3 : Int) (Q : Int → Bool → Heap → Prop) (h : Heap), word_Load U a1 a2 a3 Q h = pts (word_Load.E U Q [(2, ([], word_Load.k2 (fun  h => word_Load.j2 U   Q h))), (5, ([2, 8, 31, 32, 33], word_Load.k5 (fun a1 a2 a3 a4 a5 h => word_Load.j5 U  a1 a2 a3 a4 a5 Q h)))]) 3000 true [.code word_Load.code] (frOf 0 [.sl a1, .int .i64 a2, .int .i64 a3]) h := by
  intros; kernel_rfl

theorem word_Load.S {W0 : World} {U : Ifc} (hU : IfcOK sg W0 glsT U) : FnS sg W0 94 (word_Load.C U) := by
  intro vs κ h wv hx w s
  unfold word_Load.C at hx
  split at hx
  · rename_i a1 a2 a3
    refine postImp (ret := word_Load.ret (fun r1 r2 h => κ (.tup [.int .u64 r1, .bool r2]) h)) (fun v h hr => by unfold word_Load.ret at hr; split at hr; exact hr; exact hr.elim) ?_
    exact calls_of_pts (E := word_Load.E U (fun r1 r2 h => κ (.tup [.int .u64 r1, .bool r2]) h) [(2, ([], word_Load.k2 (fun  h => word_Load.j2 U   (fun r1 r2 h => κ (.tup [.int .u64 r1, .bool r2]) h) h))), (5, ([2, 8, 31, 32, 33], word_Load.k5 (fun a1 a2 a3 a4 a5 h => word_Load.j5 U  a1 a2 a3 a4 a5 (fun r1 r2 h => κ (.tup [.int .u64 r1, .bool r2]) h) h)))]) (envOK seatOK (word_Load.callsOK hU) hU) seatOK.mixed word_Load.fun (Nat.le_of_ble_eq_true rfl) wv (cutL_ok ⟨(word_Load.s2 hU (fun r1 r2 h => κ (.tup [.int .u64 r1, .bool r2]) h)), (word_Load.s5 hU (fun r1 r2 h => κ (.tup [.int .u64 r1, .bool r2]) h)), trivial⟩) s (fuel := 3000) (by rw [← word_Load.e]; exact hx)
  · exact hx.elim

noncomputable def mem_Memory_Load.code : Code := Go.Proofs.Tryd.f59.body.getD .skip

theorem mem_Memory_Load.fun : Fun sg.P 59 29 [.tmp 6, .tmp 7] mem_Memory_Load.code := mkFun Go.Proofs.Tryd.func59 (by kernel_rfl) (by kernel_rfl) (by kernel_rfl) (by kernel_rfl)

def mem_Memory_Load.ret (Q : Int → Int → Heap → Prop) (v : V) (h : Heap) : Prop :=
  match v with
  | .tup [.int .u64 r1, .int .i64 r2] => Q r1 r2 h
  | _ => False

def mem_Memory_Load.C (U : Ifc) (vs : List V) (κ : V → Heap → Prop) (h : Heap) : Prop :=
  match vs with
  | [.ptr a1, .int .u64 a2, .int .i64 a3] => mem_Memory_Load U a1 a2 a3 (fun r1 r2 h => κ (.tup [.int .u64 r1, .int .i64 r2]) h) h
  | _ => False

noncomputable def mem_Memory_Load.calls (U : Ifc) : List (Nat × (List V → (V → Heap → Prop) → Heap → Prop)) := [(59, mem_Memory_number.C), (94, word_Load.C U)]

noncomputable def mem_Memory_Load.E (U : Ifc) (Q : Int → Int → Heap → Prop) (cuts : List (Nat × (List Nat × (List V → Heap → Prop)))) : Env := { tis := tisT, fns := fnsT, tys := tysT, gls := glsT, rts := rtsT, unk := [], nxt := [], calls := mem_Memory_Load.calls U, ifc := U, cuts := cuts, ret := mem_Memory_Load.ret Q, rets := [.tmp 6, .tmp 7], n := 29 }

theorem mem_Memory_Load.callsOK {W0 : World} {U : Ifc} (hU : IfcOK sg W0 glsT U) : CallsOK sg W0 (mem_Memory_Load.calls U) := ⟨mem_Memory_number.S, (word_Load.S hU), trivial⟩

theorem mem_Memory_Load.e : ∀ (U : Ifc) (a1 : Option Ptr) (a2 : Int) (a3 : Int) (Q : Int → Int → Heap → Prop) (h : Heap), mem_Memory_Load U a1 a2 a3 Q h = pts (mem_Memory_Load.E U Q []) 3000 true [.code mem_Memory_Load.code] (frOf 0 [.ptr a1, .int .u64 a2, .int .i64 a3]) h := by
  intros; kernel_rfl

theorem mem_Memory_Load.S {W0 : World} {U : Ifc} (hU : IfcOK sg W0 glsT U) : FnS sg W0 95 (mem_Memory_Load.C U) := by
  intro vs κ h wv hx w s
  unfold mem_Memory_Load.C at hx
  split at hx
  · rename_i a1 a2 a3
    refine postImp (ret := mem_Memory_Load.ret (fun r1 r2 h => κ (.tup [.int .u64 r1, .int .i64 r2]) h)) (fun v h hr => by unfold mem_Memory_Load.ret at hr; split at hr; exact hr; exact hr.elim) ?_
    exact calls_of_pts (E := mem_Memory_Load.E U (fun r1 r2 h => κ (.tup [.int .u64 r1, .int .i64 r2]) h) []) (envOK seatOK (mem_Memory_Load.callsOK hU) hU) seatOK.mixed mem_Memory_Load.fun (Nat.le_of_ble_eq_true rfl) wv (cutL_ok trivial) s (fuel := 3000) (by rw [← mem_Memory_Load.e]; exact hx)
  · exact hx.elim

noncomputable def palisadelaw24_Flat_Load.code : Code := Go.Proofs.Tryd.f21.body.getD .skip

theorem palisadelaw24_Flat_Load.fun : Fun sg.P 21 32 [.tmp 6, .tmp 7] palisadelaw24_Flat_Load.code := mkFun Go.Proofs.Tryd.func21 (by kernel_rfl) (by kernel_rfl) (by kernel_rfl) (by kernel_rfl)

def palisadelaw24_Flat_Load.ret (Q : Int → Int → Heap → Prop) (v : V) (h : Heap) : Prop :=
  match v with
  | .tup [.int .u64 r1, .int .i64 r2] => Q r1 r2 h
  | _ => False

def palisadelaw24_Flat_Load.C (U : Ifc) (vs : List V) (κ : V → Heap → Prop) (h : Heap) : Prop :=
  match vs with
  | [.ptr a1, .int .u64 a2, .int .i64 a3] => palisadelaw24_Flat_Load U a1 a2 a3 (fun r1 r2 h => κ (.tup [.int .u64 r1, .int .i64 r2]) h) h
  | _ => False

noncomputable def palisadelaw24_Flat_Load.calls (U : Ifc) : List (Nat × (List V → (V → Heap → Prop) → Heap → Prop)) := [(95, mem_Memory_Load.C U)]

noncomputable def palisadelaw24_Flat_Load.E (U : Ifc) (Q : Int → Int → Heap → Prop) (cuts : List (Nat × (List Nat × (List V → Heap → Prop)))) : Env := { tis := tisT, fns := fnsT, tys := tysT, gls := glsT, rts := rtsT, unk := [], nxt := [], calls := palisadelaw24_Flat_Load.calls U, ifc := U, cuts := cuts, ret := palisadelaw24_Flat_Load.ret Q, rets := [.tmp 6, .tmp 7], n := 32 }

theorem palisadelaw24_Flat_Load.callsOK {W0 : World} {U : Ifc} (hU : IfcOK sg W0 glsT U) : CallsOK sg W0 (palisadelaw24_Flat_Load.calls U) := ⟨(mem_Memory_Load.S hU), trivial⟩

theorem palisadelaw24_Flat_Load.e : ∀ (U : Ifc) (a1 : Option Ptr) (a2 : Int) (a3 : Int) (Q : Int → Int → Heap → Prop) (h : Heap), palisadelaw24_Flat_Load U a1 a2 a3 Q h = pts (palisadelaw24_Flat_Load.E U Q []) 3000 true [.code palisadelaw24_Flat_Load.code] (frOf 0 [.ptr a1, .int .u64 a2, .int .i64 a3]) h := by
  intros; kernel_rfl

theorem palisadelaw24_Flat_Load.S {W0 : World} {U : Ifc} (hU : IfcOK sg W0 glsT U) : FnS sg W0 297 (palisadelaw24_Flat_Load.C U) := by
  intro vs κ h wv hx w s
  unfold palisadelaw24_Flat_Load.C at hx
  split at hx
  · rename_i a1 a2 a3
    refine postImp (ret := palisadelaw24_Flat_Load.ret (fun r1 r2 h => κ (.tup [.int .u64 r1, .int .i64 r2]) h)) (fun v h hr => by unfold palisadelaw24_Flat_Load.ret at hr; split at hr; exact hr; exact hr.elim) ?_
    exact calls_of_pts (E := palisadelaw24_Flat_Load.E U (fun r1 r2 h => κ (.tup [.int .u64 r1, .int .i64 r2]) h) []) (envOK seatOK (palisadelaw24_Flat_Load.callsOK hU) hU) seatOK.mixed palisadelaw24_Flat_Load.fun (Nat.le_of_ble_eq_true rfl) wv (cutL_ok trivial) s (fuel := 3000) (by rw [← palisadelaw24_Flat_Load.e]; exact hx)
  · exact hx.elim

noncomputable def disk_Disk_Complete_c1.code : Code := Go.Proofs.Tryd.f75.body.getD .skip

theorem disk_Disk_Complete_c1.fun : Fun sg.P 75 7 [.tmp 3] disk_Disk_Complete_c1.code := mkFun Go.Proofs.Tryd.func75 (by kernel_rfl) (by kernel_rfl) (by kernel_rfl) (by kernel_rfl)

def disk_Disk_Complete_c1.ret (Q : Bool → Heap → Prop) (v : V) (h : Heap) : Prop :=
  match v with
  | .bool r1 => Q r1 h
  | _ => False

def disk_Disk_Complete_c1.C (vs : List V) (κ : V → Heap → Prop) (h : Heap) : Prop :=
  match vs with
  | [.agg [.int .i64 a1, .bool a2, .int .i64 a3, .int .i64 a4], .ptr (some a5)] => disk_Disk_Complete_c1 a1 a2 a3 a4 a5 (fun r1 h => κ (.bool r1) h) h
  | _ => False

noncomputable def disk_Disk_Complete_c1.calls : List (Nat × (List V → (V → Heap → Prop) → Heap → Prop)) := []

noncomputable def disk_Disk_Complete_c1.E (Q : Bool → Heap → Prop) (cuts : List (Nat × (List Nat × (List V → Heap → Prop)))) : Env := { tis := tisT, fns := fnsT, tys := tysT, gls := [], rts := rtsT, unk := [], nxt := [], calls := disk_Disk_Complete_c1.calls, ifc := noIfc, cuts := cuts, ret := disk_Disk_Complete_c1.ret Q, rets := [.tmp 3], n := 7 }

theorem disk_Disk_Complete_c1.callsOK {W0 : World} : CallsOK sg W0 disk_Disk_Complete_c1.calls := trivial

theorem disk_Disk_Complete_c1.e : ∀ (a1 : Int) (a2 : Bool) (a3 : Int) (a4 : Int) (a5 : Ptr) (Q : Bool → Heap → Prop) (h : Heap), disk_Disk_Complete_c1 a1 a2 a3 a4 a5 Q h = pts (disk_Disk_Complete_c1.E Q []) 3000 true [.code disk_Disk_Complete_c1.code] (frOf 0 [.agg [.int .i64 a1, .bool a2, .int .i64 a3, .int .i64 a4], .ptr (some a5)]) h := by
  intros; kernel_rfl

theorem disk_Disk_Complete_c1.S {W0 : World} : FnS sg W0 56 disk_Disk_Complete_c1.C := by
  intro vs κ h wv hx w s
  unfold disk_Disk_Complete_c1.C at hx
  split at hx
  · rename_i a1 a2 a3 a4 a5
    refine postImp (ret := disk_Disk_Complete_c1.ret (fun r1 h => κ (.bool r1) h)) (fun v h hr => by unfold disk_Disk_Complete_c1.ret at hr; split at hr; exact hr; exact hr.elim) ?_
    exact calls_of_pts (E := disk_Disk_Complete_c1.E (fun r1 h => κ (.bool r1) h) []) (envOK seatOK disk_Disk_Complete_c1.callsOK noIfc_ok) seatOK.mixed disk_Disk_Complete_c1.fun (Nat.le_of_ble_eq_true rfl) wv (cutL_ok trivial) s (fuel := 3000) (by rw [← disk_Disk_Complete_c1.e]; exact hx)
  · exact hx.elim

noncomputable def disk_Disk_Put_c1.code : Code := Go.Proofs.Tryd.f99.body.getD .skip

theorem disk_Disk_Put_c1.fun : Fun sg.P 99 5 [.tmp 2] disk_Disk_Put_c1.code := mkFun Go.Proofs.Tryd.func99 (by kernel_rfl) (by kernel_rfl) (by kernel_rfl) (by kernel_rfl)

def disk_Disk_Put_c1.ret (Q : Bool → Heap → Prop) (v : V) (h : Heap) : Prop :=
  match v with
  | .bool r1 => Q r1 h
  | _ => False

def disk_Disk_Put_c1.C (vs : List V) (κ : V → Heap → Prop) (h : Heap) : Prop :=
  match vs with
  | [.int .u8 a1] => disk_Disk_Put_c1 a1 (fun r1 h => κ (.bool r1) h) h
  | _ => False

noncomputable def disk_Disk_Put_c1.calls : List (Nat × (List V → (V → Heap → Prop) → Heap → Prop)) := []

noncomputable def disk_Disk_Put_c1.E (Q : Bool → Heap → Prop) (cuts : List (Nat × (List Nat × (List V → Heap → Prop)))) : Env := { tis := tisT, fns := fnsT, tys := tysT, gls := [], rts := rtsT, unk := [], nxt := [], calls := disk_Disk_Put_c1.calls, ifc := noIfc, cuts := cuts, ret := disk_Disk_Put_c1.ret Q, rets := [.tmp 2], n := 5 }

theorem disk_Disk_Put_c1.callsOK {W0 : World} : CallsOK sg W0 disk_Disk_Put_c1.calls := trivial

theorem disk_Disk_Put_c1.e : ∀ (a1 : Int) (Q : Bool → Heap → Prop) (h : Heap), disk_Disk_Put_c1 a1 Q h = pts (disk_Disk_Put_c1.E Q []) 3000 true [.code disk_Disk_Put_c1.code] (frOf 0 [.int .u8 a1]) h := by
  intros; kernel_rfl

theorem disk_Disk_Put_c1.S {W0 : World} : FnS sg W0 57 disk_Disk_Put_c1.C := by
  intro vs κ h wv hx w s
  unfold disk_Disk_Put_c1.C at hx
  split at hx
  · rename_i a1
    refine postImp (ret := disk_Disk_Put_c1.ret (fun r1 h => κ (.bool r1) h)) (fun v h hr => by unfold disk_Disk_Put_c1.ret at hr; split at hr; exact hr; exact hr.elim) ?_
    exact calls_of_pts (E := disk_Disk_Put_c1.E (fun r1 h => κ (.bool r1) h) []) (envOK seatOK disk_Disk_Put_c1.callsOK noIfc_ok) seatOK.mixed disk_Disk_Put_c1.fun (Nat.le_of_ble_eq_true rfl) wv (cutL_ok trivial) s (fuel := 3000) (by rw [← disk_Disk_Put_c1.e]; exact hx)
  · exact hx.elim

noncomputable def disk_Disk_Submit_c1.code : Code := Go.Proofs.Tryd.f103.body.getD .skip

theorem disk_Disk_Submit_c1.fun : Fun sg.P 103 9 [.tmp 3] disk_Disk_Submit_c1.code := mkFun Go.Proofs.Tryd.func103 (by kernel_rfl) (by kernel_rfl) (by kernel_rfl) (by kernel_rfl)

def disk_Disk_Submit_c1.ret (Q : Bool → Heap → Prop) (v : V) (h : Heap) : Prop :=
  match v with
  | .bool r1 => Q r1 h
  | _ => False

def disk_Disk_Submit_c1.C (vs : List V) (κ : V → Heap → Prop) (h : Heap) : Prop :=
  match vs with
  | [.agg [.int .i64 a1, .bool a2, .int .i64 a3, .int .i64 a4], .ptr (some a5)] => disk_Disk_Submit_c1 a1 a2 a3 a4 a5 (fun r1 h => κ (.bool r1) h) h
  | _ => False

noncomputable def disk_Disk_Submit_c1.calls : List (Nat × (List V → (V → Heap → Prop) → Heap → Prop)) := []

noncomputable def disk_Disk_Submit_c1.E (Q : Bool → Heap → Prop) (cuts : List (Nat × (List Nat × (List V → Heap → Prop)))) : Env := { tis := tisT, fns := fnsT, tys := tysT, gls := [], rts := rtsT, unk := [], nxt := [], calls := disk_Disk_Submit_c1.calls, ifc := noIfc, cuts := cuts, ret := disk_Disk_Submit_c1.ret Q, rets := [.tmp 3], n := 9 }

theorem disk_Disk_Submit_c1.callsOK {W0 : World} : CallsOK sg W0 disk_Disk_Submit_c1.calls := trivial

theorem disk_Disk_Submit_c1.e : ∀ (a1 : Int) (a2 : Bool) (a3 : Int) (a4 : Int) (a5 : Ptr) (Q : Bool → Heap → Prop) (h : Heap), disk_Disk_Submit_c1 a1 a2 a3 a4 a5 Q h = pts (disk_Disk_Submit_c1.E Q []) 3000 true [.code disk_Disk_Submit_c1.code] (frOf 0 [.agg [.int .i64 a1, .bool a2, .int .i64 a3, .int .i64 a4], .ptr (some a5)]) h := by
  intros; kernel_rfl

theorem disk_Disk_Submit_c1.S {W0 : World} : FnS sg W0 3 disk_Disk_Submit_c1.C := by
  intro vs κ h wv hx w s
  unfold disk_Disk_Submit_c1.C at hx
  split at hx
  · rename_i a1 a2 a3 a4 a5
    refine postImp (ret := disk_Disk_Submit_c1.ret (fun r1 h => κ (.bool r1) h)) (fun v h hr => by unfold disk_Disk_Submit_c1.ret at hr; split at hr; exact hr; exact hr.elim) ?_
    exact calls_of_pts (E := disk_Disk_Submit_c1.E (fun r1 h => κ (.bool r1) h) []) (envOK seatOK disk_Disk_Submit_c1.callsOK noIfc_ok) seatOK.mixed disk_Disk_Submit_c1.fun (Nat.le_of_ble_eq_true rfl) wv (cutL_ok trivial) s (fuel := 3000) (by rw [← disk_Disk_Submit_c1.e]; exact hx)
  · exact hx.elim

end Go.Fn
