/- The links of the shallow functions to the machine. PRINTED by lift.py. -/
import Derived.Test.YtmpjgafkdhineaaGb0
set_option linter.unusedVariables false
set_option maxRecDepth 100000
namespace Go.Fn
open Go.Lift

noncomputable def disk_Disk_Complete.code : Code := Go.Proofs.Try.f11.body.getD .skip

theorem disk_Disk_Complete.fun : Fun sg.P 11 93 [.cell 6 38, .tmp 7] disk_Disk_Complete.code := mkFun Go.Proofs.Try.func11 (by kernel_rfl) (by kernel_rfl) (by kernel_rfl) (by kernel_rfl)

def disk_Disk_Complete.ret (Q : Int → Bool → Int → Int → Int → Heap → Prop) (v : V) (h : Heap) : Prop :=
  match v with
  | .tup [.agg [.int .i64 r1, .bool r2, .int .i64 r3, .int .i64 r4], .int .i64 r5] => Q r1 r2 r3 r4 r5 h
  | _ => False

def disk_Disk_Complete.C (U : Ifc) (vs : List V) (κ : V → Heap → Prop) (h : Heap) : Prop :=
  match vs with
  | [.ptr a1, .ptr a2, .int .i64 a3] => disk_Disk_Complete U a1 a2 a3 (fun r1 r2 r3 r4 r5 h => κ (.tup [.agg [.int .i64 r1, .bool r2, .int .i64 r3, .int .i64 r4], .int .i64 r5]) h) h
  | _ => False

noncomputable def disk_Disk_Complete.calls (U : Ifc) : List (Nat × (List V → (V → Heap → Prop) → Heap → Prop)) := [(86, disk_Disk_Put.C U), (33, mem_Memory_Put.C), (87, disk_Disk_Block.C), (40, mem_Memory_Bytes.C), (29, disk_Disk_none.C), (55, mem_Memory_Frames.C), (71, slices_DeleteFunc_disk_Request_disk_Request.C U)]

noncomputable def disk_Disk_Complete.E (U : Ifc) (Q : Int → Bool → Int → Int → Int → Heap → Prop) (cuts : List (Nat × (List Nat × (List V → Heap → Prop)))) : Env := { tis := tisT, fns := fnsT, tys := tysT, gls := glsT, rts := rtsT, unk := [], nxt := [], calls := disk_Disk_Complete.calls U, ifc := U, cuts := cuts, ret := disk_Disk_Complete.ret Q, rets := [.cell 6 38, .tmp 7], n := 93 }

theorem disk_Disk_Complete.callsOK {W0 : World} {U : Ifc} (hU : IfcOK sg W0 glsT U) : CallsOK sg W0 (disk_Disk_Complete.calls U) := ⟨(disk_Disk_Put.S hU), mem_Memory_Put.S, disk_Disk_Block.S, mem_Memory_Bytes.S, disk_Disk_none.S, mem_Memory_Frames.S, (slices_DeleteFunc_disk_Request_disk_Request.S hU), trivial⟩

def disk_Disk_Complete.k2 (I : Ptr → Heap → Prop) (vs : List V) (h : Heap) : Prop :=
  match vs with
  | [.ptr (some a1)] => I a1 h
  | _ => False

def disk_Disk_Complete.k4 (I : Ptr → Heap → Prop) (vs : List V) (h : Heap) : Prop :=
  match vs with
  | [.ptr (some a1)] => I a1 h
  | _ => False

def disk_Disk_Complete.k8 (I : Ptr → Ptr → Heap → Prop) (vs : List V) (h : Heap) : Prop :=
  match vs with
  | [.ptr (some a1), .ptr (some a2)] => I a1 a2 h
  | _ => False

def disk_Disk_Complete.k10 (I : (Option Ptr) → (Option Ptr) → Ptr → Ptr → Int → Heap → Prop) (vs : List V) (h : Heap) : Prop :=
  match vs with
  | [.ptr a1, .ptr a2, .ptr (some a3), .ptr (some a4), .int .u64 a5] => I a1 a2 a3 a4 a5 h
  | _ => False

def disk_Disk_Complete.k6 (I : (Option Ptr) → (Option Ptr) → Ptr → Ptr → Heap → Prop) (vs : List V) (h : Heap) : Prop :=
  match vs with
  | [.ptr a1, .ptr a2, .ptr (some a3), .ptr (some a4)] => I a1 a2 a3 a4 h
  | _ => False

theorem disk_Disk_Complete.p2 : (posC disk_Disk_Complete.code []).filter (fun p => Nat.beq p.1 2) = [(2, atPos (posC disk_Disk_Complete.code []) 2)] := by kernel_rfl

theorem disk_Disk_Complete.e2 : ∀ (U : Ifc)  (a1 : Ptr) (Q : Int → Bool → Int → Int → Int → Heap → Prop) (h : Heap), disk_Disk_Complete.j2 U  a1 Q h = pts (disk_Disk_Complete.E U Q []) 3000 true (atPos (posC disk_Disk_Complete.code []) 2) (frAt [6] [.ptr (some a1)]) h := by
  intros; kernel_rfl

theorem disk_Disk_Complete.s2 {W0 : World} {U : Ifc} (hU : IfcOK sg W0 glsT U) (Q : Int → Bool → Int → Int → Int → Heap → Prop)   : CutOK sg W0 93 (entered 11) (Post sg W0 (disk_Disk_Complete.ret Q)) (posC disk_Disk_Complete.code []) 2 [6] (disk_Disk_Complete.k2 (fun a1 h => disk_Disk_Complete.j2 U  a1 Q h)) := by
  refine cutOK_head (fun vs h hk => ?_)
  unfold disk_Disk_Complete.k2 at hk
  split at hk
  · rename_i a1
    intro todo hm ρ a w s f hp
    exact piece (E := disk_Disk_Complete.E U Q []) (vs := [.ptr (some a1)]) (envOK seatOK (disk_Disk_Complete.callsOK hU) hU) (fnOK seatOK disk_Disk_Complete.fun) trivial disk_Disk_Complete.p2 (fuel := 3000) (by rw [← disk_Disk_Complete.e2]; exact hk) hm s f hp
  · exact hk.elim

theorem disk_Disk_Complete.p4 : (posC disk_Disk_Complete.code []).filter (fun p => Nat.beq p.1 4) = [(4, atPos (posC disk_Disk_Complete.code []) 4)] := by kernel_rfl

theorem disk_Disk_Complete.e4 : ∀ (U : Ifc)  (a1 : Ptr) (Q : Int → Bool → Int → Int → Int → Heap → Prop) (h : Heap), disk_Disk_Complete.j4 U  a1 Q h = pts (disk_Disk_Complete.E U Q []) 3000 true (atPos (posC disk_Disk_Complete.code []) 4) (frAt [6] [.ptr (some a1)]) h := by
  intros; kernel_rfl

theorem disk_Disk_Complete.s4 {W0 : World} {U : Ifc} (hU : IfcOK sg W0 glsT U) (Q : Int → Bool → Int → Int → Int → Heap → Prop)   : CutOK sg W0 93 (entered 11) (Post sg W0 (disk_Disk_Complete.ret Q)) (posC disk_Disk_Complete.code []) 4 [6] (disk_Disk_Complete.k4 (fun a1 h => disk_Disk_Complete.j4 U  a1 Q h)) := by
  refine cutOK_head (fun vs h hk => ?_)
  unfold disk_Disk_Complete.k4 at hk
  split at hk
  · rename_i a1
    intro todo hm ρ a w s f hp
    exact piece (E := disk_Disk_Complete.E U Q []) (vs := [.ptr (some a1)]) (envOK seatOK (disk_Disk_Complete.callsOK hU) hU) (fnOK seatOK disk_Disk_Complete.fun) trivial disk_Disk_Complete.p4 (fuel := 3000) (by rw [← disk_Disk_Complete.e4]; exact hk) hm s f hp
  · exact hk.elim

theorem disk_Disk_Complete.p8 : (posC disk_Disk_Complete.code []).filter (fun p => Nat.beq p.1 8) = [(8, atPos (posC disk_Disk_Complete.code []) 8)] := by kernel_rfl

theorem disk_Disk_Complete.e8 : ∀ (U : Ifc)  (a1 : Ptr) (a2 : Ptr) (Q : Int → Bool → Int → Int → Int → Heap → Prop) (h : Heap), disk_Disk_Complete.j8 U  a1 a2 Q h = pts (disk_Disk_Complete.E U Q []) 3000 true (atPos (posC disk_Disk_Complete.code []) 8) (frAt [6, 8] [.ptr (some a1), .ptr (some a2)]) h := by
  intros; kernel_rfl

theorem disk_Disk_Complete.s8 {W0 : World} {U : Ifc} (hU : IfcOK sg W0 glsT U) (Q : Int → Bool → Int → Int → Int → Heap → Prop)   : CutOK sg W0 93 (entered 11) (Post sg W0 (disk_Disk_Complete.ret Q)) (posC disk_Disk_Complete.code []) 8 [6, 8] (disk_Disk_Complete.k8 (fun a1 a2 h => disk_Disk_Complete.j8 U  a1 a2 Q h)) := by
  refine cutOK_head (fun vs h hk => ?_)
  unfold disk_Disk_Complete.k8 at hk
  split at hk
  · rename_i a1 a2
    intro todo hm ρ a w s f hp
    exact piece (E := disk_Disk_Complete.E U Q []) (vs := [.ptr (some a1), .ptr (some a2)]) (envOK seatOK (disk_Disk_Complete.callsOK hU) hU) (fnOK seatOK disk_Disk_Complete.fun) trivial disk_Disk_Complete.p8 (fuel := 3000) (by rw [← disk_Disk_Complete.e8]; exact hk) hm s f hp
  · exact hk.elim

theorem disk_Disk_Complete.p10 : (posC disk_Disk_Complete.code []).filter (fun p => Nat.beq p.1 10) = [(10, atPos (posC disk_Disk_Complete.code []) 10)] := by kernel_rfl

theorem disk_Disk_Complete.e10 : ∀ (U : Ifc)  (a1 : Option Ptr) (a2 : Option Ptr) (a3 : Ptr) (a4 : Ptr) (a5 : Int) (Q : Int → Bool → Int → Int → Int → Heap → Prop) (h : Heap), disk_Disk_Complete.j10 U  a1 a2 a3 a4 a5 Q h = pts (disk_Disk_Complete.E U Q []) 3000 true (atPos (posC disk_Disk_Complete.code []) 10) (frAt [0, 1, 6, 8, 9] [.ptr a1, .ptr a2, .ptr (some a3), .ptr (some a4), .int .u64 a5]) h := by
  intros; kernel_rfl

theorem disk_Disk_Complete.s10 {W0 : World} {U : Ifc} (hU : IfcOK sg W0 glsT U) (Q : Int → Bool → Int → Int → Int → Heap → Prop)   : CutOK sg W0 93 (entered 11) (Post sg W0 (disk_Disk_Complete.ret Q)) (posC disk_Disk_Complete.code []) 10 [0, 1, 6, 8, 9] (disk_Disk_Complete.k10 (fun a1 a2 a3 a4 a5 h => disk_Disk_Complete.j10 U  a1 a2 a3 a4 a5 Q h)) := by
  refine cutOK_head (fun vs h hk => ?_)
  unfold disk_Disk_Complete.k10 at hk
  split at hk
  · rename_i a1 a2 a3 a4 a5
    intro todo hm ρ a w s f hp
    exact piece (E := disk_Disk_Complete.E U Q []) (vs := [.ptr a1, .ptr a2, .ptr (some a3), .ptr (some a4), .int .u64 a5]) (envOK seatOK (disk_Disk_Complete.callsOK hU) hU) (fnOK seatOK disk_Disk_Complete.fun) trivial disk_Disk_Complete.p10 (fuel := 3000) (by rw [← disk_Disk_Complete.e10]; exact hk) hm s f hp
  · exact hk.elim

theorem disk_Disk_Complete.p6 : (posC disk_Disk_Complete.code []).filter (fun p => Nat.beq p.1 6) = [(6, atPos (posC disk_Disk_Complete.code []) 6)] := by kernel_rfl

theorem disk_Disk_Complete.e6 : ∀ (U : Ifc)  (a1 : Option Ptr) (a2 : Option Ptr) (a3 : Ptr) (a4 : Ptr) (Q : Int → Bool → Int → Int → Int → Heap → Prop) (h : Heap), disk_Disk_Complete.j6 U  a1 a2 a3 a4 Q h = pts (disk_Disk_Complete.E U Q [(8, ([6, 8], disk_Disk_Complete.k8 (fun a1 a2 h => disk_Disk_Complete.j8 U  a1 a2 Q h))), (10, ([0, 1, 6, 8, 9], disk_Disk_Complete.k10 (fun a1 a2 a3 a4 a5 h => disk_Disk_Complete.j10 U  a1 a2 a3 a4 a5 Q h)))]) 3000 true (atPos (posC disk_Disk_Complete.code []) 6) (frAt [0, 1, 6, 8] [.ptr a1, .ptr a2, .ptr (some a3), .ptr (some a4)]) h := by
  intros; kernel_rfl

theorem disk_Disk_Complete.s6 {W0 : World} {U : Ifc} (hU : IfcOK sg W0 glsT U) (Q : Int → Bool → Int → Int → Int → Heap → Prop)   : CutOK sg W0 93 (entered 11) (Post sg W0 (disk_Disk_Complete.ret Q)) (posC disk_Disk_Complete.code []) 6 [0, 1, 6, 8] (disk_Disk_Complete.k6 (fun a1 a2 a3 a4 h => disk_Disk_Complete.j6 U  a1 a2 a3 a4 Q h)) := by
  refine cutOK_head (fun vs h hk => ?_)
  unfold disk_Disk_Complete.k6 at hk
  split at hk
  · rename_i a1 a2 a3 a4
    intro todo hm ρ a w s f hp
    exact piece (E := disk_Disk_Complete.E U Q [(8, ([6, 8], disk_Disk_Complete.k8 (fun a1 a2 h => disk_Disk_Complete.j8 U  a1 a2 Q h))), (10, ([0, 1, 6, 8, 9], disk_Disk_Complete.k10 (fun a1 a2 a3 a4 a5 h => disk_Disk_Complete.j10 U  a1 a2 a3 a4 a5 Q h)))]) (vs := [.ptr a1, .ptr a2, .ptr (some a3), .ptr (some a4)]) (envOK seatOK (disk_Disk_Complete.callsOK hU) hU) (fnOK seatOK disk_Disk_Complete.fun) ⟨(disk_Disk_Complete.s8 hU Q  ), (disk_Disk_Complete.s10 hU Q  ), trivial⟩ disk_Disk_Complete.p6 (fuel := 3000) (by rw [← disk_Disk_Complete.e6]; exact hk) hm s f hp
  · exact hk.elim

theorem disk_Disk_Complete.e : ∀ (U : Ifc) (a1 : Option Ptr) (a2 : Option Ptr) (a3 : Int) (Q : Int → Bool → Int → Int → Int → Heap → Prop) (h : Heap), disk_Disk_Complete U a1 a2 a3 Q h = pts (disk_Disk_Complete.E U Q [(2, ([6], disk_Disk_Complete.k2 (fun a1 h => disk_Disk_Complete.j2 U  a1 Q h))), (4, ([6], disk_Disk_Complete.k4 (fun a1 h => disk_Disk_Complete.j4 U  a1 Q h))), (6, ([0, 1, 6, 8], disk_Disk_Complete.k6 (fun a1 a2 a3 a4 h => disk_Disk_Complete.j6 U  a1 a2 a3 a4 Q h)))]) 3000 true [.code disk_Disk_Complete.code] (frOf 0 [.ptr a1, .ptr a2, .int .i64 a3]) h := by
  intros; kernel_rfl

theorem disk_Disk_Complete.S {W0 : World} {U : Ifc} (hU : IfcOK sg W0 glsT U) : FnS sg W0 88 (disk_Disk_Complete.C U) := by
  intro vs κ h wv hx w s
  unfold disk_Disk_Complete.C at hx
  split at hx
  · rename_i a1 a2 a3
    refine postImp (ret := disk_Disk_Complete.ret (fun r1 r2 r3 r4 r5 h => κ (.tup [.agg [.int .i64 r1, .bool r2, .int .i64 r3, .int .i64 r4], .int .i64 r5]) h)) (fun v h hr => by unfold disk_Disk_Complete.ret at hr; split at hr; exact hr; exact hr.elim) ?_
    exact calls_of_pts (E := disk_Disk_Complete.E U (fun r1 r2 r3 r4 r5 h => κ (.tup [.agg [.int .i64 r1, .bool r2, .int .i64 r3, .int .i64 r4], .int .i64 r5]) h) [(2, ([6], disk_Disk_Complete.k2 (fun a1 h => disk_Disk_Complete.j2 U  a1 (fun r1 r2 r3 r4 r5 h => κ (.tup [.agg [.int .i64 r1, .bool r2, .int .i64 r3, .int .i64 r4], .int .i64 r5]) h) h))), (4, ([6], disk_Disk_Complete.k4 (fun a1 h => disk_Disk_Complete.j4 U  a1 (fun r1 r2 r3 r4 r5 h => κ (.tup [.agg [.int .i64 r1, .bool r2, .int .i64 r3, .int .i64 r4], .int .i64 r5]) h) h))), (6, ([0, 1, 6, 8], disk_Disk_Complete.k6 (fun a1 a2 a3 a4 h => disk_Disk_Complete.j6 U  a1 a2 a3 a4 (fun r1 r2 r3 r4 r5 h => κ (.tup [.agg [.int .i64 r1, .bool r2, .int .i64 r3, .int .i64 r4], .int .i64 r5]) h) h)))]) (envOK seatOK (disk_Disk_Complete.callsOK hU) hU) seatOK.mixed disk_Disk_Complete.fun (Nat.le_of_ble_eq_true rfl) wv (cutL_ok ⟨(disk_Disk_Complete.s2 hU (fun r1 r2 r3 r4 r5 h => κ (.tup [.agg [.int .i64 r1, .bool r2, .int .i64 r3, .int .i64 r4], .int .i64 r5]) h)), (disk_Disk_Complete.s4 hU (fun r1 r2 r3 r4 r5 h => κ (.tup [.agg [.int .i64 r1, .bool r2, .int .i64 r3, .int .i64 r4], .int .i64 r5]) h)), (disk_Disk_Complete.s6 hU (fun r1 r2 r3 r4 r5 h => κ (.tup [.agg [.int .i64 r1, .bool r2, .int .i64 r3, .int .i64 r4], .int .i64 r5]) h)), trivial⟩) s (fuel := 3000) (by rw [← disk_Disk_Complete.e]; exact hx)
  · exact hx.elim

noncomputable def palisaderef12_Disk_Complete.code : Code := Go.Proofs.Try.f12.body.getD .skip

theorem palisaderef12_Disk_Complete.fun : Fun sg.P 12 112 [.cell 6 44, .tmp 7] palisaderef12_Disk_Complete.code := mkFun Go.Proofs.Try.func12 (by kernel_rfl) (by kernel_rfl) (by kernel_rfl) (by kernel_rfl)

def palisaderef12_Disk_Complete.ret (Q : Int → Bool → Int → Int → Int → Heap → Prop) (v : V) (h : Heap) : Prop :=
  match v with
  | .tup [.agg [.int .i64 r1, .bool r2, .int .i64 r3, .int .i64 r4], .int .i64 r5] => Q r1 r2 r3 r4 r5 h
  | _ => False

def palisaderef12_Disk_Complete.C (vs : List V) (κ : V → Heap → Prop) (h : Heap) : Prop :=
  match vs with
  | [.ptr a1, .ptr a2, .int .i64 a3] => palisaderef12_Disk_Complete a1 a2 a3 (fun r1 r2 r3 r4 r5 h => κ (.tup [.agg [.int .i64 r1, .bool r2, .int .i64 r3, .int .i64 r4], .int .i64 r5]) h) h
  | _ => False

noncomputable def palisaderef12_Disk_Complete.calls : List (Nat × (List V → (V → Heap → Prop) → Heap → Prop)) := []

noncomputable def palisaderef12_Disk_Complete.E (Q : Int → Bool → Int → Int → Int → Heap → Prop) (cuts : List (Nat × (List Nat × (List V → Heap → Prop)))) : Env := { tis := tisT, fns := fnsT, tys := tysT, gls := [], rts := rtsT, unk := [], nxt := [], calls := palisaderef12_Disk_Complete.calls, ifc := noIfc, cuts := cuts, ret := palisaderef12_Disk_Complete.ret Q, rets := [.cell 6 44, .tmp 7], n := 112 }

theorem palisaderef12_Disk_Complete.callsOK {W0 : World} : CallsOK sg W0 palisaderef12_Disk_Complete.calls := trivial

def palisaderef12_Disk_Complete.k2 (I : Ptr → Heap → Prop) (vs : List V) (h : Heap) : Prop :=
  match vs with
  | [.ptr (some a1)] => I a1 h
  | _ => False

def palisaderef12_Disk_Complete.k6 (I : Ptr → Ptr → Heap → Prop) (vs : List V) (h : Heap) : Prop :=
  match vs with
  | [.ptr (some a1), .ptr (some a2)] => I a1 a2 h
  | _ => False

def palisaderef12_Disk_Complete.k9 (I : (Option Ptr) → (Option Ptr) → Ptr → Ptr → Int → Heap → Prop) (vs : List V) (h : Heap) : Prop :=
  match vs with
  | [.ptr a1, .ptr a2, .ptr (some a3), .ptr (some a4), .int .i64 a5] => I a1 a2 a3 a4 a5 h
  | _ => False

def palisaderef12_Disk_Complete.k8 (I : (Option Ptr) → (Option Ptr) → Ptr → Ptr → Int → Heap → Prop) (vs : List V) (h : Heap) : Prop :=
  match vs with
  | [.ptr a1, .ptr a2, .ptr (some a3), .ptr (some a4), .int .i64 a5] => I a1 a2 a3 a4 a5 h
  | _ => False

def palisaderef12_Disk_Complete.k5 (I : (Option Ptr) → (Option Ptr) → Ptr → Ptr → Heap → Prop) (vs : List V) (h : Heap) : Prop :=
  match vs with
  | [.ptr a1, .ptr a2, .ptr (some a3), .ptr (some a4)] => I a1 a2 a3 a4 h
  | _ => False

theorem palisaderef12_Disk_Complete.p2 : (posC palisaderef12_Disk_Complete.code []).filter (fun p => Nat.beq p.1 2) = [(2, atPos (posC palisaderef12_Disk_Complete.code []) 2)] := by kernel_rfl

theorem palisaderef12_Disk_Complete.e2 : ∀  (a1 : Ptr) (Q : Int → Bool → Int → Int → Int → Heap → Prop) (h : Heap), palisaderef12_Disk_Complete.j2  a1 Q h = pts (palisaderef12_Disk_Complete.E Q []) 3000 true (atPos (posC palisaderef12_Disk_Complete.code []) 2) (frAt [6] [.ptr (some a1)]) h := by
  intros; kernel_rfl

theorem palisaderef12_Disk_Complete.s2 {W0 : World} (Q : Int → Bool → Int → Int → Int → Heap → Prop)   : CutOK sg W0 112 (entered 12) (Post sg W0 (palisaderef12_Disk_Complete.ret Q)) (posC palisaderef12_Disk_Complete.code []) 2 [6] (palisaderef12_Disk_Complete.k2 (fun a1 h => palisaderef12_Disk_Complete.j2  a1 Q h)) := by
  refine cutOK_head (fun vs h hk => ?_)
  unfold palisaderef12_Disk_Complete.k2 at hk
  split at hk
  · rename_i a1
    intro todo hm ρ a w s f hp
    exact piece (E := palisaderef12_Disk_Complete.E Q []) (vs := [.ptr (some a1)]) (envOK seatOK palisaderef12_Disk_Complete.callsOK noIfc_ok) (fnOK seatOK palisaderef12_Disk_Complete.fun) trivial palisaderef12_Disk_Complete.p2 (fuel := 3000) (by rw [← palisaderef12_Disk_Complete.e2]; exact hk) hm s f hp
  · exact hk.elim

theorem palisaderef12_Disk_Complete.p6 : (posC palisaderef12_Disk_Complete.code []).filter (fun p => Nat.beq p.1 6) = [(6, atPos (posC palisaderef12_Disk_Complete.code []) 6)] := by kernel_rfl

theorem palisaderef12_Disk_Complete.e6 : ∀  (a1 : Ptr) (a2 : Ptr) (Q : Int → Bool → Int → Int → Int → Heap → Prop) (h : Heap), palisaderef12_Disk_Complete.j6  a1 a2 Q h = pts (palisaderef12_Disk_Complete.E Q []) 3000 true (atPos (posC palisaderef12_Disk_Complete.code []) 6) (frAt [6, 8] [.ptr (some a1), .ptr (some a2)]) h := by
  intros; kernel_rfl

theorem palisaderef12_Disk_Complete.s6 {W0 : World} (Q : Int → Bool → Int → Int → Int → Heap → Prop)   : CutOK sg W0 112 (entered 12) (Post sg W0 (palisaderef12_Disk_Complete.ret Q)) (posC palisaderef12_Disk_Complete.code []) 6 [6, 8] (palisaderef12_Disk_Complete.k6 (fun a1 a2 h => palisaderef12_Disk_Complete.j6  a1 a2 Q h)) := by
  refine cutOK_head (fun vs h hk => ?_)
  unfold palisaderef12_Disk_Complete.k6 at hk
  split at hk
  · rename_i a1 a2
    intro todo hm ρ a w s f hp
    exact piece (E := palisaderef12_Disk_Complete.E Q []) (vs := [.ptr (some a1), .ptr (some a2)]) (envOK seatOK palisaderef12_Disk_Complete.callsOK noIfc_ok) (fnOK seatOK palisaderef12_Disk_Complete.fun) trivial palisaderef12_Disk_Complete.p6 (fuel := 3000) (by rw [← palisaderef12_Disk_Complete.e6]; exact hk) hm s f hp
  · exact hk.elim

theorem palisaderef12_Disk_Complete.p9 : (posC palisaderef12_Disk_Complete.code []).filter (fun p => Nat.beq p.1 9) = [(9, atPos (posC palisaderef12_Disk_Complete.code []) 9)] := by kernel_rfl

theorem palisaderef12_Disk_Complete.e9 : ∀ (I8 : (Option Ptr) → (Option Ptr) → Ptr → Ptr → Int → Heap → Prop) (a1 : Option Ptr) (a2 : Option Ptr) (a3 : Ptr) (a4 : Ptr) (a5 : Int) (Q : Int → Bool → Int → Int → Int → Heap → Prop) (h : Heap), palisaderef12_Disk_Complete.j9 I8 a1 a2 a3 a4 a5 Q h = pts (palisaderef12_Disk_Complete.E Q [(8, ([0, 1, 6, 8, 9], palisaderef12_Disk_Complete.k8 I8))]) 3000 true (atPos (posC palisaderef12_Disk_Complete.code []) 9) (frAt [0, 1, 6, 8, 9] [.ptr a1, .ptr a2, .ptr (some a3), .ptr (some a4), .int .i64 a5]) h := by
  intros; kernel_rfl

theorem palisaderef12_Disk_Complete.s9 {W0 : World} (Q : Int → Bool → Int → Int → Int → Heap → Prop) (I8 : (Option Ptr) → (Option Ptr) → Ptr → Ptr → Int → Heap → Prop) (h8 : CutOK sg W0 112 (entered 12) (Post sg W0 (palisaderef12_Disk_Complete.ret Q)) (posC palisaderef12_Disk_Complete.code []) 8 [0, 1, 6, 8, 9] (palisaderef12_Disk_Complete.k8 I8)) : CutOK sg W0 112 (entered 12) (Post sg W0 (palisaderef12_Disk_Complete.ret Q)) (posC palisaderef12_Disk_Complete.code []) 9 [0, 1, 6, 8, 9] (palisaderef12_Disk_Complete.k9 (fun a1 a2 a3 a4 a5 h => palisaderef12_Disk_Complete.j9 I8 a1 a2 a3 a4 a5 Q h)) := by
  refine cutOK_head (fun vs h hk => ?_)
  unfold palisaderef12_Disk_Complete.k9 at hk
  split at hk
  · rename_i a1 a2 a3 a4 a5
    intro todo hm ρ a w s f hp
    exact piece (E := palisaderef12_Disk_Complete.E Q [(8, ([0, 1, 6, 8, 9], palisaderef12_Disk_Complete.k8 I8))]) (vs := [.ptr a1, .ptr a2, .ptr (some a3), .ptr (some a4), .int .i64 a5]) (envOK seatOK palisaderef12_Disk_Complete.callsOK noIfc_ok) (fnOK seatOK palisaderef12_Disk_Complete.fun) ⟨h8, trivial⟩ palisaderef12_Disk_Complete.p9 (fuel := 3000) (by rw [← palisaderef12_Disk_Complete.e9]; exact hk) hm s f hp
  · exact hk.elim

theorem palisaderef12_Disk_Complete.p8 : (posC palisaderef12_Disk_Complete.code []).filter (fun p => Nat.beq p.1 8) = [(8, atPos (posC palisaderef12_Disk_Complete.code []) 8)] := by kernel_rfl

theorem palisaderef12_Disk_Complete.e8 : ∀  (I8 : (Option Ptr) → (Option Ptr) → Ptr → Ptr → Int → Heap → Prop) (a1 : Option Ptr) (a2 : Option Ptr) (a3 : Ptr) (a4 : Ptr) (a5 : Int) (Q : Int → Bool → Int → Int → Int → Heap → Prop) (h : Heap), palisaderef12_Disk_Complete.b8  I8 a1 a2 a3 a4 a5 Q h = pts (palisaderef12_Disk_Complete.E Q [(9, ([0, 1, 6, 8, 9], palisaderef12_Disk_Complete.k9 (fun a1 a2 a3 a4 a5 h => palisaderef12_Disk_Complete.j9 I8 a1 a2 a3 a4 a5 Q h)))]) 3000 true (atPos (posC palisaderef12_Disk_Complete.code []) 8) (frAt [0, 1, 6, 8, 9] [.ptr a1, .ptr a2, .ptr (some a3), .ptr (some a4), .int .i64 a5]) h := by
  intros; kernel_rfl

theorem palisaderef12_Disk_Complete.s8 {W0 : World} (Q : Int → Bool → Int → Int → Int → Heap → Prop)   : CutOK sg W0 112 (entered 12) (Post sg W0 (palisaderef12_Disk_Complete.ret Q)) (posC palisaderef12_Disk_Complete.code []) 8 [0, 1, 6, 8, 9] (palisaderef12_Disk_Complete.k8 (fun a1 a2 a3 a4 a5 h => palisaderef12_Disk_Complete.j8  a1 a2 a3 a4 a5 Q h)) := by
  refine cutOK_head (fun vs h hk => ?_)
  unfold palisaderef12_Disk_Complete.k8 at hk
  split at hk
  · rename_i a1 a2 a3 a4 a5
    refine hk (fun a1 a2 a3 a4 a5 h => Head sg W0 112 (entered 12) (Post sg W0 (palisaderef12_Disk_Complete.ret Q)) (posC palisaderef12_Disk_Complete.code []) 8 [0, 1, 6, 8, 9] [.ptr a1, .ptr a2, .ptr (some a3), .ptr (some a4), .int .i64 a5] h) ?_
    intro a1 a2 a3 a4 a5 h hb todo hm ρ a w s f hp
    have hself : CutOK sg W0 112 (entered 12) (Post sg W0 (palisaderef12_Disk_Complete.ret Q)) (posC palisaderef12_Disk_Complete.code []) 8 [0, 1, 6, 8, 9] (palisaderef12_Disk_Complete.k8 (fun a1 a2 a3 a4 a5 h => Head sg W0 112 (entered 12) (Post sg W0 (palisaderef12_Disk_Complete.ret Q)) (posC palisaderef12_Disk_Complete.code []) 8 [0, 1, 6, 8, 9] [.ptr a1, .ptr a2, .ptr (some a3), .ptr (some a4), .int .i64 a5] h)) := cutOK_head (fun vs h hk => by unfold palisaderef12_Disk_Complete.k8 at hk; split at hk; exact hk; exact hk.elim)
    exact piece (E := palisaderef12_Disk_Complete.E Q [(9, ([0, 1, 6, 8, 9], palisaderef12_Disk_Complete.k9 (fun a1 a2 a3 a4 a5 h => palisaderef12_Disk_Complete.j9 (fun a1 a2 a3 a4 a5 h => Head sg W0 112 (entered 12) (Post sg W0 (palisaderef12_Disk_Complete.ret Q)) (posC palisaderef12_Disk_Complete.code []) 8 [0, 1, 6, 8, 9] [.ptr a1, .ptr a2, .ptr (some a3), .ptr (some a4), .int .i64 a5] h) a1 a2 a3 a4 a5 Q h)))]) (vs := [.ptr a1, .ptr a2, .ptr (some a3), .ptr (some a4), .int .i64 a5]) (envOK seatOK palisaderef12_Disk_Complete.callsOK noIfc_ok) (fnOK seatOK palisaderef12_Disk_Complete.fun) ⟨(palisaderef12_Disk_Complete.s9 Q (fun a1 a2 a3 a4 a5 h => Head sg W0 112 (entered 12) (Post sg W0 (palisaderef12_Disk_Complete.ret Q)) (posC palisaderef12_Disk_Complete.code []) 8 [0, 1, 6, 8, 9] [.ptr a1, .ptr a2, .ptr (some a3), .ptr (some a4), .int .i64 a5] h) hself), trivial⟩ palisaderef12_Disk_Complete.p8 (fuel := 3000) (by rw [← palisaderef12_Disk_Complete.e8]; exact hb) hm s f hp
  · exact hk.elim

theorem palisaderef12_Disk_Complete.p5 : (posC palisaderef12_Disk_Complete.code []).filter (fun p => Nat.beq p.1 5) = [(5, atPos (posC palisaderef12_Disk_Complete.code []) 5)] := by kernel_rfl

theorem palisaderef12_Disk_Complete.e5 : ∀  (a1 : Option Ptr) (a2 : Option Ptr) (a3 : Ptr) (a4 : Ptr) (Q : Int → Bool → Int → Int → Int → Heap → Prop) (h : Heap), palisaderef12_Disk_Complete.j5  a1 a2 a3 a4 Q h = pts (palisaderef12_Disk_Complete.E Q [(6, ([6, 8], palisaderef12_Disk_Complete.k6 (fun a1 a2 h => palisaderef12_Disk_Complete.j6  a1 a2 Q h))), (8, ([0, 1, 6, 8, 9], palisaderef12_Disk_Complete.k8 (fun a1 a2 a3 a4 a5 h => palisaderef12_Disk_Complete.j8  a1 a2 a3 a4 a5 Q h)))]) 3000 true (atPos (posC palisaderef12_Disk_Complete.code []) 5) (frAt [0, 1, 6, 8] [.ptr a1, .ptr a2, .ptr (some a3), .ptr (some a4)]) h := by
  intros; kernel_rfl

theorem palisaderef12_Disk_Complete.s5 {W0 : World} (Q : Int → Bool → Int → Int → Int → Heap → Prop)   : CutOK sg W0 112 (entered 12) (Post sg W0 (palisaderef12_Disk_Complete.ret Q)) (posC palisaderef12_Disk_Complete.code []) 5 [0, 1, 6, 8] (palisaderef12_Disk_Complete.k5 (fun a1 a2 a3 a4 h => palisaderef12_Disk_Complete.j5  a1 a2 a3 a4 Q h)) := by
  refine cutOK_head (fun vs h hk => ?_)
  unfold palisaderef12_Disk_Complete.k5 at hk
  split at hk
  · rename_i a1 a2 a3 a4
    intro todo hm ρ a w s f hp
    exact piece (E := palisaderef12_Disk_Complete.E Q [(6, ([6, 8], palisaderef12_Disk_Complete.k6 (fun a1 a2 h => palisaderef12_Disk_Complete.j6  a1 a2 Q h))), (8, ([0, 1, 6, 8, 9], palisaderef12_Disk_Complete.k8 (fun a1 a2 a3 a4 a5 h => palisaderef12_Disk_Complete.j8  a1 a2 a3 a4 a5 Q h)))]) (vs := [.ptr a1, .ptr a2, .ptr (some a3), .ptr (some a4)]) (envOK seatOK palisaderef12_Disk_Complete.callsOK noIfc_ok) (fnOK seatOK palisaderef12_Disk_Complete.fun) ⟨(palisaderef12_Disk_Complete.s6 Q  ), (palisaderef12_Disk_Complete.s8 Q  ), trivial⟩ palisaderef12_Disk_Complete.p5 (fuel := 3000) (by rw [← palisaderef12_Disk_Complete.e5]; exact hk) hm s f hp
  · exact hk.elim

theorem palisaderef12_Disk_Complete.e : ∀ (a1 : Option Ptr) (a2 : Option Ptr) (a3 : Int) (Q : Int → Bool → Int → Int → Int → Heap → Prop) (h : Heap), palisaderef12_Disk_Complete a1 a2 a3 Q h = pts (palisaderef12_Disk_Complete.E Q [(2, ([6], palisaderef12_Disk_Complete.k2 (fun a1 h => palisaderef12_Disk_Complete.j2  a1 Q h))), (5, ([0, 1, 6, 8], palisaderef12_Disk_Complete.k5 (fun a1 a2 a3 a4 h => palisaderef12_Disk_Complete.j5  a1 a2 a3 a4 Q h)))]) 3000 true [.code palisaderef12_Disk_Complete.code] (frOf 0 [.ptr a1, .ptr a2, .int .i64 a3]) h := by
  intros; kernel_rfl

theorem palisaderef12_Disk_Complete.S {W0 : World} : FnS sg W0 83 palisaderef12_Disk_Complete.C := by
  intro vs κ h wv hx w s
  unfold palisaderef12_Disk_Complete.C at hx
  split at hx
  · rename_i a1 a2 a3
    refine postImp (ret := palisaderef12_Disk_Complete.ret (fun r1 r2 r3 r4 r5 h => κ (.tup [.agg [.int .i64 r1, .bool r2, .int .i64 r3, .int .i64 r4], .int .i64 r5]) h)) (fun v h hr => by unfold palisaderef12_Disk_Complete.ret at hr; split at hr; exact hr; exact hr.elim) ?_
    exact calls_of_pts (E := palisaderef12_Disk_Complete.E (fun r1 r2 r3 r4 r5 h => κ (.tup [.agg [.int .i64 r1, .bool r2, .int .i64 r3, .int .i64 r4], .int .i64 r5]) h) [(2, ([6], palisaderef12_Disk_Complete.k2 (fun a1 h => palisaderef12_Disk_Complete.j2  a1 (fun r1 r2 r3 r4 r5 h => κ (.tup [.agg [.int .i64 r1, .bool r2, .int .i64 r3, .int .i64 r4], .int .i64 r5]) h) h))), (5, ([0, 1, 6, 8], palisaderef12_Disk_Complete.k5 (fun a1 a2 a3 a4 h => palisaderef12_Disk_Complete.j5  a1 a2 a3 a4 (fun r1 r2 r3 r4 r5 h => κ (.tup [.agg [.int .i64 r1, .bool r2, .int .i64 r3, .int .i64 r4], .int .i64 r5]) h) h)))]) (envOK seatOK palisaderef12_Disk_Complete.callsOK noIfc_ok) seatOK.mixed palisaderef12_Disk_Complete.fun (Nat.le_of_ble_eq_true rfl) wv (cutL_ok ⟨(palisaderef12_Disk_Complete.s2 (fun r1 r2 r3 r4 r5 h => κ (.tup [.agg [.int .i64 r1, .bool r2, .int .i64 r3, .int .i64 r4], .int .i64 r5]) h)), (palisaderef12_Disk_Complete.s5 (fun r1 r2 r3 r4 r5 h => κ (.tup [.agg [.int .i64 r1, .bool r2, .int .i64 r3, .int .i64 r4], .int .i64 r5]) h)), trivial⟩) s (fuel := 3000) (by rw [← palisaderef12_Disk_Complete.e]; exact hx)
  · exact hx.elim

noncomputable def palisaderef12_Disk_Put.code : Code := Go.Proofs.Try.f14.body.getD .skip

theorem palisaderef12_Disk_Put.fun : Fun sg.P 14 32 [.tmp 6] palisaderef12_Disk_Put.code := mkFun Go.Proofs.Try.func14 (by kernel_rfl) (by kernel_rfl) (by kernel_rfl) (by kernel_rfl)

def palisaderef12_Disk_Put.ret (Q : Int → Heap → Prop) (v : V) (h : Heap) : Prop :=
  match v with
  | .int .i64 r1 => Q r1 h
  | _ => False

def palisaderef12_Disk_Put.C (vs : List V) (κ : V → Heap → Prop) (h : Heap) : Prop :=
  match vs with
  | [.ptr a1, .int .i64 a2, .sl a3] => palisaderef12_Disk_Put a1 a2 a3 (fun r1 h => κ (.int .i64 r1) h) h
  | _ => False

noncomputable def palisaderef12_Disk_Put.calls : List (Nat × (List V → (V → Heap → Prop) → Heap → Prop)) := [(44, palisaderef12_Disk_has.C)]

noncomputable def palisaderef12_Disk_Put.E (Q : Int → Heap → Prop) (cuts : List (Nat × (List Nat × (List V → Heap → Prop)))) : Env := { tis := tisT, fns := fnsT, tys := tysT, gls := [], rts := rtsT, unk := [], nxt := [], calls := palisaderef12_Disk_Put.calls, ifc := noIfc, cuts := cuts, ret := palisaderef12_Disk_Put.ret Q, rets := [.tmp 6], n := 32 }

theorem palisaderef12_Disk_Put.callsOK {W0 : World} : CallsOK sg W0 palisaderef12_Disk_Put.calls := ⟨palisaderef12_Disk_has.S, trivial⟩

def palisaderef12_Disk_Put.k6 (I : (Option Ptr) → Int → Sl → Int → Heap → Prop) (vs : List V) (h : Heap) : Prop :=
  match vs with
  | [.ptr a1, .int .i64 a2, .sl a3, .int .i64 a4] => I a1 a2 a3 a4 h
  | _ => False

theorem palisaderef12_Disk_Put.p6 : (posC palisaderef12_Disk_Put.code []).filter (fun p => Nat.beq p.1 6) = [(6, atPos (posC palisaderef12_Disk_Put.code []) 6)] := by kernel_rfl

theorem palisaderef12_Disk_Put.e6 : ∀  (I6 : (Option Ptr) → Int → Sl → Int → Heap → Prop) (a1 : Option Ptr) (a2 : Int) (a3 : Sl) (a4 : Int) (Q : Int → Heap → Prop) (h : Heap), palisaderef12_Disk_Put.b6  I6 a1 a2 a3 a4 Q h = pts (palisaderef12_Disk_Put.E Q [(6, ([0, 1, 2, 7], palisaderef12_Disk_Put.k6 I6))]) 3000 true (atPos (posC palisaderef12_Disk_Put.code []) 6) (frAt [0, 1, 2, 7] [.ptr a1, .int .i64 a2, .sl a3, .int .i64 a4]) h := by
  intros; kernel_rfl

theorem palisaderef12_Disk_Put.s6 {W0 : World} (Q : Int → Heap → Prop)   : CutOK sg W0 32 (entered 14) (Post sg W0 (palisaderef12_Disk_Put.ret Q)) (posC palisaderef12_Disk_Put.code []) 6 [0, 1, 2, 7] (palisaderef12_Disk_Put.k6 (fun a1 a2 a3 a4 h => palisaderef12_Disk_Put.j6  a1 a2 a3 a4 Q h)) := by
  refine cutOK_head (fun vs h hk => ?_)
  unfold palisaderef12_Disk_Put.k6 at hk
  split at hk
  · rename_i a1 a2 a3 a4
    refine hk (fun a1 a2 a3 a4 h => Head sg W0 32 (entered 14) (Post sg W0 (palisaderef12_Disk_Put.ret Q)) (posC palisaderef12_Disk_Put.code []) 6 [0, 1, 2, 7] [.ptr a1, .int .i64 a2, .sl a3, .int .i64 a4] h) ?_
    intro a1 a2 a3 a4 h hb todo hm ρ a w s f hp
    have hself : CutOK sg W0 32 (entered 14) (Post sg W0 (palisaderef12_Disk_Put.ret Q)) (posC palisaderef12_Disk_Put.code []) 6 [0, 1, 2, 7] (palisaderef12_Disk_Put.k6 (fun a1 a2 a3 a4 h => Head sg W0 32 (entered 14) (Post sg W0 (palisaderef12_Disk_Put.ret Q)) (posC palisaderef12_Disk_Put.code []) 6 [0, 1, 2, 7] [.ptr a1, .int .i64 a2, .sl a3, .int .i64 a4] h)) := cutOK_head (fun vs h hk => by unfold palisaderef12_Disk_Put.k6 at hk; split at hk; exact hk; exact hk.elim)
    exact piece (E := palisaderef12_Disk_Put.E Q [(6, ([0, 1, 2, 7], palisaderef12_Disk_Put.k6 (fun a1 a2 a3 a4 h => Head sg W0 32 (entered 14) (Post sg W0 (palisaderef12_Disk_Put.ret Q)) (posC palisaderef12_Disk_Put.code []) 6 [0, 1, 2, 7] [.ptr a1, .int .i64 a2, .sl a3, .int .i64 a4] h)))]) (vs := [.ptr a1, .int .i64 a2, .sl a3, .int .i64 a4]) (envOK seatOK palisaderef12_Disk_Put.callsOK noIfc_ok) (fnOK seatOK palisaderef12_Disk_Put.fun) ⟨hself, trivial⟩ palisaderef12_Disk_Put.p6 (fuel := 3000) (by rw [← palisaderef12_Disk_Put.e6]; exact hb) hm s f hp
  · exact hk.elim

theorem palisaderef12_Disk_Put.e : ∀ (a1 : Option Ptr) (a2 : Int) (a3 : Sl) (Q : Int → Heap → Prop) (h : Heap), palisaderef12_Disk_Put a1 a2 a3 Q h = pts (palisaderef12_Disk_Put.E Q [(6, ([0, 1, 2, 7], palisaderef12_Disk_Put.k6 (fun a1 a2 a3 a4 h => palisaderef12_Disk_Put.j6  a1 a2 a3 a4 Q h)))]) 3000 true [.code palisaderef12_Disk_Put.code] (frOf 0 [.ptr a1, .int .i64 a2, .sl a3]) h := by
  intros; kernel_rfl

theorem palisaderef12_Disk_Put.S {W0 : World} : FnS sg W0 46 palisaderef12_Disk_Put.C := by
  intro vs κ h wv hx w s
  unfold palisaderef12_Disk_Put.C at hx
  split at hx
  · rename_i a1 a2 a3
    refine postImp (ret := palisaderef12_Disk_Put.ret (fun r1 h => κ (.int .i64 r1) h)) (fun v h hr => by unfold palisaderef12_Disk_Put.ret at hr; split at hr; exact hr; exact hr.elim) ?_
    exact calls_of_pts (E := palisaderef12_Disk_Put.E (fun r1 h => κ (.int .i64 r1) h) [(6, ([0, 1, 2, 7], palisaderef12_Disk_Put.k6 (fun a1 a2 a3 a4 h => palisaderef12_Disk_Put.j6  a1 a2 a3 a4 (fun r1 h => κ (.int .i64 r1) h) h)))]) (envOK seatOK palisaderef12_Disk_Put.callsOK noIfc_ok) seatOK.mixed palisaderef12_Disk_Put.fun (Nat.le_of_ble_eq_true rfl) wv (cutL_ok ⟨(palisaderef12_Disk_Put.s6 (fun r1 h => κ (.int .i64 r1) h)), trivial⟩) s (fuel := 3000) (by rw [← palisaderef12_Disk_Put.e]; exact hx)
  · exact hx.elim

noncomputable def palisaderef04_Memory_lies.code : Code := Go.Proofs.Try.f33.body.getD .skip

theorem palisaderef04_Memory_lies.fun : Fun sg.P 33 26 [.tmp 6] palisaderef04_Memory_lies.code := mkFun Go.Proofs.Try.func33 (by kernel_rfl) (by kernel_rfl) (by kernel_rfl) (by kernel_rfl)

def palisaderef04_Memory_lies.ret (Q : Bool → Heap → Prop) (v : V) (h : Heap) : Prop :=
  match v with
  | .bool r1 => Q r1 h
  | _ => False

def palisaderef04_Memory_lies.C (vs : List V) (κ : V → Heap → Prop) (h : Heap) : Prop :=
  match vs with
  | [.ptr a1, .int .u64 a2, .int .i64 a3] => palisaderef04_Memory_lies a1 a2 a3 (fun r1 h => κ (.bool r1) h) h
  | _ => False

noncomputable def palisaderef04_Memory_lies.calls : List (Nat × (List V → (V → Heap → Prop) → Heap → Prop)) := []

noncomputable def palisaderef04_Memory_lies.E (Q : Bool → Heap → Prop) (cuts : List (Nat × (List Nat × (List V → Heap → Prop)))) : Env := { tis := tisT, fns := fnsT, tys := tysT, gls := [], rts := rtsT, unk := [], nxt := [], calls := palisaderef04_Memory_lies.calls, ifc := noIfc, cuts := cuts, ret := palisaderef04_Memory_lies.ret Q, rets := [.tmp 6], n := 26 }

theorem palisaderef04_Memory_lies.callsOK {W0 : World} : CallsOK sg W0 palisaderef04_Memory_lies.calls := trivial

theorem palisaderef04_Memory_lies.e : ∀ (a1 : Option Ptr) (a2 : Int) (a3 : Int) (Q : Bool → Heap → Prop) (h : Heap), palisaderef04_Memory_lies a1 a2 a3 Q h = pts (palisaderef04_Memory_lies.E Q []) 3000 true [.code palisaderef04_Memory_lies.code] (frOf 0 [.ptr a1, .int .u64 a2, .int .i64 a3]) h := by
  intros; kernel_rfl

theorem palisaderef04_Memory_lies.S {W0 : World} : FnS sg W0 47 palisaderef04_Memory_lies.C := by
  intro vs κ h wv hx w s
  unfold palisaderef04_Memory_lies.C at hx
  split at hx
  · rename_i a1 a2 a3
    refine postImp (ret := palisaderef04_Memory_lies.ret (fun r1 h => κ (.bool r1) h)) (fun v h hr => by unfold palisaderef04_Memory_lies.ret at hr; split at hr; exact hr; exact hr.elim) ?_
    exact calls_of_pts (E := palisaderef04_Memory_lies.E (fun r1 h => κ (.bool r1) h) []) (envOK seatOK palisaderef04_Memory_lies.callsOK noIfc_ok) seatOK.mixed palisaderef04_Memory_lies.fun (Nat.le_of_ble_eq_true rfl) wv (cutL_ok trivial) s (fuel := 3000) (by rw [← palisaderef04_Memory_lies.e]; exact hx)
  · exact hx.elim

noncomputable def palisaderef04_Memory_Put.code : Code := Go.Proofs.Try.f16.body.getD .skip

theorem palisaderef04_Memory_Put.fun : Fun sg.P 16 33 [.tmp 6] palisaderef04_Memory_Put.code := mkFun Go.Proofs.Try.func16 (by kernel_rfl) (by kernel_rfl) (by kernel_rfl) (by kernel_rfl)

def palisaderef04_Memory_Put.ret (Q : Int → Heap → Prop) (v : V) (h : Heap) : Prop :=
  match v with
  | .int .i64 r1 => Q r1 h
  | _ => False

def palisaderef04_Memory_Put.C (vs : List V) (κ : V → Heap → Prop) (h : Heap) : Prop :=
  match vs with
  | [.ptr a1, .int .u64 a2, .sl a3] => palisaderef04_Memory_Put a1 a2 a3 (fun r1 h => κ (.int .i64 r1) h) h
  | _ => False

noncomputable def palisaderef04_Memory_Put.calls : List (Nat × (List V → (V → Heap → Prop) → Heap → Prop)) := [(47, palisaderef04_Memory_lies.C)]

noncomputable def palisaderef04_Memory_Put.E (Q : Int → Heap → Prop) (cuts : List (Nat × (List Nat × (List V → Heap → Prop)))) : Env := { tis := tisT, fns := fnsT, tys := tysT, gls := [], rts := rtsT, unk := [], nxt := [], calls := palisaderef04_Memory_Put.calls, ifc := noIfc, cuts := cuts, ret := palisaderef04_Memory_Put.ret Q, rets := [.tmp 6], n := 33 }

theorem palisaderef04_Memory_Put.callsOK {W0 : World} : CallsOK sg W0 palisaderef04_Memory_Put.calls := ⟨palisaderef04_Memory_lies.S, trivial⟩

def palisaderef04_Memory_Put.k4 (I : (Option Ptr) → Int → Sl → Int → Heap → Prop) (vs : List V) (h : Heap) : Prop :=
  match vs with
  | [.ptr a1, .int .u64 a2, .sl a3, .int .i64 a4] => I a1 a2 a3 a4 h
  | _ => False

theorem palisaderef04_Memory_Put.p4 : (posC palisaderef04_Memory_Put.code []).filter (fun p => Nat.beq p.1 4) = [(4, atPos (posC palisaderef04_Memory_Put.code []) 4)] := by kernel_rfl

theorem palisaderef04_Memory_Put.e4 : ∀  (I4 : (Option Ptr) → Int → Sl → Int → Heap → Prop) (a1 : Option Ptr) (a2 : Int) (a3 : Sl) (a4 : Int) (Q : Int → Heap → Prop) (h : Heap), palisaderef04_Memory_Put.b4  I4 a1 a2 a3 a4 Q h = pts (palisaderef04_Memory_Put.E Q [(4, ([0, 1, 2, 7], palisaderef04_Memory_Put.k4 I4))]) 3000 true (atPos (posC palisaderef04_Memory_Put.code []) 4) (frAt [0, 1, 2, 7] [.ptr a1, .int .u64 a2, .sl a3, .int .i64 a4]) h := by
  intros; kernel_rfl

theorem palisaderef04_Memory_Put.s4 {W0 : World} (Q : Int → Heap → Prop)   : CutOK sg W0 33 (entered 16) (Post sg W0 (palisaderef04_Memory_Put.ret Q)) (posC palisaderef04_Memory_Put.code []) 4 [0, 1, 2, 7] (palisaderef04_Memory_Put.k4 (fun a1 a2 a3 a4 h => palisaderef04_Memory_Put.j4  a1 a2 a3 a4 Q h)) := by
  refine cutOK_head (fun vs h hk => ?_)
  unfold palisaderef04_Memory_Put.k4 at hk
  split at hk
  · rename_i a1 a2 a3 a4
    refine hk (fun a1 a2 a3 a4 h => Head sg W0 33 (entered 16) (Post sg W0 (palisaderef04_Memory_Put.ret Q)) (posC palisaderef04_Memory_Put.code []) 4 [0, 1, 2, 7] [.ptr a1, .int .u64 a2, .sl a3, .int .i64 a4] h) ?_
    intro a1 a2 a3 a4 h hb todo hm ρ a w s f hp
    have hself : CutOK sg W0 33 (entered 16) (Post sg W0 (palisaderef04_Memory_Put.ret Q)) (posC palisaderef04_Memory_Put.code []) 4 [0, 1, 2, 7] (palisaderef04_Memory_Put.k4 (fun a1 a2 a3 a4 h => Head sg W0 33 (entered 16) (Post sg W0 (palisaderef04_Memory_Put.ret Q)) (posC palisaderef04_Memory_Put.code []) 4 [0, 1, 2, 7] [.ptr a1, .int .u64 a2, .sl a3, .int .i64 a4] h)) := cutOK_head (fun vs h hk => by unfold palisaderef04_Memory_Put.k4 at hk; split at hk; exact hk; exact hk.elim)
    exact piece (E := palisaderef04_Memory_Put.E Q [(4, ([0, 1, 2, 7], palisaderef04_Memory_Put.k4 (fun a1 a2 a3 a4 h => Head sg W0 33 (entered 16) (Post sg W0 (palisaderef04_Memory_Put.ret Q)) (posC palisaderef04_Memory_Put.code []) 4 [0, 1, 2, 7] [.ptr a1, .int .u64 a2, .sl a3, .int .i64 a4] h)))]) (vs := [.ptr a1, .int .u64 a2, .sl a3, .int .i64 a4]) (envOK seatOK palisaderef04_Memory_Put.callsOK noIfc_ok) (fnOK seatOK palisaderef04_Memory_Put.fun) ⟨hself, trivial⟩ palisaderef04_Memory_Put.p4 (fuel := 3000) (by rw [← palisaderef04_Memory_Put.e4]; exact hb) hm s f hp
  · exact hk.elim

theorem palisaderef04_Memory_Put.e : ∀ (a1 : Option Ptr) (a2 : Int) (a3 : Sl) (Q : Int → Heap → Prop) (h : Heap), palisaderef04_Memory_Put a1 a2 a3 Q h = pts (palisaderef04_Memory_Put.E Q [(4, ([0, 1, 2, 7], palisaderef04_Memory_Put.k4 (fun a1 a2 a3 a4 h => palisaderef04_Memory_Put.j4  a1 a2 a3 a4 Q h)))]) 3000 true [.code palisaderef04_Memory_Put.code] (frOf 0 [.ptr a1, .int .u64 a2, .sl a3]) h := by
  intros; kernel_rfl

theorem palisaderef04_Memory_Put.S {W0 : World} : FnS sg W0 48 palisaderef04_Memory_Put.C := by
  intro vs κ h wv hx w s
  unfold palisaderef04_Memory_Put.C at hx
  split at hx
  · rename_i a1 a2 a3
    refine postImp (ret := palisaderef04_Memory_Put.ret (fun r1 h => κ (.int .i64 r1) h)) (fun v h hr => by unfold palisaderef04_Memory_Put.ret at hr; split at hr; exact hr; exact hr.elim) ?_
    exact calls_of_pts (E := palisaderef04_Memory_Put.E (fun r1 h => κ (.int .i64 r1) h) [(4, ([0, 1, 2, 7], palisaderef04_Memory_Put.k4 (fun a1 a2 a3 a4 h => palisaderef04_Memory_Put.j4  a1 a2 a3 a4 (fun r1 h => κ (.int .i64 r1) h) h)))]) (envOK seatOK palisaderef04_Memory_Put.callsOK noIfc_ok) seatOK.mixed palisaderef04_Memory_Put.fun (Nat.le_of_ble_eq_true rfl) wv (cutL_ok ⟨(palisaderef04_Memory_Put.s4 (fun r1 h => κ (.int .i64 r1) h)), trivial⟩) s (fuel := 3000) (by rw [← palisaderef04_Memory_Put.e]; exact hx)
  · exact hx.elim

noncomputable def palisadelaw12_DiskPlays.code : Code := Go.Proofs.Try.f3.body.getD .skip

theorem palisadelaw12_DiskPlays.fun : Fun sg.P 3 221 [.tmp 4] palisadelaw12_DiskPlays.code := mkFun Go.Proofs.Try.func3 (by kernel_rfl) (by kernel_rfl) (by kernel_rfl) (by kernel_rfl)

def palisadelaw12_DiskPlays.ret (Q : Bool → Heap → Prop) (v : V) (h : Heap) : Prop :=
  match v with
  | .bool r1 => Q r1 h
  | _ => False

def palisadelaw12_DiskPlays.C (U : Ifc) (vs : List V) (κ : V → Heap → Prop) (h : Heap) : Prop :=
  match vs with
  | [.int .i64 a1, .sl a2] => palisadelaw12_DiskPlays U a1 a2 (fun r1 h => κ (.bool r1) h) h
  | _ => False

noncomputable def palisadelaw12_DiskPlays.calls (U : Ifc) : List (Nat × (List V → (V → Heap → Prop) → Heap → Prop)) := [(85, disk_New.C), (41, palisaderef12_New.C), (28, mem_New.C), (42, palisaderef04_New.C), (43, palisadelaw12_names.C), (82, disk_Disk_Submit.C U), (45, palisaderef12_Disk_Submit.C), (88, disk_Disk_Complete.C U), (83, palisaderef12_Disk_Complete.C), (86, disk_Disk_Put.C U), (46, palisaderef12_Disk_Put.C), (33, mem_Memory_Put.C), (48, palisaderef04_Memory_Put.C), (87, disk_Disk_Block.C), (49, palisaderef12_Disk_Block.C), (51, palisadelaw12_stands.C), (40, mem_Memory_Bytes.C)]

noncomputable def palisadelaw12_DiskPlays.E (U : Ifc) (Q : Bool → Heap → Prop) (cuts : List (Nat × (List Nat × (List V → Heap → Prop)))) : Env := { tis := tisT, fns := fnsT, tys := tysT, gls := glsT, rts := rtsT, unk := [], nxt := [], calls := palisadelaw12_DiskPlays.calls U, ifc := U, cuts := cuts, ret := palisadelaw12_DiskPlays.ret Q, rets := [.tmp 4], n := 221 }

theorem palisadelaw12_DiskPlays.callsOK {W0 : World} {U : Ifc} (hU : IfcOK sg W0 glsT U) : CallsOK sg W0 (palisadelaw12_DiskPlays.calls U) := ⟨disk_New.S, palisaderef12_New.S, mem_New.S, palisaderef04_New.S, palisadelaw12_names.S, (disk_Disk_Submit.S hU), palisaderef12_Disk_Submit.S, (disk_Disk_Complete.S hU), palisaderef12_Disk_Complete.S, (disk_Disk_Put.S hU), palisaderef12_Disk_Put.S, mem_Memory_Put.S, palisaderef04_Memory_Put.S, disk_Disk_Block.S, palisaderef12_Disk_Block.S, palisadelaw12_stands.S, mem_Memory_Bytes.S, trivial⟩

def palisadelaw12_DiskPlays.k6 (I : Heap → Prop) (vs : List V) (h : Heap) : Prop :=
  match vs with
  | [] => I  h
  | _ => False

def palisadelaw12_DiskPlays.k14 (I : Heap → Prop) (vs : List V) (h : Heap) : Prop :=
  match vs with
  | [] => I  h
  | _ => False

def palisadelaw12_DiskPlays.k34 (I : Heap → Prop) (vs : List V) (h : Heap) : Prop :=
  match vs with
  | [] => I  h
  | _ => False

def palisadelaw12_DiskPlays.k36 (I : Sl → (Option Ptr) → (Option Ptr) → (Option Ptr) → (Option Ptr) → Int → Sl → Int → Heap → Prop) (vs : List V) (h : Heap) : Prop :=
  match vs with
  | [.sl a1, .ptr a2, .ptr a3, .ptr a4, .ptr a5, .int .i64 a6, .sl a7, .int .i64 a8] => I a1 a2 a3 a4 a5 a6 a7 a8 h
  | _ => False

def palisadelaw12_DiskPlays.k35 (I : Sl → (Option Ptr) → (Option Ptr) → (Option Ptr) → (Option Ptr) → Int → Sl → Heap → Prop) (vs : List V) (h : Heap) : Prop :=
  match vs with
  | [.sl a1, .ptr a2, .ptr a3, .ptr a4, .ptr a5, .int .i64 a6, .sl a7] => I a1 a2 a3 a4 a5 a6 a7 h
  | _ => False

def palisadelaw12_DiskPlays.k31 (I : Sl → (Option Ptr) → (Option Ptr) → (Option Ptr) → (Option Ptr) → Int → Ptr → Heap → Prop) (vs : List V) (h : Heap) : Prop :=
  match vs with
  | [.sl a1, .ptr a2, .ptr a3, .ptr a4, .ptr a5, .int .i64 a6, .ptr (some a7)] => I a1 a2 a3 a4 a5 a6 a7 h
  | _ => False

def palisadelaw12_DiskPlays.k19 (I : Heap → Prop) (vs : List V) (h : Heap) : Prop :=
  match vs with
  | [] => I  h
  | _ => False

def palisadelaw12_DiskPlays.k17 (I : Sl → (Option Ptr) → (Option Ptr) → (Option Ptr) → (Option Ptr) → Int → Ptr → Ptr → Int → Heap → Prop) (vs : List V) (h : Heap) : Prop :=
  match vs with
  | [.sl a1, .ptr a2, .ptr a3, .ptr a4, .ptr a5, .int .i64 a6, .ptr (some a7), .ptr (some a8), .int .i64 a9] => I a1 a2 a3 a4 a5 a6 a7 a8 a9 h
  | _ => False

def palisadelaw12_DiskPlays.k25 (I : Sl → (Option Ptr) → (Option Ptr) → (Option Ptr) → (Option Ptr) → Int → Ptr → Sl → Int → Heap → Prop) (vs : List V) (h : Heap) : Prop :=
  match vs with
  | [.sl a1, .ptr a2, .ptr a3, .ptr a4, .ptr a5, .int .i64 a6, .ptr (some a7), .sl a8, .int .i64 a9] => I a1 a2 a3 a4 a5 a6 a7 a8 a9 h
  | _ => False

def palisadelaw12_DiskPlays.k22 (I : Sl → (Option Ptr) → (Option Ptr) → (Option Ptr) → (Option Ptr) → Int → Ptr → Sl → Heap → Prop) (vs : List V) (h : Heap) : Prop :=
  match vs with
  | [.sl a1, .ptr a2, .ptr a3, .ptr a4, .ptr a5, .int .i64 a6, .ptr (some a7), .sl a8] => I a1 a2 a3 a4 a5 a6 a7 a8 h
  | _ => False

def palisadelaw12_DiskPlays.k30 (I : Sl → (Option Ptr) → (Option Ptr) → (Option Ptr) → (Option Ptr) → Int → Ptr → Heap → Prop) (vs : List V) (h : Heap) : Prop :=
  match vs with
  | [.sl a1, .ptr a2, .ptr a3, .ptr a4, .ptr a5, .int .i64 a6, .ptr (some a7)] => I a1 a2 a3 a4 a5 a6 a7 h
  | _ => False

def palisadelaw12_DiskPlays.k39 (I : (Option Ptr) → (Option Ptr) → Heap → Prop) (vs : List V) (h : Heap) : Prop :=
  match vs with
  | [.ptr a1, .ptr a2] => I a1 a2 h
  | _ => False

def palisadelaw12_DiskPlays.k8 (I : Sl → (Option Ptr) → (Option Ptr) → (Option Ptr) → (Option Ptr) → Int → Heap → Prop) (vs : List V) (h : Heap) : Prop :=
  match vs with
  | [.sl a1, .ptr a2, .ptr a3, .ptr a4, .ptr a5, .int .i64 a6] => I a1 a2 a3 a4 a5 a6 h
  | _ => False

def palisadelaw12_DiskPlays.k5 (I : Sl → (Option Ptr) → Int → (Option Ptr) → Int → (Option Ptr) → Int → (Option Ptr) → Heap → Prop) (vs : List V) (h : Heap) : Prop :=
  match vs with
  | [.sl a1, .ptr a2, .int .i64 a3, .ptr a4, .int .i64 a5, .ptr a6, .int .i64 a7, .ptr a8] => I a1 a2 a3 a4 a5 a6 a7 a8 h
  | _ => False

theorem palisadelaw12_DiskPlays.p6 : (posC palisadelaw12_DiskPlays.code []).filter (fun p => Nat.beq p.1 6) = [(6, atPos (posC palisadelaw12_DiskPlays.code []) 6)] := by kernel_rfl

theorem palisadelaw12_DiskPlays.e6 : ∀ (U : Ifc)   (Q : Bool → Heap → Prop) (h : Heap), palisadelaw12_DiskPlays.j6 U   Q h = pts (palisadelaw12_DiskPlays.E U Q []) 3000 true (atPos (posC palisadelaw12_DiskPlays.code []) 6) (frAt [] []) h := by
  intros; kernel_rfl

theorem palisadelaw12_DiskPlays.s6 {W0 : World} {U : Ifc} (hU : IfcOK sg W0 glsT U) (Q : Bool → Heap → Prop)   : CutOK sg W0 221 (entered 3) (Post sg W0 (palisadelaw12_DiskPlays.ret Q)) (posC palisadelaw12_DiskPlays.code []) 6 [] (palisadelaw12_DiskPlays.k6 (fun  h => palisadelaw12_DiskPlays.j6 U   Q h)) := by
  refine cutOK_head (fun vs h hk => ?_)
  unfold palisadelaw12_DiskPlays.k6 at hk
  split at hk
  · skip
    intro todo hm ρ a w s f hp
    exact piece (E := palisadelaw12_DiskPlays.E U Q []) (vs := []) (envOK seatOK (palisadelaw12_DiskPlays.callsOK hU) hU) (fnOK seatOK palisadelaw12_DiskPlays.fun) trivial palisadelaw12_DiskPlays.p6 (fuel := 3000) (by rw [← palisadelaw12_DiskPlays.e6]; exact hk) hm s f hp
  · exact hk.elim

theorem palisadelaw12_DiskPlays.p14 : (posC palisadelaw12_DiskPlays.code []).filter (fun p => Nat.beq p.1 14) = [(14, atPos (posC palisadelaw12_DiskPlays.code []) 14)] := by kernel_rfl

theorem palisadelaw12_DiskPlays.e14 : ∀ (U : Ifc) (I8 : Sl → (Option Ptr) → (Option Ptr) → (Option Ptr) → (Option Ptr) → Int → Heap → Prop)  (Q : Bool → Heap → Prop) (h : Heap), palisadelaw12_DiskPlays.j14 U I8  Q h = pts (palisadelaw12_DiskPlays.E U Q []) 3000 true (atPos (posC palisadelaw12_DiskPlays.code []) 14) (frAt [] []) h := by
  intros; kernel_rfl

theorem palisadelaw12_DiskPlays.s14 {W0 : World} {U : Ifc} (hU : IfcOK sg W0 glsT U) (Q : Bool → Heap → Prop) (I8 : Sl → (Option Ptr) → (Option Ptr) → (Option Ptr) → (Option Ptr) → Int → Heap → Prop) (h8 : CutOK sg W0 221 (entered 3) (Post sg W0 (palisadelaw12_DiskPlays.ret Q)) (posC palisadelaw12_DiskPlays.code []) 8 [1, 5, 7, 9, 11, 13] (palisadelaw12_DiskPlays.k8 I8)) : CutOK sg W0 221 (entered 3) (Post sg W0 (palisadelaw12_DiskPlays.ret Q)) (posC palisadelaw12_DiskPlays.code []) 14 [] (palisadelaw12_DiskPlays.k14 (fun  h => palisadelaw12_DiskPlays.j14 U I8  Q h)) := by
  refine cutOK_head (fun vs h hk => ?_)
  unfold palisadelaw12_DiskPlays.k14 at hk
  split at hk
  · skip
    intro todo hm ρ a w s f hp
    exact piece (E := palisadelaw12_DiskPlays.E U Q []) (vs := []) (envOK seatOK (palisadelaw12_DiskPlays.callsOK hU) hU) (fnOK seatOK palisadelaw12_DiskPlays.fun) trivial palisadelaw12_DiskPlays.p14 (fuel := 3000) (by rw [← palisadelaw12_DiskPlays.e14]; exact hk) hm s f hp
  · exact hk.elim

theorem palisadelaw12_DiskPlays.p34 : (posC palisadelaw12_DiskPlays.code []).filter (fun p => Nat.beq p.1 34) = [(34, atPos (posC palisadelaw12_DiskPlays.code []) 34)] := by kernel_rfl

theorem palisadelaw12_DiskPlays.e34 : ∀ (U : Ifc) (I8 : Sl → (Option Ptr) → (Option Ptr) → (Option Ptr) → (Option Ptr) → Int → Heap → Prop)  (Q : Bool → Heap → Prop) (h : Heap), palisadelaw12_DiskPlays.j34 U I8  Q h = pts (palisadelaw12_DiskPlays.E U Q []) 3000 true (atPos (posC palisadelaw12_DiskPlays.code []) 34) (frAt [] []) h := by
  intros; kernel_rfl

theorem palisadelaw12_DiskPlays.s34 {W0 : World} {U : Ifc} (hU : IfcOK sg W0 glsT U) (Q : Bool → Heap → Prop) (I8 : Sl → (Option Ptr) → (Option Ptr) → (Option Ptr) → (Option Ptr) → Int → Heap → Prop) (h8 : CutOK sg W0 221 (entered 3) (Post sg W0 (palisadelaw12_DiskPlays.ret Q)) (posC palisadelaw12_DiskPlays.code []) 8 [1, 5, 7, 9, 11, 13] (palisadelaw12_DiskPlays.k8 I8)) : CutOK sg W0 221 (entered 3) (Post sg W0 (palisadelaw12_DiskPlays.ret Q)) (posC palisadelaw12_DiskPlays.code []) 34 [] (palisadelaw12_DiskPlays.k34 (fun  h => palisadelaw12_DiskPlays.j34 U I8  Q h)) := by
  refine cutOK_head (fun vs h hk => ?_)
  unfold palisadelaw12_DiskPlays.k34 at hk
  split at hk
  · skip
    intro todo hm ρ a w s f hp
    exact piece (E := palisadelaw12_DiskPlays.E U Q []) (vs := []) (envOK seatOK (palisadelaw12_DiskPlays.callsOK hU) hU) (fnOK seatOK palisadelaw12_DiskPlays.fun) trivial palisadelaw12_DiskPlays.p34 (fuel := 3000) (by rw [← palisadelaw12_DiskPlays.e34]; exact hk) hm s f hp
  · exact hk.elim

theorem palisadelaw12_DiskPlays.p36 : (posC palisadelaw12_DiskPlays.code []).filter (fun p => Nat.beq p.1 36) = [(36, atPos (posC palisadelaw12_DiskPlays.code []) 36)] := by kernel_rfl

theorem palisadelaw12_DiskPlays.e36 : ∀ (U : Ifc) (I8 : Sl → (Option Ptr) → (Option Ptr) → (Option Ptr) → (Option Ptr) → Int → Heap → Prop) (I36 : Sl → (Option Ptr) → (Option Ptr) → (Option Ptr) → (Option Ptr) → Int → Sl → Int → Heap → Prop) (a1 : Sl) (a2 : Option Ptr) (a3 : Option Ptr) (a4 : Option Ptr) (a5 : Option Ptr) (a6 : Int) (a7 : Sl) (a8 : Int) (Q : Bool → Heap → Prop) (h : Heap), palisadelaw12_DiskPlays.b36 U I8 I36 a1 a2 a3 a4 a5 a6 a7 a8 Q h = pts (palisadelaw12_DiskPlays.E U Q [(36, ([1, 5, 7, 9, 11, 13, 21, 25], palisadelaw12_DiskPlays.k36 I36)), (8, ([1, 5, 7, 9, 11, 13], palisadelaw12_DiskPlays.k8 I8))]) 3000 true (atPos (posC palisadelaw12_DiskPlays.code []) 36) (frAt [1, 5, 7, 9, 11, 13, 21, 25] [.sl a1, .ptr a2, .ptr a3, .ptr a4, .ptr a5, .int .i64 a6, .sl a7, .int .i64 a8]) h := by
  intros; kernel_rfl

theorem palisadelaw12_DiskPlays.s36 {W0 : World} {U : Ifc} (hU : IfcOK sg W0 glsT U) (Q : Bool → Heap → Prop) (I8 : Sl → (Option Ptr) → (Option Ptr) → (Option Ptr) → (Option Ptr) → Int → Heap → Prop) (h8 : CutOK sg W0 221 (entered 3) (Post sg W0 (palisadelaw12_DiskPlays.ret Q)) (posC palisadelaw12_DiskPlays.code []) 8 [1, 5, 7, 9, 11, 13] (palisadelaw12_DiskPlays.k8 I8)) : CutOK sg W0 221 (entered 3) (Post sg W0 (palisadelaw12_DiskPlays.ret Q)) (posC palisadelaw12_DiskPlays.code []) 36 [1, 5, 7, 9, 11, 13, 21, 25] (palisadelaw12_DiskPlays.k36 (fun a1 a2 a3 a4 a5 a6 a7 a8 h => palisadelaw12_DiskPlays.j36 U I8 a1 a2 a3 a4 a5 a6 a7 a8 Q h)) := by
  refine cutOK_head (fun vs h hk => ?_)
  unfold palisadelaw12_DiskPlays.k36 at hk
  split at hk
  · rename_i a1 a2 a3 a4 a5 a6 a7 a8
    refine hk (fun a1 a2 a3 a4 a5 a6 a7 a8 h => Head sg W0 221 (entered 3) (Post sg W0 (palisadelaw12_DiskPlays.ret Q)) (posC palisadelaw12_DiskPlays.code []) 36 [1, 5, 7, 9, 11, 13, 21, 25] [.sl a1, .ptr a2, .ptr a3, .ptr a4, .ptr a5, .int .i64 a6, .sl a7, .int .i64 a8] h) ?_
    intro a1 a2 a3 a4 a5 a6 a7 a8 h hb todo hm ρ a w s f hp
    have hself : CutOK sg W0 221 (entered 3) (Post sg W0 (palisadelaw12_DiskPlays.ret Q)) (posC palisadelaw12_DiskPlays.code []) 36 [1, 5, 7, 9, 11, 13, 21, 25] (palisadelaw12_DiskPlays.k36 (fun a1 a2 a3 a4 a5 a6 a7 a8 h => Head sg W0 221 (entered 3) (Post sg W0 (palisadelaw12_DiskPlays.ret Q)) (posC palisadelaw12_DiskPlays.code []) 36 [1, 5, 7, 9, 11, 13, 21, 25] [.sl a1, .ptr a2, .ptr a3, .ptr a4, .ptr a5, .int .i64 a6, .sl a7, .int .i64 a8] h)) := cutOK_head (fun vs h hk => by unfold palisadelaw12_DiskPlays.k36 at hk; split at hk; exact hk; exact hk.elim)
    exact piece (E := palisadelaw12_DiskPlays.E U Q [(36, ([1, 5, 7, 9, 11, 13, 21, 25], palisadelaw12_DiskPlays.k36 (fun a1 a2 a3 a4 a5 a6 a7 a8 h => Head sg W0 221 (entered 3) (Post sg W0 (palisadelaw12_DiskPlays.ret Q)) (posC palisadelaw12_DiskPlays.code []) 36 [1, 5, 7, 9, 11, 13, 21, 25] [.sl a1, .ptr a2, .ptr a3, .ptr a4, .ptr a5, .int .i64 a6, .sl a7, .int .i64 a8] h))), (8, ([1, 5, 7, 9, 11, 13], palisadelaw12_DiskPlays.k8 I8))]) (vs := [.sl a1, .ptr a2, .ptr a3, .ptr a4, .ptr a5, .int .i64 a6, .sl a7, .int .i64 a8]) (envOK seatOK (palisadelaw12_DiskPlays.callsOK hU) hU) (fnOK seatOK palisadelaw12_DiskPlays.fun) ⟨hself, h8, trivial⟩ palisadelaw12_DiskPlays.p36 (fuel := 3000) (by rw [← palisadelaw12_DiskPlays.e36]; exact hb) hm s f hp
  · exact hk.elim

theorem palisadelaw12_DiskPlays.p35 : (posC palisadelaw12_DiskPlays.code []).filter (fun p => Nat.beq p.1 35) = [(35, atPos (posC palisadelaw12_DiskPlays.code []) 35)] := by kernel_rfl

theorem palisadelaw12_DiskPlays.e35 : ∀ (U : Ifc) (I8 : Sl → (Option Ptr) → (Option Ptr) → (Option Ptr) → (Option Ptr) → Int → Heap → Prop) (a1 : Sl) (a2 : Option Ptr) (a3 : Option Ptr) (a4 : Option Ptr) (a5 : Option Ptr) (a6 : Int) (a7 : Sl) (Q : Bool → Heap → Prop) (h : Heap), palisadelaw12_DiskPlays.j35 U I8 a1 a2 a3 a4 a5 a6 a7 Q h = pts (palisadelaw12_DiskPlays.E U Q [(36, ([1, 5, 7, 9, 11, 13, 21, 25], palisadelaw12_DiskPlays.k36 (fun a1 a2 a3 a4 a5 a6 a7 a8 h => palisadelaw12_DiskPlays.j36 U I8 a1 a2 a3 a4 a5 a6 a7 a8 Q h)))]) 3000 true (atPos (posC palisadelaw12_DiskPlays.code []) 35) (frAt [1, 5, 7, 9, 11, 13, 21] [.sl a1, .ptr a2, .ptr a3, .ptr a4, .ptr a5, .int .i64 a6, .sl a7]) h := by
  intros; kernel_rfl

theorem palisadelaw12_DiskPlays.s35 {W0 : World} {U : Ifc} (hU : IfcOK sg W0 glsT U) (Q : Bool → Heap → Prop) (I8 : Sl → (Option Ptr) → (Option Ptr) → (Option Ptr) → (Option Ptr) → Int → Heap → Prop) (h8 : CutOK sg W0 221 (entered 3) (Post sg W0 (palisadelaw12_DiskPlays.ret Q)) (posC palisadelaw12_DiskPlays.code []) 8 [1, 5, 7, 9, 11, 13] (palisadelaw12_DiskPlays.k8 I8)) : CutOK sg W0 221 (entered 3) (Post sg W0 (palisadelaw12_DiskPlays.ret Q)) (posC palisadelaw12_DiskPlays.code []) 35 [1, 5, 7, 9, 11, 13, 21] (palisadelaw12_DiskPlays.k35 (fun a1 a2 a3 a4 a5 a6 a7 h => palisadelaw12_DiskPlays.j35 U I8 a1 a2 a3 a4 a5 a6 a7 Q h)) := by
  refine cutOK_head (fun vs h hk => ?_)
  unfold palisadelaw12_DiskPlays.k35 at hk
  split at hk
  · rename_i a1 a2 a3 a4 a5 a6 a7
    intro todo hm ρ a w s f hp
    exact piece (E := palisadelaw12_DiskPlays.E U Q [(36, ([1, 5, 7, 9, 11, 13, 21, 25], palisadelaw12_DiskPlays.k36 (fun a1 a2 a3 a4 a5 a6 a7 a8 h => palisadelaw12_DiskPlays.j36 U I8 a1 a2 a3 a4 a5 a6 a7 a8 Q h)))]) (vs := [.sl a1, .ptr a2, .ptr a3, .ptr a4, .ptr a5, .int .i64 a6, .sl a7]) (envOK seatOK (palisadelaw12_DiskPlays.callsOK hU) hU) (fnOK seatOK palisadelaw12_DiskPlays.fun) ⟨(palisadelaw12_DiskPlays.s36 hU Q I8 h8), trivial⟩ palisadelaw12_DiskPlays.p35 (fuel := 3000) (by rw [← palisadelaw12_DiskPlays.e35]; exact hk) hm s f hp
  · exact hk.elim

theorem palisadelaw12_DiskPlays.p31 : (posC palisadelaw12_DiskPlays.code []).filter (fun p => Nat.beq p.1 31) = [(31, atPos (posC palisadelaw12_DiskPlays.code []) 31)] := by kernel_rfl

theorem palisadelaw12_DiskPlays.e31 : ∀ (U : Ifc) (I8 : Sl → (Option Ptr) → (Option Ptr) → (Option Ptr) → (Option Ptr) → Int → Heap → Prop) (a1 : Sl) (a2 : Option Ptr) (a3 : Option Ptr) (a4 : Option Ptr) (a5 : Option Ptr) (a6 : Int) (a7 : Ptr) (Q : Bool → Heap → Prop) (h : Heap), palisadelaw12_DiskPlays.j31 U I8 a1 a2 a3 a4 a5 a6 a7 Q h = pts (palisadelaw12_DiskPlays.E U Q [(34, ([], palisadelaw12_DiskPlays.k34 (fun  h => palisadelaw12_DiskPlays.j34 U I8  Q h))), (35, ([1, 5, 7, 9, 11, 13, 21], palisadelaw12_DiskPlays.k35 (fun a1 a2 a3 a4 a5 a6 a7 h => palisadelaw12_DiskPlays.j35 U I8 a1 a2 a3 a4 a5 a6 a7 Q h)))]) 3000 true (atPos (posC palisadelaw12_DiskPlays.code []) 31) (frAt [1, 5, 7, 9, 11, 13, 14] [.sl a1, .ptr a2, .ptr a3, .ptr a4, .ptr a5, .int .i64 a6, .ptr (some a7)]) h := by
  intros; kernel_rfl

theorem palisadelaw12_DiskPlays.s31 {W0 : World} {U : Ifc} (hU : IfcOK sg W0 glsT U) (Q : Bool → Heap → Prop) (I8 : Sl → (Option Ptr) → (Option Ptr) → (Option Ptr) → (Option Ptr) → Int → Heap → Prop) (h8 : CutOK sg W0 221 (entered 3) (Post sg W0 (palisadelaw12_DiskPlays.ret Q)) (posC palisadelaw12_DiskPlays.code []) 8 [1, 5, 7, 9, 11, 13] (palisadelaw12_DiskPlays.k8 I8)) : CutOK sg W0 221 (entered 3) (Post sg W0 (palisadelaw12_DiskPlays.ret Q)) (posC palisadelaw12_DiskPlays.code []) 31 [1, 5, 7, 9, 11, 13, 14] (palisadelaw12_DiskPlays.k31 (fun a1 a2 a3 a4 a5 a6 a7 h => palisadelaw12_DiskPlays.j31 U I8 a1 a2 a3 a4 a5 a6 a7 Q h)) := by
  refine cutOK_head (fun vs h hk => ?_)
  unfold palisadelaw12_DiskPlays.k31 at hk
  split at hk
  · rename_i a1 a2 a3 a4 a5 a6 a7
    intro todo hm ρ a w s f hp
    exact piece (E := palisadelaw12_DiskPlays.E U Q [(34, ([], palisadelaw12_DiskPlays.k34 (fun  h => palisadelaw12_DiskPlays.j34 U I8  Q h))), (35, ([1, 5, 7, 9, 11, 13, 21], palisadelaw12_DiskPlays.k35 (fun a1 a2 a3 a4 a5 a6 a7 h => palisadelaw12_DiskPlays.j35 U I8 a1 a2 a3 a4 a5 a6 a7 Q h)))]) (vs := [.sl a1, .ptr a2, .ptr a3, .ptr a4, .ptr a5, .int .i64 a6, .ptr (some a7)]) (envOK seatOK (palisadelaw12_DiskPlays.callsOK hU) hU) (fnOK seatOK palisadelaw12_DiskPlays.fun) ⟨(palisadelaw12_DiskPlays.s34 hU Q I8 h8), (palisadelaw12_DiskPlays.s35 hU Q I8 h8), trivial⟩ palisadelaw12_DiskPlays.p31 (fuel := 3000) (by rw [← palisadelaw12_DiskPlays.e31]; exact hk) hm s f hp
  · exact hk.elim

theorem palisadelaw12_DiskPlays.p19 : (posC palisadelaw12_DiskPlays.code []).filter (fun p => Nat.beq p.1 19) = [(19, atPos (posC palisadelaw12_DiskPlays.code []) 19)] := by kernel_rfl

theorem palisadelaw12_DiskPlays.e19 : ∀ (U : Ifc) (I8 : Sl → (Option Ptr) → (Option Ptr) → (Option Ptr) → (Option Ptr) → Int → Heap → Prop)  (Q : Bool → Heap → Prop) (h : Heap), palisadelaw12_DiskPlays.j19 U I8  Q h = pts (palisadelaw12_DiskPlays.E U Q []) 3000 true (atPos (posC palisadelaw12_DiskPlays.code []) 19) (frAt [] []) h := by
  intros; kernel_rfl

theorem palisadelaw12_DiskPlays.s19 {W0 : World} {U : Ifc} (hU : IfcOK sg W0 glsT U) (Q : Bool → Heap → Prop) (I8 : Sl → (Option Ptr) → (Option Ptr) → (Option Ptr) → (Option Ptr) → Int → Heap → Prop) (h8 : CutOK sg W0 221 (entered 3) (Post sg W0 (palisadelaw12_DiskPlays.ret Q)) (posC palisadelaw12_DiskPlays.code []) 8 [1, 5, 7, 9, 11, 13] (palisadelaw12_DiskPlays.k8 I8)) : CutOK sg W0 221 (entered 3) (Post sg W0 (palisadelaw12_DiskPlays.ret Q)) (posC palisadelaw12_DiskPlays.code []) 19 [] (palisadelaw12_DiskPlays.k19 (fun  h => palisadelaw12_DiskPlays.j19 U I8  Q h)) := by
  refine cutOK_head (fun vs h hk => ?_)
  unfold palisadelaw12_DiskPlays.k19 at hk
  split at hk
  · skip
    intro todo hm ρ a w s f hp
    exact piece (E := palisadelaw12_DiskPlays.E U Q []) (vs := []) (envOK seatOK (palisadelaw12_DiskPlays.callsOK hU) hU) (fnOK seatOK palisadelaw12_DiskPlays.fun) trivial palisadelaw12_DiskPlays.p19 (fuel := 3000) (by rw [← palisadelaw12_DiskPlays.e19]; exact hk) hm s f hp
  · exact hk.elim

theorem palisadelaw12_DiskPlays.p17 : (posC palisadelaw12_DiskPlays.code []).filter (fun p => Nat.beq p.1 17) = [(17, atPos (posC palisadelaw12_DiskPlays.code []) 17)] := by kernel_rfl

theorem palisadelaw12_DiskPlays.e17 : ∀ (U : Ifc) (I8 : Sl → (Option Ptr) → (Option Ptr) → (Option Ptr) → (Option Ptr) → Int → Heap → Prop) (a1 : Sl) (a2 : Option Ptr) (a3 : Option Ptr) (a4 : Option Ptr) (a5 : Option Ptr) (a6 : Int) (a7 : Ptr) (a8 : Ptr) (a9 : Int) (Q : Bool → Heap → Prop) (h : Heap), palisadelaw12_DiskPlays.j17 U I8 a1 a2 a3 a4 a5 a6 a7 a8 a9 Q h = pts (palisadelaw12_DiskPlays.E U Q [(19, ([], palisadelaw12_DiskPlays.k19 (fun  h => palisadelaw12_DiskPlays.j19 U I8  Q h))), (31, ([1, 5, 7, 9, 11, 13, 14], palisadelaw12_DiskPlays.k31 (fun a1 a2 a3 a4 a5 a6 a7 h => palisadelaw12_DiskPlays.j31 U I8 a1 a2 a3 a4 a5 a6 a7 Q h)))]) 3000 true (atPos (posC palisadelaw12_DiskPlays.code []) 17) (frAt [1, 5, 7, 9, 11, 13, 14, 15, 16] [.sl a1, .ptr a2, .ptr a3, .ptr a4, .ptr a5, .int .i64 a6, .ptr (some a7), .ptr (some a8), .int .i64 a9]) h := by
  intros; kernel_rfl

theorem palisadelaw12_DiskPlays.s17 {W0 : World} {U : Ifc} (hU : IfcOK sg W0 glsT U) (Q : Bool → Heap → Prop) (I8 : Sl → (Option Ptr) → (Option Ptr) → (Option Ptr) → (Option Ptr) → Int → Heap → Prop) (h8 : CutOK sg W0 221 (entered 3) (Post sg W0 (palisadelaw12_DiskPlays.ret Q)) (posC palisadelaw12_DiskPlays.code []) 8 [1, 5, 7, 9, 11, 13] (palisadelaw12_DiskPlays.k8 I8)) : CutOK sg W0 221 (entered 3) (Post sg W0 (palisadelaw12_DiskPlays.ret Q)) (posC palisadelaw12_DiskPlays.code []) 17 [1, 5, 7, 9, 11, 13, 14, 15, 16] (palisadelaw12_DiskPlays.k17 (fun a1 a2 a3 a4 a5 a6 a7 a8 a9 h => palisadelaw12_DiskPlays.j17 U I8 a1 a2 a3 a4 a5 a6 a7 a8 a9 Q h)) := by
  refine cutOK_head (fun vs h hk => ?_)
  unfold palisadelaw12_DiskPlays.k17 at hk
  split at hk
  · rename_i a1 a2 a3 a4 a5 a6 a7 a8 a9
    intro todo hm ρ a w s f hp
    exact piece (E := palisadelaw12_DiskPlays.E U Q [(19, ([], palisadelaw12_DiskPlays.k19 (fun  h => palisadelaw12_DiskPlays.j19 U I8  Q h))), (31, ([1, 5, 7, 9, 11, 13, 14], palisadelaw12_DiskPlays.k31 (fun a1 a2 a3 a4 a5 a6 a7 h => palisadelaw12_DiskPlays.j31 U I8 a1 a2 a3 a4 a5 a6 a7 Q h)))]) (vs := [.sl a1, .ptr a2, .ptr a3, .ptr a4, .ptr a5, .int .i64 a6, .ptr (some a7), .ptr (some a8), .int .i64 a9]) (envOK seatOK (palisadelaw12_DiskPlays.callsOK hU) hU) (fnOK seatOK palisadelaw12_DiskPlays.fun) ⟨(palisadelaw12_DiskPlays.s19 hU Q I8 h8), (palisadelaw12_DiskPlays.s31 hU Q I8 h8), trivial⟩ palisadelaw12_DiskPlays.p17 (fuel := 3000) (by rw [← palisadelaw12_DiskPlays.e17]; exact hk) hm s f hp
  · exact hk.elim

theorem palisadelaw12_DiskPlays.p25 : (posC palisadelaw12_DiskPlays.code []).filter (fun p => Nat.beq p.1 25) = [(25, atPos (posC palisadelaw12_DiskPlays.code []) 25)] := by kernel_rfl

theorem palisadelaw12_DiskPlays.e25 : ∀ (U : Ifc) (I8 : Sl → (Option Ptr) → (Option Ptr) → (Option Ptr) → (Option Ptr) → Int → Heap → Prop) (I25 : Sl → (Option Ptr) → (Option Ptr) → (Option Ptr) → (Option Ptr) → Int → Ptr → Sl → Int → Heap → Prop) (a1 : Sl) (a2 : Option Ptr) (a3 : Option Ptr) (a4 : Option Ptr) (a5 : Option Ptr) (a6 : Int) (a7 : Ptr) (a8 : Sl) (a9 : Int) (Q : Bool → Heap → Prop) (h : Heap), palisadelaw12_DiskPlays.b25 U I8 I25 a1 a2 a3 a4 a5 a6 a7 a8 a9 Q h = pts (palisadelaw12_DiskPlays.E U Q [(25, ([1, 5, 7, 9, 11, 13, 14, 19, 20], palisadelaw12_DiskPlays.k25 I25)), (31, ([1, 5, 7, 9, 11, 13, 14], palisadelaw12_DiskPlays.k31 (fun a1 a2 a3 a4 a5 a6 a7 h => palisadelaw12_DiskPlays.j31 U I8 a1 a2 a3 a4 a5 a6 a7 Q h)))]) 3000 true (atPos (posC palisadelaw12_DiskPlays.code []) 25) (frAt [1, 5, 7, 9, 11, 13, 14, 19, 20] [.sl a1, .ptr a2, .ptr a3, .ptr a4, .ptr a5, .int .i64 a6, .ptr (some a7), .sl a8, .int .i64 a9]) h := by
  intros; kernel_rfl

theorem palisadelaw12_DiskPlays.s25 {W0 : World} {U : Ifc} (hU : IfcOK sg W0 glsT U) (Q : Bool → Heap → Prop) (I8 : Sl → (Option Ptr) → (Option Ptr) → (Option Ptr) → (Option Ptr) → Int → Heap → Prop) (h8 : CutOK sg W0 221 (entered 3) (Post sg W0 (palisadelaw12_DiskPlays.ret Q)) (posC palisadelaw12_DiskPlays.code []) 8 [1, 5, 7, 9, 11, 13] (palisadelaw12_DiskPlays.k8 I8)) : CutOK sg W0 221 (entered 3) (Post sg W0 (palisadelaw12_DiskPlays.ret Q)) (posC palisadelaw12_DiskPlays.code []) 25 [1, 5, 7, 9, 11, 13, 14, 19, 20] (palisadelaw12_DiskPlays.k25 (fun a1 a2 a3 a4 a5 a6 a7 a8 a9 h => palisadelaw12_DiskPlays.j25 U I8 a1 a2 a3 a4 a5 a6 a7 a8 a9 Q h)) := by
  refine cutOK_head (fun vs h hk => ?_)
  unfold palisadelaw12_DiskPlays.k25 at hk
  split at hk
  · rename_i a1 a2 a3 a4 a5 a6 a7 a8 a9
    refine hk (fun a1 a2 a3 a4 a5 a6 a7 a8 a9 h => Head sg W0 221 (entered 3) (Post sg W0 (palisadelaw12_DiskPlays.ret Q)) (posC palisadelaw12_DiskPlays.code []) 25 [1, 5, 7, 9, 11, 13, 14, 19, 20] [.sl a1, .ptr a2, .ptr a3, .ptr a4, .ptr a5, .int .i64 a6, .ptr (some a7), .sl a8, .int .i64 a9] h) ?_
    intro a1 a2 a3 a4 a5 a6 a7 a8 a9 h hb todo hm ρ a w s f hp
    have hself : CutOK sg W0 221 (entered 3) (Post sg W0 (palisadelaw12_DiskPlays.ret Q)) (posC palisadelaw12_DiskPlays.code []) 25 [1, 5, 7, 9, 11, 13, 14, 19, 20] (palisadelaw12_DiskPlays.k25 (fun a1 a2 a3 a4 a5 a6 a7 a8 a9 h => Head sg W0 221 (entered 3) (Post sg W0 (palisadelaw12_DiskPlays.ret Q)) (posC palisadelaw12_DiskPlays.code []) 25 [1, 5, 7, 9, 11, 13, 14, 19, 20] [.sl a1, .ptr a2, .ptr a3, .ptr a4, .ptr a5, .int .i64 a6, .ptr (some a7), .sl a8, .int .i64 a9] h)) := cutOK_head (fun vs h hk => by unfold palisadelaw12_DiskPlays.k25 at hk; split at hk; exact hk; exact hk.elim)
    exact piece (E := palisadelaw12_DiskPlays.E U Q [(25, ([1, 5, 7, 9, 11, 13, 14, 19, 20], palisadelaw12_DiskPlays.k25 (fun a1 a2 a3 a4 a5 a6 a7 a8 a9 h => Head sg W0 221 (entered 3) (Post sg W0 (palisadelaw12_DiskPlays.ret Q)) (posC palisadelaw12_DiskPlays.code []) 25 [1, 5, 7, 9, 11, 13, 14, 19, 20] [.sl a1, .ptr a2, .ptr a3, .ptr a4, .ptr a5, .int .i64 a6, .ptr (some a7), .sl a8, .int .i64 a9] h))), (31, ([1, 5, 7, 9, 11, 13, 14], palisadelaw12_DiskPlays.k31 (fun a1 a2 a3 a4 a5 a6 a7 h => palisadelaw12_DiskPlays.j31 U I8 a1 a2 a3 a4 a5 a6 a7 Q h)))]) (vs := [.sl a1, .ptr a2, .ptr a3, .ptr a4, .ptr a5, .int .i64 a6, .ptr (some a7), .sl a8, .int .i64 a9]) (envOK seatOK (palisadelaw12_DiskPlays.callsOK hU) hU) (fnOK seatOK palisadelaw12_DiskPlays.fun) ⟨hself, (palisadelaw12_DiskPlays.s31 hU Q I8 h8), trivial⟩ palisadelaw12_DiskPlays.p25 (fuel := 3000) (by rw [← palisadelaw12_DiskPlays.e25]; exact hb) hm s f hp
  · exact hk.elim

theorem palisadelaw12_DiskPlays.p22 : (posC palisadelaw12_DiskPlays.code []).filter (fun p => Nat.beq p.1 22) = [(22, atPos (posC palisadelaw12_DiskPlays.code []) 22)] := by kernel_rfl

theorem palisadelaw12_DiskPlays.e22 : ∀ (U : Ifc) (I8 : Sl → (Option Ptr) → (Option Ptr) → (Option Ptr) → (Option Ptr) → Int → Heap → Prop) (a1 : Sl) (a2 : Option Ptr) (a3 : Option Ptr) (a4 : Option Ptr) (a5 : Option Ptr) (a6 : Int) (a7 : Ptr) (a8 : Sl) (Q : Bool → Heap → Prop) (h : Heap), palisadelaw12_DiskPlays.j22 U I8 a1 a2 a3 a4 a5 a6 a7 a8 Q h = pts (palisadelaw12_DiskPlays.E U Q [(25, ([1, 5, 7, 9, 11, 13, 14, 19, 20], palisadelaw12_DiskPlays.k25 (fun a1 a2 a3 a4 a5 a6 a7 a8 a9 h => palisadelaw12_DiskPlays.j25 U I8 a1 a2 a3 a4 a5 a6 a7 a8 a9 Q h)))]) 3000 true (atPos (posC palisadelaw12_DiskPlays.code []) 22) (frAt [1, 5, 7, 9, 11, 13, 14, 19] [.sl a1, .ptr a2, .ptr a3, .ptr a4, .ptr a5, .int .i64 a6, .ptr (some a7), .sl a8]) h := by
  intros; kernel_rfl

theorem palisadelaw12_DiskPlays.s22 {W0 : World} {U : Ifc} (hU : IfcOK sg W0 glsT U) (Q : Bool → Heap → Prop) (I8 : Sl → (Option Ptr) → (Option Ptr) → (Option Ptr) → (Option Ptr) → Int → Heap → Prop) (h8 : CutOK sg W0 221 (entered 3) (Post sg W0 (palisadelaw12_DiskPlays.ret Q)) (posC palisadelaw12_DiskPlays.code []) 8 [1, 5, 7, 9, 11, 13] (palisadelaw12_DiskPlays.k8 I8)) : CutOK sg W0 221 (entered 3) (Post sg W0 (palisadelaw12_DiskPlays.ret Q)) (posC palisadelaw12_DiskPlays.code []) 22 [1, 5, 7, 9, 11, 13, 14, 19] (palisadelaw12_DiskPlays.k22 (fun a1 a2 a3 a4 a5 a6 a7 a8 h => palisadelaw12_DiskPlays.j22 U I8 a1 a2 a3 a4 a5 a6 a7 a8 Q h)) := by
  refine cutOK_head (fun vs h hk => ?_)
  unfold palisadelaw12_DiskPlays.k22 at hk
  split at hk
  · rename_i a1 a2 a3 a4 a5 a6 a7 a8
    intro todo hm ρ a w s f hp
    exact piece (E := palisadelaw12_DiskPlays.E U Q [(25, ([1, 5, 7, 9, 11, 13, 14, 19, 20], palisadelaw12_DiskPlays.k25 (fun a1 a2 a3 a4 a5 a6 a7 a8 a9 h => palisadelaw12_DiskPlays.j25 U I8 a1 a2 a3 a4 a5 a6 a7 a8 a9 Q h)))]) (vs := [.sl a1, .ptr a2, .ptr a3, .ptr a4, .ptr a5, .int .i64 a6, .ptr (some a7), .sl a8]) (envOK seatOK (palisadelaw12_DiskPlays.callsOK hU) hU) (fnOK seatOK palisadelaw12_DiskPlays.fun) ⟨(palisadelaw12_DiskPlays.s25 hU Q I8 h8), trivial⟩ palisadelaw12_DiskPlays.p22 (fuel := 3000) (by rw [← palisadelaw12_DiskPlays.e22]; exact hk) hm s f hp
  · exact hk.elim

theorem palisadelaw12_DiskPlays.p30 : (posC palisadelaw12_DiskPlays.code []).filter (fun p => Nat.beq p.1 30) = [(30, atPos (posC palisadelaw12_DiskPlays.code []) 30)] := by kernel_rfl

theorem palisadelaw12_DiskPlays.e30 : ∀ (U : Ifc) (I8 : Sl → (Option Ptr) → (Option Ptr) → (Option Ptr) → (Option Ptr) → Int → Heap → Prop) (a1 : Sl) (a2 : Option Ptr) (a3 : Option Ptr) (a4 : Option Ptr) (a5 : Option Ptr) (a6 : Int) (a7 : Ptr) (Q : Bool → Heap → Prop) (h : Heap), palisadelaw12_DiskPlays.j30 U I8 a1 a2 a3 a4 a5 a6 a7 Q h = pts (palisadelaw12_DiskPlays.E U Q [(31, ([1, 5, 7, 9, 11, 13, 14], palisadelaw12_DiskPlays.k31 (fun a1 a2 a3 a4 a5 a6 a7 h => palisadelaw12_DiskPlays.j31 U I8 a1 a2 a3 a4 a5 a6 a7 Q h)))]) 3000 true (atPos (posC palisadelaw12_DiskPlays.code []) 30) (frAt [1, 5, 7, 9, 11, 13, 14] [.sl a1, .ptr a2, .ptr a3, .ptr a4, .ptr a5, .int .i64 a6, .ptr (some a7)]) h := by
  intros; kernel_rfl

theorem palisadelaw12_DiskPlays.s30 {W0 : World} {U : Ifc} (hU : IfcOK sg W0 glsT U) (Q : Bool → Heap → Prop) (I8 : Sl → (Option Ptr) → (Option Ptr) → (Option Ptr) → (Option Ptr) → Int → Heap → Prop) (h8 : CutOK sg W0 221 (entered 3) (Post sg W0 (palisadelaw12_DiskPlays.ret Q)) (posC palisadelaw12_DiskPlays.code []) 8 [1, 5, 7, 9, 11, 13] (palisadelaw12_DiskPlays.k8 I8)) : CutOK sg W0 221 (entered 3) (Post sg W0 (palisadelaw12_DiskPlays.ret Q)) (posC palisadelaw12_DiskPlays.code []) 30 [1, 5, 7, 9, 11, 13, 14] (palisadelaw12_DiskPlays.k30 (fun a1 a2 a3 a4 a5 a6 a7 h => palisadelaw12_DiskPlays.j30 U I8 a1 a2 a3 a4 a5 a6 a7 Q h)) := by
  refine cutOK_head (fun vs h hk => ?_)
  unfold palisadelaw12_DiskPlays.k30 at hk
  split at hk
  · rename_i a1 a2 a3 a4 a5 a6 a7
    intro todo hm ρ a w s f hp
    exact piece (E := palisadelaw12_DiskPlays.E U Q [(31, ([1, 5, 7, 9, 11, 13, 14], palisadelaw12_DiskPlays.k31 (fun a1 a2 a3 a4 a5 a6 a7 h => palisadelaw12_DiskPlays.j31 U I8 a1 a2 a3 a4 a5 a6 a7 Q h)))]) (vs := [.sl a1, .ptr a2, .ptr a3, .ptr a4, .ptr a5, .int .i64 a6, .ptr (some a7)]) (envOK seatOK (palisadelaw12_DiskPlays.callsOK hU) hU) (fnOK seatOK palisadelaw12_DiskPlays.fun) ⟨(palisadelaw12_DiskPlays.s31 hU Q I8 h8), trivial⟩ palisadelaw12_DiskPlays.p30 (fuel := 3000) (by rw [← palisadelaw12_DiskPlays.e30]; exact hk) hm s f hp
  · exact hk.elim

theorem palisadelaw12_DiskPlays.p39 : (posC palisadelaw12_DiskPlays.code []).filter (fun p => Nat.beq p.1 39) = [(39, atPos (posC palisadelaw12_DiskPlays.code []) 39)] := by kernel_rfl

theorem palisadelaw12_DiskPlays.e39 : ∀ (U : Ifc)  (a1 : Option Ptr) (a2 : Option Ptr) (Q : Bool → Heap → Prop) (h : Heap), palisadelaw12_DiskPlays.j39 U  a1 a2 Q h = pts (palisadelaw12_DiskPlays.E U Q []) 3000 true (atPos (posC palisadelaw12_DiskPlays.code []) 39) (frAt [9, 11] [.ptr a1, .ptr a2]) h := by
  intros; kernel_rfl

theorem palisadelaw12_DiskPlays.s39 {W0 : World} {U : Ifc} (hU : IfcOK sg W0 glsT U) (Q : Bool → Heap → Prop)   : CutOK sg W0 221 (entered 3) (Post sg W0 (palisadelaw12_DiskPlays.ret Q)) (posC palisadelaw12_DiskPlays.code []) 39 [9, 11] (palisadelaw12_DiskPlays.k39 (fun a1 a2 h => palisadelaw12_DiskPlays.j39 U  a1 a2 Q h)) := by
  refine cutOK_head (fun vs h hk => ?_)
  unfold palisadelaw12_DiskPlays.k39 at hk
  split at hk
  · rename_i a1 a2
    intro todo hm ρ a w s f hp
    exact piece (E := palisadelaw12_DiskPlays.E U Q []) (vs := [.ptr a1, .ptr a2]) (envOK seatOK (palisadelaw12_DiskPlays.callsOK hU) hU) (fnOK seatOK palisadelaw12_DiskPlays.fun) trivial palisadelaw12_DiskPlays.p39 (fuel := 3000) (by rw [← palisadelaw12_DiskPlays.e39]; exact hk) hm s f hp
  · exact hk.elim

theorem palisadelaw12_DiskPlays.p8 : (posC palisadelaw12_DiskPlays.code []).filter (fun p => Nat.beq p.1 8) = [(8, atPos (posC palisadelaw12_DiskPlays.code []) 8)] := by kernel_rfl

theorem palisadelaw12_DiskPlays.e8 : ∀ (U : Ifc)  (I8 : Sl → (Option Ptr) → (Option Ptr) → (Option Ptr) → (Option Ptr) → Int → Heap → Prop) (a1 : Sl) (a2 : Option Ptr) (a3 : Option Ptr) (a4 : Option Ptr) (a5 : Option Ptr) (a6 : Int) (Q : Bool → Heap → Prop) (h : Heap), palisadelaw12_DiskPlays.b8 U  I8 a1 a2 a3 a4 a5 a6 Q h = pts (palisadelaw12_DiskPlays.E U Q [(14, ([], palisadelaw12_DiskPlays.k14 (fun  h => palisadelaw12_DiskPlays.j14 U I8  Q h))), (31, ([1, 5, 7, 9, 11, 13, 14], palisadelaw12_DiskPlays.k31 (fun a1 a2 a3 a4 a5 a6 a7 h => palisadelaw12_DiskPlays.j31 U I8 a1 a2 a3 a4 a5 a6 a7 Q h))), (17, ([1, 5, 7, 9, 11, 13, 14, 15, 16], palisadelaw12_DiskPlays.k17 (fun a1 a2 a3 a4 a5 a6 a7 a8 a9 h => palisadelaw12_DiskPlays.j17 U I8 a1 a2 a3 a4 a5 a6 a7 a8 a9 Q h))), (22, ([1, 5, 7, 9, 11, 13, 14, 19], palisadelaw12_DiskPlays.k22 (fun a1 a2 a3 a4 a5 a6 a7 a8 h => palisadelaw12_DiskPlays.j22 U I8 a1 a2 a3 a4 a5 a6 a7 a8 Q h))), (30, ([1, 5, 7, 9, 11, 13, 14], palisadelaw12_DiskPlays.k30 (fun a1 a2 a3 a4 a5 a6 a7 h => palisadelaw12_DiskPlays.j30 U I8 a1 a2 a3 a4 a5 a6 a7 Q h))), (39, ([9, 11], palisadelaw12_DiskPlays.k39 (fun a1 a2 h => palisadelaw12_DiskPlays.j39 U  a1 a2 Q h)))]) 3000 true (atPos (posC palisadelaw12_DiskPlays.code []) 8) (frAt [1, 5, 7, 9, 11, 13] [.sl a1, .ptr a2, .ptr a3, .ptr a4, .ptr a5, .int .i64 a6]) h := by
  intros; kernel_rfl

theorem palisadelaw12_DiskPlays.s8 {W0 : World} {U : Ifc} (hU : IfcOK sg W0 glsT U) (Q : Bool → Heap → Prop)   : CutOK sg W0 221 (entered 3) (Post sg W0 (palisadelaw12_DiskPlays.ret Q)) (posC palisadelaw12_DiskPlays.code []) 8 [1, 5, 7, 9, 11, 13] (palisadelaw12_DiskPlays.k8 (fun a1 a2 a3 a4 a5 a6 h => palisadelaw12_DiskPlays.j8 U  a1 a2 a3 a4 a5 a6 Q h)) := by
  refine cutOK_head (fun vs h hk => ?_)
  unfold palisadelaw12_DiskPlays.k8 at hk
  split at hk
  · rename_i a1 a2 a3 a4 a5 a6
    refine hk (fun a1 a2 a3 a4 a5 a6 h => Head sg W0 221 (entered 3) (Post sg W0 (palisadelaw12_DiskPlays.ret Q)) (posC palisadelaw12_DiskPlays.code []) 8 [1, 5, 7, 9, 11, 13] [.sl a1, .ptr a2, .ptr a3, .ptr a4, .ptr a5, .int .i64 a6] h) ?_
    intro a1 a2 a3 a4 a5 a6 h hb todo hm ρ a w s f hp
    have hself : CutOK sg W0 221 (entered 3) (Post sg W0 (palisadelaw12_DiskPlays.ret Q)) (posC palisadelaw12_DiskPlays.code []) 8 [1, 5, 7, 9, 11, 13] (palisadelaw12_DiskPlays.k8 (fun a1 a2 a3 a4 a5 a6 h => Head sg W0 221 (entered 3) (Post sg W0 (palisadelaw12_DiskPlays.ret Q)) (posC palisadelaw12_DiskPlays.code []) 8 [1, 5, 7, 9, 11, 13] [.sl a1, .ptr a2, .ptr a3, .ptr a4, .ptr a5, .int .i64 a6] h)) := cutOK_head (fun vs h hk => by unfold palisadelaw12_DiskPlays.k8 at hk; split at hk; exact hk; exact hk.elim)
    exact piece (E := palisadelaw12_DiskPlays.E U Q [(14, ([], palisadelaw12_DiskPlays.k14 (fun  h => palisadelaw12_DiskPlays.j14 U (fun a1 a2 a3 a4 a5 a6 h => Head sg W0 221 (entered 3) (Post sg W0 (palisadelaw12_DiskPlays.ret Q)) (posC palisadelaw12_DiskPlays.code []) 8 [1, 5, 7, 9, 11, 13] [.sl a1, .ptr a2, .ptr a3, .ptr a4, .ptr a5, .int .i64 a6] h)  Q h))), (31, ([1, 5, 7, 9, 11, 13, 14], palisadelaw12_DiskPlays.k31 (fun a1 a2 a3 a4 a5 a6 a7 h => palisadelaw12_DiskPlays.j31 U (fun a1 a2 a3 a4 a5 a6 h => Head sg W0 221 (entered 3) (Post sg W0 (palisadelaw12_DiskPlays.ret Q)) (posC palisadelaw12_DiskPlays.code []) 8 [1, 5, 7, 9, 11, 13] [.sl a1, .ptr a2, .ptr a3, .ptr a4, .ptr a5, .int .i64 a6] h) a1 a2 a3 a4 a5 a6 a7 Q h))), (17, ([1, 5, 7, 9, 11, 13, 14, 15, 16], palisadelaw12_DiskPlays.k17 (fun a1 a2 a3 a4 a5 a6 a7 a8 a9 h => palisadelaw12_DiskPlays.j17 U (fun a1 a2 a3 a4 a5 a6 h => Head sg W0 221 (entered 3) (Post sg W0 (palisadelaw12_DiskPlays.ret Q)) (posC palisadelaw12_DiskPlays.code []) 8 [1, 5, 7, 9, 11, 13] [.sl a1, .ptr a2, .ptr a3, .ptr a4, .ptr a5, .int .i64 a6] h) a1 a2 a3 a4 a5 a6 a7 a8 a9 Q h))), (22, ([1, 5, 7, 9, 11, 13, 14, 19], palisadelaw12_DiskPlays.k22 (fun a1 a2 a3 a4 a5 a6 a7 a8 h => palisadelaw12_DiskPlays.j22 U (fun a1 a2 a3 a4 a5 a6 h => Head sg W0 221 (entered 3) (Post sg W0 (palisadelaw12_DiskPlays.ret Q)) (posC palisadelaw12_DiskPlays.code []) 8 [1, 5, 7, 9, 11, 13] [.sl a1, .ptr a2, .ptr a3, .ptr a4, .ptr a5, .int .i64 a6] h) a1 a2 a3 a4 a5 a6 a7 a8 Q h))), (30, ([1, 5, 7, 9, 11, 13, 14], palisadelaw12_DiskPlays.k30 (fun a1 a2 a3 a4 a5 a6 a7 h => palisadelaw12_DiskPlays.j30 U (fun a1 a2 a3 a4 a5 a6 h => Head sg W0 221 (entered 3) (Post sg W0 (palisadelaw12_DiskPlays.ret Q)) (posC palisadelaw12_DiskPlays.code []) 8 [1, 5, 7, 9, 11, 13] [.sl a1, .ptr a2, .ptr a3, .ptr a4, .ptr a5, .int .i64 a6] h) a1 a2 a3 a4 a5 a6 a7 Q h))), (39, ([9, 11], palisadelaw12_DiskPlays.k39 (fun a1 a2 h => palisadelaw12_DiskPlays.j39 U  a1 a2 Q h)))]) (vs := [.sl a1, .ptr a2, .ptr a3, .ptr a4, .ptr a5, .int .i64 a6]) (envOK seatOK (palisadelaw12_DiskPlays.callsOK hU) hU) (fnOK seatOK palisadelaw12_DiskPlays.fun) ⟨(palisadelaw12_DiskPlays.s14 hU Q (fun a1 a2 a3 a4 a5 a6 h => Head sg W0 221 (entered 3) (Post sg W0 (palisadelaw12_DiskPlays.ret Q)) (posC palisadelaw12_DiskPlays.code []) 8 [1, 5, 7, 9, 11, 13] [.sl a1, .ptr a2, .ptr a3, .ptr a4, .ptr a5, .int .i64 a6] h) hself), (palisadelaw12_DiskPlays.s31 hU Q (fun a1 a2 a3 a4 a5 a6 h => Head sg W0 221 (entered 3) (Post sg W0 (palisadelaw12_DiskPlays.ret Q)) (posC palisadelaw12_DiskPlays.code []) 8 [1, 5, 7, 9, 11, 13] [.sl a1, .ptr a2, .ptr a3, .ptr a4, .ptr a5, .int .i64 a6] h) hself), (palisadelaw12_DiskPlays.s17 hU Q (fun a1 a2 a3 a4 a5 a6 h => Head sg W0 221 (entered 3) (Post sg W0 (palisadelaw12_DiskPlays.ret Q)) (posC palisadelaw12_DiskPlays.code []) 8 [1, 5, 7, 9, 11, 13] [.sl a1, .ptr a2, .ptr a3, .ptr a4, .ptr a5, .int .i64 a6] h) hself), (palisadelaw12_DiskPlays.s22 hU Q (fun a1 a2 a3 a4 a5 a6 h => Head sg W0 221 (entered 3) (Post sg W0 (palisadelaw12_DiskPlays.ret Q)) (posC palisadelaw12_DiskPlays.code []) 8 [1, 5, 7, 9, 11, 13] [.sl a1, .ptr a2, .ptr a3, .ptr a4, .ptr a5, .int .i64 a6] h) hself), (palisadelaw12_DiskPlays.s30 hU Q (fun a1 a2 a3 a4 a5 a6 h => Head sg W0 221 (entered 3) (Post sg W0 (palisadelaw12_DiskPlays.ret Q)) (posC palisadelaw12_DiskPlays.code []) 8 [1, 5, 7, 9, 11, 13] [.sl a1, .ptr a2, .ptr a3, .ptr a4, .ptr a5, .int .i64 a6] h) hself), (palisadelaw12_DiskPlays.s39 hU Q  ), trivial⟩ palisadelaw12_DiskPlays.p8 (fuel := 3000) (by rw [← palisadelaw12_DiskPlays.e8]; exact hb) hm s f hp
  · exact hk.elim

theorem palisadelaw12_DiskPlays.p5 : (posC palisadelaw12_DiskPlays.code []).filter (fun p => Nat.beq p.1 5) = [(5, atPos (posC palisadelaw12_DiskPlays.code []) 5)] := by kernel_rfl

theorem palisadelaw12_DiskPlays.e5 : ∀ (U : Ifc)  (a1 : Sl) (a2 : Option Ptr) (a3 : Int) (a4 : Option Ptr) (a5 : Int) (a6 : Option Ptr) (a7 : Int) (a8 : Option Ptr) (Q : Bool → Heap → Prop) (h : Heap), palisadelaw12_DiskPlays.j5 U  a1 a2 a3 a4 a5 a6 a7 a8 Q h = pts (palisadelaw12_DiskPlays.E U Q [(6, ([], palisadelaw12_DiskPlays.k6 (fun  h => palisadelaw12_DiskPlays.j6 U   Q h))), (8, ([1, 5, 7, 9, 11, 13], palisadelaw12_DiskPlays.k8 (fun a1 a2 a3 a4 a5 a6 h => palisadelaw12_DiskPlays.j8 U  a1 a2 a3 a4 a5 a6 Q h)))]) 3000 true (atPos (posC palisadelaw12_DiskPlays.code []) 5) (frAt [1, 5, 6, 7, 8, 9, 10, 11] [.sl a1, .ptr a2, .int .i64 a3, .ptr a4, .int .i64 a5, .ptr a6, .int .i64 a7, .ptr a8]) h := by
  intros; kernel_rfl

theorem palisadelaw12_DiskPlays.s5 {W0 : World} {U : Ifc} (hU : IfcOK sg W0 glsT U) (Q : Bool → Heap → Prop)   : CutOK sg W0 221 (entered 3) (Post sg W0 (palisadelaw12_DiskPlays.ret Q)) (posC palisadelaw12_DiskPlays.code []) 5 [1, 5, 6, 7, 8, 9, 10, 11] (palisadelaw12_DiskPlays.k5 (fun a1 a2 a3 a4 a5 a6 a7 a8 h => palisadelaw12_DiskPlays.j5 U  a1 a2 a3 a4 a5 a6 a7 a8 Q h)) := by
  refine cutOK_head (fun vs h hk => ?_)
  unfold palisadelaw12_DiskPlays.k5 at hk
  split at hk
  · rename_i a1 a2 a3 a4 a5 a6 a7 a8
    intro todo hm ρ a w s f hp
    exact piece (E := palisadelaw12_DiskPlays.E U Q [(6, ([], palisadelaw12_DiskPlays.k6 (fun  h => palisadelaw12_DiskPlays.j6 U   Q h))), (8, ([1, 5, 7, 9, 11, 13], palisadelaw12_DiskPlays.k8 (fun a1 a2 a3 a4 a5 a6 h => palisadelaw12_DiskPlays.j8 U  a1 a2 a3 a4 a5 a6 Q h)))]) (vs := [.sl a1, .ptr a2, .int .i64 a3, .ptr a4, .int .i64 a5, .ptr a6, .int .i64 a7, .ptr a8]) (envOK seatOK (palisadelaw12_DiskPlays.callsOK hU) hU) (fnOK seatOK palisadelaw12_DiskPlays.fun) ⟨(palisadelaw12_DiskPlays.s6 hU Q  ), (palisadelaw12_DiskPlays.s8 hU Q  ), trivial⟩ palisadelaw12_DiskPlays.p5 (fuel := 3000) (by rw [← palisadelaw12_DiskPlays.e5]; exact hk) hm s f hp
  · exact hk.elim

theorem palisadelaw12_DiskPlays.e : ∀ (U : Ifc) (a1 : Int) (a2 : Sl) (Q : Bool → Heap → Prop) (h : Heap), palisadelaw12_DiskPlays U a1 a2 Q h = pts (palisadelaw12_DiskPlays.E U Q [(5, ([1, 5, 6, 7, 8, 9, 10, 11], palisadelaw12_DiskPlays.k5 (fun a1 a2 a3 a4 a5 a6 a7 a8 h => palisadelaw12_DiskPlays.j5 U  a1 a2 a3 a4 a5 a6 a7 a8 Q h)))]) 3000 true [.code palisadelaw12_DiskPlays.code] (frOf 0 [.int .i64 a1, .sl a2]) h := by
  intros; kernel_rfl

theorem palisadelaw12_DiskPlays.S {W0 : World} {U : Ifc} (hU : IfcOK sg W0 glsT U) : FnS sg W0 91 (palisadelaw12_DiskPlays.C U) := by
  intro vs κ h wv hx w s
  unfold palisadelaw12_DiskPlays.C at hx
  split at hx
  · rename_i a1 a2
    refine postImp (ret := palisadelaw12_DiskPlays.ret (fun r1 h => κ (.bool r1) h)) (fun v h hr => by unfold palisadelaw12_DiskPlays.ret at hr; split at hr; exact hr; exact hr.elim) ?_
    exact calls_of_pts (E := palisadelaw12_DiskPlays.E U (fun r1 h => κ (.bool r1) h) [(5, ([1, 5, 6, 7, 8, 9, 10, 11], palisadelaw12_DiskPlays.k5 (fun a1 a2 a3 a4 a5 a6 a7 a8 h => palisadelaw12_DiskPlays.j5 U  a1 a2 a3 a4 a5 a6 a7 a8 (fun r1 h => κ (.bool r1) h) h)))]) (envOK seatOK (palisadelaw12_DiskPlays.callsOK hU) hU) seatOK.mixed palisadelaw12_DiskPlays.fun (Nat.le_of_ble_eq_true rfl) wv (cutL_ok ⟨(palisadelaw12_DiskPlays.s5 hU (fun r1 h => κ (.bool r1) h)), trivial⟩) s (fuel := 3000) (by rw [← palisadelaw12_DiskPlays.e]; exact hx)
  · exact hx.elim

noncomputable def disk_Disk_Submit_c1.code : Code := Go.Proofs.Try.f23.body.getD .skip

theorem disk_Disk_Submit_c1.fun : Fun sg.P 23 9 [.tmp 3] disk_Disk_Submit_c1.code := mkFun Go.Proofs.Try.func23 (by kernel_rfl) (by kernel_rfl) (by kernel_rfl) (by kernel_rfl)

def disk_Disk_Submit_c1.ret (Q : Bool → Heap → Prop) (v : V) (h : Heap) : Prop :=
  match v with
  | .bool r1 => Q r1 h
  | _ => False

def disk_Disk_Submit_c1.C (vs : List V) (κ : V → Heap → Prop) (h : Heap) : Prop :=
  match vs with
  | [.agg [.int .i64 a1, .bool a2, .int .i64 a3, .int .i64 a4], .ptr (some a5)] => disk_Disk_Submit_c1 a1 a2 a3 a4 a5 (fun r1 h => κ (.bool r1) h) h
  | _ => False

noncomputable def disk_Disk_Submit_c1.calls : List (Nat × (List V → (V → Heap → Prop) → Heap → Prop)) := []

noncomputable def disk_Disk_Submit_c1.E (Q : Bool → Heap → Prop) (cuts : List (Nat × (List Nat × (List V → Heap → Prop)))) : Env := { tis := tisT, fns := fnsT, tys := tysT, gls := [], rts := rtsT, unk := [], nxt := [], calls := disk_Disk_Submit_c1.calls, ifc := noIfc, cuts := cuts, ret := disk_Disk_Submit_c1.ret Q, rets := [.tmp 3], n := 9 }

theorem disk_Disk_Submit_c1.callsOK {W0 : World} : CallsOK sg W0 disk_Disk_Submit_c1.calls := trivial

theorem disk_Disk_Submit_c1.e : ∀ (a1 : Int) (a2 : Bool) (a3 : Int) (a4 : Int) (a5 : Ptr) (Q : Bool → Heap → Prop) (h : Heap), disk_Disk_Submit_c1 a1 a2 a3 a4 a5 Q h = pts (disk_Disk_Submit_c1.E Q []) 3000 true [.code disk_Disk_Submit_c1.code] (frOf 0 [.agg [.int .i64 a1, .bool a2, .int .i64 a3, .int .i64 a4], .ptr (some a5)]) h := by
  intros; kernel_rfl

theorem disk_Disk_Submit_c1.S {W0 : World} : FnS sg W0 3 disk_Disk_Submit_c1.C := by
  intro vs κ h wv hx w s
  unfold disk_Disk_Submit_c1.C at hx
  split at hx
  · rename_i a1 a2 a3 a4 a5
    refine postImp (ret := disk_Disk_Submit_c1.ret (fun r1 h => κ (.bool r1) h)) (fun v h hr => by unfold disk_Disk_Submit_c1.ret at hr; split at hr; exact hr; exact hr.elim) ?_
    exact calls_of_pts (E := disk_Disk_Submit_c1.E (fun r1 h => κ (.bool r1) h) []) (envOK seatOK disk_Disk_Submit_c1.callsOK noIfc_ok) seatOK.mixed disk_Disk_Submit_c1.fun (Nat.le_of_ble_eq_true rfl) wv (cutL_ok trivial) s (fuel := 3000) (by rw [← disk_Disk_Submit_c1.e]; exact hx)
  · exact hx.elim

noncomputable def disk_Disk_Complete_c1.code : Code := Go.Proofs.Try.f28.body.getD .skip

theorem disk_Disk_Complete_c1.fun : Fun sg.P 28 7 [.tmp 3] disk_Disk_Complete_c1.code := mkFun Go.Proofs.Try.func28 (by kernel_rfl) (by kernel_rfl) (by kernel_rfl) (by kernel_rfl)

def disk_Disk_Complete_c1.ret (Q : Bool → Heap → Prop) (v : V) (h : Heap) : Prop :=
  match v with
  | .bool r1 => Q r1 h
  | _ => False

def disk_Disk_Complete_c1.C (vs : List V) (κ : V → Heap → Prop) (h : Heap) : Prop :=
  match vs with
  | [.agg [.int .i64 a1, .bool a2, .int .i64 a3, .int .i64 a4], .ptr (some a5)] => disk_Disk_Complete_c1 a1 a2 a3 a4 a5 (fun r1 h => κ (.bool r1) h) h
  | _ => False

noncomputable def disk_Disk_Complete_c1.calls : List (Nat × (List V → (V → Heap → Prop) → Heap → Prop)) := []

noncomputable def disk_Disk_Complete_c1.E (Q : Bool → Heap → Prop) (cuts : List (Nat × (List Nat × (List V → Heap → Prop)))) : Env := { tis := tisT, fns := fnsT, tys := tysT, gls := [], rts := rtsT, unk := [], nxt := [], calls := disk_Disk_Complete_c1.calls, ifc := noIfc, cuts := cuts, ret := disk_Disk_Complete_c1.ret Q, rets := [.tmp 3], n := 7 }

theorem disk_Disk_Complete_c1.callsOK {W0 : World} : CallsOK sg W0 disk_Disk_Complete_c1.calls := trivial

theorem disk_Disk_Complete_c1.e : ∀ (a1 : Int) (a2 : Bool) (a3 : Int) (a4 : Int) (a5 : Ptr) (Q : Bool → Heap → Prop) (h : Heap), disk_Disk_Complete_c1 a1 a2 a3 a4 a5 Q h = pts (disk_Disk_Complete_c1.E Q []) 3000 true [.code disk_Disk_Complete_c1.code] (frOf 0 [.agg [.int .i64 a1, .bool a2, .int .i64 a3, .int .i64 a4], .ptr (some a5)]) h := by
  intros; kernel_rfl

theorem disk_Disk_Complete_c1.S {W0 : World} : FnS sg W0 56 disk_Disk_Complete_c1.C := by
  intro vs κ h wv hx w s
  unfold disk_Disk_Complete_c1.C at hx
  split at hx
  · rename_i a1 a2 a3 a4 a5
    refine postImp (ret := disk_Disk_Complete_c1.ret (fun r1 h => κ (.bool r1) h)) (fun v h hr => by unfold disk_Disk_Complete_c1.ret at hr; split at hr; exact hr; exact hr.elim) ?_
    exact calls_of_pts (E := disk_Disk_Complete_c1.E (fun r1 h => κ (.bool r1) h) []) (envOK seatOK disk_Disk_Complete_c1.callsOK noIfc_ok) seatOK.mixed disk_Disk_Complete_c1.fun (Nat.le_of_ble_eq_true rfl) wv (cutL_ok trivial) s (fuel := 3000) (by rw [← disk_Disk_Complete_c1.e]; exact hx)
  · exact hx.elim

noncomputable def disk_Disk_Put_c1.code : Code := Go.Proofs.Try.f30.body.getD .skip

theorem disk_Disk_Put_c1.fun : Fun sg.P 30 5 [.tmp 2] disk_Disk_Put_c1.code := mkFun Go.Proofs.Try.func30 (by kernel_rfl) (by kernel_rfl) (by kernel_rfl) (by kernel_rfl)

def disk_Disk_Put_c1.ret (Q : Bool → Heap → Prop) (v : V) (h : Heap) : Prop :=
  match v with
  | .bool r1 => Q r1 h
  | _ => False

def disk_Disk_Put_c1.C (vs : List V) (κ : V → Heap → Prop) (h : Heap) : Prop :=
  match vs with
  | [.int .u8 a1] => disk_Disk_Put_c1 a1 (fun r1 h => κ (.bool r1) h) h
  | _ => False

noncomputable def disk_Disk_Put_c1.calls : List (Nat × (List V → (V → Heap → Prop) → Heap → Prop)) := []

noncomputable def disk_Disk_Put_c1.E (Q : Bool → Heap → Prop) (cuts : List (Nat × (List Nat × (List V → Heap → Prop)))) : Env := { tis := tisT, fns := fnsT, tys := tysT, gls := [], rts := rtsT, unk := [], nxt := [], calls := disk_Disk_Put_c1.calls, ifc := noIfc, cuts := cuts, ret := disk_Disk_Put_c1.ret Q, rets := [.tmp 2], n := 5 }

theorem disk_Disk_Put_c1.callsOK {W0 : World} : CallsOK sg W0 disk_Disk_Put_c1.calls := trivial

theorem disk_Disk_Put_c1.e : ∀ (a1 : Int) (Q : Bool → Heap → Prop) (h : Heap), disk_Disk_Put_c1 a1 Q h = pts (disk_Disk_Put_c1.E Q []) 3000 true [.code disk_Disk_Put_c1.code] (frOf 0 [.int .u8 a1]) h := by
  intros; kernel_rfl

theorem disk_Disk_Put_c1.S {W0 : World} : FnS sg W0 57 disk_Disk_Put_c1.C := by
  intro vs κ h wv hx w s
  unfold disk_Disk_Put_c1.C at hx
  split at hx
  · rename_i a1
    refine postImp (ret := disk_Disk_Put_c1.ret (fun r1 h => κ (.bool r1) h)) (fun v h hr => by unfold disk_Disk_Put_c1.ret at hr; split at hr; exact hr; exact hr.elim) ?_
    exact calls_of_pts (E := disk_Disk_Put_c1.E (fun r1 h => κ (.bool r1) h) []) (envOK seatOK disk_Disk_Put_c1.callsOK noIfc_ok) seatOK.mixed disk_Disk_Put_c1.fun (Nat.le_of_ble_eq_true rfl) wv (cutL_ok trivial) s (fuel := 3000) (by rw [← disk_Disk_Put_c1.e]; exact hx)
  · exact hx.elim

end Go.Fn
