/- The links of the shallow functions to the machine. PRINTED by lift.py. -/
import Derived.Test.YtgfnnjnmomifjaaDoorGa
set_option linter.unusedVariables false
set_option maxRecDepth 100000
namespace Go.Fn
open Go.Lift

noncomputable def mem_New.code : Code := Go.Proofs.Tryd.f38.body.getD .skip

theorem mem_New.fun : Fun sg.P 38 15 [.tmp 2, .tmp 3] mem_New.code := mkFun Go.Proofs.Tryd.func38 (by kernel_rfl) (by kernel_rfl) (by kernel_rfl) (by kernel_rfl)

def mem_New.ret (Q : (Option Ptr) → Int → Heap → Prop) (v : V) (h : Heap) : Prop :=
  match v with
  | .tup [.ptr r1, .int .i64 r2] => Q r1 r2 h
  | _ => False

def mem_New.C (vs : List V) (κ : V → Heap → Prop) (h : Heap) : Prop :=
  match vs with
  | [.int .i64 a1] => mem_New a1 (fun r1 r2 h => κ (.tup [.ptr r1, .int .i64 r2]) h) h
  | _ => False

noncomputable def mem_New.calls : List (Nat × (List V → (V → Heap → Prop) → Heap → Prop)) := []

noncomputable def mem_New.E (Q : (Option Ptr) → Int → Heap → Prop) (cuts : List (Nat × (List Nat × (List V → Heap → Prop)))) : Env := { tis := tisT, fns := fnsT, tys := tysT, gls := [], rts := rtsT, unk := [], nxt := [], calls := mem_New.calls, ifc := noIfc, cuts := cuts, ret := mem_New.ret Q, rets := [.tmp 2, .tmp 3], n := 15 }

theorem mem_New.callsOK {W0 : World} : CallsOK sg W0 mem_New.calls := trivial

theorem mem_New.e : ∀ (a1 : Int) (Q : (Option Ptr) → Int → Heap → Prop) (h : Heap), mem_New a1 Q h = pts (mem_New.E Q []) 3000 true [.code mem_New.code] (frOf 0 [.int .i64 a1]) h := by
  intros; kernel_rfl

theorem mem_New.S {W0 : World} : FnS sg W0 28 mem_New.C := by
  intro vs κ h wv hx w s
  unfold mem_New.C at hx
  split at hx
  · rename_i a1
    refine postImp (ret := mem_New.ret (fun r1 r2 h => κ (.tup [.ptr r1, .int .i64 r2]) h)) (fun v h hr => by unfold mem_New.ret at hr; split at hr; exact hr; exact hr.elim) ?_
    exact calls_of_pts (E := mem_New.E (fun r1 r2 h => κ (.tup [.ptr r1, .int .i64 r2]) h) []) (envOK seatOK mem_New.callsOK noIfc_ok) seatOK.mixed mem_New.fun (Nat.le_of_ble_eq_true rfl) wv (cutL_ok trivial) s (fuel := 3000) (by rw [← mem_New.e]; exact hx)
  · exact hx.elim

noncomputable def frames_New.code : Code := Go.Proofs.Tryd.f39.body.getD .skip

theorem frames_New.fun : Fun sg.P 39 57 [.tmp 4, .tmp 5] frames_New.code := mkFun Go.Proofs.Tryd.func39 (by kernel_rfl) (by kernel_rfl) (by kernel_rfl) (by kernel_rfl)

def frames_New.ret (Q : (Option Ptr) → Int → Heap → Prop) (v : V) (h : Heap) : Prop :=
  match v with
  | .tup [.ptr r1, .int .i64 r2] => Q r1 r2 h
  | _ => False

def frames_New.C (vs : List V) (κ : V → Heap → Prop) (h : Heap) : Prop :=
  match vs with
  | [.int .i64 a1, .int .i64 a2] => frames_New a1 a2 (fun r1 r2 h => κ (.tup [.ptr r1, .int .i64 r2]) h) h
  | _ => False

noncomputable def frames_New.calls : List (Nat × (List V → (V → Heap → Prop) → Heap → Prop)) := []

noncomputable def frames_New.E (Q : (Option Ptr) → Int → Heap → Prop) (cuts : List (Nat × (List Nat × (List V → Heap → Prop)))) : Env := { tis := tisT, fns := fnsT, tys := tysT, gls := [], rts := rtsT, unk := [], nxt := [], calls := frames_New.calls, ifc := noIfc, cuts := cuts, ret := frames_New.ret Q, rets := [.tmp 4, .tmp 5], n := 57 }

theorem frames_New.callsOK {W0 : World} : CallsOK sg W0 frames_New.calls := trivial

def frames_New.k2 (I : Heap → Prop) (vs : List V) (h : Heap) : Prop :=
  match vs with
  | [] => I  h
  | _ => False

def frames_New.k11 (I : Int → Ptr → Int → Heap → Prop) (vs : List V) (h : Heap) : Prop :=
  match vs with
  | [.int .i64 a1, .ptr (some a2), .int .i64 a3] => I a1 a2 a3 h
  | _ => False

def frames_New.k5 (I : Int → Int → Ptr → Int → Int → Heap → Prop) (vs : List V) (h : Heap) : Prop :=
  match vs with
  | [.int .i64 a1, .int .i64 a2, .ptr (some a3), .int .i64 a4, .int .i64 a5] => I a1 a2 a3 a4 a5 h
  | _ => False

def frames_New.k4 (I : Int → Int → Ptr → Heap → Prop) (vs : List V) (h : Heap) : Prop :=
  match vs with
  | [.int .i64 a1, .int .i64 a2, .ptr (some a3)] => I a1 a2 a3 h
  | _ => False

theorem frames_New.p2 : (posC frames_New.code []).filter (fun p => Nat.beq p.1 2) = [(2, atPos (posC frames_New.code []) 2)] := by kernel_rfl

theorem frames_New.e2 : ∀   (Q : (Option Ptr) → Int → Heap → Prop) (h : Heap), frames_New.j2   Q h = pts (frames_New.E Q []) 3000 true (atPos (posC frames_New.code []) 2) (frAt [] []) h := by
  intros; kernel_rfl

theorem frames_New.s2 {W0 : World} (Q : (Option Ptr) → Int → Heap → Prop)   : CutOK sg W0 57 (entered 39) (Post sg W0 (frames_New.ret Q)) (posC frames_New.code []) 2 [] (frames_New.k2 (fun  h => frames_New.j2   Q h)) := by
  refine cutOK_head (fun vs h hk => ?_)
  unfold frames_New.k2 at hk
  split at hk
  · skip
    intro todo hm ρ a w s f hp
    exact piece (E := frames_New.E Q []) (vs := []) (envOK seatOK frames_New.callsOK noIfc_ok) (fnOK seatOK frames_New.fun) trivial frames_New.p2 (fuel := 3000) (by rw [← frames_New.e2]; exact hk) hm s f hp
  · exact hk.elim

theorem frames_New.p11 : (posC frames_New.code []).filter (fun p => Nat.beq p.1 11) = [(11, atPos (posC frames_New.code []) 11)] := by kernel_rfl

theorem frames_New.e11 : ∀  (I11 : Int → Ptr → Int → Heap → Prop) (a1 : Int) (a2 : Ptr) (a3 : Int) (Q : (Option Ptr) → Int → Heap → Prop) (h : Heap), frames_New.b11  I11 a1 a2 a3 Q h = pts (frames_New.E Q [(11, ([0, 6, 46], frames_New.k11 I11))]) 3000 true (atPos (posC frames_New.code []) 11) (frAt [0, 6, 46] [.int .i64 a1, .ptr (some a2), .int .i64 a3]) h := by
  intros; kernel_rfl

theorem frames_New.s11 {W0 : World} (Q : (Option Ptr) → Int → Heap → Prop)   : CutOK sg W0 57 (entered 39) (Post sg W0 (frames_New.ret Q)) (posC frames_New.code []) 11 [0, 6, 46] (frames_New.k11 (fun a1 a2 a3 h => frames_New.j11  a1 a2 a3 Q h)) := by
  refine cutOK_head (fun vs h hk => ?_)
  unfold frames_New.k11 at hk
  split at hk
  · rename_i a1 a2 a3
    refine hk (fun a1 a2 a3 h => Head sg W0 57 (entered 39) (Post sg W0 (frames_New.ret Q)) (posC frames_New.code []) 11 [0, 6, 46] [.int .i64 a1, .ptr (some a2), .int .i64 a3] h) ?_
    intro a1 a2 a3 h hb todo hm ρ a w s f hp
    have hself : CutOK sg W0 57 (entered 39) (Post sg W0 (frames_New.ret Q)) (posC frames_New.code []) 11 [0, 6, 46] (frames_New.k11 (fun a1 a2 a3 h => Head sg W0 57 (entered 39) (Post sg W0 (frames_New.ret Q)) (posC frames_New.code []) 11 [0, 6, 46] [.int .i64 a1, .ptr (some a2), .int .i64 a3] h)) := cutOK_head (fun vs h hk => by unfold frames_New.k11 at hk; split at hk; exact hk; exact hk.elim)
    exact piece (E := frames_New.E Q [(11, ([0, 6, 46], frames_New.k11 (fun a1 a2 a3 h => Head sg W0 57 (entered 39) (Post sg W0 (frames_New.ret Q)) (posC frames_New.code []) 11 [0, 6, 46] [.int .i64 a1, .ptr (some a2), .int .i64 a3] h)))]) (vs := [.int .i64 a1, .ptr (some a2), .int .i64 a3]) (envOK seatOK frames_New.callsOK noIfc_ok) (fnOK seatOK frames_New.fun) ⟨hself, trivial⟩ frames_New.p11 (fuel := 3000) (by rw [← frames_New.e11]; exact hb) hm s f hp
  · exact hk.elim

theorem frames_New.p5 : (posC frames_New.code []).filter (fun p => Nat.beq p.1 5) = [(5, atPos (posC frames_New.code []) 5)] := by kernel_rfl

theorem frames_New.e5 : ∀  (I5 : Int → Int → Ptr → Int → Int → Heap → Prop) (a1 : Int) (a2 : Int) (a3 : Ptr) (a4 : Int) (a5 : Int) (Q : (Option Ptr) → Int → Heap → Prop) (h : Heap), frames_New.b5  I5 a1 a2 a3 a4 a5 Q h = pts (frames_New.E Q [(5, ([0, 1, 6, 31, 32], frames_New.k5 I5)), (11, ([0, 6, 46], frames_New.k11 (fun a1 a2 a3 h => frames_New.j11  a1 a2 a3 Q h)))]) 3000 true (atPos (posC frames_New.code []) 5) (frAt [0, 1, 6, 31, 32] [.int .i64 a1, .int .i64 a2, .ptr (some a3), .int .i64 a4, .int .i64 a5]) h := by
  intros; kernel_rfl

theorem frames_New.s5 {W0 : World} (Q : (Option Ptr) → Int → Heap → Prop)   : CutOK sg W0 57 (entered 39) (Post sg W0 (frames_New.ret Q)) (posC frames_New.code []) 5 [0, 1, 6, 31, 32] (frames_New.k5 (fun a1 a2 a3 a4 a5 h => frames_New.j5  a1 a2 a3 a4 a5 Q h)) := by
  refine cutOK_head (fun vs h hk => ?_)
  unfold frames_New.k5 at hk
  split at hk
  · rename_i a1 a2 a3 a4 a5
    refine hk (fun a1 a2 a3 a4 a5 h => Head sg W0 57 (entered 39) (Post sg W0 (frames_New.ret Q)) (posC frames_New.code []) 5 [0, 1, 6, 31, 32] [.int .i64 a1, .int .i64 a2, .ptr (some a3), .int .i64 a4, .int .i64 a5] h) ?_
    intro a1 a2 a3 a4 a5 h hb todo hm ρ a w s f hp
    have hself : CutOK sg W0 57 (entered 39) (Post sg W0 (frames_New.ret Q)) (posC frames_New.code []) 5 [0, 1, 6, 31, 32] (frames_New.k5 (fun a1 a2 a3 a4 a5 h => Head sg W0 57 (entered 39) (Post sg W0 (frames_New.ret Q)) (posC frames_New.code []) 5 [0, 1, 6, 31, 32] [.int .i64 a1, .int .i64 a2, .ptr (some a3), .int .i64 a4, .int .i64 a5] h)) := cutOK_head (fun vs h hk => by unfold frames_New.k5 at hk; split at hk; exact hk; exact hk.elim)
    exact piece (E := frames_New.E Q [(5, ([0, 1, 6, 31, 32], frames_New.k5 (fun a1 a2 a3 a4 a5 h => Head sg W0 57 (entered 39) (Post sg W0 (frames_New.ret Q)) (posC frames_New.code []) 5 [0, 1, 6, 31, 32] [.int .i64 a1, .int .i64 a2, .ptr (some a3), .int .i64 a4, .int .i64 a5] h))), (11, ([0, 6, 46], frames_New.k11 (fun a1 a2 a3 h => frames_New.j11  a1 a2 a3 Q h)))]) (vs := [.int .i64 a1, .int .i64 a2, .ptr (some a3), .int .i64 a4, .int .i64 a5]) (envOK seatOK frames_New.callsOK noIfc_ok) (fnOK seatOK frames_New.fun) ⟨hself, (frames_New.s11 Q  ), trivial⟩ frames_New.p5 (fuel := 3000) (by rw [← frames_New.e5]; exact hb) hm s f hp
  · exact hk.elim

theorem frames_New.p4 : (posC frames_New.code []).filter (fun p => Nat.beq p.1 4) = [(4, atPos (posC frames_New.code []) 4)] := by kernel_rfl

theorem frames_New.e4 : ∀  (a1 : Int) (a2 : Int) (a3 : Ptr) (Q : (Option Ptr) → Int → Heap → Prop) (h : Heap), frames_New.j4  a1 a2 a3 Q h = pts (frames_New.E Q [(5, ([0, 1, 6, 31, 32], frames_New.k5 (fun a1 a2 a3 a4 a5 h => frames_New.j5  a1 a2 a3 a4 a5 Q h)))]) 3000 true (atPos (posC frames_New.code []) 4) (frAt [0, 1, 6] [.int .i64 a1, .int .i64 a2, .ptr (some a3)]) h := by
  intros; kernel_rfl

theorem frames_New.s4 {W0 : World} (Q : (Option Ptr) → Int → Heap → Prop)   : CutOK sg W0 57 (entered 39) (Post sg W0 (frames_New.ret Q)) (posC frames_New.code []) 4 [0, 1, 6] (frames_New.k4 (fun a1 a2 a3 h => frames_New.j4  a1 a2 a3 Q h)) := by
  refine cutOK_head (fun vs h hk => ?_)
  unfold frames_New.k4 at hk
  split at hk
  · rename_i a1 a2 a3
    intro todo hm ρ a w s f hp
    exact piece (E := frames_New.E Q [(5, ([0, 1, 6, 31, 32], frames_New.k5 (fun a1 a2 a3 a4 a5 h => frames_New.j5  a1 a2 a3 a4 a5 Q h)))]) (vs := [.int .i64 a1, .int .i64 a2, .ptr (some a3)]) (envOK seatOK frames_New.callsOK noIfc_ok) (fnOK seatOK frames_New.fun) ⟨(frames_New.s5 Q  ), trivial⟩ frames_New.p4 (fuel := 3000) (by rw [← frames_New.e4]; exact hk) hm s f hp
  · exact hk.elim

theorem frames_New.e : ∀ (a1 : Int) (a2 : Int) (Q : (Option Ptr) → Int → Heap → Prop) (h : Heap), frames_New a1 a2 Q h = pts (frames_New.E Q [(2, ([], frames_New.k2 (fun  h => frames_New.j2   Q h))), (4, ([0, 1, 6], frames_New.k4 (fun a1 a2 a3 h => frames_New.j4  a1 a2 a3 Q h)))]) 3000 true [.code frames_New.code] (frOf 0 [.int .i64 a1, .int .i64 a2]) h := by
  intros; kernel_rfl

theorem frames_New.S {W0 : World} : FnS sg W0 259 frames_New.C := by
  intro vs κ h wv hx w s
  unfold frames_New.C at hx
  split at hx
  · rename_i a1 a2
    refine postImp (ret := frames_New.ret (fun r1 r2 h => κ (.tup [.ptr r1, .int .i64 r2]) h)) (fun v h hr => by unfold frames_New.ret at hr; split at hr; exact hr; exact hr.elim) ?_
    exact calls_of_pts (E := frames_New.E (fun r1 r2 h => κ (.tup [.ptr r1, .int .i64 r2]) h) [(2, ([], frames_New.k2 (fun  h => frames_New.j2   (fun r1 r2 h => κ (.tup [.ptr r1, .int .i64 r2]) h) h))), (4, ([0, 1, 6], frames_New.k4 (fun a1 a2 a3 h => frames_New.j4  a1 a2 a3 (fun r1 r2 h => κ (.tup [.ptr r1, .int .i64 r2]) h) h)))]) (envOK seatOK frames_New.callsOK noIfc_ok) seatOK.mixed frames_New.fun (Nat.le_of_ble_eq_true rfl) wv (cutL_ok ⟨(frames_New.s2 (fun r1 r2 h => κ (.tup [.ptr r1, .int .i64 r2]) h)), (frames_New.s4 (fun r1 r2 h => κ (.tup [.ptr r1, .int .i64 r2]) h)), trivial⟩) s (fuel := 3000) (by rw [← frames_New.e]; exact hx)
  · exact hx.elim

noncomputable def disk_New.code : Code := Go.Proofs.Tryd.f40.body.getD .skip

theorem disk_New.fun : Fun sg.P 40 14 [.tmp 2, .tmp 3] disk_New.code := mkFun Go.Proofs.Tryd.func40 (by kernel_rfl) (by kernel_rfl) (by kernel_rfl) (by kernel_rfl)

def disk_New.ret (Q : (Option Ptr) → Int → Heap → Prop) (v : V) (h : Heap) : Prop :=
  match v with
  | .tup [.ptr r1, .int .i64 r2] => Q r1 r2 h
  | _ => False

def disk_New.C (vs : List V) (κ : V → Heap → Prop) (h : Heap) : Prop :=
  match vs with
  | [.int .i64 a1] => disk_New a1 (fun r1 r2 h => κ (.tup [.ptr r1, .int .i64 r2]) h) h
  | _ => False

noncomputable def disk_New.calls : List (Nat × (List V → (V → Heap → Prop) → Heap → Prop)) := []

noncomputable def disk_New.E (Q : (Option Ptr) → Int → Heap → Prop) (cuts : List (Nat × (List Nat × (List V → Heap → Prop)))) : Env := { tis := tisT, fns := fnsT, tys := tysT, gls := [], rts := rtsT, unk := [], nxt := [], calls := disk_New.calls, ifc := noIfc, cuts := cuts, ret := disk_New.ret Q, rets := [.tmp 2, .tmp 3], n := 14 }

theorem disk_New.callsOK {W0 : World} : CallsOK sg W0 disk_New.calls := trivial

theorem disk_New.e : ∀ (a1 : Int) (Q : (Option Ptr) → Int → Heap → Prop) (h : Heap), disk_New a1 Q h = pts (disk_New.E Q []) 3000 true [.code disk_New.code] (frOf 0 [.int .i64 a1]) h := by
  intros; kernel_rfl

theorem disk_New.S {W0 : World} : FnS sg W0 85 disk_New.C := by
  intro vs κ h wv hx w s
  unfold disk_New.C at hx
  split at hx
  · rename_i a1
    refine postImp (ret := disk_New.ret (fun r1 r2 h => κ (.tup [.ptr r1, .int .i64 r2]) h)) (fun v h hr => by unfold disk_New.ret at hr; split at hr; exact hr; exact hr.elim) ?_
    exact calls_of_pts (E := disk_New.E (fun r1 r2 h => κ (.tup [.ptr r1, .int .i64 r2]) h) []) (envOK seatOK disk_New.callsOK noIfc_ok) seatOK.mixed disk_New.fun (Nat.le_of_ble_eq_true rfl) wv (cutL_ok trivial) s (fuel := 3000) (by rw [← disk_New.e]; exact hx)
  · exact hx.elim

noncomputable def frames_Frames_none.code : Code := Go.Proofs.Tryd.f62.body.getD .skip

theorem frames_Frames_none.fun : Fun sg.P 62 12 [.tmp 2] frames_Frames_none.code := mkFun Go.Proofs.Tryd.func62 (by kernel_rfl) (by kernel_rfl) (by kernel_rfl) (by kernel_rfl)

def frames_Frames_none.ret (Q : Bool → Heap → Prop) (v : V) (h : Heap) : Prop :=
  match v with
  | .bool r1 => Q r1 h
  | _ => False

def frames_Frames_none.C (vs : List V) (κ : V → Heap → Prop) (h : Heap) : Prop :=
  match vs with
  | [.ptr a1] => frames_Frames_none a1 (fun r1 h => κ (.bool r1) h) h
  | _ => False

noncomputable def frames_Frames_none.calls : List (Nat × (List V → (V → Heap → Prop) → Heap → Prop)) := []

noncomputable def frames_Frames_none.E (Q : Bool → Heap → Prop) (cuts : List (Nat × (List Nat × (List V → Heap → Prop)))) : Env := { tis := tisT, fns := fnsT, tys := tysT, gls := [], rts := rtsT, unk := [], nxt := [], calls := frames_Frames_none.calls, ifc := noIfc, cuts := cuts, ret := frames_Frames_none.ret Q, rets := [.tmp 2], n := 12 }

theorem frames_Frames_none.callsOK {W0 : World} : CallsOK sg W0 frames_Frames_none.calls := trivial

theorem frames_Frames_none.e : ∀ (a1 : Option Ptr) (Q : Bool → Heap → Prop) (h : Heap), frames_Frames_none a1 Q h = pts (frames_Frames_none.E Q []) 3000 true [.code frames_Frames_none.code] (frOf 0 [.ptr a1]) h := by
  intros; kernel_rfl

theorem frames_Frames_none.S {W0 : World} : FnS sg W0 260 frames_Frames_none.C := by
  intro vs κ h wv hx w s
  unfold frames_Frames_none.C at hx
  split at hx
  · rename_i a1
    refine postImp (ret := frames_Frames_none.ret (fun r1 h => κ (.bool r1) h)) (fun v h hr => by unfold frames_Frames_none.ret at hr; split at hr; exact hr; exact hr.elim) ?_
    exact calls_of_pts (E := frames_Frames_none.E (fun r1 h => κ (.bool r1) h) []) (envOK seatOK frames_Frames_none.callsOK noIfc_ok) seatOK.mixed frames_Frames_none.fun (Nat.le_of_ble_eq_true rfl) wv (cutL_ok trivial) s (fuel := 3000) (by rw [← frames_Frames_none.e]; exact hx)
  · exact hx.elim

noncomputable def frames_isOwner.code : Code := Go.Proofs.Tryd.f79.body.getD .skip

theorem frames_isOwner.fun : Fun sg.P 79 9 [.tmp 2] frames_isOwner.code := mkFun Go.Proofs.Tryd.func79 (by kernel_rfl) (by kernel_rfl) (by kernel_rfl) (by kernel_rfl)

def frames_isOwner.ret (Q : Bool → Heap → Prop) (v : V) (h : Heap) : Prop :=
  match v with
  | .bool r1 => Q r1 h
  | _ => False

def frames_isOwner.C (vs : List V) (κ : V → Heap → Prop) (h : Heap) : Prop :=
  match vs with
  | [.int .i64 a1] => frames_isOwner a1 (fun r1 h => κ (.bool r1) h) h
  | _ => False

noncomputable def frames_isOwner.calls : List (Nat × (List V → (V → Heap → Prop) → Heap → Prop)) := []

noncomputable def frames_isOwner.E (Q : Bool → Heap → Prop) (cuts : List (Nat × (List Nat × (List V → Heap → Prop)))) : Env := { tis := tisT, fns := fnsT, tys := tysT, gls := [], rts := rtsT, unk := [], nxt := [], calls := frames_isOwner.calls, ifc := noIfc, cuts := cuts, ret := frames_isOwner.ret Q, rets := [.tmp 2], n := 9 }

theorem frames_isOwner.callsOK {W0 : World} : CallsOK sg W0 frames_isOwner.calls := trivial

theorem frames_isOwner.e : ∀ (a1 : Int) (Q : Bool → Heap → Prop) (h : Heap), frames_isOwner a1 Q h = pts (frames_isOwner.E Q []) 3000 true [.code frames_isOwner.code] (frOf 0 [.int .i64 a1]) h := by
  intros; kernel_rfl

theorem frames_isOwner.S {W0 : World} : FnS sg W0 261 frames_isOwner.C := by
  intro vs κ h wv hx w s
  unfold frames_isOwner.C at hx
  split at hx
  · rename_i a1
    refine postImp (ret := frames_isOwner.ret (fun r1 h => κ (.bool r1) h)) (fun v h hr => by unfold frames_isOwner.ret at hr; split at hr; exact hr; exact hr.elim) ?_
    exact calls_of_pts (E := frames_isOwner.E (fun r1 h => κ (.bool r1) h) []) (envOK seatOK frames_isOwner.callsOK noIfc_ok) seatOK.mixed frames_isOwner.fun (Nat.le_of_ble_eq_true rfl) wv (cutL_ok trivial) s (fuel := 3000) (by rw [← frames_isOwner.e]; exact hx)
  · exact hx.elim

noncomputable def frames_Frames_owned.code : Code := Go.Proofs.Tryd.f80.body.getD .skip

theorem frames_Frames_owned.fun : Fun sg.P 80 19 [.tmp 4] frames_Frames_owned.code := mkFun Go.Proofs.Tryd.func80 (by kernel_rfl) (by kernel_rfl) (by kernel_rfl) (by kernel_rfl)

def frames_Frames_owned.ret (Q : Int → Heap → Prop) (v : V) (h : Heap) : Prop :=
  match v with
  | .int .i64 r1 => Q r1 h
  | _ => False

def frames_Frames_owned.C (vs : List V) (κ : V → Heap → Prop) (h : Heap) : Prop :=
  match vs with
  | [.ptr a1, .sl a2] => frames_Frames_owned a1 a2 (fun r1 h => κ (.int .i64 r1) h) h
  | _ => False

noncomputable def frames_Frames_owned.calls : List (Nat × (List V → (V → Heap → Prop) → Heap → Prop)) := [(260, frames_Frames_none.C), (261, frames_isOwner.C)]

noncomputable def frames_Frames_owned.E (Q : Int → Heap → Prop) (cuts : List (Nat × (List Nat × (List V → Heap → Prop)))) : Env := { tis := tisT, fns := fnsT, tys := tysT, gls := [], rts := rtsT, unk := [], nxt := [], calls := frames_Frames_owned.calls, ifc := noIfc, cuts := cuts, ret := frames_Frames_owned.ret Q, rets := [.tmp 4], n := 19 }

theorem frames_Frames_owned.callsOK {W0 : World} : CallsOK sg W0 frames_Frames_owned.calls := ⟨frames_Frames_none.S, frames_isOwner.S, trivial⟩

def frames_Frames_owned.k4 (I : Sl → Int → Int → Heap → Prop) (vs : List V) (h : Heap) : Prop :=
  match vs with
  | [.sl a1, .int .i64 a2, .int .i64 a3] => I a1 a2 a3 h
  | _ => False

theorem frames_Frames_owned.p4 : (posC frames_Frames_owned.code []).filter (fun p => Nat.beq p.1 4) = [(4, atPos (posC frames_Frames_owned.code []) 4)] := by kernel_rfl

theorem frames_Frames_owned.e4 : ∀  (I4 : Sl → Int → Int → Heap → Prop) (a1 : Sl) (a2 : Int) (a3 : Int) (Q : Int → Heap → Prop) (h : Heap), frames_Frames_owned.b4  I4 a1 a2 a3 Q h = pts (frames_Frames_owned.E Q [(4, ([9, 10, 11], frames_Frames_owned.k4 I4))]) 3000 true (atPos (posC frames_Frames_owned.code []) 4) (frAt [9, 10, 11] [.sl a1, .int .i64 a2, .int .i64 a3]) h := by
  intros; kernel_rfl

theorem frames_Frames_owned.s4 {W0 : World} (Q : Int → Heap → Prop)   : CutOK sg W0 19 (entered 80) (Post sg W0 (frames_Frames_owned.ret Q)) (posC frames_Frames_owned.code []) 4 [9, 10, 11] (frames_Frames_owned.k4 (fun a1 a2 a3 h => frames_Frames_owned.j4  a1 a2 a3 Q h)) := by
  refine cutOK_head (fun vs h hk => ?_)
  unfold frames_Frames_owned.k4 at hk
  split at hk
  · rename_i a1 a2 a3
    refine hk (fun a1 a2 a3 h => Head sg W0 19 (entered 80) (Post sg W0 (frames_Frames_owned.ret Q)) (posC frames_Frames_owned.code []) 4 [9, 10, 11] [.sl a1, .int .i64 a2, .int .i64 a3] h) ?_
    intro a1 a2 a3 h hb todo hm ρ a w s f hp
    have hself : CutOK sg W0 19 (entered 80) (Post sg W0 (frames_Frames_owned.ret Q)) (posC frames_Frames_owned.code []) 4 [9, 10, 11] (frames_Frames_owned.k4 (fun a1 a2 a3 h => Head sg W0 19 (entered 80) (Post sg W0 (frames_Frames_owned.ret Q)) (posC frames_Frames_owned.code []) 4 [9, 10, 11] [.sl a1, .int .i64 a2, .int .i64 a3] h)) := cutOK_head (fun vs h hk => by unfold frames_Frames_owned.k4 at hk; split at hk; exact hk; exact hk.elim)
    exact piece (E := frames_Frames_owned.E Q [(4, ([9, 10, 11], frames_Frames_owned.k4 (fun a1 a2 a3 h => Head sg W0 19 (entered 80) (Post sg W0 (frames_Frames_owned.ret Q)) (posC frames_Frames_owned.code []) 4 [9, 10, 11] [.sl a1, .int .i64 a2, .int .i64 a3] h)))]) (vs := [.sl a1, .int .i64 a2, .int .i64 a3]) (envOK seatOK frames_Frames_owned.callsOK noIfc_ok) (fnOK seatOK frames_Frames_owned.fun) ⟨hself, trivial⟩ frames_Frames_owned.p4 (fuel := 3000) (by rw [← frames_Frames_owned.e4]; exact hb) hm s f hp
  · exact hk.elim

theorem frames_Frames_owned.e : ∀ (a1 : Option Ptr) (a2 : Sl) (Q : Int → Heap → Prop) (h : Heap), frames_Frames_owned a1 a2 Q h = pts (frames_Frames_owned.E Q [(4, ([9, 10, 11], frames_Frames_owned.k4 (fun a1 a2 a3 h => frames_Frames_owned.j4  a1 a2 a3 Q h)))]) 3000 true [.code frames_Frames_owned.code] (frOf 0 [.ptr a1, .sl a2]) h := by
  intros; kernel_rfl

theorem frames_Frames_owned.S {W0 : World} : FnS sg W0 262 frames_Frames_owned.C := by
  intro vs κ h wv hx w s
  unfold frames_Frames_owned.C at hx
  split at hx
  · rename_i a1 a2
    refine postImp (ret := frames_Frames_owned.ret (fun r1 h => κ (.int .i64 r1) h)) (fun v h hr => by unfold frames_Frames_owned.ret at hr; split at hr; exact hr; exact hr.elim) ?_
    exact calls_of_pts (E := frames_Frames_owned.E (fun r1 h => κ (.int .i64 r1) h) [(4, ([9, 10, 11], frames_Frames_owned.k4 (fun a1 a2 a3 h => frames_Frames_owned.j4  a1 a2 a3 (fun r1 h => κ (.int .i64 r1) h) h)))]) (envOK seatOK frames_Frames_owned.callsOK noIfc_ok) seatOK.mixed frames_Frames_owned.fun (Nat.le_of_ble_eq_true rfl) wv (cutL_ok ⟨(frames_Frames_owned.s4 (fun r1 h => κ (.int .i64 r1) h)), trivial⟩) s (fuel := 3000) (by rw [← frames_Frames_owned.e]; exact hx)
  · exact hx.elim

noncomputable def frames_Frames_Alloc.code : Code := Go.Proofs.Tryd.f41.body.getD .skip

theorem frames_Frames_Alloc.fun : Fun sg.P 41 101 [.tmp 4, .tmp 5] frames_Frames_Alloc.code := mkFun Go.Proofs.Tryd.func41 (by kernel_rfl) (by kernel_rfl) (by kernel_rfl) (by kernel_rfl)

def frames_Frames_Alloc.ret (Q : Int → Int → Heap → Prop) (v : V) (h : Heap) : Prop :=
  match v with
  | .tup [.int .i64 r1, .int .i64 r2] => Q r1 r2 h
  | _ => False

def frames_Frames_Alloc.C (vs : List V) (κ : V → Heap → Prop) (h : Heap) : Prop :=
  match vs with
  | [.ptr a1, .int .i64 a2] => frames_Frames_Alloc a1 a2 (fun r1 r2 h => κ (.tup [.int .i64 r1, .int .i64 r2]) h) h
  | _ => False

noncomputable def frames_Frames_Alloc.calls : List (Nat × (List V → (V → Heap → Prop) → Heap → Prop)) := [(262, frames_Frames_owned.C)]

noncomputable def frames_Frames_Alloc.E (Q : Int → Int → Heap → Prop) (cuts : List (Nat × (List Nat × (List V → Heap → Prop)))) : Env := { tis := tisT, fns := fnsT, tys := tysT, gls := [], rts := rtsT, unk := [], nxt := [], calls := frames_Frames_Alloc.calls, ifc := noIfc, cuts := cuts, ret := frames_Frames_Alloc.ret Q, rets := [.tmp 4, .tmp 5], n := 101 }

theorem frames_Frames_Alloc.callsOK {W0 : World} : CallsOK sg W0 frames_Frames_Alloc.calls := ⟨frames_Frames_owned.S, trivial⟩

def frames_Frames_Alloc.k11 (I : (Option Ptr) → Int → Heap → Prop) (vs : List V) (h : Heap) : Prop :=
  match vs with
  | [.ptr a1, .int .i64 a2] => I a1 a2 h
  | _ => False

def frames_Frames_Alloc.k8 (I : (Option Ptr) → Int → Heap → Prop) (vs : List V) (h : Heap) : Prop :=
  match vs with
  | [.ptr a1, .int .i64 a2] => I a1 a2 h
  | _ => False

def frames_Frames_Alloc.k6 (I : (Option Ptr) → Int → Heap → Prop) (vs : List V) (h : Heap) : Prop :=
  match vs with
  | [.ptr a1, .int .i64 a2] => I a1 a2 h
  | _ => False

theorem frames_Frames_Alloc.p11 : (posC frames_Frames_Alloc.code []).filter (fun p => Nat.beq p.1 11) = [(11, atPos (posC frames_Frames_Alloc.code []) 11)] := by kernel_rfl

theorem frames_Frames_Alloc.e11 : ∀  (a1 : Option Ptr) (a2 : Int) (Q : Int → Int → Heap → Prop) (h : Heap), frames_Frames_Alloc.j11  a1 a2 Q h = pts (frames_Frames_Alloc.E Q []) 3000 true (atPos (posC frames_Frames_Alloc.code []) 11) (frAt [0, 1] [.ptr a1, .int .i64 a2]) h := by
  intros; kernel_rfl

theorem frames_Frames_Alloc.s11 {W0 : World} (Q : Int → Int → Heap → Prop)   : CutOK sg W0 101 (entered 41) (Post sg W0 (frames_Frames_Alloc.ret Q)) (posC frames_Frames_Alloc.code []) 11 [0, 1] (frames_Frames_Alloc.k11 (fun a1 a2 h => frames_Frames_Alloc.j11  a1 a2 Q h)) := by
  refine cutOK_head (fun vs h hk => ?_)
  unfold frames_Frames_Alloc.k11 at hk
  split at hk
  · rename_i a1 a2
    intro todo hm ρ a w s f hp
    exact piece (E := frames_Frames_Alloc.E Q []) (vs := [.ptr a1, .int .i64 a2]) (envOK seatOK frames_Frames_Alloc.callsOK noIfc_ok) (fnOK seatOK frames_Frames_Alloc.fun) trivial frames_Frames_Alloc.p11 (fuel := 3000) (by rw [← frames_Frames_Alloc.e11]; exact hk) hm s f hp
  · exact hk.elim

theorem frames_Frames_Alloc.p8 : (posC frames_Frames_Alloc.code []).filter (fun p => Nat.beq p.1 8) = [(8, atPos (posC frames_Frames_Alloc.code []) 8)] := by kernel_rfl

theorem frames_Frames_Alloc.e8 : ∀  (a1 : Option Ptr) (a2 : Int) (Q : Int → Int → Heap → Prop) (h : Heap), frames_Frames_Alloc.j8  a1 a2 Q h = pts (frames_Frames_Alloc.E Q [(11, ([0, 1], frames_Frames_Alloc.k11 (fun a1 a2 h => frames_Frames_Alloc.j11  a1 a2 Q h)))]) 3000 true (atPos (posC frames_Frames_Alloc.code []) 8) (frAt [0, 1] [.ptr a1, .int .i64 a2]) h := by
  intros; kernel_rfl

theorem frames_Frames_Alloc.s8 {W0 : World} (Q : Int → Int → Heap → Prop)   : CutOK sg W0 101 (entered 41) (Post sg W0 (frames_Frames_Alloc.ret Q)) (posC frames_Frames_Alloc.code []) 8 [0, 1] (frames_Frames_Alloc.k8 (fun a1 a2 h => frames_Frames_Alloc.j8  a1 a2 Q h)) := by
  refine cutOK_head (fun vs h hk => ?_)
  unfold frames_Frames_Alloc.k8 at hk
  split at hk
  · rename_i a1 a2
    intro todo hm ρ a w s f hp
    exact piece (E := frames_Frames_Alloc.E Q [(11, ([0, 1], frames_Frames_Alloc.k11 (fun a1 a2 h => frames_Frames_Alloc.j11  a1 a2 Q h)))]) (vs := [.ptr a1, .int .i64 a2]) (envOK seatOK frames_Frames_Alloc.callsOK noIfc_ok) (fnOK seatOK frames_Frames_Alloc.fun) ⟨(frames_Frames_Alloc.s11 Q  ), trivial⟩ frames_Frames_Alloc.p8 (fuel := 3000) (by rw [← frames_Frames_Alloc.e8]; exact hk) hm s f hp
  · exact hk.elim

theorem frames_Frames_Alloc.p6 : (posC frames_Frames_Alloc.code []).filter (fun p => Nat.beq p.1 6) = [(6, atPos (posC frames_Frames_Alloc.code []) 6)] := by kernel_rfl

theorem frames_Frames_Alloc.e6 : ∀  (I6 : (Option Ptr) → Int → Heap → Prop) (a1 : Option Ptr) (a2 : Int) (Q : Int → Int → Heap → Prop) (h : Heap), frames_Frames_Alloc.b6  I6 a1 a2 Q h = pts (frames_Frames_Alloc.E Q [(6, ([0, 1], frames_Frames_Alloc.k6 I6)), (8, ([0, 1], frames_Frames_Alloc.k8 (fun a1 a2 h => frames_Frames_Alloc.j8  a1 a2 Q h)))]) 3000 true (atPos (posC frames_Frames_Alloc.code []) 6) (frAt [0, 1] [.ptr a1, .int .i64 a2]) h := by
  intros; kernel_rfl

theorem frames_Frames_Alloc.s6 {W0 : World} (Q : Int → Int → Heap → Prop)   : CutOK sg W0 101 (entered 41) (Post sg W0 (frames_Frames_Alloc.ret Q)) (posC frames_Frames_Alloc.code []) 6 [0, 1] (frames_Frames_Alloc.k6 (fun a1 a2 h => frames_Frames_Alloc.j6  a1 a2 Q h)) := by
  refine cutOK_head (fun vs h hk => ?_)
  unfold frames_Frames_Alloc.k6 at hk
  split at hk
  · rename_i a1 a2
    refine hk (fun a1 a2 h => Head sg W0 101 (entered 41) (Post sg W0 (frames_Frames_Alloc.ret Q)) (posC frames_Frames_Alloc.code []) 6 [0, 1] [.ptr a1, .int .i64 a2] h) ?_
    intro a1 a2 h hb todo hm ρ a w s f hp
    have hself : CutOK sg W0 101 (entered 41) (Post sg W0 (frames_Frames_Alloc.ret Q)) (posC frames_Frames_Alloc.code []) 6 [0, 1] (frames_Frames_Alloc.k6 (fun a1 a2 h => Head sg W0 101 (entered 41) (Post sg W0 (frames_Frames_Alloc.ret Q)) (posC frames_Frames_Alloc.code []) 6 [0, 1] [.ptr a1, .int .i64 a2] h)) := cutOK_head (fun vs h hk => by unfold frames_Frames_Alloc.k6 at hk; split at hk; exact hk; exact hk.elim)
    exact piece (E := frames_Frames_Alloc.E Q [(6, ([0, 1], frames_Frames_Alloc.k6 (fun a1 a2 h => Head sg W0 101 (entered 41) (Post sg W0 (frames_Frames_Alloc.ret Q)) (posC frames_Frames_Alloc.code []) 6 [0, 1] [.ptr a1, .int .i64 a2] h))), (8, ([0, 1], frames_Frames_Alloc.k8 (fun a1 a2 h => frames_Frames_Alloc.j8  a1 a2 Q h)))]) (vs := [.ptr a1, .int .i64 a2]) (envOK seatOK frames_Frames_Alloc.callsOK noIfc_ok) (fnOK seatOK frames_Frames_Alloc.fun) ⟨hself, (frames_Frames_Alloc.s8 Q  ), trivial⟩ frames_Frames_Alloc.p6 (fuel := 3000) (by rw [← frames_Frames_Alloc.e6]; exact hb) hm s f hp
  · exact hk.elim

theorem frames_Frames_Alloc.e : ∀ (a1 : Option Ptr) (a2 : Int) (Q : Int → Int → Heap → Prop) (h : Heap), frames_Frames_Alloc a1 a2 Q h = pts (frames_Frames_Alloc.E Q [(6, ([0, 1], frames_Frames_Alloc.k6 (fun a1 a2 h => frames_Frames_Alloc.j6  a1 a2 Q h)))]) 3000 true [.code frames_Frames_Alloc.code] (frOf 0 [.ptr a1, .int .i64 a2]) h := by
  intros; kernel_rfl

theorem frames_Frames_Alloc.S {W0 : World} : FnS sg W0 263 frames_Frames_Alloc.C := by
  intro vs κ h wv hx w s
  unfold frames_Frames_Alloc.C at hx
  split at hx
  · rename_i a1 a2
    refine postImp (ret := frames_Frames_Alloc.ret (fun r1 r2 h => κ (.tup [.int .i64 r1, .int .i64 r2]) h)) (fun v h hr => by unfold frames_Frames_Alloc.ret at hr; split at hr; exact hr; exact hr.elim) ?_
    exact calls_of_pts (E := frames_Frames_Alloc.E (fun r1 r2 h => κ (.tup [.int .i64 r1, .int .i64 r2]) h) [(6, ([0, 1], frames_Frames_Alloc.k6 (fun a1 a2 h => frames_Frames_Alloc.j6  a1 a2 (fun r1 r2 h => κ (.tup [.int .i64 r1, .int .i64 r2]) h) h)))]) (envOK seatOK frames_Frames_Alloc.callsOK noIfc_ok) seatOK.mixed frames_Frames_Alloc.fun (Nat.le_of_ble_eq_true rfl) wv (cutL_ok ⟨(frames_Frames_Alloc.s6 (fun r1 r2 h => κ (.tup [.int .i64 r1, .int .i64 r2]) h)), trivial⟩) s (fuel := 3000) (by rw [← frames_Frames_Alloc.e]; exact hx)
  · exact hx.elim

noncomputable def ring_right.code : Code := Go.Proofs.Tryd.f64.body.getD .skip

theorem ring_right.fun : Fun sg.P 64 16 [.tmp 2] ring_right.code := mkFun Go.Proofs.Tryd.func64 (by kernel_rfl) (by kernel_rfl) (by kernel_rfl) (by kernel_rfl)

def ring_right.ret (Q : Bool → Heap → Prop) (v : V) (h : Heap) : Prop :=
  match v with
  | .bool r1 => Q r1 h
  | _ => False

def ring_right.C (vs : List V) (κ : V → Heap → Prop) (h : Heap) : Prop :=
  match vs with
  | [.int .i64 a1] => ring_right a1 (fun r1 h => κ (.bool r1) h) h
  | _ => False

noncomputable def ring_right.calls : List (Nat × (List V → (V → Heap → Prop) → Heap → Prop)) := []

noncomputable def ring_right.E (Q : Bool → Heap → Prop) (cuts : List (Nat × (List Nat × (List V → Heap → Prop)))) : Env := { tis := tisT, fns := fnsT, tys := tysT, gls := [], rts := rtsT, unk := [], nxt := [], calls := ring_right.calls, ifc := noIfc, cuts := cuts, ret := ring_right.ret Q, rets := [.tmp 2], n := 16 }

theorem ring_right.callsOK {W0 : World} : CallsOK sg W0 ring_right.calls := trivial

theorem ring_right.e : ∀ (a1 : Int) (Q : Bool → Heap → Prop) (h : Heap), ring_right a1 Q h = pts (ring_right.E Q []) 3000 true [.code ring_right.code] (frOf 0 [.int .i64 a1]) h := by
  intros; kernel_rfl

theorem ring_right.S {W0 : World} : FnS sg W0 34 ring_right.C := by
  intro vs κ h wv hx w s
  unfold ring_right.C at hx
  split at hx
  · rename_i a1
    refine postImp (ret := ring_right.ret (fun r1 h => κ (.bool r1) h)) (fun v h hr => by unfold ring_right.ret at hr; split at hr; exact hr; exact hr.elim) ?_
    exact calls_of_pts (E := ring_right.E (fun r1 h => κ (.bool r1) h) []) (envOK seatOK ring_right.callsOK noIfc_ok) seatOK.mixed ring_right.fun (Nat.le_of_ble_eq_true rfl) wv (cutL_ok trivial) s (fuel := 3000) (by rw [← ring_right.e]; exact hx)
  · exact hx.elim

noncomputable def ring_New.code : Code := Go.Proofs.Tryd.f25.body.getD .skip

theorem ring_New.fun : Fun sg.P 25 23 [.tmp 4, .tmp 5] ring_New.code := mkFun Go.Proofs.Tryd.func25 (by kernel_rfl) (by kernel_rfl) (by kernel_rfl) (by kernel_rfl)

def ring_New.ret (Q : (Option Ptr) → Int → Heap → Prop) (v : V) (h : Heap) : Prop :=
  match v with
  | .tup [.ptr r1, .int .i64 r2] => Q r1 r2 h
  | _ => False

def ring_New.C (vs : List V) (κ : V → Heap → Prop) (h : Heap) : Prop :=
  match vs with
  | [.int .u64 a1, .int .i64 a2] => ring_New a1 a2 (fun r1 r2 h => κ (.tup [.ptr r1, .int .i64 r2]) h) h
  | _ => False

noncomputable def ring_New.calls : List (Nat × (List V → (V → Heap → Prop) → Heap → Prop)) := [(34, ring_right.C)]

noncomputable def ring_New.E (Q : (Option Ptr) → Int → Heap → Prop) (cuts : List (Nat × (List Nat × (List V → Heap → Prop)))) : Env := { tis := tisT, fns := fnsT, tys := tysT, gls := [], rts := rtsT, unk := [], nxt := [], calls := ring_New.calls, ifc := noIfc, cuts := cuts, ret := ring_New.ret Q, rets := [.tmp 4, .tmp 5], n := 23 }

theorem ring_New.callsOK {W0 : World} : CallsOK sg W0 ring_New.calls := ⟨ring_right.S, trivial⟩

theorem ring_New.e : ∀ (a1 : Int) (a2 : Int) (Q : (Option Ptr) → Int → Heap → Prop) (h : Heap), ring_New a1 a2 Q h = pts (ring_New.E Q []) 3000 true [.code ring_New.code] (frOf 0 [.int .u64 a1, .int .i64 a2]) h := by
  intros; kernel_rfl

theorem ring_New.S {W0 : World} : FnS sg W0 35 ring_New.C := by
  intro vs κ h wv hx w s
  unfold ring_New.C at hx
  split at hx
  · rename_i a1 a2
    refine postImp (ret := ring_New.ret (fun r1 r2 h => κ (.tup [.ptr r1, .int .i64 r2]) h)) (fun v h hr => by unfold ring_New.ret at hr; split at hr; exact hr; exact hr.elim) ?_
    exact calls_of_pts (E := ring_New.E (fun r1 r2 h => κ (.tup [.ptr r1, .int .i64 r2]) h) []) (envOK seatOK ring_New.callsOK noIfc_ok) seatOK.mixed ring_New.fun (Nat.le_of_ble_eq_true rfl) wv (cutL_ok trivial) s (fuel := 3000) (by rw [← ring_New.e]; exact hx)
  · exact hx.elim

noncomputable def disk_Disk_none.code : Code := Go.Proofs.Tryd.f60.body.getD .skip

theorem disk_Disk_none.fun : Fun sg.P 60 12 [.tmp 2] disk_Disk_none.code := mkFun Go.Proofs.Tryd.func60 (by kernel_rfl) (by kernel_rfl) (by kernel_rfl) (by kernel_rfl)

def disk_Disk_none.ret (Q : Bool → Heap → Prop) (v : V) (h : Heap) : Prop :=
  match v with
  | .bool r1 => Q r1 h
  | _ => False

def disk_Disk_none.C (vs : List V) (κ : V → Heap → Prop) (h : Heap) : Prop :=
  match vs with
  | [.ptr a1] => disk_Disk_none a1 (fun r1 h => κ (.bool r1) h) h
  | _ => False

noncomputable def disk_Disk_none.calls : List (Nat × (List V → (V → Heap → Prop) → Heap → Prop)) := []

noncomputable def disk_Disk_none.E (Q : Bool → Heap → Prop) (cuts : List (Nat × (List Nat × (List V → Heap → Prop)))) : Env := { tis := tisT, fns := fnsT, tys := tysT, gls := [], rts := rtsT, unk := [], nxt := [], calls := disk_Disk_none.calls, ifc := noIfc, cuts := cuts, ret := disk_Disk_none.ret Q, rets := [.tmp 2], n := 12 }

theorem disk_Disk_none.callsOK {W0 : World} : CallsOK sg W0 disk_Disk_none.calls := trivial

theorem disk_Disk_none.e : ∀ (a1 : Option Ptr) (Q : Bool → Heap → Prop) (h : Heap), disk_Disk_none a1 Q h = pts (disk_Disk_none.E Q []) 3000 true [.code disk_Disk_none.code] (frOf 0 [.ptr a1]) h := by
  intros; kernel_rfl

theorem disk_Disk_none.S {W0 : World} : FnS sg W0 29 disk_Disk_none.C := by
  intro vs κ h wv hx w s
  unfold disk_Disk_none.C at hx
  split at hx
  · rename_i a1
    refine postImp (ret := disk_Disk_none.ret (fun r1 h => κ (.bool r1) h)) (fun v h hr => by unfold disk_Disk_none.ret at hr; split at hr; exact hr; exact hr.elim) ?_
    exact calls_of_pts (E := disk_Disk_none.E (fun r1 h => κ (.bool r1) h) []) (envOK seatOK disk_Disk_none.callsOK noIfc_ok) seatOK.mixed disk_Disk_none.fun (Nat.le_of_ble_eq_true rfl) wv (cutL_ok trivial) s (fuel := 3000) (by rw [← disk_Disk_none.e]; exact hx)
  · exact hx.elim

noncomputable def disk_Disk_Blocks.code : Code := Go.Proofs.Tryd.f81.body.getD .skip

theorem disk_Disk_Blocks.fun : Fun sg.P 81 9 [.tmp 2] disk_Disk_Blocks.code := mkFun Go.Proofs.Tryd.func81 (by kernel_rfl) (by kernel_rfl) (by kernel_rfl) (by kernel_rfl)

def disk_Disk_Blocks.ret (Q : Int → Heap → Prop) (v : V) (h : Heap) : Prop :=
  match v with
  | .int .i64 r1 => Q r1 h
  | _ => False

def disk_Disk_Blocks.C (vs : List V) (κ : V → Heap → Prop) (h : Heap) : Prop :=
  match vs with
  | [.ptr a1] => disk_Disk_Blocks a1 (fun r1 h => κ (.int .i64 r1) h) h
  | _ => False

noncomputable def disk_Disk_Blocks.calls : List (Nat × (List V → (V → Heap → Prop) → Heap → Prop)) := [(29, disk_Disk_none.C)]

noncomputable def disk_Disk_Blocks.E (Q : Int → Heap → Prop) (cuts : List (Nat × (List Nat × (List V → Heap → Prop)))) : Env := { tis := tisT, fns := fnsT, tys := tysT, gls := [], rts := rtsT, unk := [], nxt := [], calls := disk_Disk_Blocks.calls, ifc := noIfc, cuts := cuts, ret := disk_Disk_Blocks.ret Q, rets := [.tmp 2], n := 9 }

theorem disk_Disk_Blocks.callsOK {W0 : World} : CallsOK sg W0 disk_Disk_Blocks.calls := ⟨disk_Disk_none.S, trivial⟩

theorem disk_Disk_Blocks.e : ∀ (a1 : Option Ptr) (Q : Int → Heap → Prop) (h : Heap), disk_Disk_Blocks a1 Q h = pts (disk_Disk_Blocks.E Q []) 3000 true [.code disk_Disk_Blocks.code] (frOf 0 [.ptr a1]) h := by
  intros; kernel_rfl

theorem disk_Disk_Blocks.S {W0 : World} : FnS sg W0 50 disk_Disk_Blocks.C := by
  intro vs κ h wv hx w s
  unfold disk_Disk_Blocks.C at hx
  split at hx
  · rename_i a1
    refine postImp (ret := disk_Disk_Blocks.ret (fun r1 h => κ (.int .i64 r1) h)) (fun v h hr => by unfold disk_Disk_Blocks.ret at hr; split at hr; exact hr; exact hr.elim) ?_
    exact calls_of_pts (E := disk_Disk_Blocks.E (fun r1 h => κ (.int .i64 r1) h) []) (envOK seatOK disk_Disk_Blocks.callsOK noIfc_ok) seatOK.mixed disk_Disk_Blocks.fun (Nat.le_of_ble_eq_true rfl) wv (cutL_ok trivial) s (fuel := 3000) (by rw [← disk_Disk_Blocks.e]; exact hx)
  · exact hx.elim

noncomputable def backend_NewBlock.code : Code := Go.Proofs.Tryd.f42.body.getD .skip

theorem backend_NewBlock.fun : Fun sg.P 42 63 [.tmp 12, .tmp 13] backend_NewBlock.code := mkFun Go.Proofs.Tryd.func42 (by kernel_rfl) (by kernel_rfl) (by kernel_rfl) (by kernel_rfl)

def backend_NewBlock.ret (Q : (Option Ptr) → Int → Heap → Prop) (v : V) (h : Heap) : Prop :=
  match v with
  | .tup [.ptr r1, .int .i64 r2] => Q r1 r2 h
  | _ => False

def backend_NewBlock.C (vs : List V) (κ : V → Heap → Prop) (h : Heap) : Prop :=
  match vs with
  | [.ptr a1, .ptr a2, .int .i64 a3, .int .i64 a4, .ptr a5, .int .i64 a6] => backend_NewBlock a1 a2 a3 a4 a5 a6 (fun r1 r2 h => κ (.tup [.ptr r1, .int .i64 r2]) h) h
  | _ => False

noncomputable def backend_NewBlock.calls : List (Nat × (List V → (V → Heap → Prop) → Heap → Prop)) := [(50, disk_Disk_Blocks.C)]

noncomputable def backend_NewBlock.E (Q : (Option Ptr) → Int → Heap → Prop) (cuts : List (Nat × (List Nat × (List V → Heap → Prop)))) : Env := { tis := tisT, fns := fnsT, tys := tysT, gls := [], rts := rtsT, unk := [], nxt := [], calls := backend_NewBlock.calls, ifc := noIfc, cuts := cuts, ret := backend_NewBlock.ret Q, rets := [.tmp 12, .tmp 13], n := 63 }

theorem backend_NewBlock.callsOK {W0 : World} : CallsOK sg W0 backend_NewBlock.calls := ⟨disk_Disk_Blocks.S, trivial⟩

def backend_NewBlock.k4 (I : Heap → Prop) (vs : List V) (h : Heap) : Prop :=
  match vs with
  | [] => I  h
  | _ => False

def backend_NewBlock.k5 (I : (Option Ptr) → (Option Ptr) → Int → Int → (Option Ptr) → Int → Heap → Prop) (vs : List V) (h : Heap) : Prop :=
  match vs with
  | [.ptr a1, .ptr a2, .int .i64 a3, .int .i64 a4, .ptr a5, .int .i64 a6] => I a1 a2 a3 a4 a5 a6 h
  | _ => False

theorem backend_NewBlock.p4 : (posC backend_NewBlock.code []).filter (fun p => Nat.beq p.1 4) = [(4, atPos (posC backend_NewBlock.code []) 4)] := by kernel_rfl

theorem backend_NewBlock.e4 : ∀   (Q : (Option Ptr) → Int → Heap → Prop) (h : Heap), backend_NewBlock.j4   Q h = pts (backend_NewBlock.E Q []) 3000 true (atPos (posC backend_NewBlock.code []) 4) (frAt [] []) h := by
  intros; kernel_rfl

theorem backend_NewBlock.s4 {W0 : World} (Q : (Option Ptr) → Int → Heap → Prop)   : CutOK sg W0 63 (entered 42) (Post sg W0 (backend_NewBlock.ret Q)) (posC backend_NewBlock.code []) 4 [] (backend_NewBlock.k4 (fun  h => backend_NewBlock.j4   Q h)) := by
  refine cutOK_head (fun vs h hk => ?_)
  unfold backend_NewBlock.k4 at hk
  split at hk
  · skip
    intro todo hm ρ a w s f hp
    exact piece (E := backend_NewBlock.E Q []) (vs := []) (envOK seatOK backend_NewBlock.callsOK noIfc_ok) (fnOK seatOK backend_NewBlock.fun) trivial backend_NewBlock.p4 (fuel := 3000) (by rw [← backend_NewBlock.e4]; exact hk) hm s f hp
  · exact hk.elim

theorem backend_NewBlock.p5 : (posC backend_NewBlock.code []).filter (fun p => Nat.beq p.1 5) = [(5, atPos (posC backend_NewBlock.code []) 5)] := by kernel_rfl

theorem backend_NewBlock.e5 : ∀  (a1 : Option Ptr) (a2 : Option Ptr) (a3 : Int) (a4 : Int) (a5 : Option Ptr) (a6 : Int) (Q : (Option Ptr) → Int → Heap → Prop) (h : Heap), backend_NewBlock.j5  a1 a2 a3 a4 a5 a6 Q h = pts (backend_NewBlock.E Q []) 3000 true (atPos (posC backend_NewBlock.code []) 5) (frAt [0, 1, 2, 3, 4, 5] [.ptr a1, .ptr a2, .int .i64 a3, .int .i64 a4, .ptr a5, .int .i64 a6]) h := by
  intros; kernel_rfl

theorem backend_NewBlock.s5 {W0 : World} (Q : (Option Ptr) → Int → Heap → Prop)   : CutOK sg W0 63 (entered 42) (Post sg W0 (backend_NewBlock.ret Q)) (posC backend_NewBlock.code []) 5 [0, 1, 2, 3, 4, 5] (backend_NewBlock.k5 (fun a1 a2 a3 a4 a5 a6 h => backend_NewBlock.j5  a1 a2 a3 a4 a5 a6 Q h)) := by
  refine cutOK_head (fun vs h hk => ?_)
  unfold backend_NewBlock.k5 at hk
  split at hk
  · rename_i a1 a2 a3 a4 a5 a6
    intro todo hm ρ a w s f hp
    exact piece (E := backend_NewBlock.E Q []) (vs := [.ptr a1, .ptr a2, .int .i64 a3, .int .i64 a4, .ptr a5, .int .i64 a6]) (envOK seatOK backend_NewBlock.callsOK noIfc_ok) (fnOK seatOK backend_NewBlock.fun) trivial backend_NewBlock.p5 (fuel := 3000) (by rw [← backend_NewBlock.e5]; exact hk) hm s f hp
  · exact hk.elim

theorem backend_NewBlock.e : ∀ (a1 : Option Ptr) (a2 : Option Ptr) (a3 : Int) (a4 : Int) (a5 : Option Ptr) (a6 : Int) (Q : (Option Ptr) → Int → Heap → Prop) (h : Heap), backend_NewBlock a1 a2 a3 a4 a5 a6 Q h = pts (backend_NewBlock.E Q [(4, ([], backend_NewBlock.k4 (fun  h => backend_NewBlock.j4   Q h))), (5, ([0, 1, 2, 3, 4, 5], backend_NewBlock.k5 (fun a1 a2 a3 a4 a5 a6 h => backend_NewBlock.j5  a1 a2 a3 a4 a5 a6 Q h)))]) 3000 true [.code backend_NewBlock.code] (frOf 0 [.ptr a1, .ptr a2, .int .i64 a3, .int .i64 a4, .ptr a5, .int .i64 a6]) h := by
  intros; kernel_rfl

theorem backend_NewBlock.S {W0 : World} : FnS sg W0 264 backend_NewBlock.C := by
  intro vs κ h wv hx w s
  unfold backend_NewBlock.C at hx
  split at hx
  · rename_i a1 a2 a3 a4 a5 a6
    refine postImp (ret := backend_NewBlock.ret (fun r1 r2 h => κ (.tup [.ptr r1, .int .i64 r2]) h)) (fun v h hr => by unfold backend_NewBlock.ret at hr; split at hr; exact hr; exact hr.elim) ?_
    exact calls_of_pts (E := backend_NewBlock.E (fun r1 r2 h => κ (.tup [.ptr r1, .int .i64 r2]) h) [(4, ([], backend_NewBlock.k4 (fun  h => backend_NewBlock.j4   (fun r1 r2 h => κ (.tup [.ptr r1, .int .i64 r2]) h) h))), (5, ([0, 1, 2, 3, 4, 5], backend_NewBlock.k5 (fun a1 a2 a3 a4 a5 a6 h => backend_NewBlock.j5  a1 a2 a3 a4 a5 a6 (fun r1 r2 h => κ (.tup [.ptr r1, .int .i64 r2]) h) h)))]) (envOK seatOK backend_NewBlock.callsOK noIfc_ok) seatOK.mixed backend_NewBlock.fun (Nat.le_of_ble_eq_true rfl) wv (cutL_ok ⟨(backend_NewBlock.s4 (fun r1 r2 h => κ (.tup [.ptr r1, .int .i64 r2]) h)), (backend_NewBlock.s5 (fun r1 r2 h => κ (.tup [.ptr r1, .int .i64 r2]) h)), trivial⟩) s (fuel := 3000) (by rw [← backend_NewBlock.e]; exact hx)
  · exact hx.elim

noncomputable def palisadelaw24_begin.code : Code := Go.Proofs.Tryd.f9.body.getD .skip

theorem palisadelaw24_begin.fun : Fun sg.P 9 130 [.tmp 0] palisadelaw24_begin.code := mkFun Go.Proofs.Tryd.func9 (by kernel_rfl) (by kernel_rfl) (by kernel_rfl) (by kernel_rfl)

def palisadelaw24_begin.ret (Q : (Option Ptr) → Heap → Prop) (v : V) (h : Heap) : Prop :=
  match v with
  | .ptr r1 => Q r1 h
  | _ => False

def palisadelaw24_begin.C (vs : List V) (κ : V → Heap → Prop) (h : Heap) : Prop :=
  match vs with
  | [] => palisadelaw24_begin  (fun r1 h => κ (.ptr r1) h) h
  | _ => False

noncomputable def palisadelaw24_begin.calls : List (Nat × (List V → (V → Heap → Prop) → Heap → Prop)) := [(35, ring_New.C), (28, mem_New.C), (259, frames_New.C), (85, disk_New.C), (263, frames_Frames_Alloc.C), (264, backend_NewBlock.C)]

noncomputable def palisadelaw24_begin.E (Q : (Option Ptr) → Heap → Prop) (cuts : List (Nat × (List Nat × (List V → Heap → Prop)))) : Env := { tis := tisT, fns := fnsT, tys := tysT, gls := [], rts := rtsT, unk := [], nxt := [], calls := palisadelaw24_begin.calls, ifc := noIfc, cuts := cuts, ret := palisadelaw24_begin.ret Q, rets := [.tmp 0], n := 130 }

theorem palisadelaw24_begin.callsOK {W0 : World} : CallsOK sg W0 palisadelaw24_begin.calls := ⟨ring_New.S, mem_New.S, frames_New.S, disk_New.S, frames_Frames_Alloc.S, backend_NewBlock.S, trivial⟩

def palisadelaw24_begin.k5 (I : Heap → Prop) (vs : List V) (h : Heap) : Prop :=
  match vs with
  | [] => I  h
  | _ => False

def palisadelaw24_begin.k16 (I : Heap → Prop) (vs : List V) (h : Heap) : Prop :=
  match vs with
  | [] => I  h
  | _ => False

def palisadelaw24_begin.k20 (I : Heap → Prop) (vs : List V) (h : Heap) : Prop :=
  match vs with
  | [] => I  h
  | _ => False

def palisadelaw24_begin.k9 (I : (Option Ptr) → (Option Ptr) → (Option Ptr) → Ptr → Int → Heap → Prop) (vs : List V) (h : Heap) : Prop :=
  match vs with
  | [.ptr a1, .ptr a2, .ptr a3, .ptr (some a4), .int .i64 a5] => I a1 a2 a3 a4 a5 h
  | _ => False

def palisadelaw24_begin.k21 (I : (Option Ptr) → (Option Ptr) → (Option Ptr) → Ptr → Int → (Option Ptr) → (Option Ptr) → Heap → Prop) (vs : List V) (h : Heap) : Prop :=
  match vs with
  | [.ptr a1, .ptr a2, .ptr a3, .ptr (some a4), .int .i64 a5, .ptr a6, .ptr a7] => I a1 a2 a3 a4 a5 a6 a7 h
  | _ => False

def palisadelaw24_begin.k12 (I : (Option Ptr) → (Option Ptr) → (Option Ptr) → Ptr → Int → Int → Heap → Prop) (vs : List V) (h : Heap) : Prop :=
  match vs with
  | [.ptr a1, .ptr a2, .ptr a3, .ptr (some a4), .int .i64 a5, .int .i64 a6] => I a1 a2 a3 a4 a5 a6 h
  | _ => False

def palisadelaw24_begin.k8 (I : (Option Ptr) → (Option Ptr) → (Option Ptr) → Ptr → Int → Heap → Prop) (vs : List V) (h : Heap) : Prop :=
  match vs with
  | [.ptr a1, .ptr a2, .ptr a3, .ptr (some a4), .int .i64 a5] => I a1 a2 a3 a4 a5 h
  | _ => False

def palisadelaw24_begin.k6 (I : (Option Ptr) → (Option Ptr) → (Option Ptr) → Heap → Prop) (vs : List V) (h : Heap) : Prop :=
  match vs with
  | [.ptr a1, .ptr a2, .ptr a3] => I a1 a2 a3 h
  | _ => False

theorem palisadelaw24_begin.p5 : (posC palisadelaw24_begin.code []).filter (fun p => Nat.beq p.1 5) = [(5, atPos (posC palisadelaw24_begin.code []) 5)] := by kernel_rfl

theorem palisadelaw24_begin.e5 : ∀   (Q : (Option Ptr) → Heap → Prop) (h : Heap), palisadelaw24_begin.j5   Q h = pts (palisadelaw24_begin.E Q []) 3000 true (atPos (posC palisadelaw24_begin.code []) 5) (frAt [] []) h := by
  intros; kernel_rfl

theorem palisadelaw24_begin.s5 {W0 : World} (Q : (Option Ptr) → Heap → Prop)   : CutOK sg W0 130 (entered 9) (Post sg W0 (palisadelaw24_begin.ret Q)) (posC palisadelaw24_begin.code []) 5 [] (palisadelaw24_begin.k5 (fun  h => palisadelaw24_begin.j5   Q h)) := by
  refine cutOK_head (fun vs h hk => ?_)
  unfold palisadelaw24_begin.k5 at hk
  split at hk
  · skip
    intro todo hm ρ a w s f hp
    exact piece (E := palisadelaw24_begin.E Q []) (vs := []) (envOK seatOK palisadelaw24_begin.callsOK noIfc_ok) (fnOK seatOK palisadelaw24_begin.fun) trivial palisadelaw24_begin.p5 (fuel := 3000) (by rw [← palisadelaw24_begin.e5]; exact hk) hm s f hp
  · exact hk.elim

theorem palisadelaw24_begin.p16 : (posC palisadelaw24_begin.code []).filter (fun p => Nat.beq p.1 16) = [(16, atPos (posC palisadelaw24_begin.code []) 16)] := by kernel_rfl

theorem palisadelaw24_begin.e16 : ∀ (I8 : (Option Ptr) → (Option Ptr) → (Option Ptr) → Ptr → Int → Heap → Prop) (I12 : (Option Ptr) → (Option Ptr) → (Option Ptr) → Ptr → Int → Int → Heap → Prop)  (Q : (Option Ptr) → Heap → Prop) (h : Heap), palisadelaw24_begin.j16 I8 I12  Q h = pts (palisadelaw24_begin.E Q []) 3000 true (atPos (posC palisadelaw24_begin.code []) 16) (frAt [] []) h := by
  intros; kernel_rfl

theorem palisadelaw24_begin.s16 {W0 : World} (Q : (Option Ptr) → Heap → Prop) (I8 : (Option Ptr) → (Option Ptr) → (Option Ptr) → Ptr → Int → Heap → Prop) (I12 : (Option Ptr) → (Option Ptr) → (Option Ptr) → Ptr → Int → Int → Heap → Prop) (h8 : CutOK sg W0 130 (entered 9) (Post sg W0 (palisadelaw24_begin.ret Q)) (posC palisadelaw24_begin.code []) 8 [1, 3, 5, 7, 8] (palisadelaw24_begin.k8 I8)) (h12 : CutOK sg W0 130 (entered 9) (Post sg W0 (palisadelaw24_begin.ret Q)) (posC palisadelaw24_begin.code []) 12 [1, 3, 5, 7, 8, 9] (palisadelaw24_begin.k12 I12)) : CutOK sg W0 130 (entered 9) (Post sg W0 (palisadelaw24_begin.ret Q)) (posC palisadelaw24_begin.code []) 16 [] (palisadelaw24_begin.k16 (fun  h => palisadelaw24_begin.j16 I8 I12  Q h)) := by
  refine cutOK_head (fun vs h hk => ?_)
  unfold palisadelaw24_begin.k16 at hk
  split at hk
  · skip
    intro todo hm ρ a w s f hp
    exact piece (E := palisadelaw24_begin.E Q []) (vs := []) (envOK seatOK palisadelaw24_begin.callsOK noIfc_ok) (fnOK seatOK palisadelaw24_begin.fun) trivial palisadelaw24_begin.p16 (fuel := 3000) (by rw [← palisadelaw24_begin.e16]; exact hk) hm s f hp
  · exact hk.elim

theorem palisadelaw24_begin.p20 : (posC palisadelaw24_begin.code []).filter (fun p => Nat.beq p.1 20) = [(20, atPos (posC palisadelaw24_begin.code []) 20)] := by kernel_rfl

theorem palisadelaw24_begin.e20 : ∀ (I8 : (Option Ptr) → (Option Ptr) → (Option Ptr) → Ptr → Int → Heap → Prop)  (Q : (Option Ptr) → Heap → Prop) (h : Heap), palisadelaw24_begin.j20 I8  Q h = pts (palisadelaw24_begin.E Q []) 3000 true (atPos (posC palisadelaw24_begin.code []) 20) (frAt [] []) h := by
  intros; kernel_rfl

theorem palisadelaw24_begin.s20 {W0 : World} (Q : (Option Ptr) → Heap → Prop) (I8 : (Option Ptr) → (Option Ptr) → (Option Ptr) → Ptr → Int → Heap → Prop) (h8 : CutOK sg W0 130 (entered 9) (Post sg W0 (palisadelaw24_begin.ret Q)) (posC palisadelaw24_begin.code []) 8 [1, 3, 5, 7, 8] (palisadelaw24_begin.k8 I8)) : CutOK sg W0 130 (entered 9) (Post sg W0 (palisadelaw24_begin.ret Q)) (posC palisadelaw24_begin.code []) 20 [] (palisadelaw24_begin.k20 (fun  h => palisadelaw24_begin.j20 I8  Q h)) := by
  refine cutOK_head (fun vs h hk => ?_)
  unfold palisadelaw24_begin.k20 at hk
  split at hk
  · skip
    intro todo hm ρ a w s f hp
    exact piece (E := palisadelaw24_begin.E Q []) (vs := []) (envOK seatOK palisadelaw24_begin.callsOK noIfc_ok) (fnOK seatOK palisadelaw24_begin.fun) trivial palisadelaw24_begin.p20 (fuel := 3000) (by rw [← palisadelaw24_begin.e20]; exact hk) hm s f hp
  · exact hk.elim

theorem palisadelaw24_begin.p9 : (posC palisadelaw24_begin.code []).filter (fun p => Nat.beq p.1 9) = [(9, atPos (posC palisadelaw24_begin.code []) 9)] := by kernel_rfl

theorem palisadelaw24_begin.e9 : ∀ (I8 : (Option Ptr) → (Option Ptr) → (Option Ptr) → Ptr → Int → Heap → Prop) (a1 : Option Ptr) (a2 : Option Ptr) (a3 : Option Ptr) (a4 : Ptr) (a5 : Int) (Q : (Option Ptr) → Heap → Prop) (h : Heap), palisadelaw24_begin.j9 I8 a1 a2 a3 a4 a5 Q h = pts (palisadelaw24_begin.E Q [(8, ([1, 3, 5, 7, 8], palisadelaw24_begin.k8 I8))]) 3000 true (atPos (posC palisadelaw24_begin.code []) 9) (frAt [1, 3, 5, 7, 8] [.ptr a1, .ptr a2, .ptr a3, .ptr (some a4), .int .i64 a5]) h := by
  intros; kernel_rfl

theorem palisadelaw24_begin.s9 {W0 : World} (Q : (Option Ptr) → Heap → Prop) (I8 : (Option Ptr) → (Option Ptr) → (Option Ptr) → Ptr → Int → Heap → Prop) (h8 : CutOK sg W0 130 (entered 9) (Post sg W0 (palisadelaw24_begin.ret Q)) (posC palisadelaw24_begin.code []) 8 [1, 3, 5, 7, 8] (palisadelaw24_begin.k8 I8)) : CutOK sg W0 130 (entered 9) (Post sg W0 (palisadelaw24_begin.ret Q)) (posC palisadelaw24_begin.code []) 9 [1, 3, 5, 7, 8] (palisadelaw24_begin.k9 (fun a1 a2 a3 a4 a5 h => palisadelaw24_begin.j9 I8 a1 a2 a3 a4 a5 Q h)) := by
  refine cutOK_head (fun vs h hk => ?_)
  unfold palisadelaw24_begin.k9 at hk
  split at hk
  · rename_i a1 a2 a3 a4 a5
    intro todo hm ρ a w s f hp
    exact piece (E := palisadelaw24_begin.E Q [(8, ([1, 3, 5, 7, 8], palisadelaw24_begin.k8 I8))]) (vs := [.ptr a1, .ptr a2, .ptr a3, .ptr (some a4), .int .i64 a5]) (envOK seatOK palisadelaw24_begin.callsOK noIfc_ok) (fnOK seatOK palisadelaw24_begin.fun) ⟨h8, trivial⟩ palisadelaw24_begin.p9 (fuel := 3000) (by rw [← palisadelaw24_begin.e9]; exact hk) hm s f hp
  · exact hk.elim

theorem palisadelaw24_begin.p21 : (posC palisadelaw24_begin.code []).filter (fun p => Nat.beq p.1 21) = [(21, atPos (posC palisadelaw24_begin.code []) 21)] := by kernel_rfl

theorem palisadelaw24_begin.e21 : ∀ (I8 : (Option Ptr) → (Option Ptr) → (Option Ptr) → Ptr → Int → Heap → Prop) (a1 : Option Ptr) (a2 : Option Ptr) (a3 : Option Ptr) (a4 : Ptr) (a5 : Int) (a6 : Option Ptr) (a7 : Option Ptr) (Q : (Option Ptr) → Heap → Prop) (h : Heap), palisadelaw24_begin.j21 I8 a1 a2 a3 a4 a5 a6 a7 Q h = pts (palisadelaw24_begin.E Q [(9, ([1, 3, 5, 7, 8], palisadelaw24_begin.k9 (fun a1 a2 a3 a4 a5 h => palisadelaw24_begin.j9 I8 a1 a2 a3 a4 a5 Q h)))]) 3000 true (atPos (posC palisadelaw24_begin.code []) 21) (frAt [1, 3, 5, 7, 8, 12, 14] [.ptr a1, .ptr a2, .ptr a3, .ptr (some a4), .int .i64 a5, .ptr a6, .ptr a7]) h := by
  intros; kernel_rfl

theorem palisadelaw24_begin.s21 {W0 : World} (Q : (Option Ptr) → Heap → Prop) (I8 : (Option Ptr) → (Option Ptr) → (Option Ptr) → Ptr → Int → Heap → Prop) (h8 : CutOK sg W0 130 (entered 9) (Post sg W0 (palisadelaw24_begin.ret Q)) (posC palisadelaw24_begin.code []) 8 [1, 3, 5, 7, 8] (palisadelaw24_begin.k8 I8)) : CutOK sg W0 130 (entered 9) (Post sg W0 (palisadelaw24_begin.ret Q)) (posC palisadelaw24_begin.code []) 21 [1, 3, 5, 7, 8, 12, 14] (palisadelaw24_begin.k21 (fun a1 a2 a3 a4 a5 a6 a7 h => palisadelaw24_begin.j21 I8 a1 a2 a3 a4 a5 a6 a7 Q h)) := by
  refine cutOK_head (fun vs h hk => ?_)
  unfold palisadelaw24_begin.k21 at hk
  split at hk
  · rename_i a1 a2 a3 a4 a5 a6 a7
    intro todo hm ρ a w s f hp
    exact piece (E := palisadelaw24_begin.E Q [(9, ([1, 3, 5, 7, 8], palisadelaw24_begin.k9 (fun a1 a2 a3 a4 a5 h => palisadelaw24_begin.j9 I8 a1 a2 a3 a4 a5 Q h)))]) (vs := [.ptr a1, .ptr a2, .ptr a3, .ptr (some a4), .int .i64 a5, .ptr a6, .ptr a7]) (envOK seatOK palisadelaw24_begin.callsOK noIfc_ok) (fnOK seatOK palisadelaw24_begin.fun) ⟨(palisadelaw24_begin.s9 Q I8 h8), trivial⟩ palisadelaw24_begin.p21 (fuel := 3000) (by rw [← palisadelaw24_begin.e21]; exact hk) hm s f hp
  · exact hk.elim

theorem palisadelaw24_begin.p12 : (posC palisadelaw24_begin.code []).filter (fun p => Nat.beq p.1 12) = [(12, atPos (posC palisadelaw24_begin.code []) 12)] := by kernel_rfl

theorem palisadelaw24_begin.e12 : ∀ (I8 : (Option Ptr) → (Option Ptr) → (Option Ptr) → Ptr → Int → Heap → Prop) (I12 : (Option Ptr) → (Option Ptr) → (Option Ptr) → Ptr → Int → Int → Heap → Prop) (a1 : Option Ptr) (a2 : Option Ptr) (a3 : Option Ptr) (a4 : Ptr) (a5 : Int) (a6 : Int) (Q : (Option Ptr) → Heap → Prop) (h : Heap), palisadelaw24_begin.b12 I8 I12 a1 a2 a3 a4 a5 a6 Q h = pts (palisadelaw24_begin.E Q [(16, ([], palisadelaw24_begin.k16 (fun  h => palisadelaw24_begin.j16 I8 I12  Q h))), (12, ([1, 3, 5, 7, 8, 9], palisadelaw24_begin.k12 I12)), (20, ([], palisadelaw24_begin.k20 (fun  h => palisadelaw24_begin.j20 I8  Q h))), (21, ([1, 3, 5, 7, 8, 12, 14], palisadelaw24_begin.k21 (fun a1 a2 a3 a4 a5 a6 a7 h => palisadelaw24_begin.j21 I8 a1 a2 a3 a4 a5 a6 a7 Q h)))]) 3000 true (atPos (posC palisadelaw24_begin.code []) 12) (frAt [1, 3, 5, 7, 8, 9] [.ptr a1, .ptr a2, .ptr a3, .ptr (some a4), .int .i64 a5, .int .i64 a6]) h := by
  intros; kernel_rfl

theorem palisadelaw24_begin.s12 {W0 : World} (Q : (Option Ptr) → Heap → Prop) (I8 : (Option Ptr) → (Option Ptr) → (Option Ptr) → Ptr → Int → Heap → Prop) (h8 : CutOK sg W0 130 (entered 9) (Post sg W0 (palisadelaw24_begin.ret Q)) (posC palisadelaw24_begin.code []) 8 [1, 3, 5, 7, 8] (palisadelaw24_begin.k8 I8)) : CutOK sg W0 130 (entered 9) (Post sg W0 (palisadelaw24_begin.ret Q)) (posC palisadelaw24_begin.code []) 12 [1, 3, 5, 7, 8, 9] (palisadelaw24_begin.k12 (fun a1 a2 a3 a4 a5 a6 h => palisadelaw24_begin.j12 I8 a1 a2 a3 a4 a5 a6 Q h)) := by
  refine cutOK_head (fun vs h hk => ?_)
  unfold palisadelaw24_begin.k12 at hk
  split at hk
  · rename_i a1 a2 a3 a4 a5 a6
    refine hk (fun a1 a2 a3 a4 a5 a6 h => Head sg W0 130 (entered 9) (Post sg W0 (palisadelaw24_begin.ret Q)) (posC palisadelaw24_begin.code []) 12 [1, 3, 5, 7, 8, 9] [.ptr a1, .ptr a2, .ptr a3, .ptr (some a4), .int .i64 a5, .int .i64 a6] h) ?_
    intro a1 a2 a3 a4 a5 a6 h hb todo hm ρ a w s f hp
    have hself : CutOK sg W0 130 (entered 9) (Post sg W0 (palisadelaw24_begin.ret Q)) (posC palisadelaw24_begin.code []) 12 [1, 3, 5, 7, 8, 9] (palisadelaw24_begin.k12 (fun a1 a2 a3 a4 a5 a6 h => Head sg W0 130 (entered 9) (Post sg W0 (palisadelaw24_begin.ret Q)) (posC palisadelaw24_begin.code []) 12 [1, 3, 5, 7, 8, 9] [.ptr a1, .ptr a2, .ptr a3, .ptr (some a4), .int .i64 a5, .int .i64 a6] h)) := cutOK_head (fun vs h hk => by unfold palisadelaw24_begin.k12 at hk; split at hk; exact hk; exact hk.elim)
    exact piece (E := palisadelaw24_begin.E Q [(16, ([], palisadelaw24_begin.k16 (fun  h => palisadelaw24_begin.j16 I8 (fun a1 a2 a3 a4 a5 a6 h => Head sg W0 130 (entered 9) (Post sg W0 (palisadelaw24_begin.ret Q)) (posC palisadelaw24_begin.code []) 12 [1, 3, 5, 7, 8, 9] [.ptr a1, .ptr a2, .ptr a3, .ptr (some a4), .int .i64 a5, .int .i64 a6] h)  Q h))), (12, ([1, 3, 5, 7, 8, 9], palisadelaw24_begin.k12 (fun a1 a2 a3 a4 a5 a6 h => Head sg W0 130 (entered 9) (Post sg W0 (palisadelaw24_begin.ret Q)) (posC palisadelaw24_begin.code []) 12 [1, 3, 5, 7, 8, 9] [.ptr a1, .ptr a2, .ptr a3, .ptr (some a4), .int .i64 a5, .int .i64 a6] h))), (20, ([], palisadelaw24_begin.k20 (fun  h => palisadelaw24_begin.j20 I8  Q h))), (21, ([1, 3, 5, 7, 8, 12, 14], palisadelaw24_begin.k21 (fun a1 a2 a3 a4 a5 a6 a7 h => palisadelaw24_begin.j21 I8 a1 a2 a3 a4 a5 a6 a7 Q h)))]) (vs := [.ptr a1, .ptr a2, .ptr a3, .ptr (some a4), .int .i64 a5, .int .i64 a6]) (envOK seatOK palisadelaw24_begin.callsOK noIfc_ok) (fnOK seatOK palisadelaw24_begin.fun) ⟨(palisadelaw24_begin.s16 Q I8 (fun a1 a2 a3 a4 a5 a6 h => Head sg W0 130 (entered 9) (Post sg W0 (palisadelaw24_begin.ret Q)) (posC palisadelaw24_begin.code []) 12 [1, 3, 5, 7, 8, 9] [.ptr a1, .ptr a2, .ptr a3, .ptr (some a4), .int .i64 a5, .int .i64 a6] h) h8 hself), hself, (palisadelaw24_begin.s20 Q I8 h8), (palisadelaw24_begin.s21 Q I8 h8), trivial⟩ palisadelaw24_begin.p12 (fuel := 3000) (by rw [← palisadelaw24_begin.e12]; exact hb) hm s f hp
  · exact hk.elim

theorem palisadelaw24_begin.p8 : (posC palisadelaw24_begin.code []).filter (fun p => Nat.beq p.1 8) = [(8, atPos (posC palisadelaw24_begin.code []) 8)] := by kernel_rfl

theorem palisadelaw24_begin.e8 : ∀  (I8 : (Option Ptr) → (Option Ptr) → (Option Ptr) → Ptr → Int → Heap → Prop) (a1 : Option Ptr) (a2 : Option Ptr) (a3 : Option Ptr) (a4 : Ptr) (a5 : Int) (Q : (Option Ptr) → Heap → Prop) (h : Heap), palisadelaw24_begin.b8  I8 a1 a2 a3 a4 a5 Q h = pts (palisadelaw24_begin.E Q [(12, ([1, 3, 5, 7, 8, 9], palisadelaw24_begin.k12 (fun a1 a2 a3 a4 a5 a6 h => palisadelaw24_begin.j12 I8 a1 a2 a3 a4 a5 a6 Q h)))]) 3000 true (atPos (posC palisadelaw24_begin.code []) 8) (frAt [1, 3, 5, 7, 8] [.ptr a1, .ptr a2, .ptr a3, .ptr (some a4), .int .i64 a5]) h := by
  intros; kernel_rfl

theorem palisadelaw24_begin.s8 {W0 : World} (Q : (Option Ptr) → Heap → Prop)   : CutOK sg W0 130 (entered 9) (Post sg W0 (palisadelaw24_begin.ret Q)) (posC palisadelaw24_begin.code []) 8 [1, 3, 5, 7, 8] (palisadelaw24_begin.k8 (fun a1 a2 a3 a4 a5 h => palisadelaw24_begin.j8  a1 a2 a3 a4 a5 Q h)) := by
  refine cutOK_head (fun vs h hk => ?_)
  unfold palisadelaw24_begin.k8 at hk
  split at hk
  · rename_i a1 a2 a3 a4 a5
    refine hk (fun a1 a2 a3 a4 a5 h => Head sg W0 130 (entered 9) (Post sg W0 (palisadelaw24_begin.ret Q)) (posC palisadelaw24_begin.code []) 8 [1, 3, 5, 7, 8] [.ptr a1, .ptr a2, .ptr a3, .ptr (some a4), .int .i64 a5] h) ?_
    intro a1 a2 a3 a4 a5 h hb todo hm ρ a w s f hp
    have hself : CutOK sg W0 130 (entered 9) (Post sg W0 (palisadelaw24_begin.ret Q)) (posC palisadelaw24_begin.code []) 8 [1, 3, 5, 7, 8] (palisadelaw24_begin.k8 (fun a1 a2 a3 a4 a5 h => Head sg W0 130 (entered 9) (Post sg W0 (palisadelaw24_begin.ret Q)) (posC palisadelaw24_begin.code []) 8 [1, 3, 5, 7, 8] [.ptr a1, .ptr a2, .ptr a3, .ptr (some a4), .int .i64 a5] h)) := cutOK_head (fun vs h hk => by unfold palisadelaw24_begin.k8 at hk; split at hk; exact hk; exact hk.elim)
    exact piece (E := palisadelaw24_begin.E Q [(12, ([1, 3, 5, 7, 8, 9], palisadelaw24_begin.k12 (fun a1 a2 a3 a4 a5 a6 h => palisadelaw24_begin.j12 (fun a1 a2 a3 a4 a5 h => Head sg W0 130 (entered 9) (Post sg W0 (palisadelaw24_begin.ret Q)) (posC palisadelaw24_begin.code []) 8 [1, 3, 5, 7, 8] [.ptr a1, .ptr a2, .ptr a3, .ptr (some a4), .int .i64 a5] h) a1 a2 a3 a4 a5 a6 Q h)))]) (vs := [.ptr a1, .ptr a2, .ptr a3, .ptr (some a4), .int .i64 a5]) (envOK seatOK palisadelaw24_begin.callsOK noIfc_ok) (fnOK seatOK palisadelaw24_begin.fun) ⟨(palisadelaw24_begin.s12 Q (fun a1 a2 a3 a4 a5 h => Head sg W0 130 (entered 9) (Post sg W0 (palisadelaw24_begin.ret Q)) (posC palisadelaw24_begin.code []) 8 [1, 3, 5, 7, 8] [.ptr a1, .ptr a2, .ptr a3, .ptr (some a4), .int .i64 a5] h) hself), trivial⟩ palisadelaw24_begin.p8 (fuel := 3000) (by rw [← palisadelaw24_begin.e8]; exact hb) hm s f hp
  · exact hk.elim

theorem palisadelaw24_begin.p6 : (posC palisadelaw24_begin.code []).filter (fun p => Nat.beq p.1 6) = [(6, atPos (posC palisadelaw24_begin.code []) 6)] := by kernel_rfl

theorem palisadelaw24_begin.e6 : ∀  (a1 : Option Ptr) (a2 : Option Ptr) (a3 : Option Ptr) (Q : (Option Ptr) → Heap → Prop) (h : Heap), palisadelaw24_begin.j6  a1 a2 a3 Q h = pts (palisadelaw24_begin.E Q [(8, ([1, 3, 5, 7, 8], palisadelaw24_begin.k8 (fun a1 a2 a3 a4 a5 h => palisadelaw24_begin.j8  a1 a2 a3 a4 a5 Q h)))]) 3000 true (atPos (posC palisadelaw24_begin.code []) 6) (frAt [1, 3, 5] [.ptr a1, .ptr a2, .ptr a3]) h := by
  intros; kernel_rfl

theorem palisadelaw24_begin.s6 {W0 : World} (Q : (Option Ptr) → Heap → Prop)   : CutOK sg W0 130 (entered 9) (Post sg W0 (palisadelaw24_begin.ret Q)) (posC palisadelaw24_begin.code []) 6 [1, 3, 5] (palisadelaw24_begin.k6 (fun a1 a2 a3 h => palisadelaw24_begin.j6  a1 a2 a3 Q h)) := by
  refine cutOK_head (fun vs h hk => ?_)
  unfold palisadelaw24_begin.k6 at hk
  split at hk
  · rename_i a1 a2 a3
    intro todo hm ρ a w s f hp
    exact piece (E := palisadelaw24_begin.E Q [(8, ([1, 3, 5, 7, 8], palisadelaw24_begin.k8 (fun a1 a2 a3 a4 a5 h => palisadelaw24_begin.j8  a1 a2 a3 a4 a5 Q h)))]) (vs := [.ptr a1, .ptr a2, .ptr a3]) (envOK seatOK palisadelaw24_begin.callsOK noIfc_ok) (fnOK seatOK palisadelaw24_begin.fun) ⟨(palisadelaw24_begin.s8 Q  ), trivial⟩ palisadelaw24_begin.p6 (fuel := 3000) (by rw [← palisadelaw24_begin.e6]; exact hk) hm s f hp
  · exact hk.elim

theorem palisadelaw24_begin.e : ∀  (Q : (Option Ptr) → Heap → Prop) (h : Heap), palisadelaw24_begin  Q h = pts (palisadelaw24_begin.E Q [(5, ([], palisadelaw24_begin.k5 (fun  h => palisadelaw24_begin.j5   Q h))), (6, ([1, 3, 5], palisadelaw24_begin.k6 (fun a1 a2 a3 h => palisadelaw24_begin.j6  a1 a2 a3 Q h)))]) 3000 true [.code palisadelaw24_begin.code] (frOf 0 []) h := by
  intros; kernel_rfl

theorem palisadelaw24_begin.S {W0 : World} : FnS sg W0 265 palisadelaw24_begin.C := by
  intro vs κ h wv hx w s
  unfold palisadelaw24_begin.C at hx
  split at hx
  · skip
    refine postImp (ret := palisadelaw24_begin.ret (fun r1 h => κ (.ptr r1) h)) (fun v h hr => by unfold palisadelaw24_begin.ret at hr; split at hr; exact hr; exact hr.elim) ?_
    exact calls_of_pts (E := palisadelaw24_begin.E (fun r1 h => κ (.ptr r1) h) [(5, ([], palisadelaw24_begin.k5 (fun  h => palisadelaw24_begin.j5   (fun r1 h => κ (.ptr r1) h) h))), (6, ([1, 3, 5], palisadelaw24_begin.k6 (fun a1 a2 a3 h => palisadelaw24_begin.j6  a1 a2 a3 (fun r1 h => κ (.ptr r1) h) h)))]) (envOK seatOK palisadelaw24_begin.callsOK noIfc_ok) seatOK.mixed palisadelaw24_begin.fun (Nat.le_of_ble_eq_true rfl) wv (cutL_ok ⟨(palisadelaw24_begin.s5 (fun r1 h => κ (.ptr r1) h)), (palisadelaw24_begin.s6 (fun r1 h => κ (.ptr r1) h)), trivial⟩) s (fuel := 3000) (by rw [← palisadelaw24_begin.e]; exact hx)
  · exact hx.elim

noncomputable def console_New.code : Code := Go.Proofs.Tryd.f10.body.getD .skip

theorem console_New.fun : Fun sg.P 10 3 [.tmp 0] console_New.code := mkFun Go.Proofs.Tryd.func10 (by kernel_rfl) (by kernel_rfl) (by kernel_rfl) (by kernel_rfl)

def console_New.ret (Q : (Option Ptr) → Heap → Prop) (v : V) (h : Heap) : Prop :=
  match v with
  | .ptr r1 => Q r1 h
  | _ => False

def console_New.C (vs : List V) (κ : V → Heap → Prop) (h : Heap) : Prop :=
  match vs with
  | [] => console_New  (fun r1 h => κ (.ptr r1) h) h
  | _ => False

noncomputable def console_New.calls : List (Nat × (List V → (V → Heap → Prop) → Heap → Prop)) := []

noncomputable def console_New.E (Q : (Option Ptr) → Heap → Prop) (cuts : List (Nat × (List Nat × (List V → Heap → Prop)))) : Env := { tis := tisT, fns := fnsT, tys := tysT, gls := [], rts := rtsT, unk := [], nxt := [], calls := console_New.calls, ifc := noIfc, cuts := cuts, ret := console_New.ret Q, rets := [.tmp 0], n := 3 }

theorem console_New.callsOK {W0 : World} : CallsOK sg W0 console_New.calls := trivial

theorem console_New.e : ∀  (Q : (Option Ptr) → Heap → Prop) (h : Heap), console_New  Q h = pts (console_New.E Q []) 3000 true [.code console_New.code] (frOf 0 []) h := by
  intros; kernel_rfl

theorem console_New.S {W0 : World} : FnS sg W0 308 console_New.C := by
  intro vs κ h wv hx w s
  unfold console_New.C at hx
  split at hx
  · skip
    refine postImp (ret := console_New.ret (fun r1 h => κ (.ptr r1) h)) (fun v h hr => by unfold console_New.ret at hr; split at hr; exact hr; exact hr.elim) ?_
    exact calls_of_pts (E := console_New.E (fun r1 h => κ (.ptr r1) h) []) (envOK seatOK console_New.callsOK noIfc_ok) seatOK.mixed console_New.fun (Nat.le_of_ble_eq_true rfl) wv (cutL_ok trivial) s (fuel := 3000) (by rw [← console_New.e]; exact hx)
  · exact hx.elim

noncomputable def backend_NewTty.code : Code := Go.Proofs.Tryd.f11.body.getD .skip

theorem backend_NewTty.fun : Fun sg.P 11 16 [.tmp 4, .tmp 5] backend_NewTty.code := mkFun Go.Proofs.Tryd.func11 (by kernel_rfl) (by kernel_rfl) (by kernel_rfl) (by kernel_rfl)

def backend_NewTty.ret (Q : (Option Ptr) → Int → Heap → Prop) (v : V) (h : Heap) : Prop :=
  match v with
  | .tup [.ptr r1, .int .i64 r2] => Q r1 r2 h
  | _ => False

def backend_NewTty.C (vs : List V) (κ : V → Heap → Prop) (h : Heap) : Prop :=
  match vs with
  | [.ptr a1, .ptr a2] => backend_NewTty a1 a2 (fun r1 r2 h => κ (.tup [.ptr r1, .int .i64 r2]) h) h
  | _ => False

noncomputable def backend_NewTty.calls : List (Nat × (List V → (V → Heap → Prop) → Heap → Prop)) := []

noncomputable def backend_NewTty.E (Q : (Option Ptr) → Int → Heap → Prop) (cuts : List (Nat × (List Nat × (List V → Heap → Prop)))) : Env := { tis := tisT, fns := fnsT, tys := tysT, gls := [], rts := rtsT, unk := [], nxt := [], calls := backend_NewTty.calls, ifc := noIfc, cuts := cuts, ret := backend_NewTty.ret Q, rets := [.tmp 4, .tmp 5], n := 16 }

theorem backend_NewTty.callsOK {W0 : World} : CallsOK sg W0 backend_NewTty.calls := trivial

theorem backend_NewTty.e : ∀ (a1 : Option Ptr) (a2 : Option Ptr) (Q : (Option Ptr) → Int → Heap → Prop) (h : Heap), backend_NewTty a1 a2 Q h = pts (backend_NewTty.E Q []) 3000 true [.code backend_NewTty.code] (frOf 0 [.ptr a1, .ptr a2]) h := by
  intros; kernel_rfl

theorem backend_NewTty.S {W0 : World} : FnS sg W0 285 backend_NewTty.C := by
  intro vs κ h wv hx w s
  unfold backend_NewTty.C at hx
  split at hx
  · rename_i a1 a2
    refine postImp (ret := backend_NewTty.ret (fun r1 r2 h => κ (.tup [.ptr r1, .int .i64 r2]) h)) (fun v h hr => by unfold backend_NewTty.ret at hr; split at hr; exact hr; exact hr.elim) ?_
    exact calls_of_pts (E := backend_NewTty.E (fun r1 r2 h => κ (.tup [.ptr r1, .int .i64 r2]) h) []) (envOK seatOK backend_NewTty.callsOK noIfc_ok) seatOK.mixed backend_NewTty.fun (Nat.le_of_ble_eq_true rfl) wv (cutL_ok trivial) s (fuel := 3000) (by rw [← backend_NewTty.e]; exact hx)
  · exact hx.elim

noncomputable def console_Console_none.code : Code := Go.Proofs.Tryd.f43.body.getD .skip

theorem console_Console_none.fun : Fun sg.P 43 12 [.tmp 2] console_Console_none.code := mkFun Go.Proofs.Tryd.func43 (by kernel_rfl) (by kernel_rfl) (by kernel_rfl) (by kernel_rfl)

def console_Console_none.ret (Q : Bool → Heap → Prop) (v : V) (h : Heap) : Prop :=
  match v with
  | .bool r1 => Q r1 h
  | _ => False

def console_Console_none.C (vs : List V) (κ : V → Heap → Prop) (h : Heap) : Prop :=
  match vs with
  | [.ptr a1] => console_Console_none a1 (fun r1 h => κ (.bool r1) h) h
  | _ => False

noncomputable def console_Console_none.calls : List (Nat × (List V → (V → Heap → Prop) → Heap → Prop)) := []

noncomputable def console_Console_none.E (Q : Bool → Heap → Prop) (cuts : List (Nat × (List Nat × (List V → Heap → Prop)))) : Env := { tis := tisT, fns := fnsT, tys := tysT, gls := [], rts := rtsT, unk := [], nxt := [], calls := console_Console_none.calls, ifc := noIfc, cuts := cuts, ret := console_Console_none.ret Q, rets := [.tmp 2], n := 12 }

theorem console_Console_none.callsOK {W0 : World} : CallsOK sg W0 console_Console_none.calls := trivial

theorem console_Console_none.e : ∀ (a1 : Option Ptr) (Q : Bool → Heap → Prop) (h : Heap), console_Console_none a1 Q h = pts (console_Console_none.E Q []) 3000 true [.code console_Console_none.code] (frOf 0 [.ptr a1]) h := by
  intros; kernel_rfl

theorem console_Console_none.S {W0 : World} : FnS sg W0 291 console_Console_none.C := by
  intro vs κ h wv hx w s
  unfold console_Console_none.C at hx
  split at hx
  · rename_i a1
    refine postImp (ret := console_Console_none.ret (fun r1 h => κ (.bool r1) h)) (fun v h hr => by unfold console_Console_none.ret at hr; split at hr; exact hr; exact hr.elim) ?_
    exact calls_of_pts (E := console_Console_none.E (fun r1 h => κ (.bool r1) h) []) (envOK seatOK console_Console_none.callsOK noIfc_ok) seatOK.mixed console_Console_none.fun (Nat.le_of_ble_eq_true rfl) wv (cutL_ok trivial) s (fuel := 3000) (by rw [← console_Console_none.e]; exact hx)
  · exact hx.elim

noncomputable def console_Console_Input.code : Code := Go.Proofs.Tryd.f12.body.getD .skip

theorem console_Console_Input.fun : Fun sg.P 12 53 [.tmp 4, .tmp 5] console_Console_Input.code := mkFun Go.Proofs.Tryd.func12 (by kernel_rfl) (by kernel_rfl) (by kernel_rfl) (by kernel_rfl)

def console_Console_Input.ret (Q : Int → Int → Heap → Prop) (v : V) (h : Heap) : Prop :=
  match v with
  | .tup [.int .i64 r1, .int .i64 r2] => Q r1 r2 h
  | _ => False

def console_Console_Input.C (vs : List V) (κ : V → Heap → Prop) (h : Heap) : Prop :=
  match vs with
  | [.ptr a1, .sl a2] => console_Console_Input a1 a2 (fun r1 r2 h => κ (.tup [.int .i64 r1, .int .i64 r2]) h) h
  | _ => False

noncomputable def console_Console_Input.calls : List (Nat × (List V → (V → Heap → Prop) → Heap → Prop)) := [(291, console_Console_none.C)]

noncomputable def console_Console_Input.E (Q : Int → Int → Heap → Prop) (cuts : List (Nat × (List Nat × (List V → Heap → Prop)))) : Env := { tis := tisT, fns := fnsT, tys := tysT, gls := [], rts := rtsT, unk := [], nxt := [], calls := console_Console_Input.calls, ifc := noIfc, cuts := cuts, ret := console_Console_Input.ret Q, rets := [.tmp 4, .tmp 5], n := 53 }

theorem console_Console_Input.callsOK {W0 : World} : CallsOK sg W0 console_Console_Input.calls := ⟨console_Console_none.S, trivial⟩

def console_Console_Input.k7 (I : Int → Heap → Prop) (vs : List V) (h : Heap) : Prop :=
  match vs with
  | [.int .i64 a1] => I a1 h
  | _ => False

def console_Console_Input.k5 (I : (Option Ptr) → Sl → Int → Heap → Prop) (vs : List V) (h : Heap) : Prop :=
  match vs with
  | [.ptr a1, .sl a2, .int .i64 a3] => I a1 a2 a3 h
  | _ => False

theorem console_Console_Input.p7 : (posC console_Console_Input.code []).filter (fun p => Nat.beq p.1 7) = [(7, atPos (posC console_Console_Input.code []) 7)] := by kernel_rfl

theorem console_Console_Input.e7 : ∀  (a1 : Int) (Q : Int → Int → Heap → Prop) (h : Heap), console_Console_Input.j7  a1 Q h = pts (console_Console_Input.E Q []) 3000 true (atPos (posC console_Console_Input.code []) 7) (frAt [6] [.int .i64 a1]) h := by
  intros; kernel_rfl

theorem console_Console_Input.s7 {W0 : World} (Q : Int → Int → Heap → Prop)   : CutOK sg W0 53 (entered 12) (Post sg W0 (console_Console_Input.ret Q)) (posC console_Console_Input.code []) 7 [6] (console_Console_Input.k7 (fun a1 h => console_Console_Input.j7  a1 Q h)) := by
  refine cutOK_head (fun vs h hk => ?_)
  unfold console_Console_Input.k7 at hk
  split at hk
  · rename_i a1
    intro todo hm ρ a w s f hp
    exact piece (E := console_Console_Input.E Q []) (vs := [.int .i64 a1]) (envOK seatOK console_Console_Input.callsOK noIfc_ok) (fnOK seatOK console_Console_Input.fun) trivial console_Console_Input.p7 (fuel := 3000) (by rw [← console_Console_Input.e7]; exact hk) hm s f hp
  · exact hk.elim

theorem console_Console_Input.p5 : (posC console_Console_Input.code []).filter (fun p => Nat.beq p.1 5) = [(5, atPos (posC console_Console_Input.code []) 5)] := by kernel_rfl

theorem console_Console_Input.e5 : ∀  (a1 : Option Ptr) (a2 : Sl) (a3 : Int) (Q : Int → Int → Heap → Prop) (h : Heap), console_Console_Input.j5  a1 a2 a3 Q h = pts (console_Console_Input.E Q [(7, ([6], console_Console_Input.k7 (fun a1 h => console_Console_Input.j7  a1 Q h)))]) 3000 true (atPos (posC console_Console_Input.code []) 5) (frAt [0, 1, 6] [.ptr a1, .sl a2, .int .i64 a3]) h := by
  intros; kernel_rfl

theorem console_Console_Input.s5 {W0 : World} (Q : Int → Int → Heap → Prop)   : CutOK sg W0 53 (entered 12) (Post sg W0 (console_Console_Input.ret Q)) (posC console_Console_Input.code []) 5 [0, 1, 6] (console_Console_Input.k5 (fun a1 a2 a3 h => console_Console_Input.j5  a1 a2 a3 Q h)) := by
  refine cutOK_head (fun vs h hk => ?_)
  unfold console_Console_Input.k5 at hk
  split at hk
  · rename_i a1 a2 a3
    intro todo hm ρ a w s f hp
    exact piece (E := console_Console_Input.E Q [(7, ([6], console_Console_Input.k7 (fun a1 h => console_Console_Input.j7  a1 Q h)))]) (vs := [.ptr a1, .sl a2, .int .i64 a3]) (envOK seatOK console_Console_Input.callsOK noIfc_ok) (fnOK seatOK console_Console_Input.fun) ⟨(console_Console_Input.s7 Q  ), trivial⟩ console_Console_Input.p5 (fuel := 3000) (by rw [← console_Console_Input.e5]; exact hk) hm s f hp
  · exact hk.elim

theorem console_Console_Input.e : ∀ (a1 : Option Ptr) (a2 : Sl) (Q : Int → Int → Heap → Prop) (h : Heap), console_Console_Input a1 a2 Q h = pts (console_Console_Input.E Q [(5, ([0, 1, 6], console_Console_Input.k5 (fun a1 a2 a3 h => console_Console_Input.j5  a1 a2 a3 Q h)))]) 3000 true [.code console_Console_Input.code] (frOf 0 [.ptr a1, .sl a2]) h := by
  intros; kernel_rfl

theorem console_Console_Input.S {W0 : World} : FnS sg W0 309 console_Console_Input.C := by
  intro vs κ h wv hx w s
  unfold console_Console_Input.C at hx
  split at hx
  · rename_i a1 a2
    refine postImp (ret := console_Console_Input.ret (fun r1 r2 h => κ (.tup [.int .i64 r1, .int .i64 r2]) h)) (fun v h hr => by unfold console_Console_Input.ret at hr; split at hr; exact hr; exact hr.elim) ?_
    exact calls_of_pts (E := console_Console_Input.E (fun r1 r2 h => κ (.tup [.int .i64 r1, .int .i64 r2]) h) [(5, ([0, 1, 6], console_Console_Input.k5 (fun a1 a2 a3 h => console_Console_Input.j5  a1 a2 a3 (fun r1 r2 h => κ (.tup [.int .i64 r1, .int .i64 r2]) h) h)))]) (envOK seatOK console_Console_Input.callsOK noIfc_ok) seatOK.mixed console_Console_Input.fun (Nat.le_of_ble_eq_true rfl) wv (cutL_ok ⟨(console_Console_Input.s5 (fun r1 r2 h => κ (.tup [.int .i64 r1, .int .i64 r2]) h)), trivial⟩) s (fuel := 3000) (by rw [← console_Console_Input.e]; exact hx)
  · exact hx.elim

noncomputable def mem_Memory_none.code : Code := Go.Proofs.Tryd.f95.body.getD .skip

theorem mem_Memory_none.fun : Fun sg.P 95 12 [.tmp 2] mem_Memory_none.code := mkFun Go.Proofs.Tryd.func95 (by kernel_rfl) (by kernel_rfl) (by kernel_rfl) (by kernel_rfl)

def mem_Memory_none.ret (Q : Bool → Heap → Prop) (v : V) (h : Heap) : Prop :=
  match v with
  | .bool r1 => Q r1 h
  | _ => False

def mem_Memory_none.C (vs : List V) (κ : V → Heap → Prop) (h : Heap) : Prop :=
  match vs with
  | [.ptr a1] => mem_Memory_none a1 (fun r1 h => κ (.bool r1) h) h
  | _ => False

noncomputable def mem_Memory_none.calls : List (Nat × (List V → (V → Heap → Prop) → Heap → Prop)) := []

noncomputable def mem_Memory_none.E (Q : Bool → Heap → Prop) (cuts : List (Nat × (List Nat × (List V → Heap → Prop)))) : Env := { tis := tisT, fns := fnsT, tys := tysT, gls := [], rts := rtsT, unk := [], nxt := [], calls := mem_Memory_none.calls, ifc := noIfc, cuts := cuts, ret := mem_Memory_none.ret Q, rets := [.tmp 2], n := 12 }

theorem mem_Memory_none.callsOK {W0 : World} : CallsOK sg W0 mem_Memory_none.calls := trivial

theorem mem_Memory_none.e : ∀ (a1 : Option Ptr) (Q : Bool → Heap → Prop) (h : Heap), mem_Memory_none a1 Q h = pts (mem_Memory_none.E Q []) 3000 true [.code mem_Memory_none.code] (frOf 0 [.ptr a1]) h := by
  intros; kernel_rfl

theorem mem_Memory_none.S {W0 : World} : FnS sg W0 31 mem_Memory_none.C := by
  intro vs κ h wv hx w s
  unfold mem_Memory_none.C at hx
  split at hx
  · rename_i a1
    refine postImp (ret := mem_Memory_none.ret (fun r1 h => κ (.bool r1) h)) (fun v h hr => by unfold mem_Memory_none.ret at hr; split at hr; exact hr; exact hr.elim) ?_
    exact calls_of_pts (E := mem_Memory_none.E (fun r1 h => κ (.bool r1) h) []) (envOK seatOK mem_Memory_none.callsOK noIfc_ok) seatOK.mixed mem_Memory_none.fun (Nat.le_of_ble_eq_true rfl) wv (cutL_ok trivial) s (fuel := 3000) (by rw [← mem_Memory_none.e]; exact hx)
  · exact hx.elim

noncomputable def mem_Memory_part_c1.code : Code := Go.Proofs.Tryd.f100.body.getD .skip

theorem mem_Memory_part_c1.fun : Fun sg.P 100 23 [.tmp 3] mem_Memory_part_c1.code := mkFun Go.Proofs.Tryd.func100 (by kernel_rfl) (by kernel_rfl) (by kernel_rfl) (by kernel_rfl)

def mem_Memory_part_c1.ret (Q : Bool → Heap → Prop) (v : V) (h : Heap) : Prop :=
  match v with
  | .bool r1 => Q r1 h
  | _ => False

def mem_Memory_part_c1.C (vs : List V) (κ : V → Heap → Prop) (h : Heap) : Prop :=
  match vs with
  | [.ptr (some a1), .ptr (some a2), .ptr (some a3)] => mem_Memory_part_c1 a1 a2 a3 (fun r1 h => κ (.bool r1) h) h
  | _ => False

noncomputable def mem_Memory_part_c1.calls : List (Nat × (List V → (V → Heap → Prop) → Heap → Prop)) := []

noncomputable def mem_Memory_part_c1.E (Q : Bool → Heap → Prop) (cuts : List (Nat × (List Nat × (List V → Heap → Prop)))) : Env := { tis := tisT, fns := fnsT, tys := tysT, gls := [], rts := rtsT, unk := [], nxt := [], calls := mem_Memory_part_c1.calls, ifc := noIfc, cuts := cuts, ret := mem_Memory_part_c1.ret Q, rets := [.tmp 3], n := 23 }

theorem mem_Memory_part_c1.callsOK {W0 : World} : CallsOK sg W0 mem_Memory_part_c1.calls := trivial

theorem mem_Memory_part_c1.e : ∀ (a1 : Ptr) (a2 : Ptr) (a3 : Ptr) (Q : Bool → Heap → Prop) (h : Heap), mem_Memory_part_c1 a1 a2 a3 Q h = pts (mem_Memory_part_c1.E Q []) 3000 true [.code mem_Memory_part_c1.code] (frOf 0 [.ptr (some a1), .ptr (some a2), .ptr (some a3)]) h := by
  intros; kernel_rfl

theorem mem_Memory_part_c1.S {W0 : World} : FnS sg W0 2 mem_Memory_part_c1.C := by
  intro vs κ h wv hx w s
  unfold mem_Memory_part_c1.C at hx
  split at hx
  · rename_i a1 a2 a3
    refine postImp (ret := mem_Memory_part_c1.ret (fun r1 h => κ (.bool r1) h)) (fun v h hr => by unfold mem_Memory_part_c1.ret at hr; split at hr; exact hr; exact hr.elim) ?_
    exact calls_of_pts (E := mem_Memory_part_c1.E (fun r1 h => κ (.bool r1) h) []) (envOK seatOK mem_Memory_part_c1.callsOK noIfc_ok) seatOK.mixed mem_Memory_part_c1.fun (Nat.le_of_ble_eq_true rfl) wv (cutL_ok trivial) s (fuel := 3000) (by rw [← mem_Memory_part_c1.e]; exact hx)
  · exact hx.elim

noncomputable def mem_Memory_part.code : Code := Go.Proofs.Tryd.f82.body.getD .skip

theorem mem_Memory_part.fun : Fun sg.P 82 33 [.tmp 6, .tmp 7] mem_Memory_part.code := mkFun Go.Proofs.Tryd.func82 (by kernel_rfl) (by kernel_rfl) (by kernel_rfl) (by kernel_rfl)

def mem_Memory_part.ret (Q : Sl → Int → Heap → Prop) (v : V) (h : Heap) : Prop :=
  match v with
  | .tup [.sl r1, .int .i64 r2] => Q r1 r2 h
  | _ => False

def mem_Memory_part.C (vs : List V) (κ : V → Heap → Prop) (h : Heap) : Prop :=
  match vs with
  | [.ptr a1, .int .u64 a2, .int .i64 a3] => mem_Memory_part a1 a2 a3 (fun r1 r2 h => κ (.tup [.sl r1, .int .i64 r2]) h) h
  | _ => False

noncomputable def mem_Memory_part.calls : List (Nat × (List V → (V → Heap → Prop) → Heap → Prop)) := [(31, mem_Memory_none.C), (2, mem_Memory_part_c1.C)]

noncomputable def mem_Memory_part.E (Q : Sl → Int → Heap → Prop) (cuts : List (Nat × (List Nat × (List V → Heap → Prop)))) : Env := { tis := tisT, fns := fnsT, tys := tysT, gls := [], rts := rtsT, unk := [], nxt := [], calls := mem_Memory_part.calls, ifc := noIfc, cuts := cuts, ret := mem_Memory_part.ret Q, rets := [.tmp 6, .tmp 7], n := 33 }

theorem mem_Memory_part.callsOK {W0 : World} : CallsOK sg W0 mem_Memory_part.calls := ⟨mem_Memory_none.S, mem_Memory_part_c1.S, trivial⟩

theorem mem_Memory_part.e : ∀ (a1 : Option Ptr) (a2 : Int) (a3 : Int) (Q : Sl → Int → Heap → Prop) (h : Heap), mem_Memory_part a1 a2 a3 Q h = pts (mem_Memory_part.E Q []) 3000 true [.code mem_Memory_part.code] (frOf 0 [.ptr a1, .int .u64 a2, .int .i64 a3]) h := by
  intros; kernel_rfl

theorem mem_Memory_part.S {W0 : World} : FnS sg W0 32 mem_Memory_part.C := by
  intro vs κ h wv hx w s
  unfold mem_Memory_part.C at hx
  split at hx
  · rename_i a1 a2 a3
    refine postImp (ret := mem_Memory_part.ret (fun r1 r2 h => κ (.tup [.sl r1, .int .i64 r2]) h)) (fun v h hr => by unfold mem_Memory_part.ret at hr; split at hr; exact hr; exact hr.elim) ?_
    exact calls_of_pts (E := mem_Memory_part.E (fun r1 r2 h => κ (.tup [.sl r1, .int .i64 r2]) h) []) (envOK seatOK mem_Memory_part.callsOK noIfc_ok) seatOK.mixed mem_Memory_part.fun (Nat.le_of_ble_eq_true rfl) wv (cutL_ok trivial) s (fuel := 3000) (by rw [← mem_Memory_part.e]; exact hx)
  · exact hx.elim

noncomputable def mem_Memory_Put.code : Code := Go.Proofs.Tryd.f44.body.getD .skip

theorem mem_Memory_Put.fun : Fun sg.P 44 23 [.tmp 6] mem_Memory_Put.code := mkFun Go.Proofs.Tryd.func44 (by kernel_rfl) (by kernel_rfl) (by kernel_rfl) (by kernel_rfl)

def mem_Memory_Put.ret (Q : Int → Heap → Prop) (v : V) (h : Heap) : Prop :=
  match v with
  | .int .i64 r1 => Q r1 h
  | _ => False

def mem_Memory_Put.C (vs : List V) (κ : V → Heap → Prop) (h : Heap) : Prop :=
  match vs with
  | [.ptr a1, .int .u64 a2, .sl a3] => mem_Memory_Put a1 a2 a3 (fun r1 h => κ (.int .i64 r1) h) h
  | _ => False

noncomputable def mem_Memory_Put.calls : List (Nat × (List V → (V → Heap → Prop) → Heap → Prop)) := [(32, mem_Memory_part.C)]

noncomputable def mem_Memory_Put.E (Q : Int → Heap → Prop) (cuts : List (Nat × (List Nat × (List V → Heap → Prop)))) : Env := { tis := tisT, fns := fnsT, tys := tysT, gls := [], rts := rtsT, unk := [], nxt := [], calls := mem_Memory_Put.calls, ifc := noIfc, cuts := cuts, ret := mem_Memory_Put.ret Q, rets := [.tmp 6], n := 23 }

theorem mem_Memory_Put.callsOK {W0 : World} : CallsOK sg W0 mem_Memory_Put.calls := ⟨mem_Memory_part.S, trivial⟩

theorem mem_Memory_Put.e : ∀ (a1 : Option Ptr) (a2 : Int) (a3 : Sl) (Q : Int → Heap → Prop) (h : Heap), mem_Memory_Put a1 a2 a3 Q h = pts (mem_Memory_Put.E Q []) 3000 true [.code mem_Memory_Put.code] (frOf 0 [.ptr a1, .int .u64 a2, .sl a3]) h := by
  intros; kernel_rfl

theorem mem_Memory_Put.S {W0 : World} : FnS sg W0 33 mem_Memory_Put.C := by
  intro vs κ h wv hx w s
  unfold mem_Memory_Put.C at hx
  split at hx
  · rename_i a1 a2 a3
    refine postImp (ret := mem_Memory_Put.ret (fun r1 h => κ (.int .i64 r1) h)) (fun v h hr => by unfold mem_Memory_Put.ret at hr; split at hr; exact hr; exact hr.elim) ?_
    exact calls_of_pts (E := mem_Memory_Put.E (fun r1 h => κ (.int .i64 r1) h) []) (envOK seatOK mem_Memory_Put.callsOK noIfc_ok) seatOK.mixed mem_Memory_Put.fun (Nat.le_of_ble_eq_true rfl) wv (cutL_ok trivial) s (fuel := 3000) (by rw [← mem_Memory_Put.e]; exact hx)
  · exact hx.elim

noncomputable def palisadelaw24_Flat_Put.code : Code := Go.Proofs.Tryd.f13.body.getD .skip

theorem palisadelaw24_Flat_Put.fun : Fun sg.P 13 43 [.tmp 6] palisadelaw24_Flat_Put.code := mkFun Go.Proofs.Tryd.func13 (by kernel_rfl) (by kernel_rfl) (by kernel_rfl) (by kernel_rfl)

def palisadelaw24_Flat_Put.ret (Q : Int → Heap → Prop) (v : V) (h : Heap) : Prop :=
  match v with
  | .int .i64 r1 => Q r1 h
  | _ => False

def palisadelaw24_Flat_Put.C (vs : List V) (κ : V → Heap → Prop) (h : Heap) : Prop :=
  match vs with
  | [.ptr a1, .int .u64 a2, .sl a3] => palisadelaw24_Flat_Put a1 a2 a3 (fun r1 h => κ (.int .i64 r1) h) h
  | _ => False

noncomputable def palisadelaw24_Flat_Put.calls : List (Nat × (List V → (V → Heap → Prop) → Heap → Prop)) := [(33, mem_Memory_Put.C)]

noncomputable def palisadelaw24_Flat_Put.E (Q : Int → Heap → Prop) (cuts : List (Nat × (List Nat × (List V → Heap → Prop)))) : Env := { tis := tisT, fns := fnsT, tys := tysT, gls := [], rts := rtsT, unk := [], nxt := [], calls := palisadelaw24_Flat_Put.calls, ifc := noIfc, cuts := cuts, ret := palisadelaw24_Flat_Put.ret Q, rets := [.tmp 6], n := 43 }

theorem palisadelaw24_Flat_Put.callsOK {W0 : World} : CallsOK sg W0 palisadelaw24_Flat_Put.calls := ⟨mem_Memory_Put.S, trivial⟩

def palisadelaw24_Flat_Put.k2 (I : Heap → Prop) (vs : List V) (h : Heap) : Prop :=
  match vs with
  | [] => I  h
  | _ => False

theorem palisadelaw24_Flat_Put.p2 : (posC palisadelaw24_Flat_Put.code []).filter (fun p => Nat.beq p.1 2) = [(2, atPos (posC palisadelaw24_Flat_Put.code []) 2)] := by kernel_rfl

theorem palisadelaw24_Flat_Put.e2 : ∀   (Q : Int → Heap → Prop) (h : Heap), palisadelaw24_Flat_Put.j2   Q h = pts (palisadelaw24_Flat_Put.E Q []) 3000 true (atPos (posC palisadelaw24_Flat_Put.code []) 2) (frAt [] []) h := by
  intros; kernel_rfl

theorem palisadelaw24_Flat_Put.s2 {W0 : World} (Q : Int → Heap → Prop)   : CutOK sg W0 43 (entered 13) (Post sg W0 (palisadelaw24_Flat_Put.ret Q)) (posC palisadelaw24_Flat_Put.code []) 2 [] (palisadelaw24_Flat_Put.k2 (fun  h => palisadelaw24_Flat_Put.j2   Q h)) := by
  refine cutOK_head (fun vs h hk => ?_)
  unfold palisadelaw24_Flat_Put.k2 at hk
  split at hk
  · skip
    intro todo hm ρ a w s f hp
    exact piece (E := palisadelaw24_Flat_Put.E Q []) (vs := []) (envOK seatOK palisadelaw24_Flat_Put.callsOK noIfc_ok) (fnOK seatOK palisadelaw24_Flat_Put.fun) trivial palisadelaw24_Flat_Put.p2 (fuel := 3000) (by rw [← palisadelaw24_Flat_Put.e2]; exact hk) hm s f hp
  · exact hk.elim

theorem palisadelaw24_Flat_Put.e : ∀ (a1 : Option Ptr) (a2 : Int) (a3 : Sl) (Q : Int → Heap → Prop) (h : Heap), palisadelaw24_Flat_Put a1 a2 a3 Q h = pts (palisadelaw24_Flat_Put.E Q [(2, ([], palisadelaw24_Flat_Put.k2 (fun  h => palisadelaw24_Flat_Put.j2   Q h)))]) 3000 true [.code palisadelaw24_Flat_Put.code] (frOf 0 [.ptr a1, .int .u64 a2, .sl a3]) h := by
  intros; kernel_rfl

theorem palisadelaw24_Flat_Put.S {W0 : World} : FnS sg W0 298 palisadelaw24_Flat_Put.C := by
  intro vs κ h wv hx w s
  unfold palisadelaw24_Flat_Put.C at hx
  split at hx
  · rename_i a1 a2 a3
    refine postImp (ret := palisadelaw24_Flat_Put.ret (fun r1 h => κ (.int .i64 r1) h)) (fun v h hr => by unfold palisadelaw24_Flat_Put.ret at hr; split at hr; exact hr; exact hr.elim) ?_
    exact calls_of_pts (E := palisadelaw24_Flat_Put.E (fun r1 h => κ (.int .i64 r1) h) [(2, ([], palisadelaw24_Flat_Put.k2 (fun  h => palisadelaw24_Flat_Put.j2   (fun r1 h => κ (.int .i64 r1) h) h)))]) (envOK seatOK palisadelaw24_Flat_Put.callsOK noIfc_ok) seatOK.mixed palisadelaw24_Flat_Put.fun (Nat.le_of_ble_eq_true rfl) wv (cutL_ok ⟨(palisadelaw24_Flat_Put.s2 (fun r1 h => κ (.int .i64 r1) h)), trivial⟩) s (fuel := 3000) (by rw [← palisadelaw24_Flat_Put.e]; exact hx)
  · exact hx.elim

end Go.Fn
