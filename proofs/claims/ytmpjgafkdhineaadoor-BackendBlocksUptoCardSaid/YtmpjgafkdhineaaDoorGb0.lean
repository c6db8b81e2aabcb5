/- The links of the shallow functions to the machine. PRINTED by lift.py. -/
import Derived.Test.YtmpjgafkdhineaaDoorGa

set_option linter.unusedVariables false
set_option maxRecDepth 100000
namespace Go.Fn
open Go.Lift

noncomputable def zf40.code : Code := Go.Proofs.Tryd.f25.body.getD .skip

theorem zf40.fun : Fun sg.P 25 15 [.tmp 2, .tmp 3] zf40.code := mkFun Go.Proofs.Tryd.func25 (by kernel_rfl) (by kernel_rfl) (by kernel_rfl) (by kernel_rfl)

def zf40.ret (Q : (Option Ptr) → Int → Heap → Prop) (v : V) (h : Heap) : Prop :=
  match v with
  | .tup [.ptr r1, .int .i64 r2] => Q r1 r2 h
  | _ => False

def zf40.C (vs : List V) (κ : V → Heap → Prop) (h : Heap) : Prop :=
  match vs with
  | [.int .i64 a1] => zf40 a1 (fun r1 r2 h => κ (.tup [.ptr r1, .int .i64 r2]) h) h
  | _ => False

noncomputable def zf40.calls : List (Nat × (List V → (V → Heap → Prop) → Heap → Prop)) := []

noncomputable def zf40.E (Q : (Option Ptr) → Int → Heap → Prop) (cuts : List (Nat × (List Nat × (List V → Heap → Prop)))) : Env := { tis := tisT, fns := fnsT, tys := tysT, gls := [], rts := rtsT, unk := [], nxt := [], calls := zf40.calls, ifc := noIfc, cuts := cuts, ret := zf40.ret Q, rets := [.tmp 2, .tmp 3], n := 15 }

theorem zf40.callsOK {W0 : World} : CallsOK sg W0 zf40.calls := trivial

theorem zf40.e : ∀ (a1 : Int) (Q : (Option Ptr) → Int → Heap → Prop) (h : Heap), zf40 a1 Q h = pts (zf40.E Q []) 3000 true [.code zf40.code] (frOf 0 [.int .i64 a1]) h := by
  intros; kernel_rfl

theorem zf40.S {W0 : World} : FnS sg W0 28 zf40.C := by
  intro vs κ h wv hx w s
  unfold zf40.C at hx
  split at hx
  · rename_i a1
    refine postImp (ret := zf40.ret (fun r1 r2 h => κ (.tup [.ptr r1, .int .i64 r2]) h)) (fun v h hr => by unfold zf40.ret at hr; split at hr; exact hr; exact hr.elim) ?_
    exact calls_of_pts (E := zf40.E (fun r1 r2 h => κ (.tup [.ptr r1, .int .i64 r2]) h) []) (envOK seatOK zf40.callsOK noIfc_ok) seatOK.mixed zf40.fun (Nat.le_of_ble_eq_true rfl) wv (cutL_ok trivial) s (fuel := 3000) (by rw [← zf40.e]; exact hx)
  · exact hx.elim

noncomputable def zf29.code : Code := Go.Proofs.Tryd.f26.body.getD .skip

theorem zf29.fun : Fun sg.P 26 57 [.tmp 4, .tmp 5] zf29.code := mkFun Go.Proofs.Tryd.func26 (by kernel_rfl) (by kernel_rfl) (by kernel_rfl) (by kernel_rfl)

def zf29.ret (Q : (Option Ptr) → Int → Heap → Prop) (v : V) (h : Heap) : Prop :=
  match v with
  | .tup [.ptr r1, .int .i64 r2] => Q r1 r2 h
  | _ => False

def zf29.C (vs : List V) (κ : V → Heap → Prop) (h : Heap) : Prop :=
  match vs with
  | [.int .i64 a1, .int .i64 a2] => zf29 a1 a2 (fun r1 r2 h => κ (.tup [.ptr r1, .int .i64 r2]) h) h
  | _ => False

noncomputable def zf29.calls : List (Nat × (List V → (V → Heap → Prop) → Heap → Prop)) := []

noncomputable def zf29.E (Q : (Option Ptr) → Int → Heap → Prop) (cuts : List (Nat × (List Nat × (List V → Heap → Prop)))) : Env := { tis := tisT, fns := fnsT, tys := tysT, gls := [], rts := rtsT, unk := [], nxt := [], calls := zf29.calls, ifc := noIfc, cuts := cuts, ret := zf29.ret Q, rets := [.tmp 4, .tmp 5], n := 57 }

theorem zf29.callsOK {W0 : World} : CallsOK sg W0 zf29.calls := trivial

def zf29.k2 (I : Heap → Prop) (vs : List V) (h : Heap) : Prop :=
  match vs with
  | [] => I  h
  | _ => False

def zf29.k11 (I : Int → Ptr → Int → Heap → Prop) (vs : List V) (h : Heap) : Prop :=
  match vs with
  | [.int .i64 a1, .ptr (some a2), .int .i64 a3] => I a1 a2 a3 h
  | _ => False

def zf29.k5 (I : Int → Int → Ptr → Int → Int → Heap → Prop) (vs : List V) (h : Heap) : Prop :=
  match vs with
  | [.int .i64 a1, .int .i64 a2, .ptr (some a3), .int .i64 a4, .int .i64 a5] => I a1 a2 a3 a4 a5 h
  | _ => False

def zf29.k4 (I : Int → Int → Ptr → Heap → Prop) (vs : List V) (h : Heap) : Prop :=
  match vs with
  | [.int .i64 a1, .int .i64 a2, .ptr (some a3)] => I a1 a2 a3 h
  | _ => False

theorem zf29.p2 : (posC zf29.code []).filter (fun p => Nat.beq p.1 2) = [(2, atPos (posC zf29.code []) 2)] := by kernel_rfl

theorem zf29.e2 : ∀   (Q : (Option Ptr) → Int → Heap → Prop) (h : Heap), zf29.j2   Q h = pts (zf29.E Q []) 3000 true (atPos (posC zf29.code []) 2) (frAt [] []) h := by
  intros; kernel_rfl

theorem zf29.s2 {W0 : World} (Q : (Option Ptr) → Int → Heap → Prop)   : CutOK sg W0 57 (entered 26) (Post sg W0 (zf29.ret Q)) (posC zf29.code []) 2 [] (zf29.k2 (fun  h => zf29.j2   Q h)) := by
  refine cutOK_head (fun vs h hk => ?_)
  unfold zf29.k2 at hk
  split at hk
  · skip
    intro todo hm ρ a w s f hp
    exact piece (E := zf29.E Q []) (vs := []) (envOK seatOK zf29.callsOK noIfc_ok) (fnOK seatOK zf29.fun) trivial zf29.p2 (fuel := 3000) (by rw [← zf29.e2]; exact hk) hm s f hp
  · exact hk.elim

theorem zf29.p11 : (posC zf29.code []).filter (fun p => Nat.beq p.1 11) = [(11, atPos (posC zf29.code []) 11)] := by kernel_rfl

theorem zf29.e11 : ∀  (I11 : Int → Ptr → Int → Heap → Prop) (a1 : Int) (a2 : Ptr) (a3 : Int) (Q : (Option Ptr) → Int → Heap → Prop) (h : Heap), zf29.b11  I11 a1 a2 a3 Q h = pts (zf29.E Q [(11, ([0, 6, 46], zf29.k11 I11))]) 3000 true (atPos (posC zf29.code []) 11) (frAt [0, 6, 46] [.int .i64 a1, .ptr (some a2), .int .i64 a3]) h := by
  intros; kernel_rfl

theorem zf29.s11 {W0 : World} (Q : (Option Ptr) → Int → Heap → Prop)   : CutOK sg W0 57 (entered 26) (Post sg W0 (zf29.ret Q)) (posC zf29.code []) 11 [0, 6, 46] (zf29.k11 (fun a1 a2 a3 h => zf29.j11  a1 a2 a3 Q h)) := by
  refine cutOK_head (fun vs h hk => ?_)
  unfold zf29.k11 at hk
  split at hk
  · rename_i a1 a2 a3
    refine hk (fun a1 a2 a3 h => Head sg W0 57 (entered 26) (Post sg W0 (zf29.ret Q)) (posC zf29.code []) 11 [0, 6, 46] [.int .i64 a1, .ptr (some a2), .int .i64 a3] h) ?_
    intro a1 a2 a3 h hb todo hm ρ a w s f hp
    have hself : CutOK sg W0 57 (entered 26) (Post sg W0 (zf29.ret Q)) (posC zf29.code []) 11 [0, 6, 46] (zf29.k11 (fun a1 a2 a3 h => Head sg W0 57 (entered 26) (Post sg W0 (zf29.ret Q)) (posC zf29.code []) 11 [0, 6, 46] [.int .i64 a1, .ptr (some a2), .int .i64 a3] h)) := cutOK_head (fun vs h hk => by unfold zf29.k11 at hk; split at hk; exact hk; exact hk.elim)
    exact piece (E := zf29.E Q [(11, ([0, 6, 46], zf29.k11 (fun a1 a2 a3 h => Head sg W0 57 (entered 26) (Post sg W0 (zf29.ret Q)) (posC zf29.code []) 11 [0, 6, 46] [.int .i64 a1, .ptr (some a2), .int .i64 a3] h)))]) (vs := [.int .i64 a1, .ptr (some a2), .int .i64 a3]) (envOK seatOK zf29.callsOK noIfc_ok) (fnOK seatOK zf29.fun) ⟨hself, trivial⟩ zf29.p11 (fuel := 3000) (by rw [← zf29.e11]; exact hb) hm s f hp
  · exact hk.elim

theorem zf29.p5 : (posC zf29.code []).filter (fun p => Nat.beq p.1 5) = [(5, atPos (posC zf29.code []) 5)] := by kernel_rfl

theorem zf29.e5 : ∀  (I5 : Int → Int → Ptr → Int → Int → Heap → Prop) (a1 : Int) (a2 : Int) (a3 : Ptr) (a4 : Int) (a5 : Int) (Q : (Option Ptr) → Int → Heap → Prop) (h : Heap), zf29.b5  I5 a1 a2 a3 a4 a5 Q h = pts (zf29.E Q [(5, ([0, 1, 6, 31, 32], zf29.k5 I5)), (11, ([0, 6, 46], zf29.k11 (fun a1 a2 a3 h => zf29.j11  a1 a2 a3 Q h)))]) 3000 true (atPos (posC zf29.code []) 5) (frAt [0, 1, 6, 31, 32] [.int .i64 a1, .int .i64 a2, .ptr (some a3), .int .i64 a4, .int .i64 a5]) h := by
  intros; kernel_rfl

theorem zf29.s5 {W0 : World} (Q : (Option Ptr) → Int → Heap → Prop)   : CutOK sg W0 57 (entered 26) (Post sg W0 (zf29.ret Q)) (posC zf29.code []) 5 [0, 1, 6, 31, 32] (zf29.k5 (fun a1 a2 a3 a4 a5 h => zf29.j5  a1 a2 a3 a4 a5 Q h)) := by
  refine cutOK_head (fun vs h hk => ?_)
  unfold zf29.k5 at hk
  split at hk
  · rename_i a1 a2 a3 a4 a5
    refine hk (fun a1 a2 a3 a4 a5 h => Head sg W0 57 (entered 26) (Post sg W0 (zf29.ret Q)) (posC zf29.code []) 5 [0, 1, 6, 31, 32] [.int .i64 a1, .int .i64 a2, .ptr (some a3), .int .i64 a4, .int .i64 a5] h) ?_
    intro a1 a2 a3 a4 a5 h hb todo hm ρ a w s f hp
    have hself : CutOK sg W0 57 (entered 26) (Post sg W0 (zf29.ret Q)) (posC zf29.code []) 5 [0, 1, 6, 31, 32] (zf29.k5 (fun a1 a2 a3 a4 a5 h => Head sg W0 57 (entered 26) (Post sg W0 (zf29.ret Q)) (posC zf29.code []) 5 [0, 1, 6, 31, 32] [.int .i64 a1, .int .i64 a2, .ptr (some a3), .int .i64 a4, .int .i64 a5] h)) := cutOK_head (fun vs h hk => by unfold zf29.k5 at hk; split at hk; exact hk; exact hk.elim)
    exact piece (E := zf29.E Q [(5, ([0, 1, 6, 31, 32], zf29.k5 (fun a1 a2 a3 a4 a5 h => Head sg W0 57 (entered 26) (Post sg W0 (zf29.ret Q)) (posC zf29.code []) 5 [0, 1, 6, 31, 32] [.int .i64 a1, .int .i64 a2, .ptr (some a3), .int .i64 a4, .int .i64 a5] h))), (11, ([0, 6, 46], zf29.k11 (fun a1 a2 a3 h => zf29.j11  a1 a2 a3 Q h)))]) (vs := [.int .i64 a1, .int .i64 a2, .ptr (some a3), .int .i64 a4, .int .i64 a5]) (envOK seatOK zf29.callsOK noIfc_ok) (fnOK seatOK zf29.fun) ⟨hself, (zf29.s11 Q  ), trivial⟩ zf29.p5 (fuel := 3000) (by rw [← zf29.e5]; exact hb) hm s f hp
  · exact hk.elim

theorem zf29.p4 : (posC zf29.code []).filter (fun p => Nat.beq p.1 4) = [(4, atPos (posC zf29.code []) 4)] := by kernel_rfl

theorem zf29.e4 : ∀  (a1 : Int) (a2 : Int) (a3 : Ptr) (Q : (Option Ptr) → Int → Heap → Prop) (h : Heap), zf29.j4  a1 a2 a3 Q h = pts (zf29.E Q [(5, ([0, 1, 6, 31, 32], zf29.k5 (fun a1 a2 a3 a4 a5 h => zf29.j5  a1 a2 a3 a4 a5 Q h)))]) 3000 true (atPos (posC zf29.code []) 4) (frAt [0, 1, 6] [.int .i64 a1, .int .i64 a2, .ptr (some a3)]) h := by
  intros; kernel_rfl

theorem zf29.s4 {W0 : World} (Q : (Option Ptr) → Int → Heap → Prop)   : CutOK sg W0 57 (entered 26) (Post sg W0 (zf29.ret Q)) (posC zf29.code []) 4 [0, 1, 6] (zf29.k4 (fun a1 a2 a3 h => zf29.j4  a1 a2 a3 Q h)) := by
  refine cutOK_head (fun vs h hk => ?_)
  unfold zf29.k4 at hk
  split at hk
  · rename_i a1 a2 a3
    intro todo hm ρ a w s f hp
    exact piece (E := zf29.E Q [(5, ([0, 1, 6, 31, 32], zf29.k5 (fun a1 a2 a3 a4 a5 h => zf29.j5  a1 a2 a3 a4 a5 Q h)))]) (vs := [.int .i64 a1, .int .i64 a2, .ptr (some a3)]) (envOK seatOK zf29.callsOK noIfc_ok) (fnOK seatOK zf29.fun) ⟨(zf29.s5 Q  ), trivial⟩ zf29.p4 (fuel := 3000) (by rw [← zf29.e4]; exact hk) hm s f hp
  · exact hk.elim

theorem zf29.e : ∀ (a1 : Int) (a2 : Int) (Q : (Option Ptr) → Int → Heap → Prop) (h : Heap), zf29 a1 a2 Q h = pts (zf29.E Q [(2, ([], zf29.k2 (fun  h => zf29.j2   Q h))), (4, ([0, 1, 6], zf29.k4 (fun a1 a2 a3 h => zf29.j4  a1 a2 a3 Q h)))]) 3000 true [.code zf29.code] (frOf 0 [.int .i64 a1, .int .i64 a2]) h := by
  intros; kernel_rfl

theorem zf29.S {W0 : World} : FnS sg W0 259 zf29.C := by
  intro vs κ h wv hx w s
  unfold zf29.C at hx
  split at hx
  · rename_i a1 a2
    refine postImp (ret := zf29.ret (fun r1 r2 h => κ (.tup [.ptr r1, .int .i64 r2]) h)) (fun v h hr => by unfold zf29.ret at hr; split at hr; exact hr; exact hr.elim) ?_
    exact calls_of_pts (E := zf29.E (fun r1 r2 h => κ (.tup [.ptr r1, .int .i64 r2]) h) [(2, ([], zf29.k2 (fun  h => zf29.j2   (fun r1 r2 h => κ (.tup [.ptr r1, .int .i64 r2]) h) h))), (4, ([0, 1, 6], zf29.k4 (fun a1 a2 a3 h => zf29.j4  a1 a2 a3 (fun r1 r2 h => κ (.tup [.ptr r1, .int .i64 r2]) h) h)))]) (envOK seatOK zf29.callsOK noIfc_ok) seatOK.mixed zf29.fun (Nat.le_of_ble_eq_true rfl) wv (cutL_ok ⟨(zf29.s2 (fun r1 r2 h => κ (.tup [.ptr r1, .int .i64 r2]) h)), (zf29.s4 (fun r1 r2 h => κ (.tup [.ptr r1, .int .i64 r2]) h)), trivial⟩) s (fuel := 3000) (by rw [← zf29.e]; exact hx)
  · exact hx.elim

noncomputable def zf21.code : Code := Go.Proofs.Tryd.f27.body.getD .skip

theorem zf21.fun : Fun sg.P 27 14 [.tmp 2, .tmp 3] zf21.code := mkFun Go.Proofs.Tryd.func27 (by kernel_rfl) (by kernel_rfl) (by kernel_rfl) (by kernel_rfl)

def zf21.ret (Q : (Option Ptr) → Int → Heap → Prop) (v : V) (h : Heap) : Prop :=
  match v with
  | .tup [.ptr r1, .int .i64 r2] => Q r1 r2 h
  | _ => False

def zf21.C (vs : List V) (κ : V → Heap → Prop) (h : Heap) : Prop :=
  match vs with
  | [.int .i64 a1] => zf21 a1 (fun r1 r2 h => κ (.tup [.ptr r1, .int .i64 r2]) h) h
  | _ => False

noncomputable def zf21.calls : List (Nat × (List V → (V → Heap → Prop) → Heap → Prop)) := []

noncomputable def zf21.E (Q : (Option Ptr) → Int → Heap → Prop) (cuts : List (Nat × (List Nat × (List V → Heap → Prop)))) : Env := { tis := tisT, fns := fnsT, tys := tysT, gls := [], rts := rtsT, unk := [], nxt := [], calls := zf21.calls, ifc := noIfc, cuts := cuts, ret := zf21.ret Q, rets := [.tmp 2, .tmp 3], n := 14 }

theorem zf21.callsOK {W0 : World} : CallsOK sg W0 zf21.calls := trivial

theorem zf21.e : ∀ (a1 : Int) (Q : (Option Ptr) → Int → Heap → Prop) (h : Heap), zf21 a1 Q h = pts (zf21.E Q []) 3000 true [.code zf21.code] (frOf 0 [.int .i64 a1]) h := by
  intros; kernel_rfl

theorem zf21.S {W0 : World} : FnS sg W0 85 zf21.C := by
  intro vs κ h wv hx w s
  unfold zf21.C at hx
  split at hx
  · rename_i a1
    refine postImp (ret := zf21.ret (fun r1 r2 h => κ (.tup [.ptr r1, .int .i64 r2]) h)) (fun v h hr => by unfold zf21.ret at hr; split at hr; exact hr; exact hr.elim) ?_
    exact calls_of_pts (E := zf21.E (fun r1 r2 h => κ (.tup [.ptr r1, .int .i64 r2]) h) []) (envOK seatOK zf21.callsOK noIfc_ok) seatOK.mixed zf21.fun (Nat.le_of_ble_eq_true rfl) wv (cutL_ok trivial) s (fuel := 3000) (by rw [← zf21.e]; exact hx)
  · exact hx.elim

noncomputable def zf26.code : Code := Go.Proofs.Tryd.f39.body.getD .skip

theorem zf26.fun : Fun sg.P 39 12 [.tmp 2] zf26.code := mkFun Go.Proofs.Tryd.func39 (by kernel_rfl) (by kernel_rfl) (by kernel_rfl) (by kernel_rfl)

def zf26.ret (Q : Bool → Heap → Prop) (v : V) (h : Heap) : Prop :=
  match v with
  | .bool r1 => Q r1 h
  | _ => False

def zf26.C (vs : List V) (κ : V → Heap → Prop) (h : Heap) : Prop :=
  match vs with
  | [.ptr a1] => zf26 a1 (fun r1 h => κ (.bool r1) h) h
  | _ => False

noncomputable def zf26.calls : List (Nat × (List V → (V → Heap → Prop) → Heap → Prop)) := []

noncomputable def zf26.E (Q : Bool → Heap → Prop) (cuts : List (Nat × (List Nat × (List V → Heap → Prop)))) : Env := { tis := tisT, fns := fnsT, tys := tysT, gls := [], rts := rtsT, unk := [], nxt := [], calls := zf26.calls, ifc := noIfc, cuts := cuts, ret := zf26.ret Q, rets := [.tmp 2], n := 12 }

theorem zf26.callsOK {W0 : World} : CallsOK sg W0 zf26.calls := trivial

theorem zf26.e : ∀ (a1 : Option Ptr) (Q : Bool → Heap → Prop) (h : Heap), zf26 a1 Q h = pts (zf26.E Q []) 3000 true [.code zf26.code] (frOf 0 [.ptr a1]) h := by
  intros; kernel_rfl

theorem zf26.S {W0 : World} : FnS sg W0 260 zf26.C := by
  intro vs κ h wv hx w s
  unfold zf26.C at hx
  split at hx
  · rename_i a1
    refine postImp (ret := zf26.ret (fun r1 h => κ (.bool r1) h)) (fun v h hr => by unfold zf26.ret at hr; split at hr; exact hr; exact hr.elim) ?_
    exact calls_of_pts (E := zf26.E (fun r1 h => κ (.bool r1) h) []) (envOK seatOK zf26.callsOK noIfc_ok) seatOK.mixed zf26.fun (Nat.le_of_ble_eq_true rfl) wv (cutL_ok trivial) s (fuel := 3000) (by rw [← zf26.e]; exact hx)
  · exact hx.elim

noncomputable def zf30.code : Code := Go.Proofs.Tryd.f82.body.getD .skip

theorem zf30.fun : Fun sg.P 82 9 [.tmp 2] zf30.code := mkFun Go.Proofs.Tryd.func82 (by kernel_rfl) (by kernel_rfl) (by kernel_rfl) (by kernel_rfl)

def zf30.ret (Q : Bool → Heap → Prop) (v : V) (h : Heap) : Prop :=
  match v with
  | .bool r1 => Q r1 h
  | _ => False

def zf30.C (vs : List V) (κ : V → Heap → Prop) (h : Heap) : Prop :=
  match vs with
  | [.int .i64 a1] => zf30 a1 (fun r1 h => κ (.bool r1) h) h
  | _ => False

noncomputable def zf30.calls : List (Nat × (List V → (V → Heap → Prop) → Heap → Prop)) := []

noncomputable def zf30.E (Q : Bool → Heap → Prop) (cuts : List (Nat × (List Nat × (List V → Heap → Prop)))) : Env := { tis := tisT, fns := fnsT, tys := tysT, gls := [], rts := rtsT, unk := [], nxt := [], calls := zf30.calls, ifc := noIfc, cuts := cuts, ret := zf30.ret Q, rets := [.tmp 2], n := 9 }

theorem zf30.callsOK {W0 : World} : CallsOK sg W0 zf30.calls := trivial

theorem zf30.e : ∀ (a1 : Int) (Q : Bool → Heap → Prop) (h : Heap), zf30 a1 Q h = pts (zf30.E Q []) 3000 true [.code zf30.code] (frOf 0 [.int .i64 a1]) h := by
  intros; kernel_rfl

theorem zf30.S {W0 : World} : FnS sg W0 261 zf30.C := by
  intro vs κ h wv hx w s
  unfold zf30.C at hx
  split at hx
  · rename_i a1
    refine postImp (ret := zf30.ret (fun r1 h => κ (.bool r1) h)) (fun v h hr => by unfold zf30.ret at hr; split at hr; exact hr; exact hr.elim) ?_
    exact calls_of_pts (E := zf30.E (fun r1 h => κ (.bool r1) h) []) (envOK seatOK zf30.callsOK noIfc_ok) seatOK.mixed zf30.fun (Nat.le_of_ble_eq_true rfl) wv (cutL_ok trivial) s (fuel := 3000) (by rw [← zf30.e]; exact hx)
  · exact hx.elim

noncomputable def zf27.code : Code := Go.Proofs.Tryd.f61.body.getD .skip

theorem zf27.fun : Fun sg.P 61 19 [.tmp 4] zf27.code := mkFun Go.Proofs.Tryd.func61 (by kernel_rfl) (by kernel_rfl) (by kernel_rfl) (by kernel_rfl)

def zf27.ret (Q : Int → Heap → Prop) (v : V) (h : Heap) : Prop :=
  match v with
  | .int .i64 r1 => Q r1 h
  | _ => False

def zf27.C (vs : List V) (κ : V → Heap → Prop) (h : Heap) : Prop :=
  match vs with
  | [.ptr a1, .sl a2] => zf27 a1 a2 (fun r1 h => κ (.int .i64 r1) h) h
  | _ => False

noncomputable def zf27.calls : List (Nat × (List V → (V → Heap → Prop) → Heap → Prop)) := [(260, zf26.C), (261, zf30.C)]

noncomputable def zf27.E (Q : Int → Heap → Prop) (cuts : List (Nat × (List Nat × (List V → Heap → Prop)))) : Env := { tis := tisT, fns := fnsT, tys := tysT, gls := [], rts := rtsT, unk := [], nxt := [], calls := zf27.calls, ifc := noIfc, cuts := cuts, ret := zf27.ret Q, rets := [.tmp 4], n := 19 }

theorem zf27.callsOK {W0 : World} : CallsOK sg W0 zf27.calls := ⟨zf26.S, zf30.S, trivial⟩

def zf27.k4 (I : Sl → Int → Int → Heap → Prop) (vs : List V) (h : Heap) : Prop :=
  match vs with
  | [.sl a1, .int .i64 a2, .int .i64 a3] => I a1 a2 a3 h
  | _ => False

theorem zf27.p4 : (posC zf27.code []).filter (fun p => Nat.beq p.1 4) = [(4, atPos (posC zf27.code []) 4)] := by kernel_rfl

theorem zf27.e4 : ∀  (I4 : Sl → Int → Int → Heap → Prop) (a1 : Sl) (a2 : Int) (a3 : Int) (Q : Int → Heap → Prop) (h : Heap), zf27.b4  I4 a1 a2 a3 Q h = pts (zf27.E Q [(4, ([9, 10, 11], zf27.k4 I4))]) 3000 true (atPos (posC zf27.code []) 4) (frAt [9, 10, 11] [.sl a1, .int .i64 a2, .int .i64 a3]) h := by
  intros; kernel_rfl

theorem zf27.s4 {W0 : World} (Q : Int → Heap → Prop)   : CutOK sg W0 19 (entered 61) (Post sg W0 (zf27.ret Q)) (posC zf27.code []) 4 [9, 10, 11] (zf27.k4 (fun a1 a2 a3 h => zf27.j4  a1 a2 a3 Q h)) := by
  refine cutOK_head (fun vs h hk => ?_)
  unfold zf27.k4 at hk
  split at hk
  · rename_i a1 a2 a3
    refine hk (fun a1 a2 a3 h => Head sg W0 19 (entered 61) (Post sg W0 (zf27.ret Q)) (posC zf27.code []) 4 [9, 10, 11] [.sl a1, .int .i64 a2, .int .i64 a3] h) ?_
    intro a1 a2 a3 h hb todo hm ρ a w s f hp
    have hself : CutOK sg W0 19 (entered 61) (Post sg W0 (zf27.ret Q)) (posC zf27.code []) 4 [9, 10, 11] (zf27.k4 (fun a1 a2 a3 h => Head sg W0 19 (entered 61) (Post sg W0 (zf27.ret Q)) (posC zf27.code []) 4 [9, 10, 11] [.sl a1, .int .i64 a2, .int .i64 a3] h)) := cutOK_head (fun vs h hk => by unfold zf27.k4 at hk; split at hk; exact hk; exact hk.elim)
    exact piece (E := zf27.E Q [(4, ([9, 10, 11], zf27.k4 (fun a1 a2 a3 h => Head sg W0 19 (entered 61) (Post sg W0 (zf27.ret Q)) (posC zf27.code []) 4 [9, 10, 11] [.sl a1, .int .i64 a2, .int .i64 a3] h)))]) (vs := [.sl a1, .int .i64 a2, .int .i64 a3]) (envOK seatOK zf27.callsOK noIfc_ok) (fnOK seatOK zf27.fun) ⟨hself, trivial⟩ zf27.p4 (fuel := 3000) (by rw [← zf27.e4]; exact hb) hm s f hp
  · exact hk.elim

theorem zf27.e : ∀ (a1 : Option Ptr) (a2 : Sl) (Q : Int → Heap → Prop) (h : Heap), zf27 a1 a2 Q h = pts (zf27.E Q [(4, ([9, 10, 11], zf27.k4 (fun a1 a2 a3 h => zf27.j4  a1 a2 a3 Q h)))]) 3000 true [.code zf27.code] (frOf 0 [.ptr a1, .sl a2]) h := by
  intros; kernel_rfl

theorem zf27.S {W0 : World} : FnS sg W0 262 zf27.C := by
  intro vs κ h wv hx w s
  unfold zf27.C at hx
  split at hx
  · rename_i a1 a2
    refine postImp (ret := zf27.ret (fun r1 h => κ (.int .i64 r1) h)) (fun v h hr => by unfold zf27.ret at hr; split at hr; exact hr; exact hr.elim) ?_
    exact calls_of_pts (E := zf27.E (fun r1 h => κ (.int .i64 r1) h) [(4, ([9, 10, 11], zf27.k4 (fun a1 a2 a3 h => zf27.j4  a1 a2 a3 (fun r1 h => κ (.int .i64 r1) h) h)))]) (envOK seatOK zf27.callsOK noIfc_ok) seatOK.mixed zf27.fun (Nat.le_of_ble_eq_true rfl) wv (cutL_ok ⟨(zf27.s4 (fun r1 h => κ (.int .i64 r1) h)), trivial⟩) s (fuel := 3000) (by rw [← zf27.e]; exact hx)
  · exact hx.elim

noncomputable def zf22.code : Code := Go.Proofs.Tryd.f28.body.getD .skip

theorem zf22.fun : Fun sg.P 28 101 [.tmp 4, .tmp 5] zf22.code := mkFun Go.Proofs.Tryd.func28 (by kernel_rfl) (by kernel_rfl) (by kernel_rfl) (by kernel_rfl)

def zf22.ret (Q : Int → Int → Heap → Prop) (v : V) (h : Heap) : Prop :=
  match v with
  | .tup [.int .i64 r1, .int .i64 r2] => Q r1 r2 h
  | _ => False

def zf22.C (vs : List V) (κ : V → Heap → Prop) (h : Heap) : Prop :=
  match vs with
  | [.ptr a1, .int .i64 a2] => zf22 a1 a2 (fun r1 r2 h => κ (.tup [.int .i64 r1, .int .i64 r2]) h) h
  | _ => False

noncomputable def zf22.calls : List (Nat × (List V → (V → Heap → Prop) → Heap → Prop)) := [(262, zf27.C)]

noncomputable def zf22.E (Q : Int → Int → Heap → Prop) (cuts : List (Nat × (List Nat × (List V → Heap → Prop)))) : Env := { tis := tisT, fns := fnsT, tys := tysT, gls := [], rts := rtsT, unk := [], nxt := [], calls := zf22.calls, ifc := noIfc, cuts := cuts, ret := zf22.ret Q, rets := [.tmp 4, .tmp 5], n := 101 }

theorem zf22.callsOK {W0 : World} : CallsOK sg W0 zf22.calls := ⟨zf27.S, trivial⟩

def zf22.k11 (I : (Option Ptr) → Int → Heap → Prop) (vs : List V) (h : Heap) : Prop :=
  match vs with
  | [.ptr a1, .int .i64 a2] => I a1 a2 h
  | _ => False

def zf22.k8 (I : (Option Ptr) → Int → Heap → Prop) (vs : List V) (h : Heap) : Prop :=
  match vs with
  | [.ptr a1, .int .i64 a2] => I a1 a2 h
  | _ => False

def zf22.k6 (I : (Option Ptr) → Int → Heap → Prop) (vs : List V) (h : Heap) : Prop :=
  match vs with
  | [.ptr a1, .int .i64 a2] => I a1 a2 h
  | _ => False

theorem zf22.p11 : (posC zf22.code []).filter (fun p => Nat.beq p.1 11) = [(11, atPos (posC zf22.code []) 11)] := by kernel_rfl

theorem zf22.e11 : ∀  (a1 : Option Ptr) (a2 : Int) (Q : Int → Int → Heap → Prop) (h : Heap), zf22.j11  a1 a2 Q h = pts (zf22.E Q []) 3000 true (atPos (posC zf22.code []) 11) (frAt [0, 1] [.ptr a1, .int .i64 a2]) h := by
  intros; kernel_rfl

theorem zf22.s11 {W0 : World} (Q : Int → Int → Heap → Prop)   : CutOK sg W0 101 (entered 28) (Post sg W0 (zf22.ret Q)) (posC zf22.code []) 11 [0, 1] (zf22.k11 (fun a1 a2 h => zf22.j11  a1 a2 Q h)) := by
  refine cutOK_head (fun vs h hk => ?_)
  unfold zf22.k11 at hk
  split at hk
  · rename_i a1 a2
    intro todo hm ρ a w s f hp
    exact piece (E := zf22.E Q []) (vs := [.ptr a1, .int .i64 a2]) (envOK seatOK zf22.callsOK noIfc_ok) (fnOK seatOK zf22.fun) trivial zf22.p11 (fuel := 3000) (by rw [← zf22.e11]; exact hk) hm s f hp
  · exact hk.elim

theorem zf22.p8 : (posC zf22.code []).filter (fun p => Nat.beq p.1 8) = [(8, atPos (posC zf22.code []) 8)] := by kernel_rfl

theorem zf22.e8 : ∀  (a1 : Option Ptr) (a2 : Int) (Q : Int → Int → Heap → Prop) (h : Heap), zf22.j8  a1 a2 Q h = pts (zf22.E Q [(11, ([0, 1], zf22.k11 (fun a1 a2 h => zf22.j11  a1 a2 Q h)))]) 3000 true (atPos (posC zf22.code []) 8) (frAt [0, 1] [.ptr a1, .int .i64 a2]) h := by
  intros; kernel_rfl

theorem zf22.s8 {W0 : World} (Q : Int → Int → Heap → Prop)   : CutOK sg W0 101 (entered 28) (Post sg W0 (zf22.ret Q)) (posC zf22.code []) 8 [0, 1] (zf22.k8 (fun a1 a2 h => zf22.j8  a1 a2 Q h)) := by
  refine cutOK_head (fun vs h hk => ?_)
  unfold zf22.k8 at hk
  split at hk
  · rename_i a1 a2
    intro todo hm ρ a w s f hp
    exact piece (E := zf22.E Q [(11, ([0, 1], zf22.k11 (fun a1 a2 h => zf22.j11  a1 a2 Q h)))]) (vs := [.ptr a1, .int .i64 a2]) (envOK seatOK zf22.callsOK noIfc_ok) (fnOK seatOK zf22.fun) ⟨(zf22.s11 Q  ), trivial⟩ zf22.p8 (fuel := 3000) (by rw [← zf22.e8]; exact hk) hm s f hp
  · exact hk.elim

theorem zf22.p6 : (posC zf22.code []).filter (fun p => Nat.beq p.1 6) = [(6, atPos (posC zf22.code []) 6)] := by kernel_rfl

theorem zf22.e6 : ∀  (I6 : (Option Ptr) → Int → Heap → Prop) (a1 : Option Ptr) (a2 : Int) (Q : Int → Int → Heap → Prop) (h : Heap), zf22.b6  I6 a1 a2 Q h = pts (zf22.E Q [(6, ([0, 1], zf22.k6 I6)), (8, ([0, 1], zf22.k8 (fun a1 a2 h => zf22.j8  a1 a2 Q h)))]) 3000 true (atPos (posC zf22.code []) 6) (frAt [0, 1] [.ptr a1, .int .i64 a2]) h := by
  intros; kernel_rfl

theorem zf22.s6 {W0 : World} (Q : Int → Int → Heap → Prop)   : CutOK sg W0 101 (entered 28) (Post sg W0 (zf22.ret Q)) (posC zf22.code []) 6 [0, 1] (zf22.k6 (fun a1 a2 h => zf22.j6  a1 a2 Q h)) := by
  refine cutOK_head (fun vs h hk => ?_)
  unfold zf22.k6 at hk
  split at hk
  · rename_i a1 a2
    refine hk (fun a1 a2 h => Head sg W0 101 (entered 28) (Post sg W0 (zf22.ret Q)) (posC zf22.code []) 6 [0, 1] [.ptr a1, .int .i64 a2] h) ?_
    intro a1 a2 h hb todo hm ρ a w s f hp
    have hself : CutOK sg W0 101 (entered 28) (Post sg W0 (zf22.ret Q)) (posC zf22.code []) 6 [0, 1] (zf22.k6 (fun a1 a2 h => Head sg W0 101 (entered 28) (Post sg W0 (zf22.ret Q)) (posC zf22.code []) 6 [0, 1] [.ptr a1, .int .i64 a2] h)) := cutOK_head (fun vs h hk => by unfold zf22.k6 at hk; split at hk; exact hk; exact hk.elim)
    exact piece (E := zf22.E Q [(6, ([0, 1], zf22.k6 (fun a1 a2 h => Head sg W0 101 (entered 28) (Post sg W0 (zf22.ret Q)) (posC zf22.code []) 6 [0, 1] [.ptr a1, .int .i64 a2] h))), (8, ([0, 1], zf22.k8 (fun a1 a2 h => zf22.j8  a1 a2 Q h)))]) (vs := [.ptr a1, .int .i64 a2]) (envOK seatOK zf22.callsOK noIfc_ok) (fnOK seatOK zf22.fun) ⟨hself, (zf22.s8 Q  ), trivial⟩ zf22.p6 (fuel := 3000) (by rw [← zf22.e6]; exact hb) hm s f hp
  · exact hk.elim

theorem zf22.e : ∀ (a1 : Option Ptr) (a2 : Int) (Q : Int → Int → Heap → Prop) (h : Heap), zf22 a1 a2 Q h = pts (zf22.E Q [(6, ([0, 1], zf22.k6 (fun a1 a2 h => zf22.j6  a1 a2 Q h)))]) 3000 true [.code zf22.code] (frOf 0 [.ptr a1, .int .i64 a2]) h := by
  intros; kernel_rfl

theorem zf22.S {W0 : World} : FnS sg W0 263 zf22.C := by
  intro vs κ h wv hx w s
  unfold zf22.C at hx
  split at hx
  · rename_i a1 a2
    refine postImp (ret := zf22.ret (fun r1 r2 h => κ (.tup [.int .i64 r1, .int .i64 r2]) h)) (fun v h hr => by unfold zf22.ret at hr; split at hr; exact hr; exact hr.elim) ?_
    exact calls_of_pts (E := zf22.E (fun r1 r2 h => κ (.tup [.int .i64 r1, .int .i64 r2]) h) [(6, ([0, 1], zf22.k6 (fun a1 a2 h => zf22.j6  a1 a2 (fun r1 r2 h => κ (.tup [.int .i64 r1, .int .i64 r2]) h) h)))]) (envOK seatOK zf22.callsOK noIfc_ok) seatOK.mixed zf22.fun (Nat.le_of_ble_eq_true rfl) wv (cutL_ok ⟨(zf22.s6 (fun r1 r2 h => κ (.tup [.int .i64 r1, .int .i64 r2]) h)), trivial⟩) s (fuel := 3000) (by rw [← zf22.e]; exact hx)
  · exact hx.elim

noncomputable def zf58.code : Code := Go.Proofs.Tryd.f49.body.getD .skip

theorem zf58.fun : Fun sg.P 49 16 [.tmp 2] zf58.code := mkFun Go.Proofs.Tryd.func49 (by kernel_rfl) (by kernel_rfl) (by kernel_rfl) (by kernel_rfl)

def zf58.ret (Q : Bool → Heap → Prop) (v : V) (h : Heap) : Prop :=
  match v with
  | .bool r1 => Q r1 h
  | _ => False

def zf58.C (vs : List V) (κ : V → Heap → Prop) (h : Heap) : Prop :=
  match vs with
  | [.int .i64 a1] => zf58 a1 (fun r1 h => κ (.bool r1) h) h
  | _ => False

noncomputable def zf58.calls : List (Nat × (List V → (V → Heap → Prop) → Heap → Prop)) := []

noncomputable def zf58.E (Q : Bool → Heap → Prop) (cuts : List (Nat × (List Nat × (List V → Heap → Prop)))) : Env := { tis := tisT, fns := fnsT, tys := tysT, gls := [], rts := rtsT, unk := [], nxt := [], calls := zf58.calls, ifc := noIfc, cuts := cuts, ret := zf58.ret Q, rets := [.tmp 2], n := 16 }

theorem zf58.callsOK {W0 : World} : CallsOK sg W0 zf58.calls := trivial

theorem zf58.e : ∀ (a1 : Int) (Q : Bool → Heap → Prop) (h : Heap), zf58 a1 Q h = pts (zf58.E Q []) 3000 true [.code zf58.code] (frOf 0 [.int .i64 a1]) h := by
  intros; kernel_rfl

theorem zf58.S {W0 : World} : FnS sg W0 34 zf58.C := by
  intro vs κ h wv hx w s
  unfold zf58.C at hx
  split at hx
  · rename_i a1
    refine postImp (ret := zf58.ret (fun r1 h => κ (.bool r1) h)) (fun v h hr => by unfold zf58.ret at hr; split at hr; exact hr; exact hr.elim) ?_
    exact calls_of_pts (E := zf58.E (fun r1 h => κ (.bool r1) h) []) (envOK seatOK zf58.callsOK noIfc_ok) seatOK.mixed zf58.fun (Nat.le_of_ble_eq_true rfl) wv (cutL_ok trivial) s (fuel := 3000) (by rw [← zf58.e]; exact hx)
  · exact hx.elim

noncomputable def zf51.code : Code := Go.Proofs.Tryd.f19.body.getD .skip

theorem zf51.fun : Fun sg.P 19 23 [.tmp 4, .tmp 5] zf51.code := mkFun Go.Proofs.Tryd.func19 (by kernel_rfl) (by kernel_rfl) (by kernel_rfl) (by kernel_rfl)

def zf51.ret (Q : (Option Ptr) → Int → Heap → Prop) (v : V) (h : Heap) : Prop :=
  match v with
  | .tup [.ptr r1, .int .i64 r2] => Q r1 r2 h
  | _ => False

def zf51.C (vs : List V) (κ : V → Heap → Prop) (h : Heap) : Prop :=
  match vs with
  | [.int .u64 a1, .int .i64 a2] => zf51 a1 a2 (fun r1 r2 h => κ (.tup [.ptr r1, .int .i64 r2]) h) h
  | _ => False

noncomputable def zf51.calls : List (Nat × (List V → (V → Heap → Prop) → Heap → Prop)) := [(34, zf58.C)]

noncomputable def zf51.E (Q : (Option Ptr) → Int → Heap → Prop) (cuts : List (Nat × (List Nat × (List V → Heap → Prop)))) : Env := { tis := tisT, fns := fnsT, tys := tysT, gls := [], rts := rtsT, unk := [], nxt := [], calls := zf51.calls, ifc := noIfc, cuts := cuts, ret := zf51.ret Q, rets := [.tmp 4, .tmp 5], n := 23 }

theorem zf51.callsOK {W0 : World} : CallsOK sg W0 zf51.calls := ⟨zf58.S, trivial⟩

theorem zf51.e : ∀ (a1 : Int) (a2 : Int) (Q : (Option Ptr) → Int → Heap → Prop) (h : Heap), zf51 a1 a2 Q h = pts (zf51.E Q []) 3000 true [.code zf51.code] (frOf 0 [.int .u64 a1, .int .i64 a2]) h := by
  intros; kernel_rfl

theorem zf51.S {W0 : World} : FnS sg W0 35 zf51.C := by
  intro vs κ h wv hx w s
  unfold zf51.C at hx
  split at hx
  · rename_i a1 a2
    refine postImp (ret := zf51.ret (fun r1 r2 h => κ (.tup [.ptr r1, .int .i64 r2]) h)) (fun v h hr => by unfold zf51.ret at hr; split at hr; exact hr; exact hr.elim) ?_
    exact calls_of_pts (E := zf51.E (fun r1 r2 h => κ (.tup [.ptr r1, .int .i64 r2]) h) []) (envOK seatOK zf51.callsOK noIfc_ok) seatOK.mixed zf51.fun (Nat.le_of_ble_eq_true rfl) wv (cutL_ok trivial) s (fuel := 3000) (by rw [← zf51.e]; exact hx)
  · exact hx.elim

noncomputable def zf19.code : Code := Go.Proofs.Tryd.f37.body.getD .skip

theorem zf19.fun : Fun sg.P 37 12 [.tmp 2] zf19.code := mkFun Go.Proofs.Tryd.func37 (by kernel_rfl) (by kernel_rfl) (by kernel_rfl) (by kernel_rfl)

def zf19.ret (Q : Bool → Heap → Prop) (v : V) (h : Heap) : Prop :=
  match v with
  | .bool r1 => Q r1 h
  | _ => False

def zf19.C (vs : List V) (κ : V → Heap → Prop) (h : Heap) : Prop :=
  match vs with
  | [.ptr a1] => zf19 a1 (fun r1 h => κ (.bool r1) h) h
  | _ => False

noncomputable def zf19.calls : List (Nat × (List V → (V → Heap → Prop) → Heap → Prop)) := []

noncomputable def zf19.E (Q : Bool → Heap → Prop) (cuts : List (Nat × (List Nat × (List V → Heap → Prop)))) : Env := { tis := tisT, fns := fnsT, tys := tysT, gls := [], rts := rtsT, unk := [], nxt := [], calls := zf19.calls, ifc := noIfc, cuts := cuts, ret := zf19.ret Q, rets := [.tmp 2], n := 12 }

theorem zf19.callsOK {W0 : World} : CallsOK sg W0 zf19.calls := trivial

theorem zf19.e : ∀ (a1 : Option Ptr) (Q : Bool → Heap → Prop) (h : Heap), zf19 a1 Q h = pts (zf19.E Q []) 3000 true [.code zf19.code] (frOf 0 [.ptr a1]) h := by
  intros; kernel_rfl

theorem zf19.S {W0 : World} : FnS sg W0 29 zf19.C := by
  intro vs κ h wv hx w s
  unfold zf19.C at hx
  split at hx
  · rename_i a1
    refine postImp (ret := zf19.ret (fun r1 h => κ (.bool r1) h)) (fun v h hr => by unfold zf19.ret at hr; split at hr; exact hr; exact hr.elim) ?_
    exact calls_of_pts (E := zf19.E (fun r1 h => κ (.bool r1) h) []) (envOK seatOK zf19.callsOK noIfc_ok) seatOK.mixed zf19.fun (Nat.le_of_ble_eq_true rfl) wv (cutL_ok trivial) s (fuel := 3000) (by rw [← zf19.e]; exact hx)
  · exact hx.elim

noncomputable def zf11.code : Code := Go.Proofs.Tryd.f62.body.getD .skip

theorem zf11.fun : Fun sg.P 62 9 [.tmp 2] zf11.code := mkFun Go.Proofs.Tryd.func62 (by kernel_rfl) (by kernel_rfl) (by kernel_rfl) (by kernel_rfl)

def zf11.ret (Q : Int → Heap → Prop) (v : V) (h : Heap) : Prop :=
  match v with
  | .int .i64 r1 => Q r1 h
  | _ => False

def zf11.C (vs : List V) (κ : V → Heap → Prop) (h : Heap) : Prop :=
  match vs with
  | [.ptr a1] => zf11 a1 (fun r1 h => κ (.int .i64 r1) h) h
  | _ => False

noncomputable def zf11.calls : List (Nat × (List V → (V → Heap → Prop) → Heap → Prop)) := [(29, zf19.C)]

noncomputable def zf11.E (Q : Int → Heap → Prop) (cuts : List (Nat × (List Nat × (List V → Heap → Prop)))) : Env := { tis := tisT, fns := fnsT, tys := tysT, gls := [], rts := rtsT, unk := [], nxt := [], calls := zf11.calls, ifc := noIfc, cuts := cuts, ret := zf11.ret Q, rets := [.tmp 2], n := 9 }

theorem zf11.callsOK {W0 : World} : CallsOK sg W0 zf11.calls := ⟨zf19.S, trivial⟩

theorem zf11.e : ∀ (a1 : Option Ptr) (Q : Int → Heap → Prop) (h : Heap), zf11 a1 Q h = pts (zf11.E Q []) 3000 true [.code zf11.code] (frOf 0 [.ptr a1]) h := by
  intros; kernel_rfl

theorem zf11.S {W0 : World} : FnS sg W0 50 zf11.C := by
  intro vs κ h wv hx w s
  unfold zf11.C at hx
  split at hx
  · rename_i a1
    refine postImp (ret := zf11.ret (fun r1 h => κ (.int .i64 r1) h)) (fun v h hr => by unfold zf11.ret at hr; split at hr; exact hr; exact hr.elim) ?_
    exact calls_of_pts (E := zf11.E (fun r1 h => κ (.int .i64 r1) h) []) (envOK seatOK zf11.callsOK noIfc_ok) seatOK.mixed zf11.fun (Nat.le_of_ble_eq_true rfl) wv (cutL_ok trivial) s (fuel := 3000) (by rw [← zf11.e]; exact hx)
  · exact hx.elim

noncomputable def zf6.code : Code := Go.Proofs.Tryd.f29.body.getD .skip

theorem zf6.fun : Fun sg.P 29 63 [.tmp 12, .tmp 13] zf6.code := mkFun Go.Proofs.Tryd.func29 (by kernel_rfl) (by kernel_rfl) (by kernel_rfl) (by kernel_rfl)

def zf6.ret (Q : (Option Ptr) → Int → Heap → Prop) (v : V) (h : Heap) : Prop :=
  match v with
  | .tup [.ptr r1, .int .i64 r2] => Q r1 r2 h
  | _ => False

def zf6.C (vs : List V) (κ : V → Heap → Prop) (h : Heap) : Prop :=
  match vs with
  | [.ptr a1, .ptr a2, .int .i64 a3, .int .i64 a4, .ptr a5, .int .i64 a6] => zf6 a1 a2 a3 a4 a5 a6 (fun r1 r2 h => κ (.tup [.ptr r1, .int .i64 r2]) h) h
  | _ => False

noncomputable def zf6.calls : List (Nat × (List V → (V → Heap → Prop) → Heap → Prop)) := [(50, zf11.C)]

noncomputable def zf6.E (Q : (Option Ptr) → Int → Heap → Prop) (cuts : List (Nat × (List Nat × (List V → Heap → Prop)))) : Env := { tis := tisT, fns := fnsT, tys := tysT, gls := [], rts := rtsT, unk := [], nxt := [], calls := zf6.calls, ifc := noIfc, cuts := cuts, ret := zf6.ret Q, rets := [.tmp 12, .tmp 13], n := 63 }

theorem zf6.callsOK {W0 : World} : CallsOK sg W0 zf6.calls := ⟨zf11.S, trivial⟩

def zf6.k4 (I : Heap → Prop) (vs : List V) (h : Heap) : Prop :=
  match vs with
  | [] => I  h
  | _ => False

def zf6.k5 (I : (Option Ptr) → (Option Ptr) → Int → Int → (Option Ptr) → Int → Heap → Prop) (vs : List V) (h : Heap) : Prop :=
  match vs with
  | [.ptr a1, .ptr a2, .int .i64 a3, .int .i64 a4, .ptr a5, .int .i64 a6] => I a1 a2 a3 a4 a5 a6 h
  | _ => False

theorem zf6.p4 : (posC zf6.code []).filter (fun p => Nat.beq p.1 4) = [(4, atPos (posC zf6.code []) 4)] := by kernel_rfl

theorem zf6.e4 : ∀   (Q : (Option Ptr) → Int → Heap → Prop) (h : Heap), zf6.j4   Q h = pts (zf6.E Q []) 3000 true (atPos (posC zf6.code []) 4) (frAt [] []) h := by
  intros; kernel_rfl

theorem zf6.s4 {W0 : World} (Q : (Option Ptr) → Int → Heap → Prop)   : CutOK sg W0 63 (entered 29) (Post sg W0 (zf6.ret Q)) (posC zf6.code []) 4 [] (zf6.k4 (fun  h => zf6.j4   Q h)) := by
  refine cutOK_head (fun vs h hk => ?_)
  unfold zf6.k4 at hk
  split at hk
  · skip
    intro todo hm ρ a w s f hp
    exact piece (E := zf6.E Q []) (vs := []) (envOK seatOK zf6.callsOK noIfc_ok) (fnOK seatOK zf6.fun) trivial zf6.p4 (fuel := 3000) (by rw [← zf6.e4]; exact hk) hm s f hp
  · exact hk.elim

theorem zf6.p5 : (posC zf6.code []).filter (fun p => Nat.beq p.1 5) = [(5, atPos (posC zf6.code []) 5)] := by kernel_rfl

theorem zf6.e5 : ∀  (a1 : Option Ptr) (a2 : Option Ptr) (a3 : Int) (a4 : Int) (a5 : Option Ptr) (a6 : Int) (Q : (Option Ptr) → Int → Heap → Prop) (h : Heap), zf6.j5  a1 a2 a3 a4 a5 a6 Q h = pts (zf6.E Q []) 3000 true (atPos (posC zf6.code []) 5) (frAt [0, 1, 2, 3, 4, 5] [.ptr a1, .ptr a2, .int .i64 a3, .int .i64 a4, .ptr a5, .int .i64 a6]) h := by
  intros; kernel_rfl

theorem zf6.s5 {W0 : World} (Q : (Option Ptr) → Int → Heap → Prop)   : CutOK sg W0 63 (entered 29) (Post sg W0 (zf6.ret Q)) (posC zf6.code []) 5 [0, 1, 2, 3, 4, 5] (zf6.k5 (fun a1 a2 a3 a4 a5 a6 h => zf6.j5  a1 a2 a3 a4 a5 a6 Q h)) := by
  refine cutOK_head (fun vs h hk => ?_)
  unfold zf6.k5 at hk
  split at hk
  · rename_i a1 a2 a3 a4 a5 a6
    intro todo hm ρ a w s f hp
    exact piece (E := zf6.E Q []) (vs := [.ptr a1, .ptr a2, .int .i64 a3, .int .i64 a4, .ptr a5, .int .i64 a6]) (envOK seatOK zf6.callsOK noIfc_ok) (fnOK seatOK zf6.fun) trivial zf6.p5 (fuel := 3000) (by rw [← zf6.e5]; exact hk) hm s f hp
  · exact hk.elim

theorem zf6.e : ∀ (a1 : Option Ptr) (a2 : Option Ptr) (a3 : Int) (a4 : Int) (a5 : Option Ptr) (a6 : Int) (Q : (Option Ptr) → Int → Heap → Prop) (h : Heap), zf6 a1 a2 a3 a4 a5 a6 Q h = pts (zf6.E Q [(4, ([], zf6.k4 (fun  h => zf6.j4   Q h))), (5, ([0, 1, 2, 3, 4, 5], zf6.k5 (fun a1 a2 a3 a4 a5 a6 h => zf6.j5  a1 a2 a3 a4 a5 a6 Q h)))]) 3000 true [.code zf6.code] (frOf 0 [.ptr a1, .ptr a2, .int .i64 a3, .int .i64 a4, .ptr a5, .int .i64 a6]) h := by
  intros; kernel_rfl

theorem zf6.S {W0 : World} : FnS sg W0 264 zf6.C := by
  intro vs κ h wv hx w s
  unfold zf6.C at hx
  split at hx
  · rename_i a1 a2 a3 a4 a5 a6
    refine postImp (ret := zf6.ret (fun r1 r2 h => κ (.tup [.ptr r1, .int .i64 r2]) h)) (fun v h hr => by unfold zf6.ret at hr; split at hr; exact hr; exact hr.elim) ?_
    exact calls_of_pts (E := zf6.E (fun r1 r2 h => κ (.tup [.ptr r1, .int .i64 r2]) h) [(4, ([], zf6.k4 (fun  h => zf6.j4   (fun r1 r2 h => κ (.tup [.ptr r1, .int .i64 r2]) h) h))), (5, ([0, 1, 2, 3, 4, 5], zf6.k5 (fun a1 a2 a3 a4 a5 a6 h => zf6.j5  a1 a2 a3 a4 a5 a6 (fun r1 r2 h => κ (.tup [.ptr r1, .int .i64 r2]) h) h)))]) (envOK seatOK zf6.callsOK noIfc_ok) seatOK.mixed zf6.fun (Nat.le_of_ble_eq_true rfl) wv (cutL_ok ⟨(zf6.s4 (fun r1 r2 h => κ (.tup [.ptr r1, .int .i64 r2]) h)), (zf6.s5 (fun r1 r2 h => κ (.tup [.ptr r1, .int .i64 r2]) h)), trivial⟩) s (fuel := 3000) (by rw [← zf6.e]; exact hx)
  · exact hx.elim

noncomputable def zf48.code : Code := Go.Proofs.Tryd.f5.body.getD .skip

theorem zf48.fun : Fun sg.P 5 130 [.tmp 0] zf48.code := mkFun Go.Proofs.Tryd.func5 (by kernel_rfl) (by kernel_rfl) (by kernel_rfl) (by kernel_rfl)

def zf48.ret (Q : (Option Ptr) → Heap → Prop) (v : V) (h : Heap) : Prop :=
  match v with
  | .ptr r1 => Q r1 h
  | _ => False

def zf48.C (vs : List V) (κ : V → Heap → Prop) (h : Heap) : Prop :=
  match vs with
  | [] => zf48  (fun r1 h => κ (.ptr r1) h) h
  | _ => False

noncomputable def zf48.calls : List (Nat × (List V → (V → Heap → Prop) → Heap → Prop)) := [(35, zf51.C), (28, zf40.C), (259, zf29.C), (85, zf21.C), (263, zf22.C), (264, zf6.C)]

noncomputable def zf48.E (Q : (Option Ptr) → Heap → Prop) (cuts : List (Nat × (List Nat × (List V → Heap → Prop)))) : Env := { tis := tisT, fns := fnsT, tys := tysT, gls := [], rts := rtsT, unk := [], nxt := [], calls := zf48.calls, ifc := noIfc, cuts := cuts, ret := zf48.ret Q, rets := [.tmp 0], n := 130 }

theorem zf48.callsOK {W0 : World} : CallsOK sg W0 zf48.calls := ⟨zf51.S, zf40.S, zf29.S, zf21.S, zf22.S, zf6.S, trivial⟩

def zf48.k5 (I : Heap → Prop) (vs : List V) (h : Heap) : Prop :=
  match vs with
  | [] => I  h
  | _ => False

def zf48.k16 (I : Heap → Prop) (vs : List V) (h : Heap) : Prop :=
  match vs with
  | [] => I  h
  | _ => False

def zf48.k20 (I : Heap → Prop) (vs : List V) (h : Heap) : Prop :=
  match vs with
  | [] => I  h
  | _ => False

def zf48.k9 (I : (Option Ptr) → (Option Ptr) → (Option Ptr) → Ptr → Int → Heap → Prop) (vs : List V) (h : Heap) : Prop :=
  match vs with
  | [.ptr a1, .ptr a2, .ptr a3, .ptr (some a4), .int .i64 a5] => I a1 a2 a3 a4 a5 h
  | _ => False

def zf48.k21 (I : (Option Ptr) → (Option Ptr) → (Option Ptr) → Ptr → Int → (Option Ptr) → (Option Ptr) → Heap → Prop) (vs : List V) (h : Heap) : Prop :=
  match vs with
  | [.ptr a1, .ptr a2, .ptr a3, .ptr (some a4), .int .i64 a5, .ptr a6, .ptr a7] => I a1 a2 a3 a4 a5 a6 a7 h
  | _ => False

def zf48.k12 (I : (Option Ptr) → (Option Ptr) → (Option Ptr) → Ptr → Int → Int → Heap → Prop) (vs : List V) (h : Heap) : Prop :=
  match vs with
  | [.ptr a1, .ptr a2, .ptr a3, .ptr (some a4), .int .i64 a5, .int .i64 a6] => I a1 a2 a3 a4 a5 a6 h
  | _ => False

def zf48.k8 (I : (Option Ptr) → (Option Ptr) → (Option Ptr) → Ptr → Int → Heap → Prop) (vs : List V) (h : Heap) : Prop :=
  match vs with
  | [.ptr a1, .ptr a2, .ptr a3, .ptr (some a4), .int .i64 a5] => I a1 a2 a3 a4 a5 h
  | _ => False

def zf48.k6 (I : (Option Ptr) → (Option Ptr) → (Option Ptr) → Heap → Prop) (vs : List V) (h : Heap) : Prop :=
  match vs with
  | [.ptr a1, .ptr a2, .ptr a3] => I a1 a2 a3 h
  | _ => False

theorem zf48.p5 : (posC zf48.code []).filter (fun p => Nat.beq p.1 5) = [(5, atPos (posC zf48.code []) 5)] := by kernel_rfl

theorem zf48.e5 : ∀   (Q : (Option Ptr) → Heap → Prop) (h : Heap), zf48.j5   Q h = pts (zf48.E Q []) 3000 true (atPos (posC zf48.code []) 5) (frAt [] []) h := by
  intros; kernel_rfl

theorem zf48.s5 {W0 : World} (Q : (Option Ptr) → Heap → Prop)   : CutOK sg W0 130 (entered 5) (Post sg W0 (zf48.ret Q)) (posC zf48.code []) 5 [] (zf48.k5 (fun  h => zf48.j5   Q h)) := by
  refine cutOK_head (fun vs h hk => ?_)
  unfold zf48.k5 at hk
  split at hk
  · skip
    intro todo hm ρ a w s f hp
    exact piece (E := zf48.E Q []) (vs := []) (envOK seatOK zf48.callsOK noIfc_ok) (fnOK seatOK zf48.fun) trivial zf48.p5 (fuel := 3000) (by rw [← zf48.e5]; exact hk) hm s f hp
  · exact hk.elim

theorem zf48.p16 : (posC zf48.code []).filter (fun p => Nat.beq p.1 16) = [(16, atPos (posC zf48.code []) 16)] := by kernel_rfl

theorem zf48.e16 : ∀ (I8 : (Option Ptr) → (Option Ptr) → (Option Ptr) → Ptr → Int → Heap → Prop) (I12 : (Option Ptr) → (Option Ptr) → (Option Ptr) → Ptr → Int → Int → Heap → Prop)  (Q : (Option Ptr) → Heap → Prop) (h : Heap), zf48.j16 I8 I12  Q h = pts (zf48.E Q []) 3000 true (atPos (posC zf48.code []) 16) (frAt [] []) h := by
  intros; kernel_rfl

theorem zf48.s16 {W0 : World} (Q : (Option Ptr) → Heap → Prop) (I8 : (Option Ptr) → (Option Ptr) → (Option Ptr) → Ptr → Int → Heap → Prop) (I12 : (Option Ptr) → (Option Ptr) → (Option Ptr) → Ptr → Int → Int → Heap → Prop) (h8 : CutOK sg W0 130 (entered 5) (Post sg W0 (zf48.ret Q)) (posC zf48.code []) 8 [1, 3, 5, 7, 8] (zf48.k8 I8)) (h12 : CutOK sg W0 130 (entered 5) (Post sg W0 (zf48.ret Q)) (posC zf48.code []) 12 [1, 3, 5, 7, 8, 9] (zf48.k12 I12)) : CutOK sg W0 130 (entered 5) (Post sg W0 (zf48.ret Q)) (posC zf48.code []) 16 [] (zf48.k16 (fun  h => zf48.j16 I8 I12  Q h)) := by
  refine cutOK_head (fun vs h hk => ?_)
  unfold zf48.k16 at hk
  split at hk
  · skip
    intro todo hm ρ a w s f hp
    exact piece (E := zf48.E Q []) (vs := []) (envOK seatOK zf48.callsOK noIfc_ok) (fnOK seatOK zf48.fun) trivial zf48.p16 (fuel := 3000) (by rw [← zf48.e16]; exact hk) hm s f hp
  · exact hk.elim

theorem zf48.p20 : (posC zf48.code []).filter (fun p => Nat.beq p.1 20) = [(20, atPos (posC zf48.code []) 20)] := by kernel_rfl

theorem zf48.e20 : ∀ (I8 : (Option Ptr) → (Option Ptr) → (Option Ptr) → Ptr → Int → Heap → Prop)  (Q : (Option Ptr) → Heap → Prop) (h : Heap), zf48.j20 I8  Q h = pts (zf48.E Q []) 3000 true (atPos (posC zf48.code []) 20) (frAt [] []) h := by
  intros; kernel_rfl

theorem zf48.s20 {W0 : World} (Q : (Option Ptr) → Heap → Prop) (I8 : (Option Ptr) → (Option Ptr) → (Option Ptr) → Ptr → Int → Heap → Prop) (h8 : CutOK sg W0 130 (entered 5) (Post sg W0 (zf48.ret Q)) (posC zf48.code []) 8 [1, 3, 5, 7, 8] (zf48.k8 I8)) : CutOK sg W0 130 (entered 5) (Post sg W0 (zf48.ret Q)) (posC zf48.code []) 20 [] (zf48.k20 (fun  h => zf48.j20 I8  Q h)) := by
  refine cutOK_head (fun vs h hk => ?_)
  unfold zf48.k20 at hk
  split at hk
  · skip
    intro todo hm ρ a w s f hp
    exact piece (E := zf48.E Q []) (vs := []) (envOK seatOK zf48.callsOK noIfc_ok) (fnOK seatOK zf48.fun) trivial zf48.p20 (fuel := 3000) (by rw [← zf48.e20]; exact hk) hm s f hp
  · exact hk.elim

theorem zf48.p9 : (posC zf48.code []).filter (fun p => Nat.beq p.1 9) = [(9, atPos (posC zf48.code []) 9)] := by kernel_rfl

theorem zf48.e9 : ∀ (I8 : (Option Ptr) → (Option Ptr) → (Option Ptr) → Ptr → Int → Heap → Prop) (a1 : Option Ptr) (a2 : Option Ptr) (a3 : Option Ptr) (a4 : Ptr) (a5 : Int) (Q : (Option Ptr) → Heap → Prop) (h : Heap), zf48.j9 I8 a1 a2 a3 a4 a5 Q h = pts (zf48.E Q [(8, ([1, 3, 5, 7, 8], zf48.k8 I8))]) 3000 true (atPos (posC zf48.code []) 9) (frAt [1, 3, 5, 7, 8] [.ptr a1, .ptr a2, .ptr a3, .ptr (some a4), .int .i64 a5]) h := by
  intros; kernel_rfl

theorem zf48.s9 {W0 : World} (Q : (Option Ptr) → Heap → Prop) (I8 : (Option Ptr) → (Option Ptr) → (Option Ptr) → Ptr → Int → Heap → Prop) (h8 : CutOK sg W0 130 (entered 5) (Post sg W0 (zf48.ret Q)) (posC zf48.code []) 8 [1, 3, 5, 7, 8] (zf48.k8 I8)) : CutOK sg W0 130 (entered 5) (Post sg W0 (zf48.ret Q)) (posC zf48.code []) 9 [1, 3, 5, 7, 8] (zf48.k9 (fun a1 a2 a3 a4 a5 h => zf48.j9 I8 a1 a2 a3 a4 a5 Q h)) := by
  refine cutOK_head (fun vs h hk => ?_)
  unfold zf48.k9 at hk
  split at hk
  · rename_i a1 a2 a3 a4 a5
    intro todo hm ρ a w s f hp
    exact piece (E := zf48.E Q [(8, ([1, 3, 5, 7, 8], zf48.k8 I8))]) (vs := [.ptr a1, .ptr a2, .ptr a3, .ptr (some a4), .int .i64 a5]) (envOK seatOK zf48.callsOK noIfc_ok) (fnOK seatOK zf48.fun) ⟨h8, trivial⟩ zf48.p9 (fuel := 3000) (by rw [← zf48.e9]; exact hk) hm s f hp
  · exact hk.elim

theorem zf48.p21 : (posC zf48.code []).filter (fun p => Nat.beq p.1 21) = [(21, atPos (posC zf48.code []) 21)] := by kernel_rfl

theorem zf48.e21 : ∀ (I8 : (Option Ptr) → (Option Ptr) → (Option Ptr) → Ptr → Int → Heap → Prop) (a1 : Option Ptr) (a2 : Option Ptr) (a3 : Option Ptr) (a4 : Ptr) (a5 : Int) (a6 : Option Ptr) (a7 : Option Ptr) (Q : (Option Ptr) → Heap → Prop) (h : Heap), zf48.j21 I8 a1 a2 a3 a4 a5 a6 a7 Q h = pts (zf48.E Q [(9, ([1, 3, 5, 7, 8], zf48.k9 (fun a1 a2 a3 a4 a5 h => zf48.j9 I8 a1 a2 a3 a4 a5 Q h)))]) 3000 true (atPos (posC zf48.code []) 21) (frAt [1, 3, 5, 7, 8, 12, 14] [.ptr a1, .ptr a2, .ptr a3, .ptr (some a4), .int .i64 a5, .ptr a6, .ptr a7]) h := by
  intros; kernel_rfl

theorem zf48.s21 {W0 : World} (Q : (Option Ptr) → Heap → Prop) (I8 : (Option Ptr) → (Option Ptr) → (Option Ptr) → Ptr → Int → Heap → Prop) (h8 : CutOK sg W0 130 (entered 5) (Post sg W0 (zf48.ret Q)) (posC zf48.code []) 8 [1, 3, 5, 7, 8] (zf48.k8 I8)) : CutOK sg W0 130 (entered 5) (Post sg W0 (zf48.ret Q)) (posC zf48.code []) 21 [1, 3, 5, 7, 8, 12, 14] (zf48.k21 (fun a1 a2 a3 a4 a5 a6 a7 h => zf48.j21 I8 a1 a2 a3 a4 a5 a6 a7 Q h)) := by
  refine cutOK_head (fun vs h hk => ?_)
  unfold zf48.k21 at hk
  split at hk
  · rename_i a1 a2 a3 a4 a5 a6 a7
    intro todo hm ρ a w s f hp
    exact piece (E := zf48.E Q [(9, ([1, 3, 5, 7, 8], zf48.k9 (fun a1 a2 a3 a4 a5 h => zf48.j9 I8 a1 a2 a3 a4 a5 Q h)))]) (vs := [.ptr a1, .ptr a2, .ptr a3, .ptr (some a4), .int .i64 a5, .ptr a6, .ptr a7]) (envOK seatOK zf48.callsOK noIfc_ok) (fnOK seatOK zf48.fun) ⟨(zf48.s9 Q I8 h8), trivial⟩ zf48.p21 (fuel := 3000) (by rw [← zf48.e21]; exact hk) hm s f hp
  · exact hk.elim

theorem zf48.p12 : (posC zf48.code []).filter (fun p => Nat.beq p.1 12) = [(12, atPos (posC zf48.code []) 12)] := by kernel_rfl

theorem zf48.e12 : ∀ (I8 : (Option Ptr) → (Option Ptr) → (Option Ptr) → Ptr → Int → Heap → Prop) (I12 : (Option Ptr) → (Option Ptr) → (Option Ptr) → Ptr → Int → Int → Heap → Prop) (a1 : Option Ptr) (a2 : Option Ptr) (a3 : Option Ptr) (a4 : Ptr) (a5 : Int) (a6 : Int) (Q : (Option Ptr) → Heap → Prop) (h : Heap), zf48.b12 I8 I12 a1 a2 a3 a4 a5 a6 Q h = pts (zf48.E Q [(16, ([], zf48.k16 (fun  h => zf48.j16 I8 I12  Q h))), (12, ([1, 3, 5, 7, 8, 9], zf48.k12 I12)), (20, ([], zf48.k20 (fun  h => zf48.j20 I8  Q h))), (21, ([1, 3, 5, 7, 8, 12, 14], zf48.k21 (fun a1 a2 a3 a4 a5 a6 a7 h => zf48.j21 I8 a1 a2 a3 a4 a5 a6 a7 Q h)))]) 3000 true (atPos (posC zf48.code []) 12) (frAt [1, 3, 5, 7, 8, 9] [.ptr a1, .ptr a2, .ptr a3, .ptr (some a4), .int .i64 a5, .int .i64 a6]) h := by
  intros; kernel_rfl

theorem zf48.s12 {W0 : World} (Q : (Option Ptr) → Heap → Prop) (I8 : (Option Ptr) → (Option Ptr) → (Option Ptr) → Ptr → Int → Heap → Prop) (h8 : CutOK sg W0 130 (entered 5) (Post sg W0 (zf48.ret Q)) (posC zf48.code []) 8 [1, 3, 5, 7, 8] (zf48.k8 I8)) : CutOK sg W0 130 (entered 5) (Post sg W0 (zf48.ret Q)) (posC zf48.code []) 12 [1, 3, 5, 7, 8, 9] (zf48.k12 (fun a1 a2 a3 a4 a5 a6 h => zf48.j12 I8 a1 a2 a3 a4 a5 a6 Q h)) := by
  refine cutOK_head (fun vs h hk => ?_)
  unfold zf48.k12 at hk
  split at hk
  · rename_i a1 a2 a3 a4 a5 a6
    refine hk (fun a1 a2 a3 a4 a5 a6 h => Head sg W0 130 (entered 5) (Post sg W0 (zf48.ret Q)) (posC zf48.code []) 12 [1, 3, 5, 7, 8, 9] [.ptr a1, .ptr a2, .ptr a3, .ptr (some a4), .int .i64 a5, .int .i64 a6] h) ?_
    intro a1 a2 a3 a4 a5 a6 h hb todo hm ρ a w s f hp
    have hself : CutOK sg W0 130 (entered 5) (Post sg W0 (zf48.ret Q)) (posC zf48.code []) 12 [1, 3, 5, 7, 8, 9] (zf48.k12 (fun a1 a2 a3 a4 a5 a6 h => Head sg W0 130 (entered 5) (Post sg W0 (zf48.ret Q)) (posC zf48.code []) 12 [1, 3, 5, 7, 8, 9] [.ptr a1, .ptr a2, .ptr a3, .ptr (some a4), .int .i64 a5, .int .i64 a6] h)) := cutOK_head (fun vs h hk => by unfold zf48.k12 at hk; split at hk; exact hk; exact hk.elim)
    exact piece (E := zf48.E Q [(16, ([], zf48.k16 (fun  h => zf48.j16 I8 (fun a1 a2 a3 a4 a5 a6 h => Head sg W0 130 (entered 5) (Post sg W0 (zf48.ret Q)) (posC zf48.code []) 12 [1, 3, 5, 7, 8, 9] [.ptr a1, .ptr a2, .ptr a3, .ptr (some a4), .int .i64 a5, .int .i64 a6] h)  Q h))), (12, ([1, 3, 5, 7, 8, 9], zf48.k12 (fun a1 a2 a3 a4 a5 a6 h => Head sg W0 130 (entered 5) (Post sg W0 (zf48.ret Q)) (posC zf48.code []) 12 [1, 3, 5, 7, 8, 9] [.ptr a1, .ptr a2, .ptr a3, .ptr (some a4), .int .i64 a5, .int .i64 a6] h))), (20, ([], zf48.k20 (fun  h => zf48.j20 I8  Q h))), (21, ([1, 3, 5, 7, 8, 12, 14], zf48.k21 (fun a1 a2 a3 a4 a5 a6 a7 h => zf48.j21 I8 a1 a2 a3 a4 a5 a6 a7 Q h)))]) (vs := [.ptr a1, .ptr a2, .ptr a3, .ptr (some a4), .int .i64 a5, .int .i64 a6]) (envOK seatOK zf48.callsOK noIfc_ok) (fnOK seatOK zf48.fun) ⟨(zf48.s16 Q I8 (fun a1 a2 a3 a4 a5 a6 h => Head sg W0 130 (entered 5) (Post sg W0 (zf48.ret Q)) (posC zf48.code []) 12 [1, 3, 5, 7, 8, 9] [.ptr a1, .ptr a2, .ptr a3, .ptr (some a4), .int .i64 a5, .int .i64 a6] h) h8 hself), hself, (zf48.s20 Q I8 h8), (zf48.s21 Q I8 h8), trivial⟩ zf48.p12 (fuel := 3000) (by rw [← zf48.e12]; exact hb) hm s f hp
  · exact hk.elim

theorem zf48.p8 : (posC zf48.code []).filter (fun p => Nat.beq p.1 8) = [(8, atPos (posC zf48.code []) 8)] := by kernel_rfl

theorem zf48.e8 : ∀  (I8 : (Option Ptr) → (Option Ptr) → (Option Ptr) → Ptr → Int → Heap → Prop) (a1 : Option Ptr) (a2 : Option Ptr) (a3 : Option Ptr) (a4 : Ptr) (a5 : Int) (Q : (Option Ptr) → Heap → Prop) (h : Heap), zf48.b8  I8 a1 a2 a3 a4 a5 Q h = pts (zf48.E Q [(12, ([1, 3, 5, 7, 8, 9], zf48.k12 (fun a1 a2 a3 a4 a5 a6 h => zf48.j12 I8 a1 a2 a3 a4 a5 a6 Q h)))]) 3000 true (atPos (posC zf48.code []) 8) (frAt [1, 3, 5, 7, 8] [.ptr a1, .ptr a2, .ptr a3, .ptr (some a4), .int .i64 a5]) h := by
  intros; kernel_rfl

theorem zf48.s8 {W0 : World} (Q : (Option Ptr) → Heap → Prop)   : CutOK sg W0 130 (entered 5) (Post sg W0 (zf48.ret Q)) (posC zf48.code []) 8 [1, 3, 5, 7, 8] (zf48.k8 (fun a1 a2 a3 a4 a5 h => zf48.j8  a1 a2 a3 a4 a5 Q h)) := by
  refine cutOK_head (fun vs h hk => ?_)
  unfold zf48.k8 at hk
  split at hk
  · rename_i a1 a2 a3 a4 a5
    refine hk (fun a1 a2 a3 a4 a5 h => Head sg W0 130 (entered 5) (Post sg W0 (zf48.ret Q)) (posC zf48.code []) 8 [1, 3, 5, 7, 8] [.ptr a1, .ptr a2, .ptr a3, .ptr (some a4), .int .i64 a5] h) ?_
    intro a1 a2 a3 a4 a5 h hb todo hm ρ a w s f hp
    have hself : CutOK sg W0 130 (entered 5) (Post sg W0 (zf48.ret Q)) (posC zf48.code []) 8 [1, 3, 5, 7, 8] (zf48.k8 (fun a1 a2 a3 a4 a5 h => Head sg W0 130 (entered 5) (Post sg W0 (zf48.ret Q)) (posC zf48.code []) 8 [1, 3, 5, 7, 8] [.ptr a1, .ptr a2, .ptr a3, .ptr (some a4), .int .i64 a5] h)) := cutOK_head (fun vs h hk => by unfold zf48.k8 at hk; split at hk; exact hk; exact hk.elim)
    exact piece (E := zf48.E Q [(12, ([1, 3, 5, 7, 8, 9], zf48.k12 (fun a1 a2 a3 a4 a5 a6 h => zf48.j12 (fun a1 a2 a3 a4 a5 h => Head sg W0 130 (entered 5) (Post sg W0 (zf48.ret Q)) (posC zf48.code []) 8 [1, 3, 5, 7, 8] [.ptr a1, .ptr a2, .ptr a3, .ptr (some a4), .int .i64 a5] h) a1 a2 a3 a4 a5 a6 Q h)))]) (vs := [.ptr a1, .ptr a2, .ptr a3, .ptr (some a4), .int .i64 a5]) (envOK seatOK zf48.callsOK noIfc_ok) (fnOK seatOK zf48.fun) ⟨(zf48.s12 Q (fun a1 a2 a3 a4 a5 h => Head sg W0 130 (entered 5) (Post sg W0 (zf48.ret Q)) (posC zf48.code []) 8 [1, 3, 5, 7, 8] [.ptr a1, .ptr a2, .ptr a3, .ptr (some a4), .int .i64 a5] h) hself), trivial⟩ zf48.p8 (fuel := 3000) (by rw [← zf48.e8]; exact hb) hm s f hp
  · exact hk.elim

theorem zf48.p6 : (posC zf48.code []).filter (fun p => Nat.beq p.1 6) = [(6, atPos (posC zf48.code []) 6)] := by kernel_rfl

theorem zf48.e6 : ∀  (a1 : Option Ptr) (a2 : Option Ptr) (a3 : Option Ptr) (Q : (Option Ptr) → Heap → Prop) (h : Heap), zf48.j6  a1 a2 a3 Q h = pts (zf48.E Q [(8, ([1, 3, 5, 7, 8], zf48.k8 (fun a1 a2 a3 a4 a5 h => zf48.j8  a1 a2 a3 a4 a5 Q h)))]) 3000 true (atPos (posC zf48.code []) 6) (frAt [1, 3, 5] [.ptr a1, .ptr a2, .ptr a3]) h := by
  intros; kernel_rfl

theorem zf48.s6 {W0 : World} (Q : (Option Ptr) → Heap → Prop)   : CutOK sg W0 130 (entered 5) (Post sg W0 (zf48.ret Q)) (posC zf48.code []) 6 [1, 3, 5] (zf48.k6 (fun a1 a2 a3 h => zf48.j6  a1 a2 a3 Q h)) := by
  refine cutOK_head (fun vs h hk => ?_)
  unfold zf48.k6 at hk
  split at hk
  · rename_i a1 a2 a3
    intro todo hm ρ a w s f hp
    exact piece (E := zf48.E Q [(8, ([1, 3, 5, 7, 8], zf48.k8 (fun a1 a2 a3 a4 a5 h => zf48.j8  a1 a2 a3 a4 a5 Q h)))]) (vs := [.ptr a1, .ptr a2, .ptr a3]) (envOK seatOK zf48.callsOK noIfc_ok) (fnOK seatOK zf48.fun) ⟨(zf48.s8 Q  ), trivial⟩ zf48.p6 (fuel := 3000) (by rw [← zf48.e6]; exact hk) hm s f hp
  · exact hk.elim

theorem zf48.e : ∀  (Q : (Option Ptr) → Heap → Prop) (h : Heap), zf48  Q h = pts (zf48.E Q [(5, ([], zf48.k5 (fun  h => zf48.j5   Q h))), (6, ([1, 3, 5], zf48.k6 (fun a1 a2 a3 h => zf48.j6  a1 a2 a3 Q h)))]) 3000 true [.code zf48.code] (frOf 0 []) h := by
  intros; kernel_rfl

theorem zf48.S {W0 : World} : FnS sg W0 265 zf48.C := by
  intro vs κ h wv hx w s
  unfold zf48.C at hx
  split at hx
  · skip
    refine postImp (ret := zf48.ret (fun r1 h => κ (.ptr r1) h)) (fun v h hr => by unfold zf48.ret at hr; split at hr; exact hr; exact hr.elim) ?_
    exact calls_of_pts (E := zf48.E (fun r1 h => κ (.ptr r1) h) [(5, ([], zf48.k5 (fun  h => zf48.j5   (fun r1 h => κ (.ptr r1) h) h))), (6, ([1, 3, 5], zf48.k6 (fun a1 a2 a3 h => zf48.j6  a1 a2 a3 (fun r1 h => κ (.ptr r1) h) h)))]) (envOK seatOK zf48.callsOK noIfc_ok) seatOK.mixed zf48.fun (Nat.le_of_ble_eq_true rfl) wv (cutL_ok ⟨(zf48.s5 (fun r1 h => κ (.ptr r1) h)), (zf48.s6 (fun r1 h => κ (.ptr r1) h)), trivial⟩) s (fuel := 3000) (by rw [← zf48.e]; exact hx)
  · exact hx.elim

noncomputable def zf36.code : Code := Go.Proofs.Tryd.f69.body.getD .skip

theorem zf36.fun : Fun sg.P 69 12 [.tmp 2] zf36.code := mkFun Go.Proofs.Tryd.func69 (by kernel_rfl) (by kernel_rfl) (by kernel_rfl) (by kernel_rfl)

def zf36.ret (Q : Bool → Heap → Prop) (v : V) (h : Heap) : Prop :=
  match v with
  | .bool r1 => Q r1 h
  | _ => False

def zf36.C (vs : List V) (κ : V → Heap → Prop) (h : Heap) : Prop :=
  match vs with
  | [.ptr a1] => zf36 a1 (fun r1 h => κ (.bool r1) h) h
  | _ => False

noncomputable def zf36.calls : List (Nat × (List V → (V → Heap → Prop) → Heap → Prop)) := []

noncomputable def zf36.E (Q : Bool → Heap → Prop) (cuts : List (Nat × (List Nat × (List V → Heap → Prop)))) : Env := { tis := tisT, fns := fnsT, tys := tysT, gls := [], rts := rtsT, unk := [], nxt := [], calls := zf36.calls, ifc := noIfc, cuts := cuts, ret := zf36.ret Q, rets := [.tmp 2], n := 12 }

theorem zf36.callsOK {W0 : World} : CallsOK sg W0 zf36.calls := trivial

theorem zf36.e : ∀ (a1 : Option Ptr) (Q : Bool → Heap → Prop) (h : Heap), zf36 a1 Q h = pts (zf36.E Q []) 3000 true [.code zf36.code] (frOf 0 [.ptr a1]) h := by
  intros; kernel_rfl

theorem zf36.S {W0 : World} : FnS sg W0 31 zf36.C := by
  intro vs κ h wv hx w s
  unfold zf36.C at hx
  split at hx
  · rename_i a1
    refine postImp (ret := zf36.ret (fun r1 h => κ (.bool r1) h)) (fun v h hr => by unfold zf36.ret at hr; split at hr; exact hr; exact hr.elim) ?_
    exact calls_of_pts (E := zf36.E (fun r1 h => κ (.bool r1) h) []) (envOK seatOK zf36.callsOK noIfc_ok) seatOK.mixed zf36.fun (Nat.le_of_ble_eq_true rfl) wv (cutL_ok trivial) s (fuel := 3000) (by rw [← zf36.e]; exact hx)
  · exact hx.elim

noncomputable def zf39.code : Code := Go.Proofs.Tryd.f83.body.getD .skip

theorem zf39.fun : Fun sg.P 83 23 [.tmp 3] zf39.code := mkFun Go.Proofs.Tryd.func83 (by kernel_rfl) (by kernel_rfl) (by kernel_rfl) (by kernel_rfl)

def zf39.ret (Q : Bool → Heap → Prop) (v : V) (h : Heap) : Prop :=
  match v with
  | .bool r1 => Q r1 h
  | _ => False

def zf39.C (vs : List V) (κ : V → Heap → Prop) (h : Heap) : Prop :=
  match vs with
  | [.ptr (some a1), .ptr (some a2), .ptr (some a3)] => zf39 a1 a2 a3 (fun r1 h => κ (.bool r1) h) h
  | _ => False

noncomputable def zf39.calls : List (Nat × (List V → (V → Heap → Prop) → Heap → Prop)) := []

noncomputable def zf39.E (Q : Bool → Heap → Prop) (cuts : List (Nat × (List Nat × (List V → Heap → Prop)))) : Env := { tis := tisT, fns := fnsT, tys := tysT, gls := [], rts := rtsT, unk := [], nxt := [], calls := zf39.calls, ifc := noIfc, cuts := cuts, ret := zf39.ret Q, rets := [.tmp 3], n := 23 }

theorem zf39.callsOK {W0 : World} : CallsOK sg W0 zf39.calls := trivial

theorem zf39.e : ∀ (a1 : Ptr) (a2 : Ptr) (a3 : Ptr) (Q : Bool → Heap → Prop) (h : Heap), zf39 a1 a2 a3 Q h = pts (zf39.E Q []) 3000 true [.code zf39.code] (frOf 0 [.ptr (some a1), .ptr (some a2), .ptr (some a3)]) h := by
  intros; kernel_rfl

theorem zf39.S {W0 : World} : FnS sg W0 2 zf39.C := by
  intro vs κ h wv hx w s
  unfold zf39.C at hx
  split at hx
  · rename_i a1 a2 a3
    refine postImp (ret := zf39.ret (fun r1 h => κ (.bool r1) h)) (fun v h hr => by unfold zf39.ret at hr; split at hr; exact hr; exact hr.elim) ?_
    exact calls_of_pts (E := zf39.E (fun r1 h => κ (.bool r1) h) []) (envOK seatOK zf39.callsOK noIfc_ok) seatOK.mixed zf39.fun (Nat.le_of_ble_eq_true rfl) wv (cutL_ok trivial) s (fuel := 3000) (by rw [← zf39.e]; exact hx)
  · exact hx.elim

noncomputable def zf38.code : Code := Go.Proofs.Tryd.f63.body.getD .skip

theorem zf38.fun : Fun sg.P 63 33 [.tmp 6, .tmp 7] zf38.code := mkFun Go.Proofs.Tryd.func63 (by kernel_rfl) (by kernel_rfl) (by kernel_rfl) (by kernel_rfl)

def zf38.ret (Q : Sl → Int → Heap → Prop) (v : V) (h : Heap) : Prop :=
  match v with
  | .tup [.sl r1, .int .i64 r2] => Q r1 r2 h
  | _ => False

def zf38.C (vs : List V) (κ : V → Heap → Prop) (h : Heap) : Prop :=
  match vs with
  | [.ptr a1, .int .u64 a2, .int .i64 a3] => zf38 a1 a2 a3 (fun r1 r2 h => κ (.tup [.sl r1, .int .i64 r2]) h) h
  | _ => False

noncomputable def zf38.calls : List (Nat × (List V → (V → Heap → Prop) → Heap → Prop)) := [(31, zf36.C), (2, zf39.C)]

noncomputable def zf38.E (Q : Sl → Int → Heap → Prop) (cuts : List (Nat × (List Nat × (List V → Heap → Prop)))) : Env := { tis := tisT, fns := fnsT, tys := tysT, gls := [], rts := rtsT, unk := [], nxt := [], calls := zf38.calls, ifc := noIfc, cuts := cuts, ret := zf38.ret Q, rets := [.tmp 6, .tmp 7], n := 33 }

theorem zf38.callsOK {W0 : World} : CallsOK sg W0 zf38.calls := ⟨zf36.S, zf39.S, trivial⟩

theorem zf38.e : ∀ (a1 : Option Ptr) (a2 : Int) (a3 : Int) (Q : Sl → Int → Heap → Prop) (h : Heap), zf38 a1 a2 a3 Q h = pts (zf38.E Q []) 3000 true [.code zf38.code] (frOf 0 [.ptr a1, .int .u64 a2, .int .i64 a3]) h := by
  intros; kernel_rfl

theorem zf38.S {W0 : World} : FnS sg W0 32 zf38.C := by
  intro vs κ h wv hx w s
  unfold zf38.C at hx
  split at hx
  · rename_i a1 a2 a3
    refine postImp (ret := zf38.ret (fun r1 r2 h => κ (.tup [.sl r1, .int .i64 r2]) h)) (fun v h hr => by unfold zf38.ret at hr; split at hr; exact hr; exact hr.elim) ?_
    exact calls_of_pts (E := zf38.E (fun r1 r2 h => κ (.tup [.sl r1, .int .i64 r2]) h) []) (envOK seatOK zf38.callsOK noIfc_ok) seatOK.mixed zf38.fun (Nat.le_of_ble_eq_true rfl) wv (cutL_ok trivial) s (fuel := 3000) (by rw [← zf38.e]; exact hx)
  · exact hx.elim

noncomputable def zf34.code : Code := Go.Proofs.Tryd.f30.body.getD .skip

theorem zf34.fun : Fun sg.P 30 23 [.tmp 6] zf34.code := mkFun Go.Proofs.Tryd.func30 (by kernel_rfl) (by kernel_rfl) (by kernel_rfl) (by kernel_rfl)

def zf34.ret (Q : Int → Heap → Prop) (v : V) (h : Heap) : Prop :=
  match v with
  | .int .i64 r1 => Q r1 h
  | _ => False

def zf34.C (vs : List V) (κ : V → Heap → Prop) (h : Heap) : Prop :=
  match vs with
  | [.ptr a1, .int .u64 a2, .sl a3] => zf34 a1 a2 a3 (fun r1 h => κ (.int .i64 r1) h) h
  | _ => False

noncomputable def zf34.calls : List (Nat × (List V → (V → Heap → Prop) → Heap → Prop)) := [(32, zf38.C)]

noncomputable def zf34.E (Q : Int → Heap → Prop) (cuts : List (Nat × (List Nat × (List V → Heap → Prop)))) : Env := { tis := tisT, fns := fnsT, tys := tysT, gls := [], rts := rtsT, unk := [], nxt := [], calls := zf34.calls, ifc := noIfc, cuts := cuts, ret := zf34.ret Q, rets := [.tmp 6], n := 23 }

theorem zf34.callsOK {W0 : World} : CallsOK sg W0 zf34.calls := ⟨zf38.S, trivial⟩

theorem zf34.e : ∀ (a1 : Option Ptr) (a2 : Int) (a3 : Sl) (Q : Int → Heap → Prop) (h : Heap), zf34 a1 a2 a3 Q h = pts (zf34.E Q []) 3000 true [.code zf34.code] (frOf 0 [.ptr a1, .int .u64 a2, .sl a3]) h := by
  intros; kernel_rfl

theorem zf34.S {W0 : World} : FnS sg W0 33 zf34.C := by
  intro vs κ h wv hx w s
  unfold zf34.C at hx
  split at hx
  · rename_i a1 a2 a3
    refine postImp (ret := zf34.ret (fun r1 h => κ (.int .i64 r1) h)) (fun v h hr => by unfold zf34.ret at hr; split at hr; exact hr; exact hr.elim) ?_
    exact calls_of_pts (E := zf34.E (fun r1 h => κ (.int .i64 r1) h) []) (envOK seatOK zf34.callsOK noIfc_ok) seatOK.mixed zf34.fun (Nat.le_of_ble_eq_true rfl) wv (cutL_ok trivial) s (fuel := 3000) (by rw [← zf34.e]; exact hx)
  · exact hx.elim

noncomputable def zf45.code : Code := Go.Proofs.Tryd.f6.body.getD .skip

theorem zf45.fun : Fun sg.P 6 43 [.tmp 6] zf45.code := mkFun Go.Proofs.Tryd.func6 (by kernel_rfl) (by kernel_rfl) (by kernel_rfl) (by kernel_rfl)

def zf45.ret (Q : Int → Heap → Prop) (v : V) (h : Heap) : Prop :=
  match v with
  | .int .i64 r1 => Q r1 h
  | _ => False

def zf45.C (vs : List V) (κ : V → Heap → Prop) (h : Heap) : Prop :=
  match vs with
  | [.ptr a1, .int .u64 a2, .sl a3] => zf45 a1 a2 a3 (fun r1 h => κ (.int .i64 r1) h) h
  | _ => False

noncomputable def zf45.calls : List (Nat × (List V → (V → Heap → Prop) → Heap → Prop)) := [(33, zf34.C)]

noncomputable def zf45.E (Q : Int → Heap → Prop) (cuts : List (Nat × (List Nat × (List V → Heap → Prop)))) : Env := { tis := tisT, fns := fnsT, tys := tysT, gls := [], rts := rtsT, unk := [], nxt := [], calls := zf45.calls, ifc := noIfc, cuts := cuts, ret := zf45.ret Q, rets := [.tmp 6], n := 43 }

theorem zf45.callsOK {W0 : World} : CallsOK sg W0 zf45.calls := ⟨zf34.S, trivial⟩

def zf45.k2 (I : Heap → Prop) (vs : List V) (h : Heap) : Prop :=
  match vs with
  | [] => I  h
  | _ => False

theorem zf45.p2 : (posC zf45.code []).filter (fun p => Nat.beq p.1 2) = [(2, atPos (posC zf45.code []) 2)] := by kernel_rfl

theorem zf45.e2 : ∀   (Q : Int → Heap → Prop) (h : Heap), zf45.j2   Q h = pts (zf45.E Q []) 3000 true (atPos (posC zf45.code []) 2) (frAt [] []) h := by
  intros; kernel_rfl

theorem zf45.s2 {W0 : World} (Q : Int → Heap → Prop)   : CutOK sg W0 43 (entered 6) (Post sg W0 (zf45.ret Q)) (posC zf45.code []) 2 [] (zf45.k2 (fun  h => zf45.j2   Q h)) := by
  refine cutOK_head (fun vs h hk => ?_)
  unfold zf45.k2 at hk
  split at hk
  · skip
    intro todo hm ρ a w s f hp
    exact piece (E := zf45.E Q []) (vs := []) (envOK seatOK zf45.callsOK noIfc_ok) (fnOK seatOK zf45.fun) trivial zf45.p2 (fuel := 3000) (by rw [← zf45.e2]; exact hk) hm s f hp
  · exact hk.elim

theorem zf45.e : ∀ (a1 : Option Ptr) (a2 : Int) (a3 : Sl) (Q : Int → Heap → Prop) (h : Heap), zf45 a1 a2 a3 Q h = pts (zf45.E Q [(2, ([], zf45.k2 (fun  h => zf45.j2   Q h)))]) 3000 true [.code zf45.code] (frOf 0 [.ptr a1, .int .u64 a2, .sl a3]) h := by
  intros; kernel_rfl

theorem zf45.S {W0 : World} : FnS sg W0 298 zf45.C := by
  intro vs κ h wv hx w s
  unfold zf45.C at hx
  split at hx
  · rename_i a1 a2 a3
    refine postImp (ret := zf45.ret (fun r1 h => κ (.int .i64 r1) h)) (fun v h hr => by unfold zf45.ret at hr; split at hr; exact hr; exact hr.elim) ?_
    exact calls_of_pts (E := zf45.E (fun r1 h => κ (.int .i64 r1) h) [(2, ([], zf45.k2 (fun  h => zf45.j2   (fun r1 h => κ (.int .i64 r1) h) h)))]) (envOK seatOK zf45.callsOK noIfc_ok) seatOK.mixed zf45.fun (Nat.le_of_ble_eq_true rfl) wv (cutL_ok ⟨(zf45.s2 (fun r1 h => κ (.int .i64 r1) h)), trivial⟩) s (fuel := 3000) (by rw [← zf45.e]; exact hx)
  · exact hx.elim

noncomputable def zf37.code : Code := Go.Proofs.Tryd.f77.body.getD .skip

theorem zf37.fun : Fun sg.P 77 34 [.tmp 6, .tmp 7] zf37.code := mkFun Go.Proofs.Tryd.func77 (by kernel_rfl) (by kernel_rfl) (by kernel_rfl) (by kernel_rfl)

def zf37.ret (Q : Sl → Int → Heap → Prop) (v : V) (h : Heap) : Prop :=
  match v with
  | .tup [.sl r1, .int .i64 r2] => Q r1 r2 h
  | _ => False

def zf37.C (vs : List V) (κ : V → Heap → Prop) (h : Heap) : Prop :=
  match vs with
  | [.ptr a1, .int .u64 a2, .int .i64 a3] => zf37 a1 a2 a3 (fun r1 r2 h => κ (.tup [.sl r1, .int .i64 r2]) h) h
  | _ => False

noncomputable def zf37.calls : List (Nat × (List V → (V → Heap → Prop) → Heap → Prop)) := [(32, zf38.C), (31, zf36.C)]

noncomputable def zf37.E (Q : Sl → Int → Heap → Prop) (cuts : List (Nat × (List Nat × (List V → Heap → Prop)))) : Env := { tis := tisT, fns := fnsT, tys := tysT, gls := [], rts := rtsT, unk := [], nxt := [], calls := zf37.calls, ifc := noIfc, cuts := cuts, ret := zf37.ret Q, rets := [.tmp 6, .tmp 7], n := 34 }

theorem zf37.callsOK {W0 : World} : CallsOK sg W0 zf37.calls := ⟨zf38.S, zf36.S, trivial⟩

def zf37.k5 (I : (Option Ptr) → Int → Int → Heap → Prop) (vs : List V) (h : Heap) : Prop :=
  match vs with
  | [.ptr a1, .int .u64 a2, .int .i64 a3] => I a1 a2 a3 h
  | _ => False

theorem zf37.p5 : (posC zf37.code []).filter (fun p => Nat.beq p.1 5) = [(5, atPos (posC zf37.code []) 5)] := by kernel_rfl

theorem zf37.e5 : ∀  (a1 : Option Ptr) (a2 : Int) (a3 : Int) (Q : Sl → Int → Heap → Prop) (h : Heap), zf37.j5  a1 a2 a3 Q h = pts (zf37.E Q []) 3000 true (atPos (posC zf37.code []) 5) (frAt [0, 1, 2] [.ptr a1, .int .u64 a2, .int .i64 a3]) h := by
  intros; kernel_rfl

theorem zf37.s5 {W0 : World} (Q : Sl → Int → Heap → Prop)   : CutOK sg W0 34 (entered 77) (Post sg W0 (zf37.ret Q)) (posC zf37.code []) 5 [0, 1, 2] (zf37.k5 (fun a1 a2 a3 h => zf37.j5  a1 a2 a3 Q h)) := by
  refine cutOK_head (fun vs h hk => ?_)
  unfold zf37.k5 at hk
  split at hk
  · rename_i a1 a2 a3
    intro todo hm ρ a w s f hp
    exact piece (E := zf37.E Q []) (vs := [.ptr a1, .int .u64 a2, .int .i64 a3]) (envOK seatOK zf37.callsOK noIfc_ok) (fnOK seatOK zf37.fun) trivial zf37.p5 (fuel := 3000) (by rw [← zf37.e5]; exact hk) hm s f hp
  · exact hk.elim

theorem zf37.e : ∀ (a1 : Option Ptr) (a2 : Int) (a3 : Int) (Q : Sl → Int → Heap → Prop) (h : Heap), zf37 a1 a2 a3 Q h = pts (zf37.E Q [(5, ([0, 1, 2], zf37.k5 (fun a1 a2 a3 h => zf37.j5  a1 a2 a3 Q h)))]) 3000 true [.code zf37.code] (frOf 0 [.ptr a1, .int .u64 a2, .int .i64 a3]) h := by
  intros; kernel_rfl

theorem zf37.S {W0 : World} : FnS sg W0 59 zf37.C := by
  intro vs κ h wv hx w s
  unfold zf37.C at hx
  split at hx
  · rename_i a1 a2 a3
    refine postImp (ret := zf37.ret (fun r1 r2 h => κ (.tup [.sl r1, .int .i64 r2]) h)) (fun v h hr => by unfold zf37.ret at hr; split at hr; exact hr; exact hr.elim) ?_
    exact calls_of_pts (E := zf37.E (fun r1 r2 h => κ (.tup [.sl r1, .int .i64 r2]) h) [(5, ([0, 1, 2], zf37.k5 (fun a1 a2 a3 h => zf37.j5  a1 a2 a3 (fun r1 r2 h => κ (.tup [.sl r1, .int .i64 r2]) h) h)))]) (envOK seatOK zf37.callsOK noIfc_ok) seatOK.mixed zf37.fun (Nat.le_of_ble_eq_true rfl) wv (cutL_ok ⟨(zf37.s5 (fun r1 r2 h => κ (.tup [.sl r1, .int .i64 r2]) h)), trivial⟩) s (fuel := 3000) (by rw [← zf37.e]; exact hx)
  · exact hx.elim

noncomputable def zf68.code : Code := Go.Proofs.Tryd.f88.body.getD .skip

theorem zf68.fun : Fun sg.P 88 17 [.tmp 2] zf68.code := mkFun Go.Proofs.Tryd.func88 (by kernel_rfl) (by kernel_rfl) (by kernel_rfl) (by kernel_rfl)

def zf68.ret (Q : Bool → Heap → Prop) (v : V) (h : Heap) : Prop :=
  match v with
  | .bool r1 => Q r1 h
  | _ => False

def zf68.C (U : Ifc) (vs : List V) (κ : V → Heap → Prop) (h : Heap) : Prop :=
  match vs with
  | [.int .i64 a1] => zf68 U a1 (fun r1 h => κ (.bool r1) h) h
  | _ => False

noncomputable def zf68.calls (U : Ifc) : List (Nat × (List V → (V → Heap → Prop) → Heap → Prop)) := []

noncomputable def zf68.E (U : Ifc) (Q : Bool → Heap → Prop) (cuts : List (Nat × (List Nat × (List V → Heap → Prop)))) : Env := { tis := tisT, fns := fnsT, tys := tysT, gls := glsT, rts := rtsT, unk := [], nxt := [], calls := zf68.calls U, ifc := U, cuts := cuts, ret := zf68.ret Q, rets := [.tmp 2], n := 17 }

theorem zf68.callsOK {W0 : World} {U : Ifc} (hU : IfcOK sg W0 glsT U) : CallsOK sg W0 (zf68.calls U) := trivial

def zf68.k6 (I : Int → Int → Int → Int → Int → Int → Heap → Prop) (vs : List V) (h : Heap) : Prop :=
  match vs with
  | [.int .i64 a1, .agg [.int .i64 a2, .int .i64 a3, .int .i64 a4, .int .i64 a5], .int .i64 a6] => I a1 a2 a3 a4 a5 a6 h
  | _ => False

def zf68.k2 (I : Int → Int → Int → Int → Int → Int → Heap → Prop) (vs : List V) (h : Heap) : Prop :=
  match vs with
  | [.int .i64 a1, .agg [.int .i64 a2, .int .i64 a3, .int .i64 a4, .int .i64 a5], .int .i64 a6] => I a1 a2 a3 a4 a5 a6 h
  | _ => False

theorem zf68.p6 : (posC zf68.code []).filter (fun p => Nat.beq p.1 6) = [(6, atPos (posC zf68.code []) 6)] := by kernel_rfl

theorem zf68.e6 : ∀ (U : Ifc) (I2 : Int → Int → Int → Int → Int → Int → Heap → Prop) (a1 : Int) (a2 : Int) (a3 : Int) (a4 : Int) (a5 : Int) (a6 : Int) (Q : Bool → Heap → Prop) (h : Heap), zf68.j6 U I2 a1 a2 a3 a4 a5 a6 Q h = pts (zf68.E U Q [(2, ([0, 5, 6], zf68.k2 I2))]) 3000 true (atPos (posC zf68.code []) 6) (frAt [0, 5, 6] [.int .i64 a1, .agg [.int .i64 a2, .int .i64 a3, .int .i64 a4, .int .i64 a5], .int .i64 a6]) h := by
  intros; kernel_rfl

theorem zf68.s6 {W0 : World} {U : Ifc} (hU : IfcOK sg W0 glsT U) (Q : Bool → Heap → Prop) (I2 : Int → Int → Int → Int → Int → Int → Heap → Prop) (h2 : CutOK sg W0 17 (entered 88) (Post sg W0 (zf68.ret Q)) (posC zf68.code []) 2 [0, 5, 6] (zf68.k2 I2)) : CutOK sg W0 17 (entered 88) (Post sg W0 (zf68.ret Q)) (posC zf68.code []) 6 [0, 5, 6] (zf68.k6 (fun a1 a2 a3 a4 a5 a6 h => zf68.j6 U I2 a1 a2 a3 a4 a5 a6 Q h)) := by
  refine cutOK_head (fun vs h hk => ?_)
  unfold zf68.k6 at hk
  split at hk
  · rename_i a1 a2 a3 a4 a5 a6
    intro todo hm ρ a w s f hp
    exact piece (E := zf68.E U Q [(2, ([0, 5, 6], zf68.k2 I2))]) (vs := [.int .i64 a1, .agg [.int .i64 a2, .int .i64 a3, .int .i64 a4, .int .i64 a5], .int .i64 a6]) (envOK seatOK (zf68.callsOK hU) hU) (fnOK seatOK zf68.fun) ⟨h2, trivial⟩ zf68.p6 (fuel := 3000) (by rw [← zf68.e6]; exact hk) hm s f hp
  · exact hk.elim

theorem zf68.p2 : (posC zf68.code []).filter (fun p => Nat.beq p.1 2) = [(2, atPos (posC zf68.code []) 2)] := by kernel_rfl

theorem zf68.e2 : ∀ (U : Ifc)  (I2 : Int → Int → Int → Int → Int → Int → Heap → Prop) (a1 : Int) (a2 : Int) (a3 : Int) (a4 : Int) (a5 : Int) (a6 : Int) (Q : Bool → Heap → Prop) (h : Heap), zf68.b2 U  I2 a1 a2 a3 a4 a5 a6 Q h = pts (zf68.E U Q [(6, ([0, 5, 6], zf68.k6 (fun a1 a2 a3 a4 a5 a6 h => zf68.j6 U I2 a1 a2 a3 a4 a5 a6 Q h)))]) 3000 true (atPos (posC zf68.code []) 2) (frAt [0, 5, 6] [.int .i64 a1, .agg [.int .i64 a2, .int .i64 a3, .int .i64 a4, .int .i64 a5], .int .i64 a6]) h := by
  intros; kernel_rfl

theorem zf68.s2 {W0 : World} {U : Ifc} (hU : IfcOK sg W0 glsT U) (Q : Bool → Heap → Prop)   : CutOK sg W0 17 (entered 88) (Post sg W0 (zf68.ret Q)) (posC zf68.code []) 2 [0, 5, 6] (zf68.k2 (fun a1 a2 a3 a4 a5 a6 h => zf68.j2 U  a1 a2 a3 a4 a5 a6 Q h)) := by
  refine cutOK_head (fun vs h hk => ?_)
  unfold zf68.k2 at hk
  split at hk
  · rename_i a1 a2 a3 a4 a5 a6
    refine hk (fun a1 a2 a3 a4 a5 a6 h => Head sg W0 17 (entered 88) (Post sg W0 (zf68.ret Q)) (posC zf68.code []) 2 [0, 5, 6] [.int .i64 a1, .agg [.int .i64 a2, .int .i64 a3, .int .i64 a4, .int .i64 a5], .int .i64 a6] h) ?_
    intro a1 a2 a3 a4 a5 a6 h hb todo hm ρ a w s f hp
    have hself : CutOK sg W0 17 (entered 88) (Post sg W0 (zf68.ret Q)) (posC zf68.code []) 2 [0, 5, 6] (zf68.k2 (fun a1 a2 a3 a4 a5 a6 h => Head sg W0 17 (entered 88) (Post sg W0 (zf68.ret Q)) (posC zf68.code []) 2 [0, 5, 6] [.int .i64 a1, .agg [.int .i64 a2, .int .i64 a3, .int .i64 a4, .int .i64 a5], .int .i64 a6] h)) := cutOK_head (fun vs h hk => by unfold zf68.k2 at hk; split at hk; exact hk; exact hk.elim)
    exact piece (E := zf68.E U Q [(6, ([0, 5, 6], zf68.k6 (fun a1 a2 a3 a4 a5 a6 h => zf68.j6 U (fun a1 a2 a3 a4 a5 a6 h => Head sg W0 17 (entered 88) (Post sg W0 (zf68.ret Q)) (posC zf68.code []) 2 [0, 5, 6] [.int .i64 a1, .agg [.int .i64 a2, .int .i64 a3, .int .i64 a4, .int .i64 a5], .int .i64 a6] h) a1 a2 a3 a4 a5 a6 Q h)))]) (vs := [.int .i64 a1, .agg [.int .i64 a2, .int .i64 a3, .int .i64 a4, .int .i64 a5], .int .i64 a6]) (envOK seatOK (zf68.callsOK hU) hU) (fnOK seatOK zf68.fun) ⟨(zf68.s6 hU Q (fun a1 a2 a3 a4 a5 a6 h => Head sg W0 17 (entered 88) (Post sg W0 (zf68.ret Q)) (posC zf68.code []) 2 [0, 5, 6] [.int .i64 a1, .agg [.int .i64 a2, .int .i64 a3, .int .i64 a4, .int .i64 a5], .int .i64 a6] h) hself), trivial⟩ zf68.p2 (fuel := 3000) (by rw [← zf68.e2]; exact hb) hm s f hp
  · exact hk.elim

theorem zf68.e : ∀ (U : Ifc) (a1 : Int) (Q : Bool → Heap → Prop) (h : Heap), zf68 U a1 Q h = pts (zf68.E U Q [(2, ([0, 5, 6], zf68.k2 (fun a1 a2 a3 a4 a5 a6 h => zf68.j2 U  a1 a2 a3 a4 a5 a6 Q h)))]) 3000 true [.code zf68.code] (frOf 0 [.int .i64 a1]) h := by
  intros; kernel_rfl

theorem zf68.S {W0 : World} {U : Ifc} (hU : IfcOK sg W0 glsT U) : FnS sg W0 93 (zf68.C U) := by
  intro vs κ h wv hx w s
  unfold zf68.C at hx
  split at hx
  · rename_i a1
    refine postImp (ret := zf68.ret (fun r1 h => κ (.bool r1) h)) (fun v h hr => by unfold zf68.ret at hr; split at hr; exact hr; exact hr.elim) ?_
    exact calls_of_pts (E := zf68.E U (fun r1 h => κ (.bool r1) h) [(2, ([0, 5, 6], zf68.k2 (fun a1 a2 a3 a4 a5 a6 h => zf68.j2 U  a1 a2 a3 a4 a5 a6 (fun r1 h => κ (.bool r1) h) h)))]) (envOK seatOK (zf68.callsOK hU) hU) seatOK.mixed zf68.fun (Nat.le_of_ble_eq_true rfl) wv (cutL_ok ⟨(zf68.s2 hU (fun r1 h => κ (.bool r1) h)), trivial⟩) s (fuel := 3000) (by rw [← zf68.e]; exact hx)
  · exact hx.elim

end Go.Fn
