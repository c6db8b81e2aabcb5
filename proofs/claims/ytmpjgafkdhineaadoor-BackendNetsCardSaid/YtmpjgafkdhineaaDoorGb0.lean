/- The links of the shallow functions to the machine. PRINTED by lift.py. -/
import Derived.Test.YtmpjgafkdhineaaDoorGa

set_option linter.unusedVariables false
set_option maxRecDepth 100000
namespace Go.Fn
open Go.Lift

noncomputable def zf30.code : Code := Go.Proofs.Tryd.f25.body.getD .skip

theorem zf30.fun : Fun sg.P 25 15 [.tmp 2, .tmp 3] zf30.code := mkFun Go.Proofs.Tryd.func25 (by kernel_rfl) (by kernel_rfl) (by kernel_rfl) (by kernel_rfl)

def zf30.ret (Q : (Option Ptr) → Int → Heap → Prop) (v : V) (h : Heap) : Prop :=
  match v with
  | .tup [.ptr r1, .int .i64 r2] => Q r1 r2 h
  | _ => False

def zf30.C (vs : List V) (κ : V → Heap → Prop) (h : Heap) : Prop :=
  match vs with
  | [.int .i64 a1] => zf30 a1 (fun r1 r2 h => κ (.tup [.ptr r1, .int .i64 r2]) h) h
  | _ => False

noncomputable def zf30.calls : List (Nat × (List V → (V → Heap → Prop) → Heap → Prop)) := []

noncomputable def zf30.E (Q : (Option Ptr) → Int → Heap → Prop) (cuts : List (Nat × (List Nat × (List V → Heap → Prop)))) : Env := { tis := tisT, fns := fnsT, tys := tysT, gls := [], rts := rtsT, unk := [], nxt := [], calls := zf30.calls, ifc := noIfc, cuts := cuts, ret := zf30.ret Q, rets := [.tmp 2, .tmp 3], n := 15 }

theorem zf30.callsOK {W0 : World} : CallsOK sg W0 zf30.calls := trivial

theorem zf30.e : ∀ (a1 : Int) (Q : (Option Ptr) → Int → Heap → Prop) (h : Heap), zf30 a1 Q h = pts (zf30.E Q []) 3000 true [.code zf30.code] (frOf 0 [.int .i64 a1]) h := by
  intros; kernel_rfl

theorem zf30.S {W0 : World} : FnS sg W0 28 zf30.C := by
  intro vs κ h wv hx w s
  unfold zf30.C at hx
  split at hx
  · rename_i a1
    refine postImp (ret := zf30.ret (fun r1 r2 h => κ (.tup [.ptr r1, .int .i64 r2]) h)) (fun v h hr => by unfold zf30.ret at hr; split at hr; exact hr; exact hr.elim) ?_
    exact calls_of_pts (E := zf30.E (fun r1 r2 h => κ (.tup [.ptr r1, .int .i64 r2]) h) []) (envOK seatOK zf30.callsOK noIfc_ok) seatOK.mixed zf30.fun (Nat.le_of_ble_eq_true rfl) wv (cutL_ok trivial) s (fuel := 3000) (by rw [← zf30.e]; exact hx)
  · exact hx.elim

noncomputable def zf19.code : Code := Go.Proofs.Tryd.f26.body.getD .skip

theorem zf19.fun : Fun sg.P 26 57 [.tmp 4, .tmp 5] zf19.code := mkFun Go.Proofs.Tryd.func26 (by kernel_rfl) (by kernel_rfl) (by kernel_rfl) (by kernel_rfl)

def zf19.ret (Q : (Option Ptr) → Int → Heap → Prop) (v : V) (h : Heap) : Prop :=
  match v with
  | .tup [.ptr r1, .int .i64 r2] => Q r1 r2 h
  | _ => False

def zf19.C (vs : List V) (κ : V → Heap → Prop) (h : Heap) : Prop :=
  match vs with
  | [.int .i64 a1, .int .i64 a2] => zf19 a1 a2 (fun r1 r2 h => κ (.tup [.ptr r1, .int .i64 r2]) h) h
  | _ => False

noncomputable def zf19.calls : List (Nat × (List V → (V → Heap → Prop) → Heap → Prop)) := []

noncomputable def zf19.E (Q : (Option Ptr) → Int → Heap → Prop) (cuts : List (Nat × (List Nat × (List V → Heap → Prop)))) : Env := { tis := tisT, fns := fnsT, tys := tysT, gls := [], rts := rtsT, unk := [], nxt := [], calls := zf19.calls, ifc := noIfc, cuts := cuts, ret := zf19.ret Q, rets := [.tmp 4, .tmp 5], n := 57 }

theorem zf19.callsOK {W0 : World} : CallsOK sg W0 zf19.calls := trivial

def zf19.k2 (I : Heap → Prop) (vs : List V) (h : Heap) : Prop :=
  match vs with
  | [] => I  h
  | _ => False

def zf19.k11 (I : Int → Ptr → Int → Heap → Prop) (vs : List V) (h : Heap) : Prop :=
  match vs with
  | [.int .i64 a1, .ptr (some a2), .int .i64 a3] => I a1 a2 a3 h
  | _ => False

def zf19.k5 (I : Int → Int → Ptr → Int → Int → Heap → Prop) (vs : List V) (h : Heap) : Prop :=
  match vs with
  | [.int .i64 a1, .int .i64 a2, .ptr (some a3), .int .i64 a4, .int .i64 a5] => I a1 a2 a3 a4 a5 h
  | _ => False

def zf19.k4 (I : Int → Int → Ptr → Heap → Prop) (vs : List V) (h : Heap) : Prop :=
  match vs with
  | [.int .i64 a1, .int .i64 a2, .ptr (some a3)] => I a1 a2 a3 h
  | _ => False

theorem zf19.p2 : (posC zf19.code []).filter (fun p => Nat.beq p.1 2) = [(2, atPos (posC zf19.code []) 2)] := by kernel_rfl

theorem zf19.e2 : ∀   (Q : (Option Ptr) → Int → Heap → Prop) (h : Heap), zf19.j2   Q h = pts (zf19.E Q []) 3000 true (atPos (posC zf19.code []) 2) (frAt [] []) h := by
  intros; kernel_rfl

theorem zf19.s2 {W0 : World} (Q : (Option Ptr) → Int → Heap → Prop)   : CutOK sg W0 57 (entered 26) (Post sg W0 (zf19.ret Q)) (posC zf19.code []) 2 [] (zf19.k2 (fun  h => zf19.j2   Q h)) := by
  refine cutOK_head (fun vs h hk => ?_)
  unfold zf19.k2 at hk
  split at hk
  · skip
    intro todo hm ρ a w s f hp
    exact piece (E := zf19.E Q []) (vs := []) (envOK seatOK zf19.callsOK noIfc_ok) (fnOK seatOK zf19.fun) trivial zf19.p2 (fuel := 3000) (by rw [← zf19.e2]; exact hk) hm s f hp
  · exact hk.elim

theorem zf19.p11 : (posC zf19.code []).filter (fun p => Nat.beq p.1 11) = [(11, atPos (posC zf19.code []) 11)] := by kernel_rfl

theorem zf19.e11 : ∀  (I11 : Int → Ptr → Int → Heap → Prop) (a1 : Int) (a2 : Ptr) (a3 : Int) (Q : (Option Ptr) → Int → Heap → Prop) (h : Heap), zf19.b11  I11 a1 a2 a3 Q h = pts (zf19.E Q [(11, ([0, 6, 46], zf19.k11 I11))]) 3000 true (atPos (posC zf19.code []) 11) (frAt [0, 6, 46] [.int .i64 a1, .ptr (some a2), .int .i64 a3]) h := by
  intros; kernel_rfl

theorem zf19.s11 {W0 : World} (Q : (Option Ptr) → Int → Heap → Prop)   : CutOK sg W0 57 (entered 26) (Post sg W0 (zf19.ret Q)) (posC zf19.code []) 11 [0, 6, 46] (zf19.k11 (fun a1 a2 a3 h => zf19.j11  a1 a2 a3 Q h)) := by
  refine cutOK_head (fun vs h hk => ?_)
  unfold zf19.k11 at hk
  split at hk
  · rename_i a1 a2 a3
    refine hk (fun a1 a2 a3 h => Head sg W0 57 (entered 26) (Post sg W0 (zf19.ret Q)) (posC zf19.code []) 11 [0, 6, 46] [.int .i64 a1, .ptr (some a2), .int .i64 a3] h) ?_
    intro a1 a2 a3 h hb todo hm ρ a w s f hp
    have hself : CutOK sg W0 57 (entered 26) (Post sg W0 (zf19.ret Q)) (posC zf19.code []) 11 [0, 6, 46] (zf19.k11 (fun a1 a2 a3 h => Head sg W0 57 (entered 26) (Post sg W0 (zf19.ret Q)) (posC zf19.code []) 11 [0, 6, 46] [.int .i64 a1, .ptr (some a2), .int .i64 a3] h)) := cutOK_head (fun vs h hk => by unfold zf19.k11 at hk; split at hk; exact hk; exact hk.elim)
    exact piece (E := zf19.E Q [(11, ([0, 6, 46], zf19.k11 (fun a1 a2 a3 h => Head sg W0 57 (entered 26) (Post sg W0 (zf19.ret Q)) (posC zf19.code []) 11 [0, 6, 46] [.int .i64 a1, .ptr (some a2), .int .i64 a3] h)))]) (vs := [.int .i64 a1, .ptr (some a2), .int .i64 a3]) (envOK seatOK zf19.callsOK noIfc_ok) (fnOK seatOK zf19.fun) ⟨hself, trivial⟩ zf19.p11 (fuel := 3000) (by rw [← zf19.e11]; exact hb) hm s f hp
  · exact hk.elim

theorem zf19.p5 : (posC zf19.code []).filter (fun p => Nat.beq p.1 5) = [(5, atPos (posC zf19.code []) 5)] := by kernel_rfl

theorem zf19.e5 : ∀  (I5 : Int → Int → Ptr → Int → Int → Heap → Prop) (a1 : Int) (a2 : Int) (a3 : Ptr) (a4 : Int) (a5 : Int) (Q : (Option Ptr) → Int → Heap → Prop) (h : Heap), zf19.b5  I5 a1 a2 a3 a4 a5 Q h = pts (zf19.E Q [(5, ([0, 1, 6, 31, 32], zf19.k5 I5)), (11, ([0, 6, 46], zf19.k11 (fun a1 a2 a3 h => zf19.j11  a1 a2 a3 Q h)))]) 3000 true (atPos (posC zf19.code []) 5) (frAt [0, 1, 6, 31, 32] [.int .i64 a1, .int .i64 a2, .ptr (some a3), .int .i64 a4, .int .i64 a5]) h := by
  intros; kernel_rfl

theorem zf19.s5 {W0 : World} (Q : (Option Ptr) → Int → Heap → Prop)   : CutOK sg W0 57 (entered 26) (Post sg W0 (zf19.ret Q)) (posC zf19.code []) 5 [0, 1, 6, 31, 32] (zf19.k5 (fun a1 a2 a3 a4 a5 h => zf19.j5  a1 a2 a3 a4 a5 Q h)) := by
  refine cutOK_head (fun vs h hk => ?_)
  unfold zf19.k5 at hk
  split at hk
  · rename_i a1 a2 a3 a4 a5
    refine hk (fun a1 a2 a3 a4 a5 h => Head sg W0 57 (entered 26) (Post sg W0 (zf19.ret Q)) (posC zf19.code []) 5 [0, 1, 6, 31, 32] [.int .i64 a1, .int .i64 a2, .ptr (some a3), .int .i64 a4, .int .i64 a5] h) ?_
    intro a1 a2 a3 a4 a5 h hb todo hm ρ a w s f hp
    have hself : CutOK sg W0 57 (entered 26) (Post sg W0 (zf19.ret Q)) (posC zf19.code []) 5 [0, 1, 6, 31, 32] (zf19.k5 (fun a1 a2 a3 a4 a5 h => Head sg W0 57 (entered 26) (Post sg W0 (zf19.ret Q)) (posC zf19.code []) 5 [0, 1, 6, 31, 32] [.int .i64 a1, .int .i64 a2, .ptr (some a3), .int .i64 a4, .int .i64 a5] h)) := cutOK_head (fun vs h hk => by unfold zf19.k5 at hk; split at hk; exact hk; exact hk.elim)
    exact piece (E := zf19.E Q [(5, ([0, 1, 6, 31, 32], zf19.k5 (fun a1 a2 a3 a4 a5 h => Head sg W0 57 (entered 26) (Post sg W0 (zf19.ret Q)) (posC zf19.code []) 5 [0, 1, 6, 31, 32] [.int .i64 a1, .int .i64 a2, .ptr (some a3), .int .i64 a4, .int .i64 a5] h))), (11, ([0, 6, 46], zf19.k11 (fun a1 a2 a3 h => zf19.j11  a1 a2 a3 Q h)))]) (vs := [.int .i64 a1, .int .i64 a2, .ptr (some a3), .int .i64 a4, .int .i64 a5]) (envOK seatOK zf19.callsOK noIfc_ok) (fnOK seatOK zf19.fun) ⟨hself, (zf19.s11 Q  ), trivial⟩ zf19.p5 (fuel := 3000) (by rw [← zf19.e5]; exact hb) hm s f hp
  · exact hk.elim

theorem zf19.p4 : (posC zf19.code []).filter (fun p => Nat.beq p.1 4) = [(4, atPos (posC zf19.code []) 4)] := by kernel_rfl

theorem zf19.e4 : ∀  (a1 : Int) (a2 : Int) (a3 : Ptr) (Q : (Option Ptr) → Int → Heap → Prop) (h : Heap), zf19.j4  a1 a2 a3 Q h = pts (zf19.E Q [(5, ([0, 1, 6, 31, 32], zf19.k5 (fun a1 a2 a3 a4 a5 h => zf19.j5  a1 a2 a3 a4 a5 Q h)))]) 3000 true (atPos (posC zf19.code []) 4) (frAt [0, 1, 6] [.int .i64 a1, .int .i64 a2, .ptr (some a3)]) h := by
  intros; kernel_rfl

theorem zf19.s4 {W0 : World} (Q : (Option Ptr) → Int → Heap → Prop)   : CutOK sg W0 57 (entered 26) (Post sg W0 (zf19.ret Q)) (posC zf19.code []) 4 [0, 1, 6] (zf19.k4 (fun a1 a2 a3 h => zf19.j4  a1 a2 a3 Q h)) := by
  refine cutOK_head (fun vs h hk => ?_)
  unfold zf19.k4 at hk
  split at hk
  · rename_i a1 a2 a3
    intro todo hm ρ a w s f hp
    exact piece (E := zf19.E Q [(5, ([0, 1, 6, 31, 32], zf19.k5 (fun a1 a2 a3 a4 a5 h => zf19.j5  a1 a2 a3 a4 a5 Q h)))]) (vs := [.int .i64 a1, .int .i64 a2, .ptr (some a3)]) (envOK seatOK zf19.callsOK noIfc_ok) (fnOK seatOK zf19.fun) ⟨(zf19.s5 Q  ), trivial⟩ zf19.p4 (fuel := 3000) (by rw [← zf19.e4]; exact hk) hm s f hp
  · exact hk.elim

theorem zf19.e : ∀ (a1 : Int) (a2 : Int) (Q : (Option Ptr) → Int → Heap → Prop) (h : Heap), zf19 a1 a2 Q h = pts (zf19.E Q [(2, ([], zf19.k2 (fun  h => zf19.j2   Q h))), (4, ([0, 1, 6], zf19.k4 (fun a1 a2 a3 h => zf19.j4  a1 a2 a3 Q h)))]) 3000 true [.code zf19.code] (frOf 0 [.int .i64 a1, .int .i64 a2]) h := by
  intros; kernel_rfl

theorem zf19.S {W0 : World} : FnS sg W0 259 zf19.C := by
  intro vs κ h wv hx w s
  unfold zf19.C at hx
  split at hx
  · rename_i a1 a2
    refine postImp (ret := zf19.ret (fun r1 r2 h => κ (.tup [.ptr r1, .int .i64 r2]) h)) (fun v h hr => by unfold zf19.ret at hr; split at hr; exact hr; exact hr.elim) ?_
    exact calls_of_pts (E := zf19.E (fun r1 r2 h => κ (.tup [.ptr r1, .int .i64 r2]) h) [(2, ([], zf19.k2 (fun  h => zf19.j2   (fun r1 r2 h => κ (.tup [.ptr r1, .int .i64 r2]) h) h))), (4, ([0, 1, 6], zf19.k4 (fun a1 a2 a3 h => zf19.j4  a1 a2 a3 (fun r1 r2 h => κ (.tup [.ptr r1, .int .i64 r2]) h) h)))]) (envOK seatOK zf19.callsOK noIfc_ok) seatOK.mixed zf19.fun (Nat.le_of_ble_eq_true rfl) wv (cutL_ok ⟨(zf19.s2 (fun r1 r2 h => κ (.tup [.ptr r1, .int .i64 r2]) h)), (zf19.s4 (fun r1 r2 h => κ (.tup [.ptr r1, .int .i64 r2]) h)), trivial⟩) s (fuel := 3000) (by rw [← zf19.e]; exact hx)
  · exact hx.elim

noncomputable def zf15.code : Code := Go.Proofs.Tryd.f27.body.getD .skip

theorem zf15.fun : Fun sg.P 27 14 [.tmp 2, .tmp 3] zf15.code := mkFun Go.Proofs.Tryd.func27 (by kernel_rfl) (by kernel_rfl) (by kernel_rfl) (by kernel_rfl)

def zf15.ret (Q : (Option Ptr) → Int → Heap → Prop) (v : V) (h : Heap) : Prop :=
  match v with
  | .tup [.ptr r1, .int .i64 r2] => Q r1 r2 h
  | _ => False

def zf15.C (vs : List V) (κ : V → Heap → Prop) (h : Heap) : Prop :=
  match vs with
  | [.int .i64 a1] => zf15 a1 (fun r1 r2 h => κ (.tup [.ptr r1, .int .i64 r2]) h) h
  | _ => False

noncomputable def zf15.calls : List (Nat × (List V → (V → Heap → Prop) → Heap → Prop)) := []

noncomputable def zf15.E (Q : (Option Ptr) → Int → Heap → Prop) (cuts : List (Nat × (List Nat × (List V → Heap → Prop)))) : Env := { tis := tisT, fns := fnsT, tys := tysT, gls := [], rts := rtsT, unk := [], nxt := [], calls := zf15.calls, ifc := noIfc, cuts := cuts, ret := zf15.ret Q, rets := [.tmp 2, .tmp 3], n := 14 }

theorem zf15.callsOK {W0 : World} : CallsOK sg W0 zf15.calls := trivial

theorem zf15.e : ∀ (a1 : Int) (Q : (Option Ptr) → Int → Heap → Prop) (h : Heap), zf15 a1 Q h = pts (zf15.E Q []) 3000 true [.code zf15.code] (frOf 0 [.int .i64 a1]) h := by
  intros; kernel_rfl

theorem zf15.S {W0 : World} : FnS sg W0 85 zf15.C := by
  intro vs κ h wv hx w s
  unfold zf15.C at hx
  split at hx
  · rename_i a1
    refine postImp (ret := zf15.ret (fun r1 r2 h => κ (.tup [.ptr r1, .int .i64 r2]) h)) (fun v h hr => by unfold zf15.ret at hr; split at hr; exact hr; exact hr.elim) ?_
    exact calls_of_pts (E := zf15.E (fun r1 r2 h => κ (.tup [.ptr r1, .int .i64 r2]) h) []) (envOK seatOK zf15.callsOK noIfc_ok) seatOK.mixed zf15.fun (Nat.le_of_ble_eq_true rfl) wv (cutL_ok trivial) s (fuel := 3000) (by rw [← zf15.e]; exact hx)
  · exact hx.elim

noncomputable def zf17.code : Code := Go.Proofs.Tryd.f39.body.getD .skip

theorem zf17.fun : Fun sg.P 39 12 [.tmp 2] zf17.code := mkFun Go.Proofs.Tryd.func39 (by kernel_rfl) (by kernel_rfl) (by kernel_rfl) (by kernel_rfl)

def zf17.ret (Q : Bool → Heap → Prop) (v : V) (h : Heap) : Prop :=
  match v with
  | .bool r1 => Q r1 h
  | _ => False

def zf17.C (vs : List V) (κ : V → Heap → Prop) (h : Heap) : Prop :=
  match vs with
  | [.ptr a1] => zf17 a1 (fun r1 h => κ (.bool r1) h) h
  | _ => False

noncomputable def zf17.calls : List (Nat × (List V → (V → Heap → Prop) → Heap → Prop)) := []

noncomputable def zf17.E (Q : Bool → Heap → Prop) (cuts : List (Nat × (List Nat × (List V → Heap → Prop)))) : Env := { tis := tisT, fns := fnsT, tys := tysT, gls := [], rts := rtsT, unk := [], nxt := [], calls := zf17.calls, ifc := noIfc, cuts := cuts, ret := zf17.ret Q, rets := [.tmp 2], n := 12 }

theorem zf17.callsOK {W0 : World} : CallsOK sg W0 zf17.calls := trivial

theorem zf17.e : ∀ (a1 : Option Ptr) (Q : Bool → Heap → Prop) (h : Heap), zf17 a1 Q h = pts (zf17.E Q []) 3000 true [.code zf17.code] (frOf 0 [.ptr a1]) h := by
  intros; kernel_rfl

theorem zf17.S {W0 : World} : FnS sg W0 260 zf17.C := by
  intro vs κ h wv hx w s
  unfold zf17.C at hx
  split at hx
  · rename_i a1
    refine postImp (ret := zf17.ret (fun r1 h => κ (.bool r1) h)) (fun v h hr => by unfold zf17.ret at hr; split at hr; exact hr; exact hr.elim) ?_
    exact calls_of_pts (E := zf17.E (fun r1 h => κ (.bool r1) h) []) (envOK seatOK zf17.callsOK noIfc_ok) seatOK.mixed zf17.fun (Nat.le_of_ble_eq_true rfl) wv (cutL_ok trivial) s (fuel := 3000) (by rw [← zf17.e]; exact hx)
  · exact hx.elim

noncomputable def zf20.code : Code := Go.Proofs.Tryd.f82.body.getD .skip

theorem zf20.fun : Fun sg.P 82 9 [.tmp 2] zf20.code := mkFun Go.Proofs.Tryd.func82 (by kernel_rfl) (by kernel_rfl) (by kernel_rfl) (by kernel_rfl)

def zf20.ret (Q : Bool → Heap → Prop) (v : V) (h : Heap) : Prop :=
  match v with
  | .bool r1 => Q r1 h
  | _ => False

def zf20.C (vs : List V) (κ : V → Heap → Prop) (h : Heap) : Prop :=
  match vs with
  | [.int .i64 a1] => zf20 a1 (fun r1 h => κ (.bool r1) h) h
  | _ => False

noncomputable def zf20.calls : List (Nat × (List V → (V → Heap → Prop) → Heap → Prop)) := []

noncomputable def zf20.E (Q : Bool → Heap → Prop) (cuts : List (Nat × (List Nat × (List V → Heap → Prop)))) : Env := { tis := tisT, fns := fnsT, tys := tysT, gls := [], rts := rtsT, unk := [], nxt := [], calls := zf20.calls, ifc := noIfc, cuts := cuts, ret := zf20.ret Q, rets := [.tmp 2], n := 9 }

theorem zf20.callsOK {W0 : World} : CallsOK sg W0 zf20.calls := trivial

theorem zf20.e : ∀ (a1 : Int) (Q : Bool → Heap → Prop) (h : Heap), zf20 a1 Q h = pts (zf20.E Q []) 3000 true [.code zf20.code] (frOf 0 [.int .i64 a1]) h := by
  intros; kernel_rfl

theorem zf20.S {W0 : World} : FnS sg W0 261 zf20.C := by
  intro vs κ h wv hx w s
  unfold zf20.C at hx
  split at hx
  · rename_i a1
    refine postImp (ret := zf20.ret (fun r1 h => κ (.bool r1) h)) (fun v h hr => by unfold zf20.ret at hr; split at hr; exact hr; exact hr.elim) ?_
    exact calls_of_pts (E := zf20.E (fun r1 h => κ (.bool r1) h) []) (envOK seatOK zf20.callsOK noIfc_ok) seatOK.mixed zf20.fun (Nat.le_of_ble_eq_true rfl) wv (cutL_ok trivial) s (fuel := 3000) (by rw [← zf20.e]; exact hx)
  · exact hx.elim

noncomputable def zf18.code : Code := Go.Proofs.Tryd.f61.body.getD .skip

theorem zf18.fun : Fun sg.P 61 19 [.tmp 4] zf18.code := mkFun Go.Proofs.Tryd.func61 (by kernel_rfl) (by kernel_rfl) (by kernel_rfl) (by kernel_rfl)

def zf18.ret (Q : Int → Heap → Prop) (v : V) (h : Heap) : Prop :=
  match v with
  | .int .i64 r1 => Q r1 h
  | _ => False

def zf18.C (vs : List V) (κ : V → Heap → Prop) (h : Heap) : Prop :=
  match vs with
  | [.ptr a1, .sl a2] => zf18 a1 a2 (fun r1 h => κ (.int .i64 r1) h) h
  | _ => False

noncomputable def zf18.calls : List (Nat × (List V → (V → Heap → Prop) → Heap → Prop)) := [(260, zf17.C), (261, zf20.C)]

noncomputable def zf18.E (Q : Int → Heap → Prop) (cuts : List (Nat × (List Nat × (List V → Heap → Prop)))) : Env := { tis := tisT, fns := fnsT, tys := tysT, gls := [], rts := rtsT, unk := [], nxt := [], calls := zf18.calls, ifc := noIfc, cuts := cuts, ret := zf18.ret Q, rets := [.tmp 4], n := 19 }

theorem zf18.callsOK {W0 : World} : CallsOK sg W0 zf18.calls := ⟨zf17.S, zf20.S, trivial⟩

def zf18.k4 (I : Sl → Int → Int → Heap → Prop) (vs : List V) (h : Heap) : Prop :=
  match vs with
  | [.sl a1, .int .i64 a2, .int .i64 a3] => I a1 a2 a3 h
  | _ => False

theorem zf18.p4 : (posC zf18.code []).filter (fun p => Nat.beq p.1 4) = [(4, atPos (posC zf18.code []) 4)] := by kernel_rfl

theorem zf18.e4 : ∀  (I4 : Sl → Int → Int → Heap → Prop) (a1 : Sl) (a2 : Int) (a3 : Int) (Q : Int → Heap → Prop) (h : Heap), zf18.b4  I4 a1 a2 a3 Q h = pts (zf18.E Q [(4, ([9, 10, 11], zf18.k4 I4))]) 3000 true (atPos (posC zf18.code []) 4) (frAt [9, 10, 11] [.sl a1, .int .i64 a2, .int .i64 a3]) h := by
  intros; kernel_rfl

theorem zf18.s4 {W0 : World} (Q : Int → Heap → Prop)   : CutOK sg W0 19 (entered 61) (Post sg W0 (zf18.ret Q)) (posC zf18.code []) 4 [9, 10, 11] (zf18.k4 (fun a1 a2 a3 h => zf18.j4  a1 a2 a3 Q h)) := by
  refine cutOK_head (fun vs h hk => ?_)
  unfold zf18.k4 at hk
  split at hk
  · rename_i a1 a2 a3
    refine hk (fun a1 a2 a3 h => Head sg W0 19 (entered 61) (Post sg W0 (zf18.ret Q)) (posC zf18.code []) 4 [9, 10, 11] [.sl a1, .int .i64 a2, .int .i64 a3] h) ?_
    intro a1 a2 a3 h hb todo hm ρ a w s f hp
    have hself : CutOK sg W0 19 (entered 61) (Post sg W0 (zf18.ret Q)) (posC zf18.code []) 4 [9, 10, 11] (zf18.k4 (fun a1 a2 a3 h => Head sg W0 19 (entered 61) (Post sg W0 (zf18.ret Q)) (posC zf18.code []) 4 [9, 10, 11] [.sl a1, .int .i64 a2, .int .i64 a3] h)) := cutOK_head (fun vs h hk => by unfold zf18.k4 at hk; split at hk; exact hk; exact hk.elim)
    exact piece (E := zf18.E Q [(4, ([9, 10, 11], zf18.k4 (fun a1 a2 a3 h => Head sg W0 19 (entered 61) (Post sg W0 (zf18.ret Q)) (posC zf18.code []) 4 [9, 10, 11] [.sl a1, .int .i64 a2, .int .i64 a3] h)))]) (vs := [.sl a1, .int .i64 a2, .int .i64 a3]) (envOK seatOK zf18.callsOK noIfc_ok) (fnOK seatOK zf18.fun) ⟨hself, trivial⟩ zf18.p4 (fuel := 3000) (by rw [← zf18.e4]; exact hb) hm s f hp
  · exact hk.elim

theorem zf18.e : ∀ (a1 : Option Ptr) (a2 : Sl) (Q : Int → Heap → Prop) (h : Heap), zf18 a1 a2 Q h = pts (zf18.E Q [(4, ([9, 10, 11], zf18.k4 (fun a1 a2 a3 h => zf18.j4  a1 a2 a3 Q h)))]) 3000 true [.code zf18.code] (frOf 0 [.ptr a1, .sl a2]) h := by
  intros; kernel_rfl

theorem zf18.S {W0 : World} : FnS sg W0 262 zf18.C := by
  intro vs κ h wv hx w s
  unfold zf18.C at hx
  split at hx
  · rename_i a1 a2
    refine postImp (ret := zf18.ret (fun r1 h => κ (.int .i64 r1) h)) (fun v h hr => by unfold zf18.ret at hr; split at hr; exact hr; exact hr.elim) ?_
    exact calls_of_pts (E := zf18.E (fun r1 h => κ (.int .i64 r1) h) [(4, ([9, 10, 11], zf18.k4 (fun a1 a2 a3 h => zf18.j4  a1 a2 a3 (fun r1 h => κ (.int .i64 r1) h) h)))]) (envOK seatOK zf18.callsOK noIfc_ok) seatOK.mixed zf18.fun (Nat.le_of_ble_eq_true rfl) wv (cutL_ok ⟨(zf18.s4 (fun r1 h => κ (.int .i64 r1) h)), trivial⟩) s (fuel := 3000) (by rw [← zf18.e]; exact hx)
  · exact hx.elim

noncomputable def zf16.code : Code := Go.Proofs.Tryd.f28.body.getD .skip

theorem zf16.fun : Fun sg.P 28 101 [.tmp 4, .tmp 5] zf16.code := mkFun Go.Proofs.Tryd.func28 (by kernel_rfl) (by kernel_rfl) (by kernel_rfl) (by kernel_rfl)

def zf16.ret (Q : Int → Int → Heap → Prop) (v : V) (h : Heap) : Prop :=
  match v with
  | .tup [.int .i64 r1, .int .i64 r2] => Q r1 r2 h
  | _ => False

def zf16.C (vs : List V) (κ : V → Heap → Prop) (h : Heap) : Prop :=
  match vs with
  | [.ptr a1, .int .i64 a2] => zf16 a1 a2 (fun r1 r2 h => κ (.tup [.int .i64 r1, .int .i64 r2]) h) h
  | _ => False

noncomputable def zf16.calls : List (Nat × (List V → (V → Heap → Prop) → Heap → Prop)) := [(262, zf18.C)]

noncomputable def zf16.E (Q : Int → Int → Heap → Prop) (cuts : List (Nat × (List Nat × (List V → Heap → Prop)))) : Env := { tis := tisT, fns := fnsT, tys := tysT, gls := [], rts := rtsT, unk := [], nxt := [], calls := zf16.calls, ifc := noIfc, cuts := cuts, ret := zf16.ret Q, rets := [.tmp 4, .tmp 5], n := 101 }

theorem zf16.callsOK {W0 : World} : CallsOK sg W0 zf16.calls := ⟨zf18.S, trivial⟩

def zf16.k11 (I : (Option Ptr) → Int → Heap → Prop) (vs : List V) (h : Heap) : Prop :=
  match vs with
  | [.ptr a1, .int .i64 a2] => I a1 a2 h
  | _ => False

def zf16.k8 (I : (Option Ptr) → Int → Heap → Prop) (vs : List V) (h : Heap) : Prop :=
  match vs with
  | [.ptr a1, .int .i64 a2] => I a1 a2 h
  | _ => False

def zf16.k6 (I : (Option Ptr) → Int → Heap → Prop) (vs : List V) (h : Heap) : Prop :=
  match vs with
  | [.ptr a1, .int .i64 a2] => I a1 a2 h
  | _ => False

theorem zf16.p11 : (posC zf16.code []).filter (fun p => Nat.beq p.1 11) = [(11, atPos (posC zf16.code []) 11)] := by kernel_rfl

theorem zf16.e11 : ∀  (a1 : Option Ptr) (a2 : Int) (Q : Int → Int → Heap → Prop) (h : Heap), zf16.j11  a1 a2 Q h = pts (zf16.E Q []) 3000 true (atPos (posC zf16.code []) 11) (frAt [0, 1] [.ptr a1, .int .i64 a2]) h := by
  intros; kernel_rfl

theorem zf16.s11 {W0 : World} (Q : Int → Int → Heap → Prop)   : CutOK sg W0 101 (entered 28) (Post sg W0 (zf16.ret Q)) (posC zf16.code []) 11 [0, 1] (zf16.k11 (fun a1 a2 h => zf16.j11  a1 a2 Q h)) := by
  refine cutOK_head (fun vs h hk => ?_)
  unfold zf16.k11 at hk
  split at hk
  · rename_i a1 a2
    intro todo hm ρ a w s f hp
    exact piece (E := zf16.E Q []) (vs := [.ptr a1, .int .i64 a2]) (envOK seatOK zf16.callsOK noIfc_ok) (fnOK seatOK zf16.fun) trivial zf16.p11 (fuel := 3000) (by rw [← zf16.e11]; exact hk) hm s f hp
  · exact hk.elim

theorem zf16.p8 : (posC zf16.code []).filter (fun p => Nat.beq p.1 8) = [(8, atPos (posC zf16.code []) 8)] := by kernel_rfl

theorem zf16.e8 : ∀  (a1 : Option Ptr) (a2 : Int) (Q : Int → Int → Heap → Prop) (h : Heap), zf16.j8  a1 a2 Q h = pts (zf16.E Q [(11, ([0, 1], zf16.k11 (fun a1 a2 h => zf16.j11  a1 a2 Q h)))]) 3000 true (atPos (posC zf16.code []) 8) (frAt [0, 1] [.ptr a1, .int .i64 a2]) h := by
  intros; kernel_rfl

theorem zf16.s8 {W0 : World} (Q : Int → Int → Heap → Prop)   : CutOK sg W0 101 (entered 28) (Post sg W0 (zf16.ret Q)) (posC zf16.code []) 8 [0, 1] (zf16.k8 (fun a1 a2 h => zf16.j8  a1 a2 Q h)) := by
  refine cutOK_head (fun vs h hk => ?_)
  unfold zf16.k8 at hk
  split at hk
  · rename_i a1 a2
    intro todo hm ρ a w s f hp
    exact piece (E := zf16.E Q [(11, ([0, 1], zf16.k11 (fun a1 a2 h => zf16.j11  a1 a2 Q h)))]) (vs := [.ptr a1, .int .i64 a2]) (envOK seatOK zf16.callsOK noIfc_ok) (fnOK seatOK zf16.fun) ⟨(zf16.s11 Q  ), trivial⟩ zf16.p8 (fuel := 3000) (by rw [← zf16.e8]; exact hk) hm s f hp
  · exact hk.elim

theorem zf16.p6 : (posC zf16.code []).filter (fun p => Nat.beq p.1 6) = [(6, atPos (posC zf16.code []) 6)] := by kernel_rfl

theorem zf16.e6 : ∀  (I6 : (Option Ptr) → Int → Heap → Prop) (a1 : Option Ptr) (a2 : Int) (Q : Int → Int → Heap → Prop) (h : Heap), zf16.b6  I6 a1 a2 Q h = pts (zf16.E Q [(6, ([0, 1], zf16.k6 I6)), (8, ([0, 1], zf16.k8 (fun a1 a2 h => zf16.j8  a1 a2 Q h)))]) 3000 true (atPos (posC zf16.code []) 6) (frAt [0, 1] [.ptr a1, .int .i64 a2]) h := by
  intros; kernel_rfl

theorem zf16.s6 {W0 : World} (Q : Int → Int → Heap → Prop)   : CutOK sg W0 101 (entered 28) (Post sg W0 (zf16.ret Q)) (posC zf16.code []) 6 [0, 1] (zf16.k6 (fun a1 a2 h => zf16.j6  a1 a2 Q h)) := by
  refine cutOK_head (fun vs h hk => ?_)
  unfold zf16.k6 at hk
  split at hk
  · rename_i a1 a2
    refine hk (fun a1 a2 h => Head sg W0 101 (entered 28) (Post sg W0 (zf16.ret Q)) (posC zf16.code []) 6 [0, 1] [.ptr a1, .int .i64 a2] h) ?_
    intro a1 a2 h hb todo hm ρ a w s f hp
    have hself : CutOK sg W0 101 (entered 28) (Post sg W0 (zf16.ret Q)) (posC zf16.code []) 6 [0, 1] (zf16.k6 (fun a1 a2 h => Head sg W0 101 (entered 28) (Post sg W0 (zf16.ret Q)) (posC zf16.code []) 6 [0, 1] [.ptr a1, .int .i64 a2] h)) := cutOK_head (fun vs h hk => by unfold zf16.k6 at hk; split at hk; exact hk; exact hk.elim)
    exact piece (E := zf16.E Q [(6, ([0, 1], zf16.k6 (fun a1 a2 h => Head sg W0 101 (entered 28) (Post sg W0 (zf16.ret Q)) (posC zf16.code []) 6 [0, 1] [.ptr a1, .int .i64 a2] h))), (8, ([0, 1], zf16.k8 (fun a1 a2 h => zf16.j8  a1 a2 Q h)))]) (vs := [.ptr a1, .int .i64 a2]) (envOK seatOK zf16.callsOK noIfc_ok) (fnOK seatOK zf16.fun) ⟨hself, (zf16.s8 Q  ), trivial⟩ zf16.p6 (fuel := 3000) (by rw [← zf16.e6]; exact hb) hm s f hp
  · exact hk.elim

theorem zf16.e : ∀ (a1 : Option Ptr) (a2 : Int) (Q : Int → Int → Heap → Prop) (h : Heap), zf16 a1 a2 Q h = pts (zf16.E Q [(6, ([0, 1], zf16.k6 (fun a1 a2 h => zf16.j6  a1 a2 Q h)))]) 3000 true [.code zf16.code] (frOf 0 [.ptr a1, .int .i64 a2]) h := by
  intros; kernel_rfl

theorem zf16.S {W0 : World} : FnS sg W0 263 zf16.C := by
  intro vs κ h wv hx w s
  unfold zf16.C at hx
  split at hx
  · rename_i a1 a2
    refine postImp (ret := zf16.ret (fun r1 r2 h => κ (.tup [.int .i64 r1, .int .i64 r2]) h)) (fun v h hr => by unfold zf16.ret at hr; split at hr; exact hr; exact hr.elim) ?_
    exact calls_of_pts (E := zf16.E (fun r1 r2 h => κ (.tup [.int .i64 r1, .int .i64 r2]) h) [(6, ([0, 1], zf16.k6 (fun a1 a2 h => zf16.j6  a1 a2 (fun r1 r2 h => κ (.tup [.int .i64 r1, .int .i64 r2]) h) h)))]) (envOK seatOK zf16.callsOK noIfc_ok) seatOK.mixed zf16.fun (Nat.le_of_ble_eq_true rfl) wv (cutL_ok ⟨(zf16.s6 (fun r1 r2 h => κ (.tup [.int .i64 r1, .int .i64 r2]) h)), trivial⟩) s (fuel := 3000) (by rw [← zf16.e]; exact hx)
  · exact hx.elim

noncomputable def zf47.code : Code := Go.Proofs.Tryd.f49.body.getD .skip

theorem zf47.fun : Fun sg.P 49 16 [.tmp 2] zf47.code := mkFun Go.Proofs.Tryd.func49 (by kernel_rfl) (by kernel_rfl) (by kernel_rfl) (by kernel_rfl)

def zf47.ret (Q : Bool → Heap → Prop) (v : V) (h : Heap) : Prop :=
  match v with
  | .bool r1 => Q r1 h
  | _ => False

def zf47.C (vs : List V) (κ : V → Heap → Prop) (h : Heap) : Prop :=
  match vs with
  | [.int .i64 a1] => zf47 a1 (fun r1 h => κ (.bool r1) h) h
  | _ => False

noncomputable def zf47.calls : List (Nat × (List V → (V → Heap → Prop) → Heap → Prop)) := []

noncomputable def zf47.E (Q : Bool → Heap → Prop) (cuts : List (Nat × (List Nat × (List V → Heap → Prop)))) : Env := { tis := tisT, fns := fnsT, tys := tysT, gls := [], rts := rtsT, unk := [], nxt := [], calls := zf47.calls, ifc := noIfc, cuts := cuts, ret := zf47.ret Q, rets := [.tmp 2], n := 16 }

theorem zf47.callsOK {W0 : World} : CallsOK sg W0 zf47.calls := trivial

theorem zf47.e : ∀ (a1 : Int) (Q : Bool → Heap → Prop) (h : Heap), zf47 a1 Q h = pts (zf47.E Q []) 3000 true [.code zf47.code] (frOf 0 [.int .i64 a1]) h := by
  intros; kernel_rfl

theorem zf47.S {W0 : World} : FnS sg W0 34 zf47.C := by
  intro vs κ h wv hx w s
  unfold zf47.C at hx
  split at hx
  · rename_i a1
    refine postImp (ret := zf47.ret (fun r1 h => κ (.bool r1) h)) (fun v h hr => by unfold zf47.ret at hr; split at hr; exact hr; exact hr.elim) ?_
    exact calls_of_pts (E := zf47.E (fun r1 h => κ (.bool r1) h) []) (envOK seatOK zf47.callsOK noIfc_ok) seatOK.mixed zf47.fun (Nat.le_of_ble_eq_true rfl) wv (cutL_ok trivial) s (fuel := 3000) (by rw [← zf47.e]; exact hx)
  · exact hx.elim

noncomputable def zf40.code : Code := Go.Proofs.Tryd.f19.body.getD .skip

theorem zf40.fun : Fun sg.P 19 23 [.tmp 4, .tmp 5] zf40.code := mkFun Go.Proofs.Tryd.func19 (by kernel_rfl) (by kernel_rfl) (by kernel_rfl) (by kernel_rfl)

def zf40.ret (Q : (Option Ptr) → Int → Heap → Prop) (v : V) (h : Heap) : Prop :=
  match v with
  | .tup [.ptr r1, .int .i64 r2] => Q r1 r2 h
  | _ => False

def zf40.C (vs : List V) (κ : V → Heap → Prop) (h : Heap) : Prop :=
  match vs with
  | [.int .u64 a1, .int .i64 a2] => zf40 a1 a2 (fun r1 r2 h => κ (.tup [.ptr r1, .int .i64 r2]) h) h
  | _ => False

noncomputable def zf40.calls : List (Nat × (List V → (V → Heap → Prop) → Heap → Prop)) := [(34, zf47.C)]

noncomputable def zf40.E (Q : (Option Ptr) → Int → Heap → Prop) (cuts : List (Nat × (List Nat × (List V → Heap → Prop)))) : Env := { tis := tisT, fns := fnsT, tys := tysT, gls := [], rts := rtsT, unk := [], nxt := [], calls := zf40.calls, ifc := noIfc, cuts := cuts, ret := zf40.ret Q, rets := [.tmp 4, .tmp 5], n := 23 }

theorem zf40.callsOK {W0 : World} : CallsOK sg W0 zf40.calls := ⟨zf47.S, trivial⟩

theorem zf40.e : ∀ (a1 : Int) (a2 : Int) (Q : (Option Ptr) → Int → Heap → Prop) (h : Heap), zf40 a1 a2 Q h = pts (zf40.E Q []) 3000 true [.code zf40.code] (frOf 0 [.int .u64 a1, .int .i64 a2]) h := by
  intros; kernel_rfl

theorem zf40.S {W0 : World} : FnS sg W0 35 zf40.C := by
  intro vs κ h wv hx w s
  unfold zf40.C at hx
  split at hx
  · rename_i a1 a2
    refine postImp (ret := zf40.ret (fun r1 r2 h => κ (.tup [.ptr r1, .int .i64 r2]) h)) (fun v h hr => by unfold zf40.ret at hr; split at hr; exact hr; exact hr.elim) ?_
    exact calls_of_pts (E := zf40.E (fun r1 r2 h => κ (.tup [.ptr r1, .int .i64 r2]) h) []) (envOK seatOK zf40.callsOK noIfc_ok) seatOK.mixed zf40.fun (Nat.le_of_ble_eq_true rfl) wv (cutL_ok trivial) s (fuel := 3000) (by rw [← zf40.e]; exact hx)
  · exact hx.elim

noncomputable def zf14.code : Code := Go.Proofs.Tryd.f37.body.getD .skip

theorem zf14.fun : Fun sg.P 37 12 [.tmp 2] zf14.code := mkFun Go.Proofs.Tryd.func37 (by kernel_rfl) (by kernel_rfl) (by kernel_rfl) (by kernel_rfl)

def zf14.ret (Q : Bool → Heap → Prop) (v : V) (h : Heap) : Prop :=
  match v with
  | .bool r1 => Q r1 h
  | _ => False

def zf14.C (vs : List V) (κ : V → Heap → Prop) (h : Heap) : Prop :=
  match vs with
  | [.ptr a1] => zf14 a1 (fun r1 h => κ (.bool r1) h) h
  | _ => False

noncomputable def zf14.calls : List (Nat × (List V → (V → Heap → Prop) → Heap → Prop)) := []

noncomputable def zf14.E (Q : Bool → Heap → Prop) (cuts : List (Nat × (List Nat × (List V → Heap → Prop)))) : Env := { tis := tisT, fns := fnsT, tys := tysT, gls := [], rts := rtsT, unk := [], nxt := [], calls := zf14.calls, ifc := noIfc, cuts := cuts, ret := zf14.ret Q, rets := [.tmp 2], n := 12 }

theorem zf14.callsOK {W0 : World} : CallsOK sg W0 zf14.calls := trivial

theorem zf14.e : ∀ (a1 : Option Ptr) (Q : Bool → Heap → Prop) (h : Heap), zf14 a1 Q h = pts (zf14.E Q []) 3000 true [.code zf14.code] (frOf 0 [.ptr a1]) h := by
  intros; kernel_rfl

theorem zf14.S {W0 : World} : FnS sg W0 29 zf14.C := by
  intro vs κ h wv hx w s
  unfold zf14.C at hx
  split at hx
  · rename_i a1
    refine postImp (ret := zf14.ret (fun r1 h => κ (.bool r1) h)) (fun v h hr => by unfold zf14.ret at hr; split at hr; exact hr; exact hr.elim) ?_
    exact calls_of_pts (E := zf14.E (fun r1 h => κ (.bool r1) h) []) (envOK seatOK zf14.callsOK noIfc_ok) seatOK.mixed zf14.fun (Nat.le_of_ble_eq_true rfl) wv (cutL_ok trivial) s (fuel := 3000) (by rw [← zf14.e]; exact hx)
  · exact hx.elim

noncomputable def zf13.code : Code := Go.Proofs.Tryd.f62.body.getD .skip

theorem zf13.fun : Fun sg.P 62 9 [.tmp 2] zf13.code := mkFun Go.Proofs.Tryd.func62 (by kernel_rfl) (by kernel_rfl) (by kernel_rfl) (by kernel_rfl)

def zf13.ret (Q : Int → Heap → Prop) (v : V) (h : Heap) : Prop :=
  match v with
  | .int .i64 r1 => Q r1 h
  | _ => False

def zf13.C (vs : List V) (κ : V → Heap → Prop) (h : Heap) : Prop :=
  match vs with
  | [.ptr a1] => zf13 a1 (fun r1 h => κ (.int .i64 r1) h) h
  | _ => False

noncomputable def zf13.calls : List (Nat × (List V → (V → Heap → Prop) → Heap → Prop)) := [(29, zf14.C)]

noncomputable def zf13.E (Q : Int → Heap → Prop) (cuts : List (Nat × (List Nat × (List V → Heap → Prop)))) : Env := { tis := tisT, fns := fnsT, tys := tysT, gls := [], rts := rtsT, unk := [], nxt := [], calls := zf13.calls, ifc := noIfc, cuts := cuts, ret := zf13.ret Q, rets := [.tmp 2], n := 9 }

theorem zf13.callsOK {W0 : World} : CallsOK sg W0 zf13.calls := ⟨zf14.S, trivial⟩

theorem zf13.e : ∀ (a1 : Option Ptr) (Q : Int → Heap → Prop) (h : Heap), zf13 a1 Q h = pts (zf13.E Q []) 3000 true [.code zf13.code] (frOf 0 [.ptr a1]) h := by
  intros; kernel_rfl

theorem zf13.S {W0 : World} : FnS sg W0 50 zf13.C := by
  intro vs κ h wv hx w s
  unfold zf13.C at hx
  split at hx
  · rename_i a1
    refine postImp (ret := zf13.ret (fun r1 h => κ (.int .i64 r1) h)) (fun v h hr => by unfold zf13.ret at hr; split at hr; exact hr; exact hr.elim) ?_
    exact calls_of_pts (E := zf13.E (fun r1 h => κ (.int .i64 r1) h) []) (envOK seatOK zf13.callsOK noIfc_ok) seatOK.mixed zf13.fun (Nat.le_of_ble_eq_true rfl) wv (cutL_ok trivial) s (fuel := 3000) (by rw [← zf13.e]; exact hx)
  · exact hx.elim

noncomputable def zf4.code : Code := Go.Proofs.Tryd.f29.body.getD .skip

theorem zf4.fun : Fun sg.P 29 63 [.tmp 12, .tmp 13] zf4.code := mkFun Go.Proofs.Tryd.func29 (by kernel_rfl) (by kernel_rfl) (by kernel_rfl) (by kernel_rfl)

def zf4.ret (Q : (Option Ptr) → Int → Heap → Prop) (v : V) (h : Heap) : Prop :=
  match v with
  | .tup [.ptr r1, .int .i64 r2] => Q r1 r2 h
  | _ => False

def zf4.C (vs : List V) (κ : V → Heap → Prop) (h : Heap) : Prop :=
  match vs with
  | [.ptr a1, .ptr a2, .int .i64 a3, .int .i64 a4, .ptr a5, .int .i64 a6] => zf4 a1 a2 a3 a4 a5 a6 (fun r1 r2 h => κ (.tup [.ptr r1, .int .i64 r2]) h) h
  | _ => False

noncomputable def zf4.calls : List (Nat × (List V → (V → Heap → Prop) → Heap → Prop)) := [(50, zf13.C)]

noncomputable def zf4.E (Q : (Option Ptr) → Int → Heap → Prop) (cuts : List (Nat × (List Nat × (List V → Heap → Prop)))) : Env := { tis := tisT, fns := fnsT, tys := tysT, gls := [], rts := rtsT, unk := [], nxt := [], calls := zf4.calls, ifc := noIfc, cuts := cuts, ret := zf4.ret Q, rets := [.tmp 12, .tmp 13], n := 63 }

theorem zf4.callsOK {W0 : World} : CallsOK sg W0 zf4.calls := ⟨zf13.S, trivial⟩

def zf4.k4 (I : Heap → Prop) (vs : List V) (h : Heap) : Prop :=
  match vs with
  | [] => I  h
  | _ => False

def zf4.k5 (I : (Option Ptr) → (Option Ptr) → Int → Int → (Option Ptr) → Int → Heap → Prop) (vs : List V) (h : Heap) : Prop :=
  match vs with
  | [.ptr a1, .ptr a2, .int .i64 a3, .int .i64 a4, .ptr a5, .int .i64 a6] => I a1 a2 a3 a4 a5 a6 h
  | _ => False

theorem zf4.p4 : (posC zf4.code []).filter (fun p => Nat.beq p.1 4) = [(4, atPos (posC zf4.code []) 4)] := by kernel_rfl

theorem zf4.e4 : ∀   (Q : (Option Ptr) → Int → Heap → Prop) (h : Heap), zf4.j4   Q h = pts (zf4.E Q []) 3000 true (atPos (posC zf4.code []) 4) (frAt [] []) h := by
  intros; kernel_rfl

theorem zf4.s4 {W0 : World} (Q : (Option Ptr) → Int → Heap → Prop)   : CutOK sg W0 63 (entered 29) (Post sg W0 (zf4.ret Q)) (posC zf4.code []) 4 [] (zf4.k4 (fun  h => zf4.j4   Q h)) := by
  refine cutOK_head (fun vs h hk => ?_)
  unfold zf4.k4 at hk
  split at hk
  · skip
    intro todo hm ρ a w s f hp
    exact piece (E := zf4.E Q []) (vs := []) (envOK seatOK zf4.callsOK noIfc_ok) (fnOK seatOK zf4.fun) trivial zf4.p4 (fuel := 3000) (by rw [← zf4.e4]; exact hk) hm s f hp
  · exact hk.elim

theorem zf4.p5 : (posC zf4.code []).filter (fun p => Nat.beq p.1 5) = [(5, atPos (posC zf4.code []) 5)] := by kernel_rfl

theorem zf4.e5 : ∀  (a1 : Option Ptr) (a2 : Option Ptr) (a3 : Int) (a4 : Int) (a5 : Option Ptr) (a6 : Int) (Q : (Option Ptr) → Int → Heap → Prop) (h : Heap), zf4.j5  a1 a2 a3 a4 a5 a6 Q h = pts (zf4.E Q []) 3000 true (atPos (posC zf4.code []) 5) (frAt [0, 1, 2, 3, 4, 5] [.ptr a1, .ptr a2, .int .i64 a3, .int .i64 a4, .ptr a5, .int .i64 a6]) h := by
  intros; kernel_rfl

theorem zf4.s5 {W0 : World} (Q : (Option Ptr) → Int → Heap → Prop)   : CutOK sg W0 63 (entered 29) (Post sg W0 (zf4.ret Q)) (posC zf4.code []) 5 [0, 1, 2, 3, 4, 5] (zf4.k5 (fun a1 a2 a3 a4 a5 a6 h => zf4.j5  a1 a2 a3 a4 a5 a6 Q h)) := by
  refine cutOK_head (fun vs h hk => ?_)
  unfold zf4.k5 at hk
  split at hk
  · rename_i a1 a2 a3 a4 a5 a6
    intro todo hm ρ a w s f hp
    exact piece (E := zf4.E Q []) (vs := [.ptr a1, .ptr a2, .int .i64 a3, .int .i64 a4, .ptr a5, .int .i64 a6]) (envOK seatOK zf4.callsOK noIfc_ok) (fnOK seatOK zf4.fun) trivial zf4.p5 (fuel := 3000) (by rw [← zf4.e5]; exact hk) hm s f hp
  · exact hk.elim

theorem zf4.e : ∀ (a1 : Option Ptr) (a2 : Option Ptr) (a3 : Int) (a4 : Int) (a5 : Option Ptr) (a6 : Int) (Q : (Option Ptr) → Int → Heap → Prop) (h : Heap), zf4 a1 a2 a3 a4 a5 a6 Q h = pts (zf4.E Q [(4, ([], zf4.k4 (fun  h => zf4.j4   Q h))), (5, ([0, 1, 2, 3, 4, 5], zf4.k5 (fun a1 a2 a3 a4 a5 a6 h => zf4.j5  a1 a2 a3 a4 a5 a6 Q h)))]) 3000 true [.code zf4.code] (frOf 0 [.ptr a1, .ptr a2, .int .i64 a3, .int .i64 a4, .ptr a5, .int .i64 a6]) h := by
  intros; kernel_rfl

theorem zf4.S {W0 : World} : FnS sg W0 264 zf4.C := by
  intro vs κ h wv hx w s
  unfold zf4.C at hx
  split at hx
  · rename_i a1 a2 a3 a4 a5 a6
    refine postImp (ret := zf4.ret (fun r1 r2 h => κ (.tup [.ptr r1, .int .i64 r2]) h)) (fun v h hr => by unfold zf4.ret at hr; split at hr; exact hr; exact hr.elim) ?_
    exact calls_of_pts (E := zf4.E (fun r1 r2 h => κ (.tup [.ptr r1, .int .i64 r2]) h) [(4, ([], zf4.k4 (fun  h => zf4.j4   (fun r1 r2 h => κ (.tup [.ptr r1, .int .i64 r2]) h) h))), (5, ([0, 1, 2, 3, 4, 5], zf4.k5 (fun a1 a2 a3 a4 a5 a6 h => zf4.j5  a1 a2 a3 a4 a5 a6 (fun r1 r2 h => κ (.tup [.ptr r1, .int .i64 r2]) h) h)))]) (envOK seatOK zf4.callsOK noIfc_ok) seatOK.mixed zf4.fun (Nat.le_of_ble_eq_true rfl) wv (cutL_ok ⟨(zf4.s4 (fun r1 r2 h => κ (.tup [.ptr r1, .int .i64 r2]) h)), (zf4.s5 (fun r1 r2 h => κ (.tup [.ptr r1, .int .i64 r2]) h)), trivial⟩) s (fuel := 3000) (by rw [← zf4.e]; exact hx)
  · exact hx.elim

noncomputable def zf38.code : Code := Go.Proofs.Tryd.f5.body.getD .skip

theorem zf38.fun : Fun sg.P 5 130 [.tmp 0] zf38.code := mkFun Go.Proofs.Tryd.func5 (by kernel_rfl) (by kernel_rfl) (by kernel_rfl) (by kernel_rfl)

def zf38.ret (Q : (Option Ptr) → Heap → Prop) (v : V) (h : Heap) : Prop :=
  match v with
  | .ptr r1 => Q r1 h
  | _ => False

def zf38.C (vs : List V) (κ : V → Heap → Prop) (h : Heap) : Prop :=
  match vs with
  | [] => zf38  (fun r1 h => κ (.ptr r1) h) h
  | _ => False

noncomputable def zf38.calls : List (Nat × (List V → (V → Heap → Prop) → Heap → Prop)) := [(35, zf40.C), (28, zf30.C), (259, zf19.C), (85, zf15.C), (263, zf16.C), (264, zf4.C)]

noncomputable def zf38.E (Q : (Option Ptr) → Heap → Prop) (cuts : List (Nat × (List Nat × (List V → Heap → Prop)))) : Env := { tis := tisT, fns := fnsT, tys := tysT, gls := [], rts := rtsT, unk := [], nxt := [], calls := zf38.calls, ifc := noIfc, cuts := cuts, ret := zf38.ret Q, rets := [.tmp 0], n := 130 }

theorem zf38.callsOK {W0 : World} : CallsOK sg W0 zf38.calls := ⟨zf40.S, zf30.S, zf19.S, zf15.S, zf16.S, zf4.S, trivial⟩

def zf38.k5 (I : Heap → Prop) (vs : List V) (h : Heap) : Prop :=
  match vs with
  | [] => I  h
  | _ => False

def zf38.k16 (I : Heap → Prop) (vs : List V) (h : Heap) : Prop :=
  match vs with
  | [] => I  h
  | _ => False

def zf38.k20 (I : Heap → Prop) (vs : List V) (h : Heap) : Prop :=
  match vs with
  | [] => I  h
  | _ => False

def zf38.k9 (I : (Option Ptr) → (Option Ptr) → (Option Ptr) → Ptr → Int → Heap → Prop) (vs : List V) (h : Heap) : Prop :=
  match vs with
  | [.ptr a1, .ptr a2, .ptr a3, .ptr (some a4), .int .i64 a5] => I a1 a2 a3 a4 a5 h
  | _ => False

def zf38.k21 (I : (Option Ptr) → (Option Ptr) → (Option Ptr) → Ptr → Int → (Option Ptr) → (Option Ptr) → Heap → Prop) (vs : List V) (h : Heap) : Prop :=
  match vs with
  | [.ptr a1, .ptr a2, .ptr a3, .ptr (some a4), .int .i64 a5, .ptr a6, .ptr a7] => I a1 a2 a3 a4 a5 a6 a7 h
  | _ => False

def zf38.k12 (I : (Option Ptr) → (Option Ptr) → (Option Ptr) → Ptr → Int → Int → Heap → Prop) (vs : List V) (h : Heap) : Prop :=
  match vs with
  | [.ptr a1, .ptr a2, .ptr a3, .ptr (some a4), .int .i64 a5, .int .i64 a6] => I a1 a2 a3 a4 a5 a6 h
  | _ => False

def zf38.k8 (I : (Option Ptr) → (Option Ptr) → (Option Ptr) → Ptr → Int → Heap → Prop) (vs : List V) (h : Heap) : Prop :=
  match vs with
  | [.ptr a1, .ptr a2, .ptr a3, .ptr (some a4), .int .i64 a5] => I a1 a2 a3 a4 a5 h
  | _ => False

def zf38.k6 (I : (Option Ptr) → (Option Ptr) → (Option Ptr) → Heap → Prop) (vs : List V) (h : Heap) : Prop :=
  match vs with
  | [.ptr a1, .ptr a2, .ptr a3] => I a1 a2 a3 h
  | _ => False

theorem zf38.p5 : (posC zf38.code []).filter (fun p => Nat.beq p.1 5) = [(5, atPos (posC zf38.code []) 5)] := by kernel_rfl

theorem zf38.e5 : ∀   (Q : (Option Ptr) → Heap → Prop) (h : Heap), zf38.j5   Q h = pts (zf38.E Q []) 3000 true (atPos (posC zf38.code []) 5) (frAt [] []) h := by
  intros; kernel_rfl

theorem zf38.s5 {W0 : World} (Q : (Option Ptr) → Heap → Prop)   : CutOK sg W0 130 (entered 5) (Post sg W0 (zf38.ret Q)) (posC zf38.code []) 5 [] (zf38.k5 (fun  h => zf38.j5   Q h)) := by
  refine cutOK_head (fun vs h hk => ?_)
  unfold zf38.k5 at hk
  split at hk
  · skip
    intro todo hm ρ a w s f hp
    exact piece (E := zf38.E Q []) (vs := []) (envOK seatOK zf38.callsOK noIfc_ok) (fnOK seatOK zf38.fun) trivial zf38.p5 (fuel := 3000) (by rw [← zf38.e5]; exact hk) hm s f hp
  · exact hk.elim

theorem zf38.p16 : (posC zf38.code []).filter (fun p => Nat.beq p.1 16) = [(16, atPos (posC zf38.code []) 16)] := by kernel_rfl

theorem zf38.e16 : ∀ (I8 : (Option Ptr) → (Option Ptr) → (Option Ptr) → Ptr → Int → Heap → Prop) (I12 : (Option Ptr) → (Option Ptr) → (Option Ptr) → Ptr → Int → Int → Heap → Prop)  (Q : (Option Ptr) → Heap → Prop) (h : Heap), zf38.j16 I8 I12  Q h = pts (zf38.E Q []) 3000 true (atPos (posC zf38.code []) 16) (frAt [] []) h := by
  intros; kernel_rfl

theorem zf38.s16 {W0 : World} (Q : (Option Ptr) → Heap → Prop) (I8 : (Option Ptr) → (Option Ptr) → (Option Ptr) → Ptr → Int → Heap → Prop) (I12 : (Option Ptr) → (Option Ptr) → (Option Ptr) → Ptr → Int → Int → Heap → Prop) (h8 : CutOK sg W0 130 (entered 5) (Post sg W0 (zf38.ret Q)) (posC zf38.code []) 8 [1, 3, 5, 7, 8] (zf38.k8 I8)) (h12 : CutOK sg W0 130 (entered 5) (Post sg W0 (zf38.ret Q)) (posC zf38.code []) 12 [1, 3, 5, 7, 8, 9] (zf38.k12 I12)) : CutOK sg W0 130 (entered 5) (Post sg W0 (zf38.ret Q)) (posC zf38.code []) 16 [] (zf38.k16 (fun  h => zf38.j16 I8 I12  Q h)) := by
  refine cutOK_head (fun vs h hk => ?_)
  unfold zf38.k16 at hk
  split at hk
  · skip
    intro todo hm ρ a w s f hp
    exact piece (E := zf38.E Q []) (vs := []) (envOK seatOK zf38.callsOK noIfc_ok) (fnOK seatOK zf38.fun) trivial zf38.p16 (fuel := 3000) (by rw [← zf38.e16]; exact hk) hm s f hp
  · exact hk.elim

theorem zf38.p20 : (posC zf38.code []).filter (fun p => Nat.beq p.1 20) = [(20, atPos (posC zf38.code []) 20)] := by kernel_rfl

theorem zf38.e20 : ∀ (I8 : (Option Ptr) → (Option Ptr) → (Option Ptr) → Ptr → Int → Heap → Prop)  (Q : (Option Ptr) → Heap → Prop) (h : Heap), zf38.j20 I8  Q h = pts (zf38.E Q []) 3000 true (atPos (posC zf38.code []) 20) (frAt [] []) h := by
  intros; kernel_rfl

theorem zf38.s20 {W0 : World} (Q : (Option Ptr) → Heap → Prop) (I8 : (Option Ptr) → (Option Ptr) → (Option Ptr) → Ptr → Int → Heap → Prop) (h8 : CutOK sg W0 130 (entered 5) (Post sg W0 (zf38.ret Q)) (posC zf38.code []) 8 [1, 3, 5, 7, 8] (zf38.k8 I8)) : CutOK sg W0 130 (entered 5) (Post sg W0 (zf38.ret Q)) (posC zf38.code []) 20 [] (zf38.k20 (fun  h => zf38.j20 I8  Q h)) := by
  refine cutOK_head (fun vs h hk => ?_)
  unfold zf38.k20 at hk
  split at hk
  · skip
    intro todo hm ρ a w s f hp
    exact piece (E := zf38.E Q []) (vs := []) (envOK seatOK zf38.callsOK noIfc_ok) (fnOK seatOK zf38.fun) trivial zf38.p20 (fuel := 3000) (by rw [← zf38.e20]; exact hk) hm s f hp
  · exact hk.elim

theorem zf38.p9 : (posC zf38.code []).filter (fun p => Nat.beq p.1 9) = [(9, atPos (posC zf38.code []) 9)] := by kernel_rfl

theorem zf38.e9 : ∀ (I8 : (Option Ptr) → (Option Ptr) → (Option Ptr) → Ptr → Int → Heap → Prop) (a1 : Option Ptr) (a2 : Option Ptr) (a3 : Option Ptr) (a4 : Ptr) (a5 : Int) (Q : (Option Ptr) → Heap → Prop) (h : Heap), zf38.j9 I8 a1 a2 a3 a4 a5 Q h = pts (zf38.E Q [(8, ([1, 3, 5, 7, 8], zf38.k8 I8))]) 3000 true (atPos (posC zf38.code []) 9) (frAt [1, 3, 5, 7, 8] [.ptr a1, .ptr a2, .ptr a3, .ptr (some a4), .int .i64 a5]) h := by
  intros; kernel_rfl

theorem zf38.s9 {W0 : World} (Q : (Option Ptr) → Heap → Prop) (I8 : (Option Ptr) → (Option Ptr) → (Option Ptr) → Ptr → Int → Heap → Prop) (h8 : CutOK sg W0 130 (entered 5) (Post sg W0 (zf38.ret Q)) (posC zf38.code []) 8 [1, 3, 5, 7, 8] (zf38.k8 I8)) : CutOK sg W0 130 (entered 5) (Post sg W0 (zf38.ret Q)) (posC zf38.code []) 9 [1, 3, 5, 7, 8] (zf38.k9 (fun a1 a2 a3 a4 a5 h => zf38.j9 I8 a1 a2 a3 a4 a5 Q h)) := by
  refine cutOK_head (fun vs h hk => ?_)
  unfold zf38.k9 at hk
  split at hk
  · rename_i a1 a2 a3 a4 a5
    intro todo hm ρ a w s f hp
    exact piece (E := zf38.E Q [(8, ([1, 3, 5, 7, 8], zf38.k8 I8))]) (vs := [.ptr a1, .ptr a2, .ptr a3, .ptr (some a4), .int .i64 a5]) (envOK seatOK zf38.callsOK noIfc_ok) (fnOK seatOK zf38.fun) ⟨h8, trivial⟩ zf38.p9 (fuel := 3000) (by rw [← zf38.e9]; exact hk) hm s f hp
  · exact hk.elim

theorem zf38.p21 : (posC zf38.code []).filter (fun p => Nat.beq p.1 21) = [(21, atPos (posC zf38.code []) 21)] := by kernel_rfl

theorem zf38.e21 : ∀ (I8 : (Option Ptr) → (Option Ptr) → (Option Ptr) → Ptr → Int → Heap → Prop) (a1 : Option Ptr) (a2 : Option Ptr) (a3 : Option Ptr) (a4 : Ptr) (a5 : Int) (a6 : Option Ptr) (a7 : Option Ptr) (Q : (Option Ptr) → Heap → Prop) (h : Heap), zf38.j21 I8 a1 a2 a3 a4 a5 a6 a7 Q h = pts (zf38.E Q [(9, ([1, 3, 5, 7, 8], zf38.k9 (fun a1 a2 a3 a4 a5 h => zf38.j9 I8 a1 a2 a3 a4 a5 Q h)))]) 3000 true (atPos (posC zf38.code []) 21) (frAt [1, 3, 5, 7, 8, 12, 14] [.ptr a1, .ptr a2, .ptr a3, .ptr (some a4), .int .i64 a5, .ptr a6, .ptr a7]) h := by
  intros; kernel_rfl

theorem zf38.s21 {W0 : World} (Q : (Option Ptr) → Heap → Prop) (I8 : (Option Ptr) → (Option Ptr) → (Option Ptr) → Ptr → Int → Heap → Prop) (h8 : CutOK sg W0 130 (entered 5) (Post sg W0 (zf38.ret Q)) (posC zf38.code []) 8 [1, 3, 5, 7, 8] (zf38.k8 I8)) : CutOK sg W0 130 (entered 5) (Post sg W0 (zf38.ret Q)) (posC zf38.code []) 21 [1, 3, 5, 7, 8, 12, 14] (zf38.k21 (fun a1 a2 a3 a4 a5 a6 a7 h => zf38.j21 I8 a1 a2 a3 a4 a5 a6 a7 Q h)) := by
  refine cutOK_head (fun vs h hk => ?_)
  unfold zf38.k21 at hk
  split at hk
  · rename_i a1 a2 a3 a4 a5 a6 a7
    intro todo hm ρ a w s f hp
    exact piece (E := zf38.E Q [(9, ([1, 3, 5, 7, 8], zf38.k9 (fun a1 a2 a3 a4 a5 h => zf38.j9 I8 a1 a2 a3 a4 a5 Q h)))]) (vs := [.ptr a1, .ptr a2, .ptr a3, .ptr (some a4), .int .i64 a5, .ptr a6, .ptr a7]) (envOK seatOK zf38.callsOK noIfc_ok) (fnOK seatOK zf38.fun) ⟨(zf38.s9 Q I8 h8), trivial⟩ zf38.p21 (fuel := 3000) (by rw [← zf38.e21]; exact hk) hm s f hp
  · exact hk.elim

theorem zf38.p12 : (posC zf38.code []).filter (fun p => Nat.beq p.1 12) = [(12, atPos (posC zf38.code []) 12)] := by kernel_rfl

theorem zf38.e12 : ∀ (I8 : (Option Ptr) → (Option Ptr) → (Option Ptr) → Ptr → Int → Heap → Prop) (I12 : (Option Ptr) → (Option Ptr) → (Option Ptr) → Ptr → Int → Int → Heap → Prop) (a1 : Option Ptr) (a2 : Option Ptr) (a3 : Option Ptr) (a4 : Ptr) (a5 : Int) (a6 : Int) (Q : (Option Ptr) → Heap → Prop) (h : Heap), zf38.b12 I8 I12 a1 a2 a3 a4 a5 a6 Q h = pts (zf38.E Q [(16, ([], zf38.k16 (fun  h => zf38.j16 I8 I12  Q h))), (12, ([1, 3, 5, 7, 8, 9], zf38.k12 I12)), (20, ([], zf38.k20 (fun  h => zf38.j20 I8  Q h))), (21, ([1, 3, 5, 7, 8, 12, 14], zf38.k21 (fun a1 a2 a3 a4 a5 a6 a7 h => zf38.j21 I8 a1 a2 a3 a4 a5 a6 a7 Q h)))]) 3000 true (atPos (posC zf38.code []) 12) (frAt [1, 3, 5, 7, 8, 9] [.ptr a1, .ptr a2, .ptr a3, .ptr (some a4), .int .i64 a5, .int .i64 a6]) h := by
  intros; kernel_rfl

theorem zf38.s12 {W0 : World} (Q : (Option Ptr) → Heap → Prop) (I8 : (Option Ptr) → (Option Ptr) → (Option Ptr) → Ptr → Int → Heap → Prop) (h8 : CutOK sg W0 130 (entered 5) (Post sg W0 (zf38.ret Q)) (posC zf38.code []) 8 [1, 3, 5, 7, 8] (zf38.k8 I8)) : CutOK sg W0 130 (entered 5) (Post sg W0 (zf38.ret Q)) (posC zf38.code []) 12 [1, 3, 5, 7, 8, 9] (zf38.k12 (fun a1 a2 a3 a4 a5 a6 h => zf38.j12 I8 a1 a2 a3 a4 a5 a6 Q h)) := by
  refine cutOK_head (fun vs h hk => ?_)
  unfold zf38.k12 at hk
  split at hk
  · rename_i a1 a2 a3 a4 a5 a6
    refine hk (fun a1 a2 a3 a4 a5 a6 h => Head sg W0 130 (entered 5) (Post sg W0 (zf38.ret Q)) (posC zf38.code []) 12 [1, 3, 5, 7, 8, 9] [.ptr a1, .ptr a2, .ptr a3, .ptr (some a4), .int .i64 a5, .int .i64 a6] h) ?_
    intro a1 a2 a3 a4 a5 a6 h hb todo hm ρ a w s f hp
    have hself : CutOK sg W0 130 (entered 5) (Post sg W0 (zf38.ret Q)) (posC zf38.code []) 12 [1, 3, 5, 7, 8, 9] (zf38.k12 (fun a1 a2 a3 a4 a5 a6 h => Head sg W0 130 (entered 5) (Post sg W0 (zf38.ret Q)) (posC zf38.code []) 12 [1, 3, 5, 7, 8, 9] [.ptr a1, .ptr a2, .ptr a3, .ptr (some a4), .int .i64 a5, .int .i64 a6] h)) := cutOK_head (fun vs h hk => by unfold zf38.k12 at hk; split at hk; exact hk; exact hk.elim)
    exact piece (E := zf38.E Q [(16, ([], zf38.k16 (fun  h => zf38.j16 I8 (fun a1 a2 a3 a4 a5 a6 h => Head sg W0 130 (entered 5) (Post sg W0 (zf38.ret Q)) (posC zf38.code []) 12 [1, 3, 5, 7, 8, 9] [.ptr a1, .ptr a2, .ptr a3, .ptr (some a4), .int .i64 a5, .int .i64 a6] h)  Q h))), (12, ([1, 3, 5, 7, 8, 9], zf38.k12 (fun a1 a2 a3 a4 a5 a6 h => Head sg W0 130 (entered 5) (Post sg W0 (zf38.ret Q)) (posC zf38.code []) 12 [1, 3, 5, 7, 8, 9] [.ptr a1, .ptr a2, .ptr a3, .ptr (some a4), .int .i64 a5, .int .i64 a6] h))), (20, ([], zf38.k20 (fun  h => zf38.j20 I8  Q h))), (21, ([1, 3, 5, 7, 8, 12, 14], zf38.k21 (fun a1 a2 a3 a4 a5 a6 a7 h => zf38.j21 I8 a1 a2 a3 a4 a5 a6 a7 Q h)))]) (vs := [.ptr a1, .ptr a2, .ptr a3, .ptr (some a4), .int .i64 a5, .int .i64 a6]) (envOK seatOK zf38.callsOK noIfc_ok) (fnOK seatOK zf38.fun) ⟨(zf38.s16 Q I8 (fun a1 a2 a3 a4 a5 a6 h => Head sg W0 130 (entered 5) (Post sg W0 (zf38.ret Q)) (posC zf38.code []) 12 [1, 3, 5, 7, 8, 9] [.ptr a1, .ptr a2, .ptr a3, .ptr (some a4), .int .i64 a5, .int .i64 a6] h) h8 hself), hself, (zf38.s20 Q I8 h8), (zf38.s21 Q I8 h8), trivial⟩ zf38.p12 (fuel := 3000) (by rw [← zf38.e12]; exact hb) hm s f hp
  · exact hk.elim

theorem zf38.p8 : (posC zf38.code []).filter (fun p => Nat.beq p.1 8) = [(8, atPos (posC zf38.code []) 8)] := by kernel_rfl

theorem zf38.e8 : ∀  (I8 : (Option Ptr) → (Option Ptr) → (Option Ptr) → Ptr → Int → Heap → Prop) (a1 : Option Ptr) (a2 : Option Ptr) (a3 : Option Ptr) (a4 : Ptr) (a5 : Int) (Q : (Option Ptr) → Heap → Prop) (h : Heap), zf38.b8  I8 a1 a2 a3 a4 a5 Q h = pts (zf38.E Q [(12, ([1, 3, 5, 7, 8, 9], zf38.k12 (fun a1 a2 a3 a4 a5 a6 h => zf38.j12 I8 a1 a2 a3 a4 a5 a6 Q h)))]) 3000 true (atPos (posC zf38.code []) 8) (frAt [1, 3, 5, 7, 8] [.ptr a1, .ptr a2, .ptr a3, .ptr (some a4), .int .i64 a5]) h := by
  intros; kernel_rfl

theorem zf38.s8 {W0 : World} (Q : (Option Ptr) → Heap → Prop)   : CutOK sg W0 130 (entered 5) (Post sg W0 (zf38.ret Q)) (posC zf38.code []) 8 [1, 3, 5, 7, 8] (zf38.k8 (fun a1 a2 a3 a4 a5 h => zf38.j8  a1 a2 a3 a4 a5 Q h)) := by
  refine cutOK_head (fun vs h hk => ?_)
  unfold zf38.k8 at hk
  split at hk
  · rename_i a1 a2 a3 a4 a5
    refine hk (fun a1 a2 a3 a4 a5 h => Head sg W0 130 (entered 5) (Post sg W0 (zf38.ret Q)) (posC zf38.code []) 8 [1, 3, 5, 7, 8] [.ptr a1, .ptr a2, .ptr a3, .ptr (some a4), .int .i64 a5] h) ?_
    intro a1 a2 a3 a4 a5 h hb todo hm ρ a w s f hp
    have hself : CutOK sg W0 130 (entered 5) (Post sg W0 (zf38.ret Q)) (posC zf38.code []) 8 [1, 3, 5, 7, 8] (zf38.k8 (fun a1 a2 a3 a4 a5 h => Head sg W0 130 (entered 5) (Post sg W0 (zf38.ret Q)) (posC zf38.code []) 8 [1, 3, 5, 7, 8] [.ptr a1, .ptr a2, .ptr a3, .ptr (some a4), .int .i64 a5] h)) := cutOK_head (fun vs h hk => by unfold zf38.k8 at hk; split at hk; exact hk; exact hk.elim)
    exact piece (E := zf38.E Q [(12, ([1, 3, 5, 7, 8, 9], zf38.k12 (fun a1 a2 a3 a4 a5 a6 h => zf38.j12 (fun a1 a2 a3 a4 a5 h => Head sg W0 130 (entered 5) (Post sg W0 (zf38.ret Q)) (posC zf38.code []) 8 [1, 3, 5, 7, 8] [.ptr a1, .ptr a2, .ptr a3, .ptr (some a4), .int .i64 a5] h) a1 a2 a3 a4 a5 a6 Q h)))]) (vs := [.ptr a1, .ptr a2, .ptr a3, .ptr (some a4), .int .i64 a5]) (envOK seatOK zf38.callsOK noIfc_ok) (fnOK seatOK zf38.fun) ⟨(zf38.s12 Q (fun a1 a2 a3 a4 a5 h => Head sg W0 130 (entered 5) (Post sg W0 (zf38.ret Q)) (posC zf38.code []) 8 [1, 3, 5, 7, 8] [.ptr a1, .ptr a2, .ptr a3, .ptr (some a4), .int .i64 a5] h) hself), trivial⟩ zf38.p8 (fuel := 3000) (by rw [← zf38.e8]; exact hb) hm s f hp
  · exact hk.elim

theorem zf38.p6 : (posC zf38.code []).filter (fun p => Nat.beq p.1 6) = [(6, atPos (posC zf38.code []) 6)] := by kernel_rfl

theorem zf38.e6 : ∀  (a1 : Option Ptr) (a2 : Option Ptr) (a3 : Option Ptr) (Q : (Option Ptr) → Heap → Prop) (h : Heap), zf38.j6  a1 a2 a3 Q h = pts (zf38.E Q [(8, ([1, 3, 5, 7, 8], zf38.k8 (fun a1 a2 a3 a4 a5 h => zf38.j8  a1 a2 a3 a4 a5 Q h)))]) 3000 true (atPos (posC zf38.code []) 6) (frAt [1, 3, 5] [.ptr a1, .ptr a2, .ptr a3]) h := by
  intros; kernel_rfl

theorem zf38.s6 {W0 : World} (Q : (Option Ptr) → Heap → Prop)   : CutOK sg W0 130 (entered 5) (Post sg W0 (zf38.ret Q)) (posC zf38.code []) 6 [1, 3, 5] (zf38.k6 (fun a1 a2 a3 h => zf38.j6  a1 a2 a3 Q h)) := by
  refine cutOK_head (fun vs h hk => ?_)
  unfold zf38.k6 at hk
  split at hk
  · rename_i a1 a2 a3
    intro todo hm ρ a w s f hp
    exact piece (E := zf38.E Q [(8, ([1, 3, 5, 7, 8], zf38.k8 (fun a1 a2 a3 a4 a5 h => zf38.j8  a1 a2 a3 a4 a5 Q h)))]) (vs := [.ptr a1, .ptr a2, .ptr a3]) (envOK seatOK zf38.callsOK noIfc_ok) (fnOK seatOK zf38.fun) ⟨(zf38.s8 Q  ), trivial⟩ zf38.p6 (fuel := 3000) (by rw [← zf38.e6]; exact hk) hm s f hp
  · exact hk.elim

theorem zf38.e : ∀  (Q : (Option Ptr) → Heap → Prop) (h : Heap), zf38  Q h = pts (zf38.E Q [(5, ([], zf38.k5 (fun  h => zf38.j5   Q h))), (6, ([1, 3, 5], zf38.k6 (fun a1 a2 a3 h => zf38.j6  a1 a2 a3 Q h)))]) 3000 true [.code zf38.code] (frOf 0 []) h := by
  intros; kernel_rfl

theorem zf38.S {W0 : World} : FnS sg W0 265 zf38.C := by
  intro vs κ h wv hx w s
  unfold zf38.C at hx
  split at hx
  · skip
    refine postImp (ret := zf38.ret (fun r1 h => κ (.ptr r1) h)) (fun v h hr => by unfold zf38.ret at hr; split at hr; exact hr; exact hr.elim) ?_
    exact calls_of_pts (E := zf38.E (fun r1 h => κ (.ptr r1) h) [(5, ([], zf38.k5 (fun  h => zf38.j5   (fun r1 h => κ (.ptr r1) h) h))), (6, ([1, 3, 5], zf38.k6 (fun a1 a2 a3 h => zf38.j6  a1 a2 a3 (fun r1 h => κ (.ptr r1) h) h)))]) (envOK seatOK zf38.callsOK noIfc_ok) seatOK.mixed zf38.fun (Nat.le_of_ble_eq_true rfl) wv (cutL_ok ⟨(zf38.s5 (fun r1 h => κ (.ptr r1) h)), (zf38.s6 (fun r1 h => κ (.ptr r1) h)), trivial⟩) s (fuel := 3000) (by rw [← zf38.e]; exact hx)
  · exact hx.elim

noncomputable def zf49.code : Code := Go.Proofs.Tryd.f48.body.getD .skip

theorem zf49.fun : Fun sg.P 48 8 [.tmp 2] zf49.code := mkFun Go.Proofs.Tryd.func48 (by kernel_rfl) (by kernel_rfl) (by kernel_rfl) (by kernel_rfl)

def zf49.ret (Q : Sl → Heap → Prop) (v : V) (h : Heap) : Prop :=
  match v with
  | .sl r1 => Q r1 h
  | _ => False

def zf49.C (vs : List V) (κ : V → Heap → Prop) (h : Heap) : Prop :=
  match vs with
  | [.sl a1] => zf49 a1 (fun r1 h => κ (.sl r1) h) h
  | _ => False

noncomputable def zf49.calls : List (Nat × (List V → (V → Heap → Prop) → Heap → Prop)) := []

noncomputable def zf49.E (Q : Sl → Heap → Prop) (cuts : List (Nat × (List Nat × (List V → Heap → Prop)))) : Env := { tis := tisT, fns := fnsT, tys := tysT, gls := [], rts := rtsT, unk := [], nxt := [], calls := zf49.calls, ifc := noIfc, cuts := cuts, ret := zf49.ret Q, rets := [.tmp 2], n := 8 }

theorem zf49.callsOK {W0 : World} : CallsOK sg W0 zf49.calls := trivial

theorem zf49.e : ∀ (a1 : Sl) (Q : Sl → Heap → Prop) (h : Heap), zf49 a1 Q h = pts (zf49.E Q []) 3000 true [.code zf49.code] (frOf 0 [.sl a1]) h := by
  intros; kernel_rfl

theorem zf49.S {W0 : World} : FnS sg W0 350 zf49.C := by
  intro vs κ h wv hx w s
  unfold zf49.C at hx
  split at hx
  · rename_i a1
    refine postImp (ret := zf49.ret (fun r1 h => κ (.sl r1) h)) (fun v h hr => by unfold zf49.ret at hr; split at hr; exact hr; exact hr.elim) ?_
    exact calls_of_pts (E := zf49.E (fun r1 h => κ (.sl r1) h) []) (envOK seatOK zf49.callsOK noIfc_ok) seatOK.mixed zf49.fun (Nat.le_of_ble_eq_true rfl) wv (cutL_ok trivial) s (fuel := 3000) (by rw [← zf49.e]; exact hx)
  · exact hx.elim

noncomputable def zf50.code : Code := Go.Proofs.Tryd.f18.body.getD .skip

theorem zf50.fun : Fun sg.P 18 33 [.tmp 2, .tmp 3] zf50.code := mkFun Go.Proofs.Tryd.func18 (by kernel_rfl) (by kernel_rfl) (by kernel_rfl) (by kernel_rfl)

def zf50.ret (Q : (Option Ptr) → Int → Heap → Prop) (v : V) (h : Heap) : Prop :=
  match v with
  | .tup [.ptr r1, .int .i64 r2] => Q r1 r2 h
  | _ => False

def zf50.C (vs : List V) (κ : V → Heap → Prop) (h : Heap) : Prop :=
  match vs with
  | [.sl a1] => zf50 a1 (fun r1 r2 h => κ (.tup [.ptr r1, .int .i64 r2]) h) h
  | _ => False

noncomputable def zf50.calls : List (Nat × (List V → (V → Heap → Prop) → Heap → Prop)) := [(350, zf49.C)]

noncomputable def zf50.E (Q : (Option Ptr) → Int → Heap → Prop) (cuts : List (Nat × (List Nat × (List V → Heap → Prop)))) : Env := { tis := tisT, fns := fnsT, tys := tysT, gls := [], rts := rtsT, unk := [], nxt := [], calls := zf50.calls, ifc := noIfc, cuts := cuts, ret := zf50.ret Q, rets := [.tmp 2, .tmp 3], n := 33 }

theorem zf50.callsOK {W0 : World} : CallsOK sg W0 zf50.calls := ⟨zf49.S, trivial⟩

def zf50.k2 (I : Heap → Prop) (vs : List V) (h : Heap) : Prop :=
  match vs with
  | [] => I  h
  | _ => False

def zf50.k5 (I : Ptr → Int → Int → Heap → Prop) (vs : List V) (h : Heap) : Prop :=
  match vs with
  | [.ptr (some a1), .int .i64 a2, .int .i64 a3] => I a1 a2 a3 h
  | _ => False

theorem zf50.p2 : (posC zf50.code []).filter (fun p => Nat.beq p.1 2) = [(2, atPos (posC zf50.code []) 2)] := by kernel_rfl

theorem zf50.e2 : ∀   (Q : (Option Ptr) → Int → Heap → Prop) (h : Heap), zf50.j2   Q h = pts (zf50.E Q []) 3000 true (atPos (posC zf50.code []) 2) (frAt [] []) h := by
  intros; kernel_rfl

theorem zf50.s2 {W0 : World} (Q : (Option Ptr) → Int → Heap → Prop)   : CutOK sg W0 33 (entered 18) (Post sg W0 (zf50.ret Q)) (posC zf50.code []) 2 [] (zf50.k2 (fun  h => zf50.j2   Q h)) := by
  refine cutOK_head (fun vs h hk => ?_)
  unfold zf50.k2 at hk
  split at hk
  · skip
    intro todo hm ρ a w s f hp
    exact piece (E := zf50.E Q []) (vs := []) (envOK seatOK zf50.callsOK noIfc_ok) (fnOK seatOK zf50.fun) trivial zf50.p2 (fuel := 3000) (by rw [← zf50.e2]; exact hk) hm s f hp
  · exact hk.elim

theorem zf50.p5 : (posC zf50.code []).filter (fun p => Nat.beq p.1 5) = [(5, atPos (posC zf50.code []) 5)] := by kernel_rfl

theorem zf50.e5 : ∀  (I5 : Ptr → Int → Int → Heap → Prop) (a1 : Ptr) (a2 : Int) (a3 : Int) (Q : (Option Ptr) → Int → Heap → Prop) (h : Heap), zf50.b5  I5 a1 a2 a3 Q h = pts (zf50.E Q [(5, ([4, 18, 19], zf50.k5 I5))]) 3000 true (atPos (posC zf50.code []) 5) (frAt [4, 18, 19] [.ptr (some a1), .int .i64 a2, .int .i64 a3]) h := by
  intros; kernel_rfl

theorem zf50.s5 {W0 : World} (Q : (Option Ptr) → Int → Heap → Prop)   : CutOK sg W0 33 (entered 18) (Post sg W0 (zf50.ret Q)) (posC zf50.code []) 5 [4, 18, 19] (zf50.k5 (fun a1 a2 a3 h => zf50.j5  a1 a2 a3 Q h)) := by
  refine cutOK_head (fun vs h hk => ?_)
  unfold zf50.k5 at hk
  split at hk
  · rename_i a1 a2 a3
    refine hk (fun a1 a2 a3 h => Head sg W0 33 (entered 18) (Post sg W0 (zf50.ret Q)) (posC zf50.code []) 5 [4, 18, 19] [.ptr (some a1), .int .i64 a2, .int .i64 a3] h) ?_
    intro a1 a2 a3 h hb todo hm ρ a w s f hp
    have hself : CutOK sg W0 33 (entered 18) (Post sg W0 (zf50.ret Q)) (posC zf50.code []) 5 [4, 18, 19] (zf50.k5 (fun a1 a2 a3 h => Head sg W0 33 (entered 18) (Post sg W0 (zf50.ret Q)) (posC zf50.code []) 5 [4, 18, 19] [.ptr (some a1), .int .i64 a2, .int .i64 a3] h)) := cutOK_head (fun vs h hk => by unfold zf50.k5 at hk; split at hk; exact hk; exact hk.elim)
    exact piece (E := zf50.E Q [(5, ([4, 18, 19], zf50.k5 (fun a1 a2 a3 h => Head sg W0 33 (entered 18) (Post sg W0 (zf50.ret Q)) (posC zf50.code []) 5 [4, 18, 19] [.ptr (some a1), .int .i64 a2, .int .i64 a3] h)))]) (vs := [.ptr (some a1), .int .i64 a2, .int .i64 a3]) (envOK seatOK zf50.callsOK noIfc_ok) (fnOK seatOK zf50.fun) ⟨hself, trivial⟩ zf50.p5 (fuel := 3000) (by rw [← zf50.e5]; exact hb) hm s f hp
  · exact hk.elim

theorem zf50.e : ∀ (a1 : Sl) (Q : (Option Ptr) → Int → Heap → Prop) (h : Heap), zf50 a1 Q h = pts (zf50.E Q [(2, ([], zf50.k2 (fun  h => zf50.j2   Q h))), (5, ([4, 18, 19], zf50.k5 (fun a1 a2 a3 h => zf50.j5  a1 a2 a3 Q h)))]) 3000 true [.code zf50.code] (frOf 0 [.sl a1]) h := by
  intros; kernel_rfl

theorem zf50.S {W0 : World} : FnS sg W0 351 zf50.C := by
  intro vs κ h wv hx w s
  unfold zf50.C at hx
  split at hx
  · rename_i a1
    refine postImp (ret := zf50.ret (fun r1 r2 h => κ (.tup [.ptr r1, .int .i64 r2]) h)) (fun v h hr => by unfold zf50.ret at hr; split at hr; exact hr; exact hr.elim) ?_
    exact calls_of_pts (E := zf50.E (fun r1 r2 h => κ (.tup [.ptr r1, .int .i64 r2]) h) [(2, ([], zf50.k2 (fun  h => zf50.j2   (fun r1 r2 h => κ (.tup [.ptr r1, .int .i64 r2]) h) h))), (5, ([4, 18, 19], zf50.k5 (fun a1 a2 a3 h => zf50.j5  a1 a2 a3 (fun r1 r2 h => κ (.tup [.ptr r1, .int .i64 r2]) h) h)))]) (envOK seatOK zf50.callsOK noIfc_ok) seatOK.mixed zf50.fun (Nat.le_of_ble_eq_true rfl) wv (cutL_ok ⟨(zf50.s2 (fun r1 r2 h => κ (.tup [.ptr r1, .int .i64 r2]) h)), (zf50.s5 (fun r1 r2 h => κ (.tup [.ptr r1, .int .i64 r2]) h)), trivial⟩) s (fuel := 3000) (by rw [← zf50.e]; exact hx)
  · exact hx.elim

noncomputable def zf5.code : Code := Go.Proofs.Tryd.f20.body.getD .skip

theorem zf5.fun : Fun sg.P 20 34 [.tmp 8, .tmp 9] zf5.code := mkFun Go.Proofs.Tryd.func20 (by kernel_rfl) (by kernel_rfl) (by kernel_rfl) (by kernel_rfl)

def zf5.ret (Q : (Option Ptr) → Int → Heap → Prop) (v : V) (h : Heap) : Prop :=
  match v with
  | .tup [.ptr r1, .int .i64 r2] => Q r1 r2 h
  | _ => False

def zf5.C (vs : List V) (κ : V → Heap → Prop) (h : Heap) : Prop :=
  match vs with
  | [.ptr a1, .ptr a2, .ptr a3, .int .i64 a4] => zf5 a1 a2 a3 a4 (fun r1 r2 h => κ (.tup [.ptr r1, .int .i64 r2]) h) h
  | _ => False

noncomputable def zf5.calls : List (Nat × (List V → (V → Heap → Prop) → Heap → Prop)) := []

noncomputable def zf5.E (Q : (Option Ptr) → Int → Heap → Prop) (cuts : List (Nat × (List Nat × (List V → Heap → Prop)))) : Env := { tis := tisT, fns := fnsT, tys := tysT, gls := [], rts := rtsT, unk := [], nxt := [], calls := zf5.calls, ifc := noIfc, cuts := cuts, ret := zf5.ret Q, rets := [.tmp 8, .tmp 9], n := 34 }

theorem zf5.callsOK {W0 : World} : CallsOK sg W0 zf5.calls := trivial

theorem zf5.e : ∀ (a1 : Option Ptr) (a2 : Option Ptr) (a3 : Option Ptr) (a4 : Int) (Q : (Option Ptr) → Int → Heap → Prop) (h : Heap), zf5 a1 a2 a3 a4 Q h = pts (zf5.E Q []) 3000 true [.code zf5.code] (frOf 0 [.ptr a1, .ptr a2, .ptr a3, .int .i64 a4]) h := by
  intros; kernel_rfl

theorem zf5.S {W0 : World} : FnS sg W0 352 zf5.C := by
  intro vs κ h wv hx w s
  unfold zf5.C at hx
  split at hx
  · rename_i a1 a2 a3 a4
    refine postImp (ret := zf5.ret (fun r1 r2 h => κ (.tup [.ptr r1, .int .i64 r2]) h)) (fun v h hr => by unfold zf5.ret at hr; split at hr; exact hr; exact hr.elim) ?_
    exact calls_of_pts (E := zf5.E (fun r1 r2 h => κ (.tup [.ptr r1, .int .i64 r2]) h) []) (envOK seatOK zf5.callsOK noIfc_ok) seatOK.mixed zf5.fun (Nat.le_of_ble_eq_true rfl) wv (cutL_ok trivial) s (fuel := 3000) (by rw [← zf5.e]; exact hx)
  · exact hx.elim

noncomputable def zf26.code : Code := Go.Proofs.Tryd.f69.body.getD .skip

theorem zf26.fun : Fun sg.P 69 12 [.tmp 2] zf26.code := mkFun Go.Proofs.Tryd.func69 (by kernel_rfl) (by kernel_rfl) (by kernel_rfl) (by kernel_rfl)

def zf26.ret (Q : Bool → Heap → Prop) (v : V) (h : Heap) : Prop :=
  match v with
  | .bool r1 => Q r1 h
  | _ => False

def zf26.C (vs : List V) (κ : V → Heap → Prop) (h : Heap) : Prop :=
  match vs with
  | [.ptr a1] => zf26 a1 (fun r1 h => κ (.bool r1) h) h
  | _ => False

noncomputable def zf26.calls : List (Nat × (List V → (V → Heap → Prop) → Heap → Prop)) := []

noncomputable def zf26.E (Q : Bool → Heap → Prop) (cuts : List (Nat × (List Nat × (List V → Heap → Prop)))) : Env := { tis := tisT, fns := fnsT, tys := tysT, gls := [], rts := rtsT, unk := [], nxt := [], calls := zf26.calls, ifc := noIfc, cuts := cuts, ret := zf26.ret Q, rets := [.tmp 2], n := 12 }

theorem zf26.callsOK {W0 : World} : CallsOK sg W0 zf26.calls := trivial

theorem zf26.e : ∀ (a1 : Option Ptr) (Q : Bool → Heap → Prop) (h : Heap), zf26 a1 Q h = pts (zf26.E Q []) 3000 true [.code zf26.code] (frOf 0 [.ptr a1]) h := by
  intros; kernel_rfl

theorem zf26.S {W0 : World} : FnS sg W0 31 zf26.C := by
  intro vs κ h wv hx w s
  unfold zf26.C at hx
  split at hx
  · rename_i a1
    refine postImp (ret := zf26.ret (fun r1 h => κ (.bool r1) h)) (fun v h hr => by unfold zf26.ret at hr; split at hr; exact hr; exact hr.elim) ?_
    exact calls_of_pts (E := zf26.E (fun r1 h => κ (.bool r1) h) []) (envOK seatOK zf26.callsOK noIfc_ok) seatOK.mixed zf26.fun (Nat.le_of_ble_eq_true rfl) wv (cutL_ok trivial) s (fuel := 3000) (by rw [← zf26.e]; exact hx)
  · exact hx.elim

noncomputable def zf29.code : Code := Go.Proofs.Tryd.f83.body.getD .skip

theorem zf29.fun : Fun sg.P 83 23 [.tmp 3] zf29.code := mkFun Go.Proofs.Tryd.func83 (by kernel_rfl) (by kernel_rfl) (by kernel_rfl) (by kernel_rfl)

def zf29.ret (Q : Bool → Heap → Prop) (v : V) (h : Heap) : Prop :=
  match v with
  | .bool r1 => Q r1 h
  | _ => False

def zf29.C (vs : List V) (κ : V → Heap → Prop) (h : Heap) : Prop :=
  match vs with
  | [.ptr (some a1), .ptr (some a2), .ptr (some a3)] => zf29 a1 a2 a3 (fun r1 h => κ (.bool r1) h) h
  | _ => False

noncomputable def zf29.calls : List (Nat × (List V → (V → Heap → Prop) → Heap → Prop)) := []

noncomputable def zf29.E (Q : Bool → Heap → Prop) (cuts : List (Nat × (List Nat × (List V → Heap → Prop)))) : Env := { tis := tisT, fns := fnsT, tys := tysT, gls := [], rts := rtsT, unk := [], nxt := [], calls := zf29.calls, ifc := noIfc, cuts := cuts, ret := zf29.ret Q, rets := [.tmp 3], n := 23 }

theorem zf29.callsOK {W0 : World} : CallsOK sg W0 zf29.calls := trivial

theorem zf29.e : ∀ (a1 : Ptr) (a2 : Ptr) (a3 : Ptr) (Q : Bool → Heap → Prop) (h : Heap), zf29 a1 a2 a3 Q h = pts (zf29.E Q []) 3000 true [.code zf29.code] (frOf 0 [.ptr (some a1), .ptr (some a2), .ptr (some a3)]) h := by
  intros; kernel_rfl

theorem zf29.S {W0 : World} : FnS sg W0 2 zf29.C := by
  intro vs κ h wv hx w s
  unfold zf29.C at hx
  split at hx
  · rename_i a1 a2 a3
    refine postImp (ret := zf29.ret (fun r1 h => κ (.bool r1) h)) (fun v h hr => by unfold zf29.ret at hr; split at hr; exact hr; exact hr.elim) ?_
    exact calls_of_pts (E := zf29.E (fun r1 h => κ (.bool r1) h) []) (envOK seatOK zf29.callsOK noIfc_ok) seatOK.mixed zf29.fun (Nat.le_of_ble_eq_true rfl) wv (cutL_ok trivial) s (fuel := 3000) (by rw [← zf29.e]; exact hx)
  · exact hx.elim

noncomputable def zf28.code : Code := Go.Proofs.Tryd.f63.body.getD .skip

theorem zf28.fun : Fun sg.P 63 33 [.tmp 6, .tmp 7] zf28.code := mkFun Go.Proofs.Tryd.func63 (by kernel_rfl) (by kernel_rfl) (by kernel_rfl) (by kernel_rfl)

def zf28.ret (Q : Sl → Int → Heap → Prop) (v : V) (h : Heap) : Prop :=
  match v with
  | .tup [.sl r1, .int .i64 r2] => Q r1 r2 h
  | _ => False

def zf28.C (vs : List V) (κ : V → Heap → Prop) (h : Heap) : Prop :=
  match vs with
  | [.ptr a1, .int .u64 a2, .int .i64 a3] => zf28 a1 a2 a3 (fun r1 r2 h => κ (.tup [.sl r1, .int .i64 r2]) h) h
  | _ => False

noncomputable def zf28.calls : List (Nat × (List V → (V → Heap → Prop) → Heap → Prop)) := [(31, zf26.C), (2, zf29.C)]

noncomputable def zf28.E (Q : Sl → Int → Heap → Prop) (cuts : List (Nat × (List Nat × (List V → Heap → Prop)))) : Env := { tis := tisT, fns := fnsT, tys := tysT, gls := [], rts := rtsT, unk := [], nxt := [], calls := zf28.calls, ifc := noIfc, cuts := cuts, ret := zf28.ret Q, rets := [.tmp 6, .tmp 7], n := 33 }

theorem zf28.callsOK {W0 : World} : CallsOK sg W0 zf28.calls := ⟨zf26.S, zf29.S, trivial⟩

theorem zf28.e : ∀ (a1 : Option Ptr) (a2 : Int) (a3 : Int) (Q : Sl → Int → Heap → Prop) (h : Heap), zf28 a1 a2 a3 Q h = pts (zf28.E Q []) 3000 true [.code zf28.code] (frOf 0 [.ptr a1, .int .u64 a2, .int .i64 a3]) h := by
  intros; kernel_rfl

theorem zf28.S {W0 : World} : FnS sg W0 32 zf28.C := by
  intro vs κ h wv hx w s
  unfold zf28.C at hx
  split at hx
  · rename_i a1 a2 a3
    refine postImp (ret := zf28.ret (fun r1 r2 h => κ (.tup [.sl r1, .int .i64 r2]) h)) (fun v h hr => by unfold zf28.ret at hr; split at hr; exact hr; exact hr.elim) ?_
    exact calls_of_pts (E := zf28.E (fun r1 r2 h => κ (.tup [.sl r1, .int .i64 r2]) h) []) (envOK seatOK zf28.callsOK noIfc_ok) seatOK.mixed zf28.fun (Nat.le_of_ble_eq_true rfl) wv (cutL_ok trivial) s (fuel := 3000) (by rw [← zf28.e]; exact hx)
  · exact hx.elim

noncomputable def zf27.code : Code := Go.Proofs.Tryd.f77.body.getD .skip

theorem zf27.fun : Fun sg.P 77 34 [.tmp 6, .tmp 7] zf27.code := mkFun Go.Proofs.Tryd.func77 (by kernel_rfl) (by kernel_rfl) (by kernel_rfl) (by kernel_rfl)

def zf27.ret (Q : Sl → Int → Heap → Prop) (v : V) (h : Heap) : Prop :=
  match v with
  | .tup [.sl r1, .int .i64 r2] => Q r1 r2 h
  | _ => False

def zf27.C (vs : List V) (κ : V → Heap → Prop) (h : Heap) : Prop :=
  match vs with
  | [.ptr a1, .int .u64 a2, .int .i64 a3] => zf27 a1 a2 a3 (fun r1 r2 h => κ (.tup [.sl r1, .int .i64 r2]) h) h
  | _ => False

noncomputable def zf27.calls : List (Nat × (List V → (V → Heap → Prop) → Heap → Prop)) := [(32, zf28.C), (31, zf26.C)]

noncomputable def zf27.E (Q : Sl → Int → Heap → Prop) (cuts : List (Nat × (List Nat × (List V → Heap → Prop)))) : Env := { tis := tisT, fns := fnsT, tys := tysT, gls := [], rts := rtsT, unk := [], nxt := [], calls := zf27.calls, ifc := noIfc, cuts := cuts, ret := zf27.ret Q, rets := [.tmp 6, .tmp 7], n := 34 }

theorem zf27.callsOK {W0 : World} : CallsOK sg W0 zf27.calls := ⟨zf28.S, zf26.S, trivial⟩

def zf27.k5 (I : (Option Ptr) → Int → Int → Heap → Prop) (vs : List V) (h : Heap) : Prop :=
  match vs with
  | [.ptr a1, .int .u64 a2, .int .i64 a3] => I a1 a2 a3 h
  | _ => False

theorem zf27.p5 : (posC zf27.code []).filter (fun p => Nat.beq p.1 5) = [(5, atPos (posC zf27.code []) 5)] := by kernel_rfl

theorem zf27.e5 : ∀  (a1 : Option Ptr) (a2 : Int) (a3 : Int) (Q : Sl → Int → Heap → Prop) (h : Heap), zf27.j5  a1 a2 a3 Q h = pts (zf27.E Q []) 3000 true (atPos (posC zf27.code []) 5) (frAt [0, 1, 2] [.ptr a1, .int .u64 a2, .int .i64 a3]) h := by
  intros; kernel_rfl

theorem zf27.s5 {W0 : World} (Q : Sl → Int → Heap → Prop)   : CutOK sg W0 34 (entered 77) (Post sg W0 (zf27.ret Q)) (posC zf27.code []) 5 [0, 1, 2] (zf27.k5 (fun a1 a2 a3 h => zf27.j5  a1 a2 a3 Q h)) := by
  refine cutOK_head (fun vs h hk => ?_)
  unfold zf27.k5 at hk
  split at hk
  · rename_i a1 a2 a3
    intro todo hm ρ a w s f hp
    exact piece (E := zf27.E Q []) (vs := [.ptr a1, .int .u64 a2, .int .i64 a3]) (envOK seatOK zf27.callsOK noIfc_ok) (fnOK seatOK zf27.fun) trivial zf27.p5 (fuel := 3000) (by rw [← zf27.e5]; exact hk) hm s f hp
  · exact hk.elim

theorem zf27.e : ∀ (a1 : Option Ptr) (a2 : Int) (a3 : Int) (Q : Sl → Int → Heap → Prop) (h : Heap), zf27 a1 a2 a3 Q h = pts (zf27.E Q [(5, ([0, 1, 2], zf27.k5 (fun a1 a2 a3 h => zf27.j5  a1 a2 a3 Q h)))]) 3000 true [.code zf27.code] (frOf 0 [.ptr a1, .int .u64 a2, .int .i64 a3]) h := by
  intros; kernel_rfl

theorem zf27.S {W0 : World} : FnS sg W0 59 zf27.C := by
  intro vs κ h wv hx w s
  unfold zf27.C at hx
  split at hx
  · rename_i a1 a2 a3
    refine postImp (ret := zf27.ret (fun r1 r2 h => κ (.tup [.sl r1, .int .i64 r2]) h)) (fun v h hr => by unfold zf27.ret at hr; split at hr; exact hr; exact hr.elim) ?_
    exact calls_of_pts (E := zf27.E (fun r1 r2 h => κ (.tup [.sl r1, .int .i64 r2]) h) [(5, ([0, 1, 2], zf27.k5 (fun a1 a2 a3 h => zf27.j5  a1 a2 a3 (fun r1 r2 h => κ (.tup [.sl r1, .int .i64 r2]) h) h)))]) (envOK seatOK zf27.callsOK noIfc_ok) seatOK.mixed zf27.fun (Nat.le_of_ble_eq_true rfl) wv (cutL_ok ⟨(zf27.s5 (fun r1 r2 h => κ (.tup [.sl r1, .int .i64 r2]) h)), trivial⟩) s (fuel := 3000) (by rw [← zf27.e]; exact hx)
  · exact hx.elim

end Go.Fn
