/- The links of the shallow functions to the machine. PRINTED by lift.py. -/
import Derived.Test.YtgigbjieppllgaaGa
import Derived.Test.YtgigbjieppllgaaLay
set_option linter.unusedVariables false
set_option maxRecDepth 100000
namespace Go.Fn
open Go.Lift

noncomputable def vtimer_New.code : Code := Go.Proofs.Try.f5.body.getD .skip

theorem vtimer_New.fun : Fun sg.P 5 4 [.tmp 0] vtimer_New.code := mkFun Go.Proofs.Try.func5 (by kernel_rfl) (by kernel_rfl) (by kernel_rfl) (by kernel_rfl)

def vtimer_New.ret (Q : (Option Ptr) → Heap → Prop) (v : V) (h : Heap) : Prop :=
  match v with
  | .ptr r1 => Q r1 h
  | _ => False

def vtimer_New.C (vs : List V) (κ : V → Heap → Prop) (h : Heap) : Prop :=
  match vs with
  | [] => vtimer_New  (fun r1 h => κ (.ptr r1) h) h
  | _ => False

noncomputable def vtimer_New.calls : List (Nat × (List V → (V → Heap → Prop) → Heap → Prop)) := []

noncomputable def vtimer_New.E (Q : (Option Ptr) → Heap → Prop) (cuts : List (Nat × (List Nat × (List V → Heap → Prop)))) : Env := { tis := tisT, fns := fnsT, tys := tysT, gls := [], rts := rtsT, unk := [], nxt := [], calls := vtimer_New.calls, ifc := noIfc, cuts := cuts, ret := vtimer_New.ret Q, rets := [.tmp 0], n := 4 }

theorem vtimer_New.callsOK {W0 : World} : CallsOK sg W0 vtimer_New.calls := trivial

theorem vtimer_New.e : ∀  (Q : (Option Ptr) → Heap → Prop) (h : Heap), vtimer_New  Q h = pts (vtimer_New.E Q []) 3000 true [.code vtimer_New.code] (frOf 0 []) h := by
  intros; kernel_rfl

theorem vtimer_New.S {W0 : World} : FnS sg W0 99 vtimer_New.C := by
  intro vs κ h wv hx w s
  unfold vtimer_New.C at hx
  split at hx
  · skip
    refine postImp (ret := vtimer_New.ret (fun r1 h => κ (.ptr r1) h)) (fun v h hr => by unfold vtimer_New.ret at hr; split at hr; exact hr; exact hr.elim) ?_
    exact calls_of_pts (E := vtimer_New.E (fun r1 h => κ (.ptr r1) h) []) (envOK seatOK vtimer_New.callsOK noIfc_ok) seatOK.mixed vtimer_New.fun (Nat.le_of_ble_eq_true rfl) wv (cutL_ok trivial) s (fuel := 3000) (by rw [← vtimer_New.e]; exact hx)
  · exact hx.elim

noncomputable def vtimer_Timers_of.code : Code := Go.Proofs.Try.f13.body.getD .skip

theorem vtimer_Timers_of.fun : Fun sg.P 13 29 [.tmp 4, .tmp 5] vtimer_Timers_of.code := mkFun Go.Proofs.Try.func13 (by kernel_rfl) (by kernel_rfl) (by kernel_rfl) (by kernel_rfl)

def vtimer_Timers_of.ret (Q : (Option Ptr) → Int → Heap → Prop) (v : V) (h : Heap) : Prop :=
  match v with
  | .tup [.ptr r1, .int .i64 r2] => Q r1 r2 h
  | _ => False

def vtimer_Timers_of.C (vs : List V) (κ : V → Heap → Prop) (h : Heap) : Prop :=
  match vs with
  | [.ptr a1, .int .i64 a2] => vtimer_Timers_of a1 a2 (fun r1 r2 h => κ (.tup [.ptr r1, .int .i64 r2]) h) h
  | _ => False

noncomputable def vtimer_Timers_of.calls : List (Nat × (List V → (V → Heap → Prop) → Heap → Prop)) := []

noncomputable def vtimer_Timers_of.E (Q : (Option Ptr) → Int → Heap → Prop) (cuts : List (Nat × (List Nat × (List V → Heap → Prop)))) : Env := { tis := tisT, fns := fnsT, tys := tysT, gls := [], rts := rtsT, unk := [], nxt := [], calls := vtimer_Timers_of.calls, ifc := noIfc, cuts := cuts, ret := vtimer_Timers_of.ret Q, rets := [.tmp 4, .tmp 5], n := 29 }

theorem vtimer_Timers_of.callsOK {W0 : World} : CallsOK sg W0 vtimer_Timers_of.calls := trivial

def vtimer_Timers_of.k2 (I : Heap → Prop) (vs : List V) (h : Heap) : Prop :=
  match vs with
  | [] => I  h
  | _ => False

theorem vtimer_Timers_of.p2 : (posC vtimer_Timers_of.code []).filter (fun p => Nat.beq p.1 2) = [(2, atPos (posC vtimer_Timers_of.code []) 2)] := by kernel_rfl

theorem vtimer_Timers_of.e2 : ∀   (Q : (Option Ptr) → Int → Heap → Prop) (h : Heap), vtimer_Timers_of.j2   Q h = pts (vtimer_Timers_of.E Q []) 3000 true (atPos (posC vtimer_Timers_of.code []) 2) (frAt [] []) h := by
  intros; kernel_rfl

theorem vtimer_Timers_of.s2 {W0 : World} (Q : (Option Ptr) → Int → Heap → Prop)   : CutOK sg W0 29 (entered 13) (Post sg W0 (vtimer_Timers_of.ret Q)) (posC vtimer_Timers_of.code []) 2 [] (vtimer_Timers_of.k2 (fun  h => vtimer_Timers_of.j2   Q h)) := by
  refine cutOK_head (fun vs h hk => ?_)
  unfold vtimer_Timers_of.k2 at hk
  split at hk
  · skip
    intro todo hm ρ a w s f hp
    exact piece (E := vtimer_Timers_of.E Q []) (vs := []) (envOK seatOK vtimer_Timers_of.callsOK noIfc_ok) (fnOK seatOK vtimer_Timers_of.fun) trivial vtimer_Timers_of.p2 (fuel := 3000) (by rw [← vtimer_Timers_of.e2]; exact hk) hm s f hp
  · exact hk.elim

theorem vtimer_Timers_of.e : ∀ (a1 : Option Ptr) (a2 : Int) (Q : (Option Ptr) → Int → Heap → Prop) (h : Heap), vtimer_Timers_of a1 a2 Q h = pts (vtimer_Timers_of.E Q [(2, ([], vtimer_Timers_of.k2 (fun  h => vtimer_Timers_of.j2   Q h)))]) 3000 true [.code vtimer_Timers_of.code] (frOf 0 [.ptr a1, .int .i64 a2]) h := by
  intros; kernel_rfl

theorem vtimer_Timers_of.S {W0 : World} : FnS sg W0 100 vtimer_Timers_of.C := by
  intro vs κ h wv hx w s
  unfold vtimer_Timers_of.C at hx
  split at hx
  · rename_i a1 a2
    refine postImp (ret := vtimer_Timers_of.ret (fun r1 r2 h => κ (.tup [.ptr r1, .int .i64 r2]) h)) (fun v h hr => by unfold vtimer_Timers_of.ret at hr; split at hr; exact hr; exact hr.elim) ?_
    exact calls_of_pts (E := vtimer_Timers_of.E (fun r1 r2 h => κ (.tup [.ptr r1, .int .i64 r2]) h) [(2, ([], vtimer_Timers_of.k2 (fun  h => vtimer_Timers_of.j2   (fun r1 r2 h => κ (.tup [.ptr r1, .int .i64 r2]) h) h)))]) (envOK seatOK vtimer_Timers_of.callsOK noIfc_ok) seatOK.mixed vtimer_Timers_of.fun (Nat.le_of_ble_eq_true rfl) wv (cutL_ok ⟨(vtimer_Timers_of.s2 (fun r1 r2 h => κ (.tup [.ptr r1, .int .i64 r2]) h)), trivial⟩) s (fuel := 3000) (by rw [← vtimer_Timers_of.e]; exact hx)
  · exact hx.elim

noncomputable def vtimer_Timers_Begin.code : Code := Go.Proofs.Try.f6.body.getD .skip

theorem vtimer_Timers_Begin.fun : Fun sg.P 6 38 [.tmp 6] vtimer_Timers_Begin.code := mkFun Go.Proofs.Try.func6 (by kernel_rfl) (by kernel_rfl) (by kernel_rfl) (by kernel_rfl)

def vtimer_Timers_Begin.ret (Q : Int → Heap → Prop) (v : V) (h : Heap) : Prop :=
  match v with
  | .int .i64 r1 => Q r1 h
  | _ => False

def vtimer_Timers_Begin.C (vs : List V) (κ : V → Heap → Prop) (h : Heap) : Prop :=
  match vs with
  | [.ptr a1, .int .i64 a2, .int .u64 a3] => vtimer_Timers_Begin a1 a2 a3 (fun r1 h => κ (.int .i64 r1) h) h
  | _ => False

noncomputable def vtimer_Timers_Begin.calls : List (Nat × (List V → (V → Heap → Prop) → Heap → Prop)) := [(100, vtimer_Timers_of.C)]

noncomputable def vtimer_Timers_Begin.E (Q : Int → Heap → Prop) (cuts : List (Nat × (List Nat × (List V → Heap → Prop)))) : Env := { tis := tisT, fns := fnsT, tys := tysT, gls := [], rts := rtsT, unk := [], nxt := [], calls := vtimer_Timers_Begin.calls, ifc := noIfc, cuts := cuts, ret := vtimer_Timers_Begin.ret Q, rets := [.tmp 6], n := 38 }

theorem vtimer_Timers_Begin.callsOK {W0 : World} : CallsOK sg W0 vtimer_Timers_Begin.calls := ⟨vtimer_Timers_of.S, trivial⟩

def vtimer_Timers_Begin.k9 (I : Heap → Prop) (vs : List V) (h : Heap) : Prop :=
  match vs with
  | [] => I  h
  | _ => False

theorem vtimer_Timers_Begin.p9 : (posC vtimer_Timers_Begin.code []).filter (fun p => Nat.beq p.1 9) = [(9, atPos (posC vtimer_Timers_Begin.code []) 9)] := by kernel_rfl

theorem vtimer_Timers_Begin.e9 : ∀   (Q : Int → Heap → Prop) (h : Heap), vtimer_Timers_Begin.j9   Q h = pts (vtimer_Timers_Begin.E Q []) 3000 true (atPos (posC vtimer_Timers_Begin.code []) 9) (frAt [] []) h := by
  intros; kernel_rfl

theorem vtimer_Timers_Begin.s9 {W0 : World} (Q : Int → Heap → Prop)   : CutOK sg W0 38 (entered 6) (Post sg W0 (vtimer_Timers_Begin.ret Q)) (posC vtimer_Timers_Begin.code []) 9 [] (vtimer_Timers_Begin.k9 (fun  h => vtimer_Timers_Begin.j9   Q h)) := by
  refine cutOK_head (fun vs h hk => ?_)
  unfold vtimer_Timers_Begin.k9 at hk
  split at hk
  · skip
    intro todo hm ρ a w s f hp
    exact piece (E := vtimer_Timers_Begin.E Q []) (vs := []) (envOK seatOK vtimer_Timers_Begin.callsOK noIfc_ok) (fnOK seatOK vtimer_Timers_Begin.fun) trivial vtimer_Timers_Begin.p9 (fuel := 3000) (by rw [← vtimer_Timers_Begin.e9]; exact hk) hm s f hp
  · exact hk.elim

theorem vtimer_Timers_Begin.e : ∀ (a1 : Option Ptr) (a2 : Int) (a3 : Int) (Q : Int → Heap → Prop) (h : Heap), vtimer_Timers_Begin a1 a2 a3 Q h = pts (vtimer_Timers_Begin.E Q [(9, ([], vtimer_Timers_Begin.k9 (fun  h => vtimer_Timers_Begin.j9   Q h)))]) 3000 true [.code vtimer_Timers_Begin.code] (frOf 0 [.ptr a1, .int .i64 a2, .int .u64 a3]) h := by
  intros; kernel_rfl

theorem vtimer_Timers_Begin.S {W0 : World} : FnS sg W0 130 vtimer_Timers_Begin.C := by
  intro vs κ h wv hx w s
  unfold vtimer_Timers_Begin.C at hx
  split at hx
  · rename_i a1 a2 a3
    refine postImp (ret := vtimer_Timers_Begin.ret (fun r1 h => κ (.int .i64 r1) h)) (fun v h hr => by unfold vtimer_Timers_Begin.ret at hr; split at hr; exact hr; exact hr.elim) ?_
    exact calls_of_pts (E := vtimer_Timers_Begin.E (fun r1 h => κ (.int .i64 r1) h) [(9, ([], vtimer_Timers_Begin.k9 (fun  h => vtimer_Timers_Begin.j9   (fun r1 h => κ (.int .i64 r1) h) h)))]) (envOK seatOK vtimer_Timers_Begin.callsOK noIfc_ok) seatOK.mixed vtimer_Timers_Begin.fun (Nat.le_of_ble_eq_true rfl) wv (cutL_ok ⟨(vtimer_Timers_Begin.s9 (fun r1 h => κ (.int .i64 r1) h)), trivial⟩) s (fuel := 3000) (by rw [← vtimer_Timers_Begin.e]; exact hx)
  · exact hx.elim

noncomputable def vtimer_Timers_Set.code : Code := Go.Proofs.Try.f7.body.getD .skip

theorem vtimer_Timers_Set.fun : Fun sg.P 7 26 [.tmp 6] vtimer_Timers_Set.code := mkFun Go.Proofs.Try.func7 (by kernel_rfl) (by kernel_rfl) (by kernel_rfl) (by kernel_rfl)

def vtimer_Timers_Set.ret (Q : Int → Heap → Prop) (v : V) (h : Heap) : Prop :=
  match v with
  | .int .i64 r1 => Q r1 h
  | _ => False

def vtimer_Timers_Set.C (vs : List V) (κ : V → Heap → Prop) (h : Heap) : Prop :=
  match vs with
  | [.ptr a1, .int .i64 a2, .int .u64 a3] => vtimer_Timers_Set a1 a2 a3 (fun r1 h => κ (.int .i64 r1) h) h
  | _ => False

noncomputable def vtimer_Timers_Set.calls : List (Nat × (List V → (V → Heap → Prop) → Heap → Prop)) := [(100, vtimer_Timers_of.C)]

noncomputable def vtimer_Timers_Set.E (Q : Int → Heap → Prop) (cuts : List (Nat × (List Nat × (List V → Heap → Prop)))) : Env := { tis := tisT, fns := fnsT, tys := tysT, gls := [], rts := rtsT, unk := [], nxt := [], calls := vtimer_Timers_Set.calls, ifc := noIfc, cuts := cuts, ret := vtimer_Timers_Set.ret Q, rets := [.tmp 6], n := 26 }

theorem vtimer_Timers_Set.callsOK {W0 : World} : CallsOK sg W0 vtimer_Timers_Set.calls := ⟨vtimer_Timers_of.S, trivial⟩

theorem vtimer_Timers_Set.e : ∀ (a1 : Option Ptr) (a2 : Int) (a3 : Int) (Q : Int → Heap → Prop) (h : Heap), vtimer_Timers_Set a1 a2 a3 Q h = pts (vtimer_Timers_Set.E Q []) 3000 true [.code vtimer_Timers_Set.code] (frOf 0 [.ptr a1, .int .i64 a2, .int .u64 a3]) h := by
  intros; kernel_rfl

theorem vtimer_Timers_Set.S {W0 : World} : FnS sg W0 131 vtimer_Timers_Set.C := by
  intro vs κ h wv hx w s
  unfold vtimer_Timers_Set.C at hx
  split at hx
  · rename_i a1 a2 a3
    refine postImp (ret := vtimer_Timers_Set.ret (fun r1 h => κ (.int .i64 r1) h)) (fun v h hr => by unfold vtimer_Timers_Set.ret at hr; split at hr; exact hr; exact hr.elim) ?_
    exact calls_of_pts (E := vtimer_Timers_Set.E (fun r1 h => κ (.int .i64 r1) h) []) (envOK seatOK vtimer_Timers_Set.callsOK noIfc_ok) seatOK.mixed vtimer_Timers_Set.fun (Nat.le_of_ble_eq_true rfl) wv (cutL_ok trivial) s (fuel := 3000) (by rw [← vtimer_Timers_Set.e]; exact hx)
  · exact hx.elim

noncomputable def vtimer_Timers_End.code : Code := Go.Proofs.Try.f8.body.getD .skip

theorem vtimer_Timers_End.fun : Fun sg.P 8 21 [.tmp 4] vtimer_Timers_End.code := mkFun Go.Proofs.Try.func8 (by kernel_rfl) (by kernel_rfl) (by kernel_rfl) (by kernel_rfl)

def vtimer_Timers_End.ret (Q : Int → Heap → Prop) (v : V) (h : Heap) : Prop :=
  match v with
  | .int .i64 r1 => Q r1 h
  | _ => False

def vtimer_Timers_End.C (vs : List V) (κ : V → Heap → Prop) (h : Heap) : Prop :=
  match vs with
  | [.ptr a1, .int .i64 a2] => vtimer_Timers_End a1 a2 (fun r1 h => κ (.int .i64 r1) h) h
  | _ => False

noncomputable def vtimer_Timers_End.calls : List (Nat × (List V → (V → Heap → Prop) → Heap → Prop)) := [(100, vtimer_Timers_of.C)]

noncomputable def vtimer_Timers_End.E (Q : Int → Heap → Prop) (cuts : List (Nat × (List Nat × (List V → Heap → Prop)))) : Env := { tis := tisT, fns := fnsT, tys := tysT, gls := [], rts := rtsT, unk := [], nxt := [], calls := vtimer_Timers_End.calls, ifc := noIfc, cuts := cuts, ret := vtimer_Timers_End.ret Q, rets := [.tmp 4], n := 21 }

theorem vtimer_Timers_End.callsOK {W0 : World} : CallsOK sg W0 vtimer_Timers_End.calls := ⟨vtimer_Timers_of.S, trivial⟩

theorem vtimer_Timers_End.e : ∀ (a1 : Option Ptr) (a2 : Int) (Q : Int → Heap → Prop) (h : Heap), vtimer_Timers_End a1 a2 Q h = pts (vtimer_Timers_End.E Q []) 3000 true [.code vtimer_Timers_End.code] (frOf 0 [.ptr a1, .int .i64 a2]) h := by
  intros; kernel_rfl

theorem vtimer_Timers_End.S {W0 : World} : FnS sg W0 128 vtimer_Timers_End.C := by
  intro vs κ h wv hx w s
  unfold vtimer_Timers_End.C at hx
  split at hx
  · rename_i a1 a2
    refine postImp (ret := vtimer_Timers_End.ret (fun r1 h => κ (.int .i64 r1) h)) (fun v h hr => by unfold vtimer_Timers_End.ret at hr; split at hr; exact hr; exact hr.elim) ?_
    exact calls_of_pts (E := vtimer_Timers_End.E (fun r1 h => κ (.int .i64 r1) h) []) (envOK seatOK vtimer_Timers_End.callsOK noIfc_ok) seatOK.mixed vtimer_Timers_End.fun (Nat.le_of_ble_eq_true rfl) wv (cutL_ok trivial) s (fuel := 3000) (by rw [← vtimer_Timers_End.e]; exact hx)
  · exact hx.elim

noncomputable def slices_Sort_int_int.code : Code := Go.Proofs.Try.f15.body.getD .skip

theorem slices_Sort_int_int.fun : Fun sg.P 15 11 [] slices_Sort_int_int.code := mkFun Go.Proofs.Try.func15 (by kernel_rfl) (by kernel_rfl) (by kernel_rfl) (by kernel_rfl)

def slices_Sort_int_int.ret (Q : Heap → Prop) (v : V) (h : Heap) : Prop :=
  match v with
  | .tup [] => Q  h
  | _ => False

def slices_Sort_int_int.C (vs : List V) (κ : V → Heap → Prop) (h : Heap) : Prop :=
  match vs with
  | [.sl a1] => slices_Sort_int_int a1 (fun  h => κ (.tup []) h) h
  | _ => False

theorem slices_Sort_int_int.S {W0 : World} : FnS sg W0 125 slices_Sort_int_int.C := by
  intro vs κ h wv hx w s
  refine sort_S lays189 rfl slices_Sort_int_int.fun vs κ h wv ?_ w s
  unfold slices_Sort_int_int.C at hx
  split at hx
  · exact hx
  · exact hx.elim

noncomputable def vtimer_timer_now.code : Code := Go.Proofs.Try.f14.body.getD .skip

theorem vtimer_timer_now.fun : Fun sg.P 14 25 [.tmp 4] vtimer_timer_now.code := mkFun Go.Proofs.Try.func14 (by kernel_rfl) (by kernel_rfl) (by kernel_rfl) (by kernel_rfl)

def vtimer_timer_now.ret (Q : Int → Heap → Prop) (v : V) (h : Heap) : Prop :=
  match v with
  | .int .u64 r1 => Q r1 h
  | _ => False

def vtimer_timer_now.C (vs : List V) (κ : V → Heap → Prop) (h : Heap) : Prop :=
  match vs with
  | [.ptr a1, .int .u64 a2] => vtimer_timer_now a1 a2 (fun r1 h => κ (.int .u64 r1) h) h
  | _ => False

noncomputable def vtimer_timer_now.calls : List (Nat × (List V → (V → Heap → Prop) → Heap → Prop)) := []

noncomputable def vtimer_timer_now.E (Q : Int → Heap → Prop) (cuts : List (Nat × (List Nat × (List V → Heap → Prop)))) : Env := { tis := tisT, fns := fnsT, tys := tysT, gls := [], rts := rtsT, unk := [], nxt := [], calls := vtimer_timer_now.calls, ifc := noIfc, cuts := cuts, ret := vtimer_timer_now.ret Q, rets := [.tmp 4], n := 25 }

theorem vtimer_timer_now.callsOK {W0 : World} : CallsOK sg W0 vtimer_timer_now.calls := trivial

theorem vtimer_timer_now.e : ∀ (a1 : Option Ptr) (a2 : Int) (Q : Int → Heap → Prop) (h : Heap), vtimer_timer_now a1 a2 Q h = pts (vtimer_timer_now.E Q []) 3000 true [.code vtimer_timer_now.code] (frOf 0 [.ptr a1, .int .u64 a2]) h := by
  intros; kernel_rfl

theorem vtimer_timer_now.S {W0 : World} : FnS sg W0 132 vtimer_timer_now.C := by
  intro vs κ h wv hx w s
  unfold vtimer_timer_now.C at hx
  split at hx
  · rename_i a1 a2
    refine postImp (ret := vtimer_timer_now.ret (fun r1 h => κ (.int .u64 r1) h)) (fun v h hr => by unfold vtimer_timer_now.ret at hr; split at hr; exact hr; exact hr.elim) ?_
    exact calls_of_pts (E := vtimer_timer_now.E (fun r1 h => κ (.int .u64 r1) h) []) (envOK seatOK vtimer_timer_now.callsOK noIfc_ok) seatOK.mixed vtimer_timer_now.fun (Nat.le_of_ble_eq_true rfl) wv (cutL_ok trivial) s (fuel := 3000) (by rw [← vtimer_timer_now.e]; exact hx)
  · exact hx.elim

noncomputable def vtimer_Timers_Due.code : Code := Go.Proofs.Try.f9.body.getD .skip

theorem vtimer_Timers_Due.fun : Fun sg.P 9 52 [.tmp 4] vtimer_Timers_Due.code := mkFun Go.Proofs.Try.func9 (by kernel_rfl) (by kernel_rfl) (by kernel_rfl) (by kernel_rfl)

def vtimer_Timers_Due.ret (Q : Sl → Heap → Prop) (v : V) (h : Heap) : Prop :=
  match v with
  | .sl r1 => Q r1 h
  | _ => False

def vtimer_Timers_Due.C (vs : List V) (κ : V → Heap → Prop) (h : Heap) : Prop :=
  match vs with
  | [.ptr a1, .int .u64 a2] => vtimer_Timers_Due a1 a2 (fun r1 h => κ (.sl r1) h) h
  | _ => False

noncomputable def vtimer_Timers_Due.calls : List (Nat × (List V → (V → Heap → Prop) → Heap → Prop)) := [(132, vtimer_timer_now.C), (125, slices_Sort_int_int.C)]

noncomputable def vtimer_Timers_Due.E (Q : Sl → Heap → Prop) (cuts : List (Nat × (List Nat × (List V → Heap → Prop)))) : Env := { tis := tisT, fns := fnsT, tys := tysT, gls := [], rts := rtsT, unk := [], nxt := [(18, (.one (.int .i64), .one (.ptr)))], calls := vtimer_Timers_Due.calls, ifc := noIfc, cuts := cuts, ret := vtimer_Timers_Due.ret Q, rets := [.tmp 4], n := 52 }

theorem vtimer_Timers_Due.callsOK {W0 : World} : CallsOK sg W0 vtimer_Timers_Due.calls := ⟨vtimer_timer_now.S, slices_Sort_int_int.S, trivial⟩

def vtimer_Timers_Due.k8 (I : Int → Sl → Int → (Option Ptr) → Ptr → Heap → Prop) (vs : List V) (h : Heap) : Prop :=
  match vs with
  | [.int .u64 a1, .sl a2, .int .i64 a3, .ptr a4, .ptr (some a5)] => I a1 a2 a3 a4 a5 h
  | _ => False

def vtimer_Timers_Due.k5 (I : Int → Sl → Ptr → Heap → Prop) (vs : List V) (h : Heap) : Prop :=
  match vs with
  | [.int .u64 a1, .sl a2, .ptr (some a3)] => I a1 a2 a3 h
  | _ => False

theorem vtimer_Timers_Due.p8 : (posC vtimer_Timers_Due.code []).filter (fun p => Nat.beq p.1 8) = [(8, atPos (posC vtimer_Timers_Due.code []) 8)] := by kernel_rfl

theorem vtimer_Timers_Due.e8 : ∀ (I5 : Int → Sl → Ptr → Heap → Prop) (a1 : Int) (a2 : Sl) (a3 : Int) (a4 : Option Ptr) (a5 : Ptr) (Q : Sl → Heap → Prop) (h : Heap), vtimer_Timers_Due.j8 I5 a1 a2 a3 a4 a5 Q h = pts (vtimer_Timers_Due.E Q [(5, ([1, 5, 15], vtimer_Timers_Due.k5 I5))]) 3000 true (atPos (posC vtimer_Timers_Due.code []) 8) (frAt [1, 5, 6, 7, 15] [.int .u64 a1, .sl a2, .int .i64 a3, .ptr a4, .ptr (some a5)]) h := by
  intros; kernel_rfl

theorem vtimer_Timers_Due.s8 {W0 : World} (Q : Sl → Heap → Prop) (I5 : Int → Sl → Ptr → Heap → Prop) (h5 : CutOK sg W0 52 (entered 9) (Post sg W0 (vtimer_Timers_Due.ret Q)) (posC vtimer_Timers_Due.code []) 5 [1, 5, 15] (vtimer_Timers_Due.k5 I5)) : CutOK sg W0 52 (entered 9) (Post sg W0 (vtimer_Timers_Due.ret Q)) (posC vtimer_Timers_Due.code []) 8 [1, 5, 6, 7, 15] (vtimer_Timers_Due.k8 (fun a1 a2 a3 a4 a5 h => vtimer_Timers_Due.j8 I5 a1 a2 a3 a4 a5 Q h)) := by
  refine cutOK_head (fun vs h hk => ?_)
  unfold vtimer_Timers_Due.k8 at hk
  split at hk
  · rename_i a1 a2 a3 a4 a5
    intro todo hm ρ a w s f hp
    exact piece (E := vtimer_Timers_Due.E Q [(5, ([1, 5, 15], vtimer_Timers_Due.k5 I5))]) (vs := [.int .u64 a1, .sl a2, .int .i64 a3, .ptr a4, .ptr (some a5)]) (envOK seatOK vtimer_Timers_Due.callsOK noIfc_ok) (fnOK seatOK vtimer_Timers_Due.fun) ⟨h5, trivial⟩ vtimer_Timers_Due.p8 (fuel := 3000) (by rw [← vtimer_Timers_Due.e8]; exact hk) hm s f hp
  · exact hk.elim

theorem vtimer_Timers_Due.p5 : (posC vtimer_Timers_Due.code []).filter (fun p => Nat.beq p.1 5) = [(5, atPos (posC vtimer_Timers_Due.code []) 5)] := by kernel_rfl

theorem vtimer_Timers_Due.e5 : ∀  (I5 : Int → Sl → Ptr → Heap → Prop) (a1 : Int) (a2 : Sl) (a3 : Ptr) (Q : Sl → Heap → Prop) (h : Heap), vtimer_Timers_Due.b5  I5 a1 a2 a3 Q h = pts (vtimer_Timers_Due.E Q [(8, ([1, 5, 6, 7, 15], vtimer_Timers_Due.k8 (fun a1 a2 a3 a4 a5 h => vtimer_Timers_Due.j8 I5 a1 a2 a3 a4 a5 Q h))), (5, ([1, 5, 15], vtimer_Timers_Due.k5 I5))]) 3000 true (atPos (posC vtimer_Timers_Due.code []) 5) (frAt [1, 5, 15] [.int .u64 a1, .sl a2, .ptr (some a3)]) h := by
  intros; kernel_rfl

theorem vtimer_Timers_Due.s5 {W0 : World} (Q : Sl → Heap → Prop)   : CutOK sg W0 52 (entered 9) (Post sg W0 (vtimer_Timers_Due.ret Q)) (posC vtimer_Timers_Due.code []) 5 [1, 5, 15] (vtimer_Timers_Due.k5 (fun a1 a2 a3 h => vtimer_Timers_Due.j5  a1 a2 a3 Q h)) := by
  refine cutOK_head (fun vs h hk => ?_)
  unfold vtimer_Timers_Due.k5 at hk
  split at hk
  · rename_i a1 a2 a3
    refine hk (fun a1 a2 a3 h => Head sg W0 52 (entered 9) (Post sg W0 (vtimer_Timers_Due.ret Q)) (posC vtimer_Timers_Due.code []) 5 [1, 5, 15] [.int .u64 a1, .sl a2, .ptr (some a3)] h) ?_
    intro a1 a2 a3 h hb todo hm ρ a w s f hp
    have hself : CutOK sg W0 52 (entered 9) (Post sg W0 (vtimer_Timers_Due.ret Q)) (posC vtimer_Timers_Due.code []) 5 [1, 5, 15] (vtimer_Timers_Due.k5 (fun a1 a2 a3 h => Head sg W0 52 (entered 9) (Post sg W0 (vtimer_Timers_Due.ret Q)) (posC vtimer_Timers_Due.code []) 5 [1, 5, 15] [.int .u64 a1, .sl a2, .ptr (some a3)] h)) := cutOK_head (fun vs h hk => by unfold vtimer_Timers_Due.k5 at hk; split at hk; exact hk; exact hk.elim)
    exact piece (E := vtimer_Timers_Due.E Q [(8, ([1, 5, 6, 7, 15], vtimer_Timers_Due.k8 (fun a1 a2 a3 a4 a5 h => vtimer_Timers_Due.j8 (fun a1 a2 a3 h => Head sg W0 52 (entered 9) (Post sg W0 (vtimer_Timers_Due.ret Q)) (posC vtimer_Timers_Due.code []) 5 [1, 5, 15] [.int .u64 a1, .sl a2, .ptr (some a3)] h) a1 a2 a3 a4 a5 Q h))), (5, ([1, 5, 15], vtimer_Timers_Due.k5 (fun a1 a2 a3 h => Head sg W0 52 (entered 9) (Post sg W0 (vtimer_Timers_Due.ret Q)) (posC vtimer_Timers_Due.code []) 5 [1, 5, 15] [.int .u64 a1, .sl a2, .ptr (some a3)] h)))]) (vs := [.int .u64 a1, .sl a2, .ptr (some a3)]) (envOK seatOK vtimer_Timers_Due.callsOK noIfc_ok) (fnOK seatOK vtimer_Timers_Due.fun) ⟨(vtimer_Timers_Due.s8 Q (fun a1 a2 a3 h => Head sg W0 52 (entered 9) (Post sg W0 (vtimer_Timers_Due.ret Q)) (posC vtimer_Timers_Due.code []) 5 [1, 5, 15] [.int .u64 a1, .sl a2, .ptr (some a3)] h) hself), hself, trivial⟩ vtimer_Timers_Due.p5 (fuel := 3000) (by rw [← vtimer_Timers_Due.e5]; exact hb) hm s f hp
  · exact hk.elim

theorem vtimer_Timers_Due.e : ∀ (a1 : Option Ptr) (a2 : Int) (Q : Sl → Heap → Prop) (h : Heap), vtimer_Timers_Due a1 a2 Q h = pts (vtimer_Timers_Due.E Q [(5, ([1, 5, 15], vtimer_Timers_Due.k5 (fun a1 a2 a3 h => vtimer_Timers_Due.j5  a1 a2 a3 Q h)))]) 3000 true [.code vtimer_Timers_Due.code] (frOf 0 [.ptr a1, .int .u64 a2]) h := by
  intros; kernel_rfl

theorem vtimer_Timers_Due.S {W0 : World} : FnS sg W0 126 vtimer_Timers_Due.C := by
  intro vs κ h wv hx w s
  unfold vtimer_Timers_Due.C at hx
  split at hx
  · rename_i a1 a2
    refine postImp (ret := vtimer_Timers_Due.ret (fun r1 h => κ (.sl r1) h)) (fun v h hr => by unfold vtimer_Timers_Due.ret at hr; split at hr; exact hr; exact hr.elim) ?_
    exact calls_of_pts (E := vtimer_Timers_Due.E (fun r1 h => κ (.sl r1) h) [(5, ([1, 5, 15], vtimer_Timers_Due.k5 (fun a1 a2 a3 h => vtimer_Timers_Due.j5  a1 a2 a3 (fun r1 h => κ (.sl r1) h) h)))]) (envOK seatOK vtimer_Timers_Due.callsOK noIfc_ok) seatOK.mixed vtimer_Timers_Due.fun (Nat.le_of_ble_eq_true rfl) wv (cutL_ok ⟨(vtimer_Timers_Due.s5 (fun r1 h => κ (.sl r1) h)), trivial⟩) s (fuel := 3000) (by rw [← vtimer_Timers_Due.e]; exact hx)
  · exact hx.elim

noncomputable def vtimer_Timers_Next.code : Code := Go.Proofs.Try.f10.body.getD .skip

theorem vtimer_Timers_Next.fun : Fun sg.P 10 55 [.tmp 2, .tmp 3] vtimer_Timers_Next.code := mkFun Go.Proofs.Try.func10 (by kernel_rfl) (by kernel_rfl) (by kernel_rfl) (by kernel_rfl)

def vtimer_Timers_Next.ret (Q : Int → Bool → Heap → Prop) (v : V) (h : Heap) : Prop :=
  match v with
  | .tup [.int .u64 r1, .bool r2] => Q r1 r2 h
  | _ => False

def vtimer_Timers_Next.C (vs : List V) (κ : V → Heap → Prop) (h : Heap) : Prop :=
  match vs with
  | [.ptr a1] => vtimer_Timers_Next a1 (fun r1 r2 h => κ (.tup [.int .u64 r1, .bool r2]) h) h
  | _ => False

noncomputable def vtimer_Timers_Next.calls : List (Nat × (List V → (V → Heap → Prop) → Heap → Prop)) := []

noncomputable def vtimer_Timers_Next.E (Q : Int → Bool → Heap → Prop) (cuts : List (Nat × (List Nat × (List V → Heap → Prop)))) : Env := { tis := tisT, fns := fnsT, tys := tysT, gls := [], rts := rtsT, unk := [], nxt := [(20, (.one (.int .i64), .one (.ptr)))], calls := vtimer_Timers_Next.calls, ifc := noIfc, cuts := cuts, ret := vtimer_Timers_Next.ret Q, rets := [.tmp 2, .tmp 3], n := 55 }

theorem vtimer_Timers_Next.callsOK {W0 : World} : CallsOK sg W0 vtimer_Timers_Next.calls := trivial

def vtimer_Timers_Next.k9 (I : Int → Ptr → Heap → Prop) (vs : List V) (h : Heap) : Prop :=
  match vs with
  | [.int .u64 a1, .ptr (some a2)] => I a1 a2 h
  | _ => False

def vtimer_Timers_Next.k5 (I : Int → Bool → Ptr → Heap → Prop) (vs : List V) (h : Heap) : Prop :=
  match vs with
  | [.int .u64 a1, .bool a2, .ptr (some a3)] => I a1 a2 a3 h
  | _ => False

theorem vtimer_Timers_Next.p9 : (posC vtimer_Timers_Next.code []).filter (fun p => Nat.beq p.1 9) = [(9, atPos (posC vtimer_Timers_Next.code []) 9)] := by kernel_rfl

theorem vtimer_Timers_Next.e9 : ∀ (I5 : Int → Bool → Ptr → Heap → Prop) (a1 : Int) (a2 : Ptr) (Q : Int → Bool → Heap → Prop) (h : Heap), vtimer_Timers_Next.j9 I5 a1 a2 Q h = pts (vtimer_Timers_Next.E Q [(5, ([4, 5, 17], vtimer_Timers_Next.k5 I5))]) 3000 true (atPos (posC vtimer_Timers_Next.code []) 9) (frAt [8, 17] [.int .u64 a1, .ptr (some a2)]) h := by
  intros; kernel_rfl

theorem vtimer_Timers_Next.s9 {W0 : World} (Q : Int → Bool → Heap → Prop) (I5 : Int → Bool → Ptr → Heap → Prop) (h5 : CutOK sg W0 55 (entered 10) (Post sg W0 (vtimer_Timers_Next.ret Q)) (posC vtimer_Timers_Next.code []) 5 [4, 5, 17] (vtimer_Timers_Next.k5 I5)) : CutOK sg W0 55 (entered 10) (Post sg W0 (vtimer_Timers_Next.ret Q)) (posC vtimer_Timers_Next.code []) 9 [8, 17] (vtimer_Timers_Next.k9 (fun a1 a2 h => vtimer_Timers_Next.j9 I5 a1 a2 Q h)) := by
  refine cutOK_head (fun vs h hk => ?_)
  unfold vtimer_Timers_Next.k9 at hk
  split at hk
  · rename_i a1 a2
    intro todo hm ρ a w s f hp
    exact piece (E := vtimer_Timers_Next.E Q [(5, ([4, 5, 17], vtimer_Timers_Next.k5 I5))]) (vs := [.int .u64 a1, .ptr (some a2)]) (envOK seatOK vtimer_Timers_Next.callsOK noIfc_ok) (fnOK seatOK vtimer_Timers_Next.fun) ⟨h5, trivial⟩ vtimer_Timers_Next.p9 (fuel := 3000) (by rw [← vtimer_Timers_Next.e9]; exact hk) hm s f hp
  · exact hk.elim

theorem vtimer_Timers_Next.p5 : (posC vtimer_Timers_Next.code []).filter (fun p => Nat.beq p.1 5) = [(5, atPos (posC vtimer_Timers_Next.code []) 5)] := by kernel_rfl

theorem vtimer_Timers_Next.e5 : ∀  (I5 : Int → Bool → Ptr → Heap → Prop) (a1 : Int) (a2 : Bool) (a3 : Ptr) (Q : Int → Bool → Heap → Prop) (h : Heap), vtimer_Timers_Next.b5  I5 a1 a2 a3 Q h = pts (vtimer_Timers_Next.E Q [(9, ([8, 17], vtimer_Timers_Next.k9 (fun a1 a2 h => vtimer_Timers_Next.j9 I5 a1 a2 Q h))), (5, ([4, 5, 17], vtimer_Timers_Next.k5 I5))]) 3000 true (atPos (posC vtimer_Timers_Next.code []) 5) (frAt [4, 5, 17] [.int .u64 a1, .bool a2, .ptr (some a3)]) h := by
  intros; kernel_rfl

theorem vtimer_Timers_Next.s5 {W0 : World} (Q : Int → Bool → Heap → Prop)   : CutOK sg W0 55 (entered 10) (Post sg W0 (vtimer_Timers_Next.ret Q)) (posC vtimer_Timers_Next.code []) 5 [4, 5, 17] (vtimer_Timers_Next.k5 (fun a1 a2 a3 h => vtimer_Timers_Next.j5  a1 a2 a3 Q h)) := by
  refine cutOK_head (fun vs h hk => ?_)
  unfold vtimer_Timers_Next.k5 at hk
  split at hk
  · rename_i a1 a2 a3
    refine hk (fun a1 a2 a3 h => Head sg W0 55 (entered 10) (Post sg W0 (vtimer_Timers_Next.ret Q)) (posC vtimer_Timers_Next.code []) 5 [4, 5, 17] [.int .u64 a1, .bool a2, .ptr (some a3)] h) ?_
    intro a1 a2 a3 h hb todo hm ρ a w s f hp
    have hself : CutOK sg W0 55 (entered 10) (Post sg W0 (vtimer_Timers_Next.ret Q)) (posC vtimer_Timers_Next.code []) 5 [4, 5, 17] (vtimer_Timers_Next.k5 (fun a1 a2 a3 h => Head sg W0 55 (entered 10) (Post sg W0 (vtimer_Timers_Next.ret Q)) (posC vtimer_Timers_Next.code []) 5 [4, 5, 17] [.int .u64 a1, .bool a2, .ptr (some a3)] h)) := cutOK_head (fun vs h hk => by unfold vtimer_Timers_Next.k5 at hk; split at hk; exact hk; exact hk.elim)
    exact piece (E := vtimer_Timers_Next.E Q [(9, ([8, 17], vtimer_Timers_Next.k9 (fun a1 a2 h => vtimer_Timers_Next.j9 (fun a1 a2 a3 h => Head sg W0 55 (entered 10) (Post sg W0 (vtimer_Timers_Next.ret Q)) (posC vtimer_Timers_Next.code []) 5 [4, 5, 17] [.int .u64 a1, .bool a2, .ptr (some a3)] h) a1 a2 Q h))), (5, ([4, 5, 17], vtimer_Timers_Next.k5 (fun a1 a2 a3 h => Head sg W0 55 (entered 10) (Post sg W0 (vtimer_Timers_Next.ret Q)) (posC vtimer_Timers_Next.code []) 5 [4, 5, 17] [.int .u64 a1, .bool a2, .ptr (some a3)] h)))]) (vs := [.int .u64 a1, .bool a2, .ptr (some a3)]) (envOK seatOK vtimer_Timers_Next.callsOK noIfc_ok) (fnOK seatOK vtimer_Timers_Next.fun) ⟨(vtimer_Timers_Next.s9 Q (fun a1 a2 a3 h => Head sg W0 55 (entered 10) (Post sg W0 (vtimer_Timers_Next.ret Q)) (posC vtimer_Timers_Next.code []) 5 [4, 5, 17] [.int .u64 a1, .bool a2, .ptr (some a3)] h) hself), hself, trivial⟩ vtimer_Timers_Next.p5 (fuel := 3000) (by rw [← vtimer_Timers_Next.e5]; exact hb) hm s f hp
  · exact hk.elim

theorem vtimer_Timers_Next.e : ∀ (a1 : Option Ptr) (Q : Int → Bool → Heap → Prop) (h : Heap), vtimer_Timers_Next a1 Q h = pts (vtimer_Timers_Next.E Q [(5, ([4, 5, 17], vtimer_Timers_Next.k5 (fun a1 a2 a3 h => vtimer_Timers_Next.j5  a1 a2 a3 Q h)))]) 3000 true [.code vtimer_Timers_Next.code] (frOf 0 [.ptr a1]) h := by
  intros; kernel_rfl

theorem vtimer_Timers_Next.S {W0 : World} : FnS sg W0 103 vtimer_Timers_Next.C := by
  intro vs κ h wv hx w s
  unfold vtimer_Timers_Next.C at hx
  split at hx
  · rename_i a1
    refine postImp (ret := vtimer_Timers_Next.ret (fun r1 r2 h => κ (.tup [.int .u64 r1, .bool r2]) h)) (fun v h hr => by unfold vtimer_Timers_Next.ret at hr; split at hr; exact hr; exact hr.elim) ?_
    exact calls_of_pts (E := vtimer_Timers_Next.E (fun r1 r2 h => κ (.tup [.int .u64 r1, .bool r2]) h) [(5, ([4, 5, 17], vtimer_Timers_Next.k5 (fun a1 a2 a3 h => vtimer_Timers_Next.j5  a1 a2 a3 (fun r1 r2 h => κ (.tup [.int .u64 r1, .bool r2]) h) h)))]) (envOK seatOK vtimer_Timers_Next.callsOK noIfc_ok) seatOK.mixed vtimer_Timers_Next.fun (Nat.le_of_ble_eq_true rfl) wv (cutL_ok ⟨(vtimer_Timers_Next.s5 (fun r1 r2 h => κ (.tup [.int .u64 r1, .bool r2]) h)), trivial⟩) s (fuel := 3000) (by rw [← vtimer_Timers_Next.e]; exact hx)
  · exact hx.elim

noncomputable def palisadelaw21_VtimerApart.code : Code := Go.Proofs.Try.f3.body.getD .skip

theorem palisadelaw21_VtimerApart.fun : Fun sg.P 3 109 [.tmp 4] palisadelaw21_VtimerApart.code := mkFun Go.Proofs.Try.func3 (by kernel_rfl) (by kernel_rfl) (by kernel_rfl) (by kernel_rfl)

def palisadelaw21_VtimerApart.ret (Q : Bool → Heap → Prop) (v : V) (h : Heap) : Prop :=
  match v with
  | .bool r1 => Q r1 h
  | _ => False

def palisadelaw21_VtimerApart.C (vs : List V) (κ : V → Heap → Prop) (h : Heap) : Prop :=
  match vs with
  | [.sl a1, .int .i64 a2] => palisadelaw21_VtimerApart a1 a2 (fun r1 h => κ (.bool r1) h) h
  | _ => False

noncomputable def palisadelaw21_VtimerApart.calls : List (Nat × (List V → (V → Heap → Prop) → Heap → Prop)) := [(99, vtimer_New.C), (130, vtimer_Timers_Begin.C), (131, vtimer_Timers_Set.C), (128, vtimer_Timers_End.C), (126, vtimer_Timers_Due.C), (103, vtimer_Timers_Next.C)]

noncomputable def palisadelaw21_VtimerApart.E (Q : Bool → Heap → Prop) (cuts : List (Nat × (List Nat × (List V → Heap → Prop)))) : Env := { tis := tisT, fns := fnsT, tys := tysT, gls := [], rts := rtsT, unk := [], nxt := [], calls := palisadelaw21_VtimerApart.calls, ifc := noIfc, cuts := cuts, ret := palisadelaw21_VtimerApart.ret Q, rets := [.tmp 4], n := 109 }

theorem palisadelaw21_VtimerApart.callsOK {W0 : World} : CallsOK sg W0 palisadelaw21_VtimerApart.calls := ⟨vtimer_New.S, vtimer_Timers_Begin.S, vtimer_Timers_Set.S, vtimer_Timers_End.S, vtimer_Timers_Due.S, vtimer_Timers_Next.S, trivial⟩

def palisadelaw21_VtimerApart.k9 (I : Heap → Prop) (vs : List V) (h : Heap) : Prop :=
  match vs with
  | [] => I  h
  | _ => False

def palisadelaw21_VtimerApart.k14 (I : Heap → Prop) (vs : List V) (h : Heap) : Prop :=
  match vs with
  | [] => I  h
  | _ => False

def palisadelaw21_VtimerApart.k25 (I : Heap → Prop) (vs : List V) (h : Heap) : Prop :=
  match vs with
  | [] => I  h
  | _ => False

def palisadelaw21_VtimerApart.k22 (I : Sl → (Option Ptr) → Int → Int → Int → Sl → Int → Int → Heap → Prop) (vs : List V) (h : Heap) : Prop :=
  match vs with
  | [.sl a1, .ptr a2, .int .i64 a3, .int .i64 a4, .int .u64 a5, .sl a6, .int .i64 a7, .int .i64 a8] => I a1 a2 a3 a4 a5 a6 a7 a8 h
  | _ => False

def palisadelaw21_VtimerApart.k26 (I : Sl → (Option Ptr) → Int → Int → Int → Sl → Int → Int → Heap → Prop) (vs : List V) (h : Heap) : Prop :=
  match vs with
  | [.sl a1, .ptr a2, .int .i64 a3, .int .i64 a4, .int .u64 a5, .sl a6, .int .i64 a7, .int .i64 a8] => I a1 a2 a3 a4 a5 a6 a7 a8 h
  | _ => False

def palisadelaw21_VtimerApart.k21 (I : Sl → (Option Ptr) → Int → Int → Int → Sl → Int → Int → Heap → Prop) (vs : List V) (h : Heap) : Prop :=
  match vs with
  | [.sl a1, .ptr a2, .int .i64 a3, .int .i64 a4, .int .u64 a5, .sl a6, .int .i64 a7, .int .i64 a8] => I a1 a2 a3 a4 a5 a6 a7 a8 h
  | _ => False

def palisadelaw21_VtimerApart.k16 (I : Sl → (Option Ptr) → Int → Int → Int → Heap → Prop) (vs : List V) (h : Heap) : Prop :=
  match vs with
  | [.sl a1, .ptr a2, .int .i64 a3, .int .i64 a4, .int .u64 a5] => I a1 a2 a3 a4 a5 h
  | _ => False

def palisadelaw21_VtimerApart.k15 (I : Sl → (Option Ptr) → Int → Int → Heap → Prop) (vs : List V) (h : Heap) : Prop :=
  match vs with
  | [.sl a1, .ptr a2, .int .i64 a3, .int .i64 a4] => I a1 a2 a3 a4 h
  | _ => False

def palisadelaw21_VtimerApart.k6 (I : Sl → Int → (Option Ptr) → Int → Int → Heap → Prop) (vs : List V) (h : Heap) : Prop :=
  match vs with
  | [.sl a1, .int .i64 a2, .ptr a3, .int .i64 a4, .int .i64 a5] => I a1 a2 a3 a4 a5 h
  | _ => False

theorem palisadelaw21_VtimerApart.p9 : (posC palisadelaw21_VtimerApart.code []).filter (fun p => Nat.beq p.1 9) = [(9, atPos (posC palisadelaw21_VtimerApart.code []) 9)] := by kernel_rfl

theorem palisadelaw21_VtimerApart.e9 : ∀ (I6 : Sl → Int → (Option Ptr) → Int → Int → Heap → Prop)  (Q : Bool → Heap → Prop) (h : Heap), palisadelaw21_VtimerApart.j9 I6  Q h = pts (palisadelaw21_VtimerApart.E Q []) 3000 true (atPos (posC palisadelaw21_VtimerApart.code []) 9) (frAt [] []) h := by
  intros; kernel_rfl

theorem palisadelaw21_VtimerApart.s9 {W0 : World} (Q : Bool → Heap → Prop) (I6 : Sl → Int → (Option Ptr) → Int → Int → Heap → Prop) (h6 : CutOK sg W0 109 (entered 3) (Post sg W0 (palisadelaw21_VtimerApart.ret Q)) (posC palisadelaw21_VtimerApart.code []) 6 [0, 1, 5, 6, 7] (palisadelaw21_VtimerApart.k6 I6)) : CutOK sg W0 109 (entered 3) (Post sg W0 (palisadelaw21_VtimerApart.ret Q)) (posC palisadelaw21_VtimerApart.code []) 9 [] (palisadelaw21_VtimerApart.k9 (fun  h => palisadelaw21_VtimerApart.j9 I6  Q h)) := by
  refine cutOK_head (fun vs h hk => ?_)
  unfold palisadelaw21_VtimerApart.k9 at hk
  split at hk
  · skip
    intro todo hm ρ a w s f hp
    exact piece (E := palisadelaw21_VtimerApart.E Q []) (vs := []) (envOK seatOK palisadelaw21_VtimerApart.callsOK noIfc_ok) (fnOK seatOK palisadelaw21_VtimerApart.fun) trivial palisadelaw21_VtimerApart.p9 (fuel := 3000) (by rw [← palisadelaw21_VtimerApart.e9]; exact hk) hm s f hp
  · exact hk.elim

theorem palisadelaw21_VtimerApart.p14 : (posC palisadelaw21_VtimerApart.code []).filter (fun p => Nat.beq p.1 14) = [(14, atPos (posC palisadelaw21_VtimerApart.code []) 14)] := by kernel_rfl

theorem palisadelaw21_VtimerApart.e14 : ∀   (Q : Bool → Heap → Prop) (h : Heap), palisadelaw21_VtimerApart.j14   Q h = pts (palisadelaw21_VtimerApart.E Q []) 3000 true (atPos (posC palisadelaw21_VtimerApart.code []) 14) (frAt [] []) h := by
  intros; kernel_rfl

theorem palisadelaw21_VtimerApart.s14 {W0 : World} (Q : Bool → Heap → Prop)   : CutOK sg W0 109 (entered 3) (Post sg W0 (palisadelaw21_VtimerApart.ret Q)) (posC palisadelaw21_VtimerApart.code []) 14 [] (palisadelaw21_VtimerApart.k14 (fun  h => palisadelaw21_VtimerApart.j14   Q h)) := by
  refine cutOK_head (fun vs h hk => ?_)
  unfold palisadelaw21_VtimerApart.k14 at hk
  split at hk
  · skip
    intro todo hm ρ a w s f hp
    exact piece (E := palisadelaw21_VtimerApart.E Q []) (vs := []) (envOK seatOK palisadelaw21_VtimerApart.callsOK noIfc_ok) (fnOK seatOK palisadelaw21_VtimerApart.fun) trivial palisadelaw21_VtimerApart.p14 (fuel := 3000) (by rw [← palisadelaw21_VtimerApart.e14]; exact hk) hm s f hp
  · exact hk.elim

theorem palisadelaw21_VtimerApart.p25 : (posC palisadelaw21_VtimerApart.code []).filter (fun p => Nat.beq p.1 25) = [(25, atPos (posC palisadelaw21_VtimerApart.code []) 25)] := by kernel_rfl

theorem palisadelaw21_VtimerApart.e25 : ∀ (I16 : Sl → (Option Ptr) → Int → Int → Int → Heap → Prop) (I21 : Sl → (Option Ptr) → Int → Int → Int → Sl → Int → Int → Heap → Prop)  (Q : Bool → Heap → Prop) (h : Heap), palisadelaw21_VtimerApart.j25 I16 I21  Q h = pts (palisadelaw21_VtimerApart.E Q []) 3000 true (atPos (posC palisadelaw21_VtimerApart.code []) 25) (frAt [] []) h := by
  intros; kernel_rfl

theorem palisadelaw21_VtimerApart.s25 {W0 : World} (Q : Bool → Heap → Prop) (I16 : Sl → (Option Ptr) → Int → Int → Int → Heap → Prop) (I21 : Sl → (Option Ptr) → Int → Int → Int → Sl → Int → Int → Heap → Prop) (h16 : CutOK sg W0 109 (entered 3) (Post sg W0 (palisadelaw21_VtimerApart.ret Q)) (posC palisadelaw21_VtimerApart.code []) 16 [0, 5, 6, 8, 9] (palisadelaw21_VtimerApart.k16 I16)) (h21 : CutOK sg W0 109 (entered 3) (Post sg W0 (palisadelaw21_VtimerApart.ret Q)) (posC palisadelaw21_VtimerApart.code []) 21 [0, 5, 6, 8, 9, 10, 11, 12] (palisadelaw21_VtimerApart.k21 I21)) : CutOK sg W0 109 (entered 3) (Post sg W0 (palisadelaw21_VtimerApart.ret Q)) (posC palisadelaw21_VtimerApart.code []) 25 [] (palisadelaw21_VtimerApart.k25 (fun  h => palisadelaw21_VtimerApart.j25 I16 I21  Q h)) := by
  refine cutOK_head (fun vs h hk => ?_)
  unfold palisadelaw21_VtimerApart.k25 at hk
  split at hk
  · skip
    intro todo hm ρ a w s f hp
    exact piece (E := palisadelaw21_VtimerApart.E Q []) (vs := []) (envOK seatOK palisadelaw21_VtimerApart.callsOK noIfc_ok) (fnOK seatOK palisadelaw21_VtimerApart.fun) trivial palisadelaw21_VtimerApart.p25 (fuel := 3000) (by rw [← palisadelaw21_VtimerApart.e25]; exact hk) hm s f hp
  · exact hk.elim

theorem palisadelaw21_VtimerApart.p22 : (posC palisadelaw21_VtimerApart.code []).filter (fun p => Nat.beq p.1 22) = [(22, atPos (posC palisadelaw21_VtimerApart.code []) 22)] := by kernel_rfl

theorem palisadelaw21_VtimerApart.e22 : ∀ (I16 : Sl → (Option Ptr) → Int → Int → Int → Heap → Prop) (I21 : Sl → (Option Ptr) → Int → Int → Int → Sl → Int → Int → Heap → Prop) (a1 : Sl) (a2 : Option Ptr) (a3 : Int) (a4 : Int) (a5 : Int) (a6 : Sl) (a7 : Int) (a8 : Int) (Q : Bool → Heap → Prop) (h : Heap), palisadelaw21_VtimerApart.j22 I16 I21 a1 a2 a3 a4 a5 a6 a7 a8 Q h = pts (palisadelaw21_VtimerApart.E Q [(21, ([0, 5, 6, 8, 9, 10, 11, 12], palisadelaw21_VtimerApart.k21 I21))]) 3000 true (atPos (posC palisadelaw21_VtimerApart.code []) 22) (frAt [0, 5, 6, 8, 9, 10, 11, 12] [.sl a1, .ptr a2, .int .i64 a3, .int .i64 a4, .int .u64 a5, .sl a6, .int .i64 a7, .int .i64 a8]) h := by
  intros; kernel_rfl

theorem palisadelaw21_VtimerApart.s22 {W0 : World} (Q : Bool → Heap → Prop) (I16 : Sl → (Option Ptr) → Int → Int → Int → Heap → Prop) (I21 : Sl → (Option Ptr) → Int → Int → Int → Sl → Int → Int → Heap → Prop) (h16 : CutOK sg W0 109 (entered 3) (Post sg W0 (palisadelaw21_VtimerApart.ret Q)) (posC palisadelaw21_VtimerApart.code []) 16 [0, 5, 6, 8, 9] (palisadelaw21_VtimerApart.k16 I16)) (h21 : CutOK sg W0 109 (entered 3) (Post sg W0 (palisadelaw21_VtimerApart.ret Q)) (posC palisadelaw21_VtimerApart.code []) 21 [0, 5, 6, 8, 9, 10, 11, 12] (palisadelaw21_VtimerApart.k21 I21)) : CutOK sg W0 109 (entered 3) (Post sg W0 (palisadelaw21_VtimerApart.ret Q)) (posC palisadelaw21_VtimerApart.code []) 22 [0, 5, 6, 8, 9, 10, 11, 12] (palisadelaw21_VtimerApart.k22 (fun a1 a2 a3 a4 a5 a6 a7 a8 h => palisadelaw21_VtimerApart.j22 I16 I21 a1 a2 a3 a4 a5 a6 a7 a8 Q h)) := by
  refine cutOK_head (fun vs h hk => ?_)
  unfold palisadelaw21_VtimerApart.k22 at hk
  split at hk
  · rename_i a1 a2 a3 a4 a5 a6 a7 a8
    intro todo hm ρ a w s f hp
    exact piece (E := palisadelaw21_VtimerApart.E Q [(21, ([0, 5, 6, 8, 9, 10, 11, 12], palisadelaw21_VtimerApart.k21 I21))]) (vs := [.sl a1, .ptr a2, .int .i64 a3, .int .i64 a4, .int .u64 a5, .sl a6, .int .i64 a7, .int .i64 a8]) (envOK seatOK palisadelaw21_VtimerApart.callsOK noIfc_ok) (fnOK seatOK palisadelaw21_VtimerApart.fun) ⟨h21, trivial⟩ palisadelaw21_VtimerApart.p22 (fuel := 3000) (by rw [← palisadelaw21_VtimerApart.e22]; exact hk) hm s f hp
  · exact hk.elim

theorem palisadelaw21_VtimerApart.p26 : (posC palisadelaw21_VtimerApart.code []).filter (fun p => Nat.beq p.1 26) = [(26, atPos (posC palisadelaw21_VtimerApart.code []) 26)] := by kernel_rfl

theorem palisadelaw21_VtimerApart.e26 : ∀ (I16 : Sl → (Option Ptr) → Int → Int → Int → Heap → Prop) (I21 : Sl → (Option Ptr) → Int → Int → Int → Sl → Int → Int → Heap → Prop) (a1 : Sl) (a2 : Option Ptr) (a3 : Int) (a4 : Int) (a5 : Int) (a6 : Sl) (a7 : Int) (a8 : Int) (Q : Bool → Heap → Prop) (h : Heap), palisadelaw21_VtimerApart.j26 I16 I21 a1 a2 a3 a4 a5 a6 a7 a8 Q h = pts (palisadelaw21_VtimerApart.E Q [(22, ([0, 5, 6, 8, 9, 10, 11, 12], palisadelaw21_VtimerApart.k22 (fun a1 a2 a3 a4 a5 a6 a7 a8 h => palisadelaw21_VtimerApart.j22 I16 I21 a1 a2 a3 a4 a5 a6 a7 a8 Q h)))]) 3000 true (atPos (posC palisadelaw21_VtimerApart.code []) 26) (frAt [0, 5, 6, 8, 9, 10, 11, 12] [.sl a1, .ptr a2, .int .i64 a3, .int .i64 a4, .int .u64 a5, .sl a6, .int .i64 a7, .int .i64 a8]) h := by
  intros; kernel_rfl

theorem palisadelaw21_VtimerApart.s26 {W0 : World} (Q : Bool → Heap → Prop) (I16 : Sl → (Option Ptr) → Int → Int → Int → Heap → Prop) (I21 : Sl → (Option Ptr) → Int → Int → Int → Sl → Int → Int → Heap → Prop) (h16 : CutOK sg W0 109 (entered 3) (Post sg W0 (palisadelaw21_VtimerApart.ret Q)) (posC palisadelaw21_VtimerApart.code []) 16 [0, 5, 6, 8, 9] (palisadelaw21_VtimerApart.k16 I16)) (h21 : CutOK sg W0 109 (entered 3) (Post sg W0 (palisadelaw21_VtimerApart.ret Q)) (posC palisadelaw21_VtimerApart.code []) 21 [0, 5, 6, 8, 9, 10, 11, 12] (palisadelaw21_VtimerApart.k21 I21)) : CutOK sg W0 109 (entered 3) (Post sg W0 (palisadelaw21_VtimerApart.ret Q)) (posC palisadelaw21_VtimerApart.code []) 26 [0, 5, 6, 8, 9, 10, 11, 12] (palisadelaw21_VtimerApart.k26 (fun a1 a2 a3 a4 a5 a6 a7 a8 h => palisadelaw21_VtimerApart.j26 I16 I21 a1 a2 a3 a4 a5 a6 a7 a8 Q h)) := by
  refine cutOK_head (fun vs h hk => ?_)
  unfold palisadelaw21_VtimerApart.k26 at hk
  split at hk
  · rename_i a1 a2 a3 a4 a5 a6 a7 a8
    intro todo hm ρ a w s f hp
    exact piece (E := palisadelaw21_VtimerApart.E Q [(22, ([0, 5, 6, 8, 9, 10, 11, 12], palisadelaw21_VtimerApart.k22 (fun a1 a2 a3 a4 a5 a6 a7 a8 h => palisadelaw21_VtimerApart.j22 I16 I21 a1 a2 a3 a4 a5 a6 a7 a8 Q h)))]) (vs := [.sl a1, .ptr a2, .int .i64 a3, .int .i64 a4, .int .u64 a5, .sl a6, .int .i64 a7, .int .i64 a8]) (envOK seatOK palisadelaw21_VtimerApart.callsOK noIfc_ok) (fnOK seatOK palisadelaw21_VtimerApart.fun) ⟨(palisadelaw21_VtimerApart.s22 Q I16 I21 h16 h21), trivial⟩ palisadelaw21_VtimerApart.p26 (fuel := 3000) (by rw [← palisadelaw21_VtimerApart.e26]; exact hk) hm s f hp
  · exact hk.elim

theorem palisadelaw21_VtimerApart.p21 : (posC palisadelaw21_VtimerApart.code []).filter (fun p => Nat.beq p.1 21) = [(21, atPos (posC palisadelaw21_VtimerApart.code []) 21)] := by kernel_rfl

theorem palisadelaw21_VtimerApart.e21 : ∀ (I16 : Sl → (Option Ptr) → Int → Int → Int → Heap → Prop) (I21 : Sl → (Option Ptr) → Int → Int → Int → Sl → Int → Int → Heap → Prop) (a1 : Sl) (a2 : Option Ptr) (a3 : Int) (a4 : Int) (a5 : Int) (a6 : Sl) (a7 : Int) (a8 : Int) (Q : Bool → Heap → Prop) (h : Heap), palisadelaw21_VtimerApart.b21 I16 I21 a1 a2 a3 a4 a5 a6 a7 a8 Q h = pts (palisadelaw21_VtimerApart.E Q [(25, ([], palisadelaw21_VtimerApart.k25 (fun  h => palisadelaw21_VtimerApart.j25 I16 I21  Q h))), (26, ([0, 5, 6, 8, 9, 10, 11, 12], palisadelaw21_VtimerApart.k26 (fun a1 a2 a3 a4 a5 a6 a7 a8 h => palisadelaw21_VtimerApart.j26 I16 I21 a1 a2 a3 a4 a5 a6 a7 a8 Q h))), (22, ([0, 5, 6, 8, 9, 10, 11, 12], palisadelaw21_VtimerApart.k22 (fun a1 a2 a3 a4 a5 a6 a7 a8 h => palisadelaw21_VtimerApart.j22 I16 I21 a1 a2 a3 a4 a5 a6 a7 a8 Q h))), (16, ([0, 5, 6, 8, 9], palisadelaw21_VtimerApart.k16 I16))]) 3000 true (atPos (posC palisadelaw21_VtimerApart.code []) 21) (frAt [0, 5, 6, 8, 9, 10, 11, 12] [.sl a1, .ptr a2, .int .i64 a3, .int .i64 a4, .int .u64 a5, .sl a6, .int .i64 a7, .int .i64 a8]) h := by
  intros; kernel_rfl

theorem palisadelaw21_VtimerApart.s21 {W0 : World} (Q : Bool → Heap → Prop) (I16 : Sl → (Option Ptr) → Int → Int → Int → Heap → Prop) (h16 : CutOK sg W0 109 (entered 3) (Post sg W0 (palisadelaw21_VtimerApart.ret Q)) (posC palisadelaw21_VtimerApart.code []) 16 [0, 5, 6, 8, 9] (palisadelaw21_VtimerApart.k16 I16)) : CutOK sg W0 109 (entered 3) (Post sg W0 (palisadelaw21_VtimerApart.ret Q)) (posC palisadelaw21_VtimerApart.code []) 21 [0, 5, 6, 8, 9, 10, 11, 12] (palisadelaw21_VtimerApart.k21 (fun a1 a2 a3 a4 a5 a6 a7 a8 h => palisadelaw21_VtimerApart.j21 I16 a1 a2 a3 a4 a5 a6 a7 a8 Q h)) := by
  refine cutOK_head (fun vs h hk => ?_)
  unfold palisadelaw21_VtimerApart.k21 at hk
  split at hk
  · rename_i a1 a2 a3 a4 a5 a6 a7 a8
    refine hk (fun a1 a2 a3 a4 a5 a6 a7 a8 h => Head sg W0 109 (entered 3) (Post sg W0 (palisadelaw21_VtimerApart.ret Q)) (posC palisadelaw21_VtimerApart.code []) 21 [0, 5, 6, 8, 9, 10, 11, 12] [.sl a1, .ptr a2, .int .i64 a3, .int .i64 a4, .int .u64 a5, .sl a6, .int .i64 a7, .int .i64 a8] h) ?_
    intro a1 a2 a3 a4 a5 a6 a7 a8 h hb todo hm ρ a w s f hp
    have hself : CutOK sg W0 109 (entered 3) (Post sg W0 (palisadelaw21_VtimerApart.ret Q)) (posC palisadelaw21_VtimerApart.code []) 21 [0, 5, 6, 8, 9, 10, 11, 12] (palisadelaw21_VtimerApart.k21 (fun a1 a2 a3 a4 a5 a6 a7 a8 h => Head sg W0 109 (entered 3) (Post sg W0 (palisadelaw21_VtimerApart.ret Q)) (posC palisadelaw21_VtimerApart.code []) 21 [0, 5, 6, 8, 9, 10, 11, 12] [.sl a1, .ptr a2, .int .i64 a3, .int .i64 a4, .int .u64 a5, .sl a6, .int .i64 a7, .int .i64 a8] h)) := cutOK_head (fun vs h hk => by unfold palisadelaw21_VtimerApart.k21 at hk; split at hk; exact hk; exact hk.elim)
    exact piece (E := palisadelaw21_VtimerApart.E Q [(25, ([], palisadelaw21_VtimerApart.k25 (fun  h => palisadelaw21_VtimerApart.j25 I16 (fun a1 a2 a3 a4 a5 a6 a7 a8 h => Head sg W0 109 (entered 3) (Post sg W0 (palisadelaw21_VtimerApart.ret Q)) (posC palisadelaw21_VtimerApart.code []) 21 [0, 5, 6, 8, 9, 10, 11, 12] [.sl a1, .ptr a2, .int .i64 a3, .int .i64 a4, .int .u64 a5, .sl a6, .int .i64 a7, .int .i64 a8] h)  Q h))), (26, ([0, 5, 6, 8, 9, 10, 11, 12], palisadelaw21_VtimerApart.k26 (fun a1 a2 a3 a4 a5 a6 a7 a8 h => palisadelaw21_VtimerApart.j26 I16 (fun a1 a2 a3 a4 a5 a6 a7 a8 h => Head sg W0 109 (entered 3) (Post sg W0 (palisadelaw21_VtimerApart.ret Q)) (posC palisadelaw21_VtimerApart.code []) 21 [0, 5, 6, 8, 9, 10, 11, 12] [.sl a1, .ptr a2, .int .i64 a3, .int .i64 a4, .int .u64 a5, .sl a6, .int .i64 a7, .int .i64 a8] h) a1 a2 a3 a4 a5 a6 a7 a8 Q h))), (22, ([0, 5, 6, 8, 9, 10, 11, 12], palisadelaw21_VtimerApart.k22 (fun a1 a2 a3 a4 a5 a6 a7 a8 h => palisadelaw21_VtimerApart.j22 I16 (fun a1 a2 a3 a4 a5 a6 a7 a8 h => Head sg W0 109 (entered 3) (Post sg W0 (palisadelaw21_VtimerApart.ret Q)) (posC palisadelaw21_VtimerApart.code []) 21 [0, 5, 6, 8, 9, 10, 11, 12] [.sl a1, .ptr a2, .int .i64 a3, .int .i64 a4, .int .u64 a5, .sl a6, .int .i64 a7, .int .i64 a8] h) a1 a2 a3 a4 a5 a6 a7 a8 Q h))), (16, ([0, 5, 6, 8, 9], palisadelaw21_VtimerApart.k16 I16))]) (vs := [.sl a1, .ptr a2, .int .i64 a3, .int .i64 a4, .int .u64 a5, .sl a6, .int .i64 a7, .int .i64 a8]) (envOK seatOK palisadelaw21_VtimerApart.callsOK noIfc_ok) (fnOK seatOK palisadelaw21_VtimerApart.fun) ⟨(palisadelaw21_VtimerApart.s25 Q I16 (fun a1 a2 a3 a4 a5 a6 a7 a8 h => Head sg W0 109 (entered 3) (Post sg W0 (palisadelaw21_VtimerApart.ret Q)) (posC palisadelaw21_VtimerApart.code []) 21 [0, 5, 6, 8, 9, 10, 11, 12] [.sl a1, .ptr a2, .int .i64 a3, .int .i64 a4, .int .u64 a5, .sl a6, .int .i64 a7, .int .i64 a8] h) h16 hself), (palisadelaw21_VtimerApart.s26 Q I16 (fun a1 a2 a3 a4 a5 a6 a7 a8 h => Head sg W0 109 (entered 3) (Post sg W0 (palisadelaw21_VtimerApart.ret Q)) (posC palisadelaw21_VtimerApart.code []) 21 [0, 5, 6, 8, 9, 10, 11, 12] [.sl a1, .ptr a2, .int .i64 a3, .int .i64 a4, .int .u64 a5, .sl a6, .int .i64 a7, .int .i64 a8] h) h16 hself), (palisadelaw21_VtimerApart.s22 Q I16 (fun a1 a2 a3 a4 a5 a6 a7 a8 h => Head sg W0 109 (entered 3) (Post sg W0 (palisadelaw21_VtimerApart.ret Q)) (posC palisadelaw21_VtimerApart.code []) 21 [0, 5, 6, 8, 9, 10, 11, 12] [.sl a1, .ptr a2, .int .i64 a3, .int .i64 a4, .int .u64 a5, .sl a6, .int .i64 a7, .int .i64 a8] h) h16 hself), h16, trivial⟩ palisadelaw21_VtimerApart.p21 (fuel := 3000) (by rw [← palisadelaw21_VtimerApart.e21]; exact hb) hm s f hp
  · exact hk.elim

theorem palisadelaw21_VtimerApart.p16 : (posC palisadelaw21_VtimerApart.code []).filter (fun p => Nat.beq p.1 16) = [(16, atPos (posC palisadelaw21_VtimerApart.code []) 16)] := by kernel_rfl

theorem palisadelaw21_VtimerApart.e16 : ∀  (I16 : Sl → (Option Ptr) → Int → Int → Int → Heap → Prop) (a1 : Sl) (a2 : Option Ptr) (a3 : Int) (a4 : Int) (a5 : Int) (Q : Bool → Heap → Prop) (h : Heap), palisadelaw21_VtimerApart.b16  I16 a1 a2 a3 a4 a5 Q h = pts (palisadelaw21_VtimerApart.E Q [(21, ([0, 5, 6, 8, 9, 10, 11, 12], palisadelaw21_VtimerApart.k21 (fun a1 a2 a3 a4 a5 a6 a7 a8 h => palisadelaw21_VtimerApart.j21 I16 a1 a2 a3 a4 a5 a6 a7 a8 Q h)))]) 3000 true (atPos (posC palisadelaw21_VtimerApart.code []) 16) (frAt [0, 5, 6, 8, 9] [.sl a1, .ptr a2, .int .i64 a3, .int .i64 a4, .int .u64 a5]) h := by
  intros; kernel_rfl

theorem palisadelaw21_VtimerApart.s16 {W0 : World} (Q : Bool → Heap → Prop)   : CutOK sg W0 109 (entered 3) (Post sg W0 (palisadelaw21_VtimerApart.ret Q)) (posC palisadelaw21_VtimerApart.code []) 16 [0, 5, 6, 8, 9] (palisadelaw21_VtimerApart.k16 (fun a1 a2 a3 a4 a5 h => palisadelaw21_VtimerApart.j16  a1 a2 a3 a4 a5 Q h)) := by
  refine cutOK_head (fun vs h hk => ?_)
  unfold palisadelaw21_VtimerApart.k16 at hk
  split at hk
  · rename_i a1 a2 a3 a4 a5
    refine hk (fun a1 a2 a3 a4 a5 h => Head sg W0 109 (entered 3) (Post sg W0 (palisadelaw21_VtimerApart.ret Q)) (posC palisadelaw21_VtimerApart.code []) 16 [0, 5, 6, 8, 9] [.sl a1, .ptr a2, .int .i64 a3, .int .i64 a4, .int .u64 a5] h) ?_
    intro a1 a2 a3 a4 a5 h hb todo hm ρ a w s f hp
    have hself : CutOK sg W0 109 (entered 3) (Post sg W0 (palisadelaw21_VtimerApart.ret Q)) (posC palisadelaw21_VtimerApart.code []) 16 [0, 5, 6, 8, 9] (palisadelaw21_VtimerApart.k16 (fun a1 a2 a3 a4 a5 h => Head sg W0 109 (entered 3) (Post sg W0 (palisadelaw21_VtimerApart.ret Q)) (posC palisadelaw21_VtimerApart.code []) 16 [0, 5, 6, 8, 9] [.sl a1, .ptr a2, .int .i64 a3, .int .i64 a4, .int .u64 a5] h)) := cutOK_head (fun vs h hk => by unfold palisadelaw21_VtimerApart.k16 at hk; split at hk; exact hk; exact hk.elim)
    exact piece (E := palisadelaw21_VtimerApart.E Q [(21, ([0, 5, 6, 8, 9, 10, 11, 12], palisadelaw21_VtimerApart.k21 (fun a1 a2 a3 a4 a5 a6 a7 a8 h => palisadelaw21_VtimerApart.j21 (fun a1 a2 a3 a4 a5 h => Head sg W0 109 (entered 3) (Post sg W0 (palisadelaw21_VtimerApart.ret Q)) (posC palisadelaw21_VtimerApart.code []) 16 [0, 5, 6, 8, 9] [.sl a1, .ptr a2, .int .i64 a3, .int .i64 a4, .int .u64 a5] h) a1 a2 a3 a4 a5 a6 a7 a8 Q h)))]) (vs := [.sl a1, .ptr a2, .int .i64 a3, .int .i64 a4, .int .u64 a5]) (envOK seatOK palisadelaw21_VtimerApart.callsOK noIfc_ok) (fnOK seatOK palisadelaw21_VtimerApart.fun) ⟨(palisadelaw21_VtimerApart.s21 Q (fun a1 a2 a3 a4 a5 h => Head sg W0 109 (entered 3) (Post sg W0 (palisadelaw21_VtimerApart.ret Q)) (posC palisadelaw21_VtimerApart.code []) 16 [0, 5, 6, 8, 9] [.sl a1, .ptr a2, .int .i64 a3, .int .i64 a4, .int .u64 a5] h) hself), trivial⟩ palisadelaw21_VtimerApart.p16 (fuel := 3000) (by rw [← palisadelaw21_VtimerApart.e16]; exact hb) hm s f hp
  · exact hk.elim

theorem palisadelaw21_VtimerApart.p15 : (posC palisadelaw21_VtimerApart.code []).filter (fun p => Nat.beq p.1 15) = [(15, atPos (posC palisadelaw21_VtimerApart.code []) 15)] := by kernel_rfl

theorem palisadelaw21_VtimerApart.e15 : ∀  (a1 : Sl) (a2 : Option Ptr) (a3 : Int) (a4 : Int) (Q : Bool → Heap → Prop) (h : Heap), palisadelaw21_VtimerApart.j15  a1 a2 a3 a4 Q h = pts (palisadelaw21_VtimerApart.E Q [(16, ([0, 5, 6, 8, 9], palisadelaw21_VtimerApart.k16 (fun a1 a2 a3 a4 a5 h => palisadelaw21_VtimerApart.j16  a1 a2 a3 a4 a5 Q h)))]) 3000 true (atPos (posC palisadelaw21_VtimerApart.code []) 15) (frAt [0, 5, 6, 8] [.sl a1, .ptr a2, .int .i64 a3, .int .i64 a4]) h := by
  intros; kernel_rfl

theorem palisadelaw21_VtimerApart.s15 {W0 : World} (Q : Bool → Heap → Prop)   : CutOK sg W0 109 (entered 3) (Post sg W0 (palisadelaw21_VtimerApart.ret Q)) (posC palisadelaw21_VtimerApart.code []) 15 [0, 5, 6, 8] (palisadelaw21_VtimerApart.k15 (fun a1 a2 a3 a4 h => palisadelaw21_VtimerApart.j15  a1 a2 a3 a4 Q h)) := by
  refine cutOK_head (fun vs h hk => ?_)
  unfold palisadelaw21_VtimerApart.k15 at hk
  split at hk
  · rename_i a1 a2 a3 a4
    intro todo hm ρ a w s f hp
    exact piece (E := palisadelaw21_VtimerApart.E Q [(16, ([0, 5, 6, 8, 9], palisadelaw21_VtimerApart.k16 (fun a1 a2 a3 a4 a5 h => palisadelaw21_VtimerApart.j16  a1 a2 a3 a4 a5 Q h)))]) (vs := [.sl a1, .ptr a2, .int .i64 a3, .int .i64 a4]) (envOK seatOK palisadelaw21_VtimerApart.callsOK noIfc_ok) (fnOK seatOK palisadelaw21_VtimerApart.fun) ⟨(palisadelaw21_VtimerApart.s16 Q  ), trivial⟩ palisadelaw21_VtimerApart.p15 (fuel := 3000) (by rw [← palisadelaw21_VtimerApart.e15]; exact hk) hm s f hp
  · exact hk.elim

theorem palisadelaw21_VtimerApart.p6 : (posC palisadelaw21_VtimerApart.code []).filter (fun p => Nat.beq p.1 6) = [(6, atPos (posC palisadelaw21_VtimerApart.code []) 6)] := by kernel_rfl

theorem palisadelaw21_VtimerApart.e6 : ∀  (I6 : Sl → Int → (Option Ptr) → Int → Int → Heap → Prop) (a1 : Sl) (a2 : Int) (a3 : Option Ptr) (a4 : Int) (a5 : Int) (Q : Bool → Heap → Prop) (h : Heap), palisadelaw21_VtimerApart.b6  I6 a1 a2 a3 a4 a5 Q h = pts (palisadelaw21_VtimerApart.E Q [(9, ([], palisadelaw21_VtimerApart.k9 (fun  h => palisadelaw21_VtimerApart.j9 I6  Q h))), (6, ([0, 1, 5, 6, 7], palisadelaw21_VtimerApart.k6 I6)), (14, ([], palisadelaw21_VtimerApart.k14 (fun  h => palisadelaw21_VtimerApart.j14   Q h))), (15, ([0, 5, 6, 8], palisadelaw21_VtimerApart.k15 (fun a1 a2 a3 a4 h => palisadelaw21_VtimerApart.j15  a1 a2 a3 a4 Q h)))]) 3000 true (atPos (posC palisadelaw21_VtimerApart.code []) 6) (frAt [0, 1, 5, 6, 7] [.sl a1, .int .i64 a2, .ptr a3, .int .i64 a4, .int .i64 a5]) h := by
  intros; kernel_rfl

theorem palisadelaw21_VtimerApart.s6 {W0 : World} (Q : Bool → Heap → Prop)   : CutOK sg W0 109 (entered 3) (Post sg W0 (palisadelaw21_VtimerApart.ret Q)) (posC palisadelaw21_VtimerApart.code []) 6 [0, 1, 5, 6, 7] (palisadelaw21_VtimerApart.k6 (fun a1 a2 a3 a4 a5 h => palisadelaw21_VtimerApart.j6  a1 a2 a3 a4 a5 Q h)) := by
  refine cutOK_head (fun vs h hk => ?_)
  unfold palisadelaw21_VtimerApart.k6 at hk
  split at hk
  · rename_i a1 a2 a3 a4 a5
    refine hk (fun a1 a2 a3 a4 a5 h => Head sg W0 109 (entered 3) (Post sg W0 (palisadelaw21_VtimerApart.ret Q)) (posC palisadelaw21_VtimerApart.code []) 6 [0, 1, 5, 6, 7] [.sl a1, .int .i64 a2, .ptr a3, .int .i64 a4, .int .i64 a5] h) ?_
    intro a1 a2 a3 a4 a5 h hb todo hm ρ a w s f hp
    have hself : CutOK sg W0 109 (entered 3) (Post sg W0 (palisadelaw21_VtimerApart.ret Q)) (posC palisadelaw21_VtimerApart.code []) 6 [0, 1, 5, 6, 7] (palisadelaw21_VtimerApart.k6 (fun a1 a2 a3 a4 a5 h => Head sg W0 109 (entered 3) (Post sg W0 (palisadelaw21_VtimerApart.ret Q)) (posC palisadelaw21_VtimerApart.code []) 6 [0, 1, 5, 6, 7] [.sl a1, .int .i64 a2, .ptr a3, .int .i64 a4, .int .i64 a5] h)) := cutOK_head (fun vs h hk => by unfold palisadelaw21_VtimerApart.k6 at hk; split at hk; exact hk; exact hk.elim)
    exact piece (E := palisadelaw21_VtimerApart.E Q [(9, ([], palisadelaw21_VtimerApart.k9 (fun  h => palisadelaw21_VtimerApart.j9 (fun a1 a2 a3 a4 a5 h => Head sg W0 109 (entered 3) (Post sg W0 (palisadelaw21_VtimerApart.ret Q)) (posC palisadelaw21_VtimerApart.code []) 6 [0, 1, 5, 6, 7] [.sl a1, .int .i64 a2, .ptr a3, .int .i64 a4, .int .i64 a5] h)  Q h))), (6, ([0, 1, 5, 6, 7], palisadelaw21_VtimerApart.k6 (fun a1 a2 a3 a4 a5 h => Head sg W0 109 (entered 3) (Post sg W0 (palisadelaw21_VtimerApart.ret Q)) (posC palisadelaw21_VtimerApart.code []) 6 [0, 1, 5, 6, 7] [.sl a1, .int .i64 a2, .ptr a3, .int .i64 a4, .int .i64 a5] h))), (14, ([], palisadelaw21_VtimerApart.k14 (fun  h => palisadelaw21_VtimerApart.j14   Q h))), (15, ([0, 5, 6, 8], palisadelaw21_VtimerApart.k15 (fun a1 a2 a3 a4 h => palisadelaw21_VtimerApart.j15  a1 a2 a3 a4 Q h)))]) (vs := [.sl a1, .int .i64 a2, .ptr a3, .int .i64 a4, .int .i64 a5]) (envOK seatOK palisadelaw21_VtimerApart.callsOK noIfc_ok) (fnOK seatOK palisadelaw21_VtimerApart.fun) ⟨(palisadelaw21_VtimerApart.s9 Q (fun a1 a2 a3 a4 a5 h => Head sg W0 109 (entered 3) (Post sg W0 (palisadelaw21_VtimerApart.ret Q)) (posC palisadelaw21_VtimerApart.code []) 6 [0, 1, 5, 6, 7] [.sl a1, .int .i64 a2, .ptr a3, .int .i64 a4, .int .i64 a5] h) hself), hself, (palisadelaw21_VtimerApart.s14 Q  ), (palisadelaw21_VtimerApart.s15 Q  ), trivial⟩ palisadelaw21_VtimerApart.p6 (fuel := 3000) (by rw [← palisadelaw21_VtimerApart.e6]; exact hb) hm s f hp
  · exact hk.elim

theorem palisadelaw21_VtimerApart.e : ∀ (a1 : Sl) (a2 : Int) (Q : Bool → Heap → Prop) (h : Heap), palisadelaw21_VtimerApart a1 a2 Q h = pts (palisadelaw21_VtimerApart.E Q [(6, ([0, 1, 5, 6, 7], palisadelaw21_VtimerApart.k6 (fun a1 a2 a3 a4 a5 h => palisadelaw21_VtimerApart.j6  a1 a2 a3 a4 a5 Q h)))]) 3000 true [.code palisadelaw21_VtimerApart.code] (frOf 0 [.sl a1, .int .i64 a2]) h := by
  intros; kernel_rfl

theorem palisadelaw21_VtimerApart.S {W0 : World} : FnS sg W0 333 palisadelaw21_VtimerApart.C := by
  intro vs κ h wv hx w s
  unfold palisadelaw21_VtimerApart.C at hx
  split at hx
  · rename_i a1 a2
    refine postImp (ret := palisadelaw21_VtimerApart.ret (fun r1 h => κ (.bool r1) h)) (fun v h hr => by unfold palisadelaw21_VtimerApart.ret at hr; split at hr; exact hr; exact hr.elim) ?_
    exact calls_of_pts (E := palisadelaw21_VtimerApart.E (fun r1 h => κ (.bool r1) h) [(6, ([0, 1, 5, 6, 7], palisadelaw21_VtimerApart.k6 (fun a1 a2 a3 a4 a5 h => palisadelaw21_VtimerApart.j6  a1 a2 a3 a4 a5 (fun r1 h => κ (.bool r1) h) h)))]) (envOK seatOK palisadelaw21_VtimerApart.callsOK noIfc_ok) seatOK.mixed palisadelaw21_VtimerApart.fun (Nat.le_of_ble_eq_true rfl) wv (cutL_ok ⟨(palisadelaw21_VtimerApart.s6 (fun r1 h => κ (.bool r1) h)), trivial⟩) s (fuel := 3000) (by rw [← palisadelaw21_VtimerApart.e]; exact hx)
  · exact hx.elim

end Go.Fn
