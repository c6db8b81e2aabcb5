/- The links of the shallow functions to the machine. PRINTED by lift.py. -/
import Derived.Test.YtfpmidnmkpaoiaaGa
set_option linter.unusedVariables false
set_option maxRecDepth 100000
namespace Go.Fn
open Go.Lift

noncomputable def vtimer_New.code : Code := Go.Proofs.Try.f5.body.getD .skip

theorem vtimer_New.fun : Fun sg.P 5 4 [.tmp 0] vtimer_New.code := mkFun Go.Proofs.Try.func5 (by kernel_rfl) (by kernel_rfl) (by kernel_rfl) (by kernel_rfl)

def vtimer_New.ret (Q : (Option Ptr) → Heap → Prop) (v : V) (h : Heap) : Prop :=
  match v with
  | .ptr r1 => Q r1 h
  | _ => False

def vtimer_New.C (vs : List V) (κ : V → Heap → Prop) (h : Heap) : Prop :=
  match vs with
  | [] => vtimer_New  (fun r1 h => κ (.ptr r1) h) h
  | _ => False

noncomputable def vtimer_New.calls : List (Nat × (List V → (V → Heap → Prop) → Heap → Prop)) := []

noncomputable def vtimer_New.E (Q : (Option Ptr) → Heap → Prop) (cuts : List (Nat × (List Nat × (List V → Heap → Prop)))) : Env := { tis := tisT, fns := fnsT, tys := tysT, gls := [], rts := rtsT, unk := [], nxt := [], calls := vtimer_New.calls, ifc := noIfc, cuts := cuts, ret := vtimer_New.ret Q, rets := [.tmp 0], n := 4 }

theorem vtimer_New.callsOK {W0 : World} : CallsOK sg W0 vtimer_New.calls := trivial

theorem vtimer_New.e : ∀  (Q : (Option Ptr) → Heap → Prop) (h : Heap), vtimer_New  Q h = pts (vtimer_New.E Q []) 3000 true [.code vtimer_New.code] (frOf 0 []) h := by
  intros; kernel_rfl

theorem vtimer_New.S {W0 : World} : FnS sg W0 99 vtimer_New.C := by
  intro vs κ h wv hx w s
  unfold vtimer_New.C at hx
  split at hx
  · skip
    refine postImp (ret := vtimer_New.ret (fun r1 h => κ (.ptr r1) h)) (fun v h hr => by unfold vtimer_New.ret at hr; split at hr; exact hr; exact hr.elim) ?_
    exact calls_of_pts (E := vtimer_New.E (fun r1 h => κ (.ptr r1) h) []) (envOK seatOK vtimer_New.callsOK noIfc_ok) seatOK.mixed vtimer_New.fun (Nat.le_of_ble_eq_true rfl) wv (cutL_ok trivial) s (fuel := 3000) (by rw [← vtimer_New.e]; exact hx)
  · exact hx.elim

noncomputable def vtimer_Timers_of.code : Code := Go.Proofs.Try.f15.body.getD .skip

theorem vtimer_Timers_of.fun : Fun sg.P 15 29 [.tmp 4, .tmp 5] vtimer_Timers_of.code := mkFun Go.Proofs.Try.func15 (by kernel_rfl) (by kernel_rfl) (by kernel_rfl) (by kernel_rfl)

def vtimer_Timers_of.ret (Q : (Option Ptr) → Int → Heap → Prop) (v : V) (h : Heap) : Prop :=
  match v with
  | .tup [.ptr r1, .int .i64 r2] => Q r1 r2 h
  | _ => False

def vtimer_Timers_of.C (vs : List V) (κ : V → Heap → Prop) (h : Heap) : Prop :=
  match vs with
  | [.ptr a1, .int .i64 a2] => vtimer_Timers_of a1 a2 (fun r1 r2 h => κ (.tup [.ptr r1, .int .i64 r2]) h) h
  | _ => False

noncomputable def vtimer_Timers_of.calls : List (Nat × (List V → (V → Heap → Prop) → Heap → Prop)) := []

noncomputable def vtimer_Timers_of.E (Q : (Option Ptr) → Int → Heap → Prop) (cuts : List (Nat × (List Nat × (List V → Heap → Prop)))) : Env := { tis := tisT, fns := fnsT, tys := tysT, gls := [], rts := rtsT, unk := [], nxt := [], calls := vtimer_Timers_of.calls, ifc := noIfc, cuts := cuts, ret := vtimer_Timers_of.ret Q, rets := [.tmp 4, .tmp 5], n := 29 }

theorem vtimer_Timers_of.callsOK {W0 : World} : CallsOK sg W0 vtimer_Timers_of.calls := trivial

def vtimer_Timers_of.k2 (I : Heap → Prop) (vs : List V) (h : Heap) : Prop :=
  match vs with
  | [] => I  h
  | _ => False

theorem vtimer_Timers_of.p2 : (posC vtimer_Timers_of.code []).filter (fun p => Nat.beq p.1 2) = [(2, atPos (posC vtimer_Timers_of.code []) 2)] := by kernel_rfl

theorem vtimer_Timers_of.e2 : ∀   (Q : (Option Ptr) → Int → Heap → Prop) (h : Heap), vtimer_Timers_of.j2   Q h = pts (vtimer_Timers_of.E Q []) 3000 true (atPos (posC vtimer_Timers_of.code []) 2) (frAt [] []) h := by
  intros; kernel_rfl

theorem vtimer_Timers_of.s2 {W0 : World} (Q : (Option Ptr) → Int → Heap → Prop)   : CutOK sg W0 29 (entered 15) (Post sg W0 (vtimer_Timers_of.ret Q)) (posC vtimer_Timers_of.code []) 2 [] (vtimer_Timers_of.k2 (fun  h => vtimer_Timers_of.j2   Q h)) := by
  refine cutOK_head (fun vs h hk => ?_)
  unfold vtimer_Timers_of.k2 at hk
  split at hk
  · skip
    intro todo hm ρ a w s f hp
    exact piece (E := vtimer_Timers_of.E Q []) (vs := []) (envOK seatOK vtimer_Timers_of.callsOK noIfc_ok) (fnOK seatOK vtimer_Timers_of.fun) trivial vtimer_Timers_of.p2 (fuel := 3000) (by rw [← vtimer_Timers_of.e2]; exact hk) hm s f hp
  · exact hk.elim

theorem vtimer_Timers_of.e : ∀ (a1 : Option Ptr) (a2 : Int) (Q : (Option Ptr) → Int → Heap → Prop) (h : Heap), vtimer_Timers_of a1 a2 Q h = pts (vtimer_Timers_of.E Q [(2, ([], vtimer_Timers_of.k2 (fun  h => vtimer_Timers_of.j2   Q h)))]) 3000 true [.code vtimer_Timers_of.code] (frOf 0 [.ptr a1, .int .i64 a2]) h := by
  intros; kernel_rfl

theorem vtimer_Timers_of.S {W0 : World} : FnS sg W0 100 vtimer_Timers_of.C := by
  intro vs κ h wv hx w s
  unfold vtimer_Timers_of.C at hx
  split at hx
  · rename_i a1 a2
    refine postImp (ret := vtimer_Timers_of.ret (fun r1 r2 h => κ (.tup [.ptr r1, .int .i64 r2]) h)) (fun v h hr => by unfold vtimer_Timers_of.ret at hr; split at hr; exact hr; exact hr.elim) ?_
    exact calls_of_pts (E := vtimer_Timers_of.E (fun r1 r2 h => κ (.tup [.ptr r1, .int .i64 r2]) h) [(2, ([], vtimer_Timers_of.k2 (fun  h => vtimer_Timers_of.j2   (fun r1 r2 h => κ (.tup [.ptr r1, .int .i64 r2]) h) h)))]) (envOK seatOK vtimer_Timers_of.callsOK noIfc_ok) seatOK.mixed vtimer_Timers_of.fun (Nat.le_of_ble_eq_true rfl) wv (cutL_ok ⟨(vtimer_Timers_of.s2 (fun r1 r2 h => κ (.tup [.ptr r1, .int .i64 r2]) h)), trivial⟩) s (fuel := 3000) (by rw [← vtimer_Timers_of.e]; exact hx)
  · exact hx.elim

noncomputable def vtimer_Timers_Begin.code : Code := Go.Proofs.Try.f6.body.getD .skip

theorem vtimer_Timers_Begin.fun : Fun sg.P 6 38 [.tmp 6] vtimer_Timers_Begin.code := mkFun Go.Proofs.Try.func6 (by kernel_rfl) (by kernel_rfl) (by kernel_rfl) (by kernel_rfl)

def vtimer_Timers_Begin.ret (Q : Int → Heap → Prop) (v : V) (h : Heap) : Prop :=
  match v with
  | .int .i64 r1 => Q r1 h
  | _ => False

def vtimer_Timers_Begin.C (vs : List V) (κ : V → Heap → Prop) (h : Heap) : Prop :=
  match vs with
  | [.ptr a1, .int .i64 a2, .int .u64 a3] => vtimer_Timers_Begin a1 a2 a3 (fun r1 h => κ (.int .i64 r1) h) h
  | _ => False

noncomputable def vtimer_Timers_Begin.calls : List (Nat × (List V → (V → Heap → Prop) → Heap → Prop)) := [(100, vtimer_Timers_of.C)]

noncomputable def vtimer_Timers_Begin.E (Q : Int → Heap → Prop) (cuts : List (Nat × (List Nat × (List V → Heap → Prop)))) : Env := { tis := tisT, fns := fnsT, tys := tysT, gls := [], rts := rtsT, unk := [], nxt := [], calls := vtimer_Timers_Begin.calls, ifc := noIfc, cuts := cuts, ret := vtimer_Timers_Begin.ret Q, rets := [.tmp 6], n := 38 }

theorem vtimer_Timers_Begin.callsOK {W0 : World} : CallsOK sg W0 vtimer_Timers_Begin.calls := ⟨vtimer_Timers_of.S, trivial⟩

def vtimer_Timers_Begin.k9 (I : Heap → Prop) (vs : List V) (h : Heap) : Prop :=
  match vs with
  | [] => I  h
  | _ => False

theorem vtimer_Timers_Begin.p9 : (posC vtimer_Timers_Begin.code []).filter (fun p => Nat.beq p.1 9) = [(9, atPos (posC vtimer_Timers_Begin.code []) 9)] := by kernel_rfl

theorem vtimer_Timers_Begin.e9 : ∀   (Q : Int → Heap → Prop) (h : Heap), vtimer_Timers_Begin.j9   Q h = pts (vtimer_Timers_Begin.E Q []) 3000 true (atPos (posC vtimer_Timers_Begin.code []) 9) (frAt [] []) h := by
  intros; kernel_rfl

theorem vtimer_Timers_Begin.s9 {W0 : World} (Q : Int → Heap → Prop)   : CutOK sg W0 38 (entered 6) (Post sg W0 (vtimer_Timers_Begin.ret Q)) (posC vtimer_Timers_Begin.code []) 9 [] (vtimer_Timers_Begin.k9 (fun  h => vtimer_Timers_Begin.j9   Q h)) := by
  refine cutOK_head (fun vs h hk => ?_)
  unfold vtimer_Timers_Begin.k9 at hk
  split at hk
  · skip
    intro todo hm ρ a w s f hp
    exact piece (E := vtimer_Timers_Begin.E Q []) (vs := []) (envOK seatOK vtimer_Timers_Begin.callsOK noIfc_ok) (fnOK seatOK vtimer_Timers_Begin.fun) trivial vtimer_Timers_Begin.p9 (fuel := 3000) (by rw [← vtimer_Timers_Begin.e9]; exact hk) hm s f hp
  · exact hk.elim

theorem vtimer_Timers_Begin.e : ∀ (a1 : Option Ptr) (a2 : Int) (a3 : Int) (Q : Int → Heap → Prop) (h : Heap), vtimer_Timers_Begin a1 a2 a3 Q h = pts (vtimer_Timers_Begin.E Q [(9, ([], vtimer_Timers_Begin.k9 (fun  h => vtimer_Timers_Begin.j9   Q h)))]) 3000 true [.code vtimer_Timers_Begin.code] (frOf 0 [.ptr a1, .int .i64 a2, .int .u64 a3]) h := by
  intros; kernel_rfl

theorem vtimer_Timers_Begin.S {W0 : World} : FnS sg W0 130 vtimer_Timers_Begin.C := by
  intro vs κ h wv hx w s
  unfold vtimer_Timers_Begin.C at hx
  split at hx
  · rename_i a1 a2 a3
    refine postImp (ret := vtimer_Timers_Begin.ret (fun r1 h => κ (.int .i64 r1) h)) (fun v h hr => by unfold vtimer_Timers_Begin.ret at hr; split at hr; exact hr; exact hr.elim) ?_
    exact calls_of_pts (E := vtimer_Timers_Begin.E (fun r1 h => κ (.int .i64 r1) h) [(9, ([], vtimer_Timers_Begin.k9 (fun  h => vtimer_Timers_Begin.j9   (fun r1 h => κ (.int .i64 r1) h) h)))]) (envOK seatOK vtimer_Timers_Begin.callsOK noIfc_ok) seatOK.mixed vtimer_Timers_Begin.fun (Nat.le_of_ble_eq_true rfl) wv (cutL_ok ⟨(vtimer_Timers_Begin.s9 (fun r1 h => κ (.int .i64 r1) h)), trivial⟩) s (fuel := 3000) (by rw [← vtimer_Timers_Begin.e]; exact hx)
  · exact hx.elim

noncomputable def vtimer_Timers_Set.code : Code := Go.Proofs.Try.f7.body.getD .skip

theorem vtimer_Timers_Set.fun : Fun sg.P 7 26 [.tmp 6] vtimer_Timers_Set.code := mkFun Go.Proofs.Try.func7 (by kernel_rfl) (by kernel_rfl) (by kernel_rfl) (by kernel_rfl)

def vtimer_Timers_Set.ret (Q : Int → Heap → Prop) (v : V) (h : Heap) : Prop :=
  match v with
  | .int .i64 r1 => Q r1 h
  | _ => False

def vtimer_Timers_Set.C (vs : List V) (κ : V → Heap → Prop) (h : Heap) : Prop :=
  match vs with
  | [.ptr a1, .int .i64 a2, .int .u64 a3] => vtimer_Timers_Set a1 a2 a3 (fun r1 h => κ (.int .i64 r1) h) h
  | _ => False

noncomputable def vtimer_Timers_Set.calls : List (Nat × (List V → (V → Heap → Prop) → Heap → Prop)) := [(100, vtimer_Timers_of.C)]

noncomputable def vtimer_Timers_Set.E (Q : Int → Heap → Prop) (cuts : List (Nat × (List Nat × (List V → Heap → Prop)))) : Env := { tis := tisT, fns := fnsT, tys := tysT, gls := [], rts := rtsT, unk := [], nxt := [], calls := vtimer_Timers_Set.calls, ifc := noIfc, cuts := cuts, ret := vtimer_Timers_Set.ret Q, rets := [.tmp 6], n := 26 }

theorem vtimer_Timers_Set.callsOK {W0 : World} : CallsOK sg W0 vtimer_Timers_Set.calls := ⟨vtimer_Timers_of.S, trivial⟩

theorem vtimer_Timers_Set.e : ∀ (a1 : Option Ptr) (a2 : Int) (a3 : Int) (Q : Int → Heap → Prop) (h : Heap), vtimer_Timers_Set a1 a2 a3 Q h = pts (vtimer_Timers_Set.E Q []) 3000 true [.code vtimer_Timers_Set.code] (frOf 0 [.ptr a1, .int .i64 a2, .int .u64 a3]) h := by
  intros; kernel_rfl

theorem vtimer_Timers_Set.S {W0 : World} : FnS sg W0 131 vtimer_Timers_Set.C := by
  intro vs κ h wv hx w s
  unfold vtimer_Timers_Set.C at hx
  split at hx
  · rename_i a1 a2 a3
    refine postImp (ret := vtimer_Timers_Set.ret (fun r1 h => κ (.int .i64 r1) h)) (fun v h hr => by unfold vtimer_Timers_Set.ret at hr; split at hr; exact hr; exact hr.elim) ?_
    exact calls_of_pts (E := vtimer_Timers_Set.E (fun r1 h => κ (.int .i64 r1) h) []) (envOK seatOK vtimer_Timers_Set.callsOK noIfc_ok) seatOK.mixed vtimer_Timers_Set.fun (Nat.le_of_ble_eq_true rfl) wv (cutL_ok trivial) s (fuel := 3000) (by rw [← vtimer_Timers_Set.e]; exact hx)
  · exact hx.elim

noncomputable def vtimer_timer_now.code : Code := Go.Proofs.Try.f16.body.getD .skip

theorem vtimer_timer_now.fun : Fun sg.P 16 25 [.tmp 4] vtimer_timer_now.code := mkFun Go.Proofs.Try.func16 (by kernel_rfl) (by kernel_rfl) (by kernel_rfl) (by kernel_rfl)

def vtimer_timer_now.ret (Q : Int → Heap → Prop) (v : V) (h : Heap) : Prop :=
  match v with
  | .int .u64 r1 => Q r1 h
  | _ => False

def vtimer_timer_now.C (vs : List V) (κ : V → Heap → Prop) (h : Heap) : Prop :=
  match vs with
  | [.ptr a1, .int .u64 a2] => vtimer_timer_now a1 a2 (fun r1 h => κ (.int .u64 r1) h) h
  | _ => False

noncomputable def vtimer_timer_now.calls : List (Nat × (List V → (V → Heap → Prop) → Heap → Prop)) := []

noncomputable def vtimer_timer_now.E (Q : Int → Heap → Prop) (cuts : List (Nat × (List Nat × (List V → Heap → Prop)))) : Env := { tis := tisT, fns := fnsT, tys := tysT, gls := [], rts := rtsT, unk := [], nxt := [], calls := vtimer_timer_now.calls, ifc := noIfc, cuts := cuts, ret := vtimer_timer_now.ret Q, rets := [.tmp 4], n := 25 }

theorem vtimer_timer_now.callsOK {W0 : World} : CallsOK sg W0 vtimer_timer_now.calls := trivial

theorem vtimer_timer_now.e : ∀ (a1 : Option Ptr) (a2 : Int) (Q : Int → Heap → Prop) (h : Heap), vtimer_timer_now a1 a2 Q h = pts (vtimer_timer_now.E Q []) 3000 true [.code vtimer_timer_now.code] (frOf 0 [.ptr a1, .int .u64 a2]) h := by
  intros; kernel_rfl

theorem vtimer_timer_now.S {W0 : World} : FnS sg W0 132 vtimer_timer_now.C := by
  intro vs κ h wv hx w s
  unfold vtimer_timer_now.C at hx
  split at hx
  · rename_i a1 a2
    refine postImp (ret := vtimer_timer_now.ret (fun r1 h => κ (.int .u64 r1) h)) (fun v h hr => by unfold vtimer_timer_now.ret at hr; split at hr; exact hr; exact hr.elim) ?_
    exact calls_of_pts (E := vtimer_timer_now.E (fun r1 h => κ (.int .u64 r1) h) []) (envOK seatOK vtimer_timer_now.callsOK noIfc_ok) seatOK.mixed vtimer_timer_now.fun (Nat.le_of_ble_eq_true rfl) wv (cutL_ok trivial) s (fuel := 3000) (by rw [← vtimer_timer_now.e]; exact hx)
  · exact hx.elim

noncomputable def vtimer_Timers_Halt.code : Code := Go.Proofs.Try.f8.body.getD .skip

theorem vtimer_Timers_Halt.fun : Fun sg.P 8 33 [.tmp 6] vtimer_Timers_Halt.code := mkFun Go.Proofs.Try.func8 (by kernel_rfl) (by kernel_rfl) (by kernel_rfl) (by kernel_rfl)

def vtimer_Timers_Halt.ret (Q : Int → Heap → Prop) (v : V) (h : Heap) : Prop :=
  match v with
  | .int .i64 r1 => Q r1 h
  | _ => False

def vtimer_Timers_Halt.C (vs : List V) (κ : V → Heap → Prop) (h : Heap) : Prop :=
  match vs with
  | [.ptr a1, .int .i64 a2, .int .u64 a3] => vtimer_Timers_Halt a1 a2 a3 (fun r1 h => κ (.int .i64 r1) h) h
  | _ => False

noncomputable def vtimer_Timers_Halt.calls : List (Nat × (List V → (V → Heap → Prop) → Heap → Prop)) := [(100, vtimer_Timers_of.C), (132, vtimer_timer_now.C)]

noncomputable def vtimer_Timers_Halt.E (Q : Int → Heap → Prop) (cuts : List (Nat × (List Nat × (List V → Heap → Prop)))) : Env := { tis := tisT, fns := fnsT, tys := tysT, gls := [], rts := rtsT, unk := [], nxt := [], calls := vtimer_Timers_Halt.calls, ifc := noIfc, cuts := cuts, ret := vtimer_Timers_Halt.ret Q, rets := [.tmp 6], n := 33 }

theorem vtimer_Timers_Halt.callsOK {W0 : World} : CallsOK sg W0 vtimer_Timers_Halt.calls := ⟨vtimer_Timers_of.S, vtimer_timer_now.S, trivial⟩

def vtimer_Timers_Halt.k7 (I : Heap → Prop) (vs : List V) (h : Heap) : Prop :=
  match vs with
  | [] => I  h
  | _ => False

theorem vtimer_Timers_Halt.p7 : (posC vtimer_Timers_Halt.code []).filter (fun p => Nat.beq p.1 7) = [(7, atPos (posC vtimer_Timers_Halt.code []) 7)] := by kernel_rfl

theorem vtimer_Timers_Halt.e7 : ∀   (Q : Int → Heap → Prop) (h : Heap), vtimer_Timers_Halt.j7   Q h = pts (vtimer_Timers_Halt.E Q []) 3000 true (atPos (posC vtimer_Timers_Halt.code []) 7) (frAt [] []) h := by
  intros; kernel_rfl

theorem vtimer_Timers_Halt.s7 {W0 : World} (Q : Int → Heap → Prop)   : CutOK sg W0 33 (entered 8) (Post sg W0 (vtimer_Timers_Halt.ret Q)) (posC vtimer_Timers_Halt.code []) 7 [] (vtimer_Timers_Halt.k7 (fun  h => vtimer_Timers_Halt.j7   Q h)) := by
  refine cutOK_head (fun vs h hk => ?_)
  unfold vtimer_Timers_Halt.k7 at hk
  split at hk
  · skip
    intro todo hm ρ a w s f hp
    exact piece (E := vtimer_Timers_Halt.E Q []) (vs := []) (envOK seatOK vtimer_Timers_Halt.callsOK noIfc_ok) (fnOK seatOK vtimer_Timers_Halt.fun) trivial vtimer_Timers_Halt.p7 (fuel := 3000) (by rw [← vtimer_Timers_Halt.e7]; exact hk) hm s f hp
  · exact hk.elim

theorem vtimer_Timers_Halt.e : ∀ (a1 : Option Ptr) (a2 : Int) (a3 : Int) (Q : Int → Heap → Prop) (h : Heap), vtimer_Timers_Halt a1 a2 a3 Q h = pts (vtimer_Timers_Halt.E Q [(7, ([], vtimer_Timers_Halt.k7 (fun  h => vtimer_Timers_Halt.j7   Q h)))]) 3000 true [.code vtimer_Timers_Halt.code] (frOf 0 [.ptr a1, .int .i64 a2, .int .u64 a3]) h := by
  intros; kernel_rfl

theorem vtimer_Timers_Halt.S {W0 : World} : FnS sg W0 105 vtimer_Timers_Halt.C := by
  intro vs κ h wv hx w s
  unfold vtimer_Timers_Halt.C at hx
  split at hx
  · rename_i a1 a2 a3
    refine postImp (ret := vtimer_Timers_Halt.ret (fun r1 h => κ (.int .i64 r1) h)) (fun v h hr => by unfold vtimer_Timers_Halt.ret at hr; split at hr; exact hr; exact hr.elim) ?_
    exact calls_of_pts (E := vtimer_Timers_Halt.E (fun r1 h => κ (.int .i64 r1) h) [(7, ([], vtimer_Timers_Halt.k7 (fun  h => vtimer_Timers_Halt.j7   (fun r1 h => κ (.int .i64 r1) h) h)))]) (envOK seatOK vtimer_Timers_Halt.callsOK noIfc_ok) seatOK.mixed vtimer_Timers_Halt.fun (Nat.le_of_ble_eq_true rfl) wv (cutL_ok ⟨(vtimer_Timers_Halt.s7 (fun r1 h => κ (.int .i64 r1) h)), trivial⟩) s (fuel := 3000) (by rw [← vtimer_Timers_Halt.e]; exact hx)
  · exact hx.elim

noncomputable def math_bits_Len64.code : Code := Go.Proofs.Try.f30.body.getD .skip

theorem math_bits_Len64.fun : Fun sg.P 30 25 [.tmp 2] math_bits_Len64.code := mkFun Go.Proofs.Try.func30 (by kernel_rfl) (by kernel_rfl) (by kernel_rfl) (by kernel_rfl)

def math_bits_Len64.ret (Q : Int → Heap → Prop) (v : V) (h : Heap) : Prop :=
  match v with
  | .int .i64 r1 => Q r1 h
  | _ => False

def math_bits_Len64.C (vs : List V) (κ : V → Heap → Prop) (h : Heap) : Prop :=
  match vs with
  | [.int .u64 a1] => math_bits_Len64 a1 (fun r1 h => κ (.int .i64 r1) h) h
  | _ => False

noncomputable def math_bits_Len64.calls : List (Nat × (List V → (V → Heap → Prop) → Heap → Prop)) := []

noncomputable def math_bits_Len64.E (Q : Int → Heap → Prop) (cuts : List (Nat × (List Nat × (List V → Heap → Prop)))) : Env := { tis := tisT, fns := fnsT, tys := tysT, gls := [], rts := rtsT, unk := [], nxt := [], calls := math_bits_Len64.calls, ifc := noIfc, cuts := cuts, ret := math_bits_Len64.ret Q, rets := [.tmp 2], n := 25 }

theorem math_bits_Len64.callsOK {W0 : World} : CallsOK sg W0 math_bits_Len64.calls := trivial

def math_bits_Len64.k7 (I : Int → Int → Heap → Prop) (vs : List V) (h : Heap) : Prop :=
  match vs with
  | [.int .u64 a1, .int .i64 a2] => I a1 a2 h
  | _ => False

def math_bits_Len64.k4 (I : Int → Int → Heap → Prop) (vs : List V) (h : Heap) : Prop :=
  match vs with
  | [.int .u64 a1, .int .i64 a2] => I a1 a2 h
  | _ => False

theorem math_bits_Len64.p7 : (posC math_bits_Len64.code []).filter (fun p => Nat.beq p.1 7) = [(7, atPos (posC math_bits_Len64.code []) 7)] := by kernel_rfl

theorem math_bits_Len64.e7 : ∀  (a1 : Int) (a2 : Int) (Q : Int → Heap → Prop) (h : Heap), math_bits_Len64.j7  a1 a2 Q h = pts (math_bits_Len64.E Q []) 3000 true (atPos (posC math_bits_Len64.code []) 7) (frAt [0, 2] [.int .u64 a1, .int .i64 a2]) h := by
  intros; kernel_rfl

theorem math_bits_Len64.s7 {W0 : World} (Q : Int → Heap → Prop)   : CutOK sg W0 25 (entered 30) (Post sg W0 (math_bits_Len64.ret Q)) (posC math_bits_Len64.code []) 7 [0, 2] (math_bits_Len64.k7 (fun a1 a2 h => math_bits_Len64.j7  a1 a2 Q h)) := by
  refine cutOK_head (fun vs h hk => ?_)
  unfold math_bits_Len64.k7 at hk
  split at hk
  · rename_i a1 a2
    intro todo hm ρ a w s f hp
    exact piece (E := math_bits_Len64.E Q []) (vs := [.int .u64 a1, .int .i64 a2]) (envOK seatOK math_bits_Len64.callsOK noIfc_ok) (fnOK seatOK math_bits_Len64.fun) trivial math_bits_Len64.p7 (fuel := 3000) (by rw [← math_bits_Len64.e7]; exact hk) hm s f hp
  · exact hk.elim

theorem math_bits_Len64.p4 : (posC math_bits_Len64.code []).filter (fun p => Nat.beq p.1 4) = [(4, atPos (posC math_bits_Len64.code []) 4)] := by kernel_rfl

theorem math_bits_Len64.e4 : ∀  (a1 : Int) (a2 : Int) (Q : Int → Heap → Prop) (h : Heap), math_bits_Len64.j4  a1 a2 Q h = pts (math_bits_Len64.E Q [(7, ([0, 2], math_bits_Len64.k7 (fun a1 a2 h => math_bits_Len64.j7  a1 a2 Q h)))]) 3000 true (atPos (posC math_bits_Len64.code []) 4) (frAt [0, 2] [.int .u64 a1, .int .i64 a2]) h := by
  intros; kernel_rfl

theorem math_bits_Len64.s4 {W0 : World} (Q : Int → Heap → Prop)   : CutOK sg W0 25 (entered 30) (Post sg W0 (math_bits_Len64.ret Q)) (posC math_bits_Len64.code []) 4 [0, 2] (math_bits_Len64.k4 (fun a1 a2 h => math_bits_Len64.j4  a1 a2 Q h)) := by
  refine cutOK_head (fun vs h hk => ?_)
  unfold math_bits_Len64.k4 at hk
  split at hk
  · rename_i a1 a2
    intro todo hm ρ a w s f hp
    exact piece (E := math_bits_Len64.E Q [(7, ([0, 2], math_bits_Len64.k7 (fun a1 a2 h => math_bits_Len64.j7  a1 a2 Q h)))]) (vs := [.int .u64 a1, .int .i64 a2]) (envOK seatOK math_bits_Len64.callsOK noIfc_ok) (fnOK seatOK math_bits_Len64.fun) ⟨(math_bits_Len64.s7 Q  ), trivial⟩ math_bits_Len64.p4 (fuel := 3000) (by rw [← math_bits_Len64.e4]; exact hk) hm s f hp
  · exact hk.elim

theorem math_bits_Len64.e : ∀ (a1 : Int) (Q : Int → Heap → Prop) (h : Heap), math_bits_Len64 a1 Q h = pts (math_bits_Len64.E Q [(4, ([0, 2], math_bits_Len64.k4 (fun a1 a2 h => math_bits_Len64.j4  a1 a2 Q h)))]) 3000 true [.code math_bits_Len64.code] (frOf 0 [.int .u64 a1]) h := by
  intros; kernel_rfl

theorem math_bits_Len64.S {W0 : World} : FnS sg W0 106 math_bits_Len64.C := by
  intro vs κ h wv hx w s
  unfold math_bits_Len64.C at hx
  split at hx
  · rename_i a1
    refine postImp (ret := math_bits_Len64.ret (fun r1 h => κ (.int .i64 r1) h)) (fun v h hr => by unfold math_bits_Len64.ret at hr; split at hr; exact hr; exact hr.elim) ?_
    exact calls_of_pts (E := math_bits_Len64.E (fun r1 h => κ (.int .i64 r1) h) [(4, ([0, 2], math_bits_Len64.k4 (fun a1 a2 h => math_bits_Len64.j4  a1 a2 (fun r1 h => κ (.int .i64 r1) h) h)))]) (envOK seatOK math_bits_Len64.callsOK noIfc_ok) seatOK.mixed math_bits_Len64.fun (Nat.le_of_ble_eq_true rfl) wv (cutL_ok ⟨(math_bits_Len64.s4 (fun r1 h => κ (.int .i64 r1) h)), trivial⟩) s (fuel := 3000) (by rw [← math_bits_Len64.e]; exact hx)
  · exact hx.elim

noncomputable def math_bits_Len.code : Code := Go.Proofs.Try.f19.body.getD .skip

theorem math_bits_Len.fun : Fun sg.P 19 8 [.tmp 2] math_bits_Len.code := mkFun Go.Proofs.Try.func19 (by kernel_rfl) (by kernel_rfl) (by kernel_rfl) (by kernel_rfl)

def math_bits_Len.ret (Q : Int → Heap → Prop) (v : V) (h : Heap) : Prop :=
  match v with
  | .int .i64 r1 => Q r1 h
  | _ => False

def math_bits_Len.C (vs : List V) (κ : V → Heap → Prop) (h : Heap) : Prop :=
  match vs with
  | [.int .u64 a1] => math_bits_Len a1 (fun r1 h => κ (.int .i64 r1) h) h
  | _ => False

noncomputable def math_bits_Len.calls : List (Nat × (List V → (V → Heap → Prop) → Heap → Prop)) := [(106, math_bits_Len64.C)]

noncomputable def math_bits_Len.E (Q : Int → Heap → Prop) (cuts : List (Nat × (List Nat × (List V → Heap → Prop)))) : Env := { tis := tisT, fns := fnsT, tys := tysT, gls := [], rts := rtsT, unk := [], nxt := [], calls := math_bits_Len.calls, ifc := noIfc, cuts := cuts, ret := math_bits_Len.ret Q, rets := [.tmp 2], n := 8 }

theorem math_bits_Len.callsOK {W0 : World} : CallsOK sg W0 math_bits_Len.calls := ⟨math_bits_Len64.S, trivial⟩

theorem math_bits_Len.e : ∀ (a1 : Int) (Q : Int → Heap → Prop) (h : Heap), math_bits_Len a1 Q h = pts (math_bits_Len.E Q []) 3000 true [.code math_bits_Len.code] (frOf 0 [.int .u64 a1]) h := by
  intros; kernel_rfl

theorem math_bits_Len.S {W0 : World} : FnS sg W0 107 math_bits_Len.C := by
  intro vs κ h wv hx w s
  unfold math_bits_Len.C at hx
  split at hx
  · rename_i a1
    refine postImp (ret := math_bits_Len.ret (fun r1 h => κ (.int .i64 r1) h)) (fun v h hr => by unfold math_bits_Len.ret at hr; split at hr; exact hr; exact hr.elim) ?_
    exact calls_of_pts (E := math_bits_Len.E (fun r1 h => κ (.int .i64 r1) h) []) (envOK seatOK math_bits_Len.callsOK noIfc_ok) seatOK.mixed math_bits_Len.fun (Nat.le_of_ble_eq_true rfl) wv (cutL_ok trivial) s (fuel := 3000) (by rw [← math_bits_Len.e]; exact hx)
  · exact hx.elim

noncomputable def cmp_isNaN_int.code : Code := Go.Proofs.Try.f36.body.getD .skip

theorem cmp_isNaN_int.fun : Fun sg.P 36 6 [.tmp 2] cmp_isNaN_int.code := mkFun Go.Proofs.Try.func36 (by kernel_rfl) (by kernel_rfl) (by kernel_rfl) (by kernel_rfl)

def cmp_isNaN_int.ret (Q : Bool → Heap → Prop) (v : V) (h : Heap) : Prop :=
  match v with
  | .bool r1 => Q r1 h
  | _ => False

def cmp_isNaN_int.C (vs : List V) (κ : V → Heap → Prop) (h : Heap) : Prop :=
  match vs with
  | [.int .i64 a1] => cmp_isNaN_int a1 (fun r1 h => κ (.bool r1) h) h
  | _ => False

noncomputable def cmp_isNaN_int.calls : List (Nat × (List V → (V → Heap → Prop) → Heap → Prop)) := []

noncomputable def cmp_isNaN_int.E (Q : Bool → Heap → Prop) (cuts : List (Nat × (List Nat × (List V → Heap → Prop)))) : Env := { tis := tisT, fns := fnsT, tys := tysT, gls := [], rts := rtsT, unk := [], nxt := [], calls := cmp_isNaN_int.calls, ifc := noIfc, cuts := cuts, ret := cmp_isNaN_int.ret Q, rets := [.tmp 2], n := 6 }

theorem cmp_isNaN_int.callsOK {W0 : World} : CallsOK sg W0 cmp_isNaN_int.calls := trivial

theorem cmp_isNaN_int.e : ∀ (a1 : Int) (Q : Bool → Heap → Prop) (h : Heap), cmp_isNaN_int a1 Q h = pts (cmp_isNaN_int.E Q []) 3000 true [.code cmp_isNaN_int.code] (frOf 0 [.int .i64 a1]) h := by
  intros; kernel_rfl

theorem cmp_isNaN_int.S {W0 : World} : FnS sg W0 108 cmp_isNaN_int.C := by
  intro vs κ h wv hx w s
  unfold cmp_isNaN_int.C at hx
  split at hx
  · rename_i a1
    refine postImp (ret := cmp_isNaN_int.ret (fun r1 h => κ (.bool r1) h)) (fun v h hr => by unfold cmp_isNaN_int.ret at hr; split at hr; exact hr; exact hr.elim) ?_
    exact calls_of_pts (E := cmp_isNaN_int.E (fun r1 h => κ (.bool r1) h) []) (envOK seatOK cmp_isNaN_int.callsOK noIfc_ok) seatOK.mixed cmp_isNaN_int.fun (Nat.le_of_ble_eq_true rfl) wv (cutL_ok trivial) s (fuel := 3000) (by rw [← cmp_isNaN_int.e]; exact hx)
  · exact hx.elim

noncomputable def cmp_Less_int.code : Code := Go.Proofs.Try.f26.body.getD .skip

theorem cmp_Less_int.fun : Fun sg.P 26 17 [.tmp 4] cmp_Less_int.code := mkFun Go.Proofs.Try.func26 (by kernel_rfl) (by kernel_rfl) (by kernel_rfl) (by kernel_rfl)

def cmp_Less_int.ret (Q : Bool → Heap → Prop) (v : V) (h : Heap) : Prop :=
  match v with
  | .bool r1 => Q r1 h
  | _ => False

def cmp_Less_int.C (vs : List V) (κ : V → Heap → Prop) (h : Heap) : Prop :=
  match vs with
  | [.int .i64 a1, .int .i64 a2] => cmp_Less_int a1 a2 (fun r1 h => κ (.bool r1) h) h
  | _ => False

noncomputable def cmp_Less_int.calls : List (Nat × (List V → (V → Heap → Prop) → Heap → Prop)) := [(108, cmp_isNaN_int.C)]

noncomputable def cmp_Less_int.E (Q : Bool → Heap → Prop) (cuts : List (Nat × (List Nat × (List V → Heap → Prop)))) : Env := { tis := tisT, fns := fnsT, tys := tysT, gls := [], rts := rtsT, unk := [], nxt := [], calls := cmp_Less_int.calls, ifc := noIfc, cuts := cuts, ret := cmp_Less_int.ret Q, rets := [.tmp 4], n := 17 }

theorem cmp_Less_int.callsOK {W0 : World} : CallsOK sg W0 cmp_Less_int.calls := ⟨cmp_isNaN_int.S, trivial⟩

theorem cmp_Less_int.e : ∀ (a1 : Int) (a2 : Int) (Q : Bool → Heap → Prop) (h : Heap), cmp_Less_int a1 a2 Q h = pts (cmp_Less_int.E Q []) 3000 true [.code cmp_Less_int.code] (frOf 0 [.int .i64 a1, .int .i64 a2]) h := by
  intros; kernel_rfl

theorem cmp_Less_int.S {W0 : World} : FnS sg W0 109 cmp_Less_int.C := by
  intro vs κ h wv hx w s
  unfold cmp_Less_int.C at hx
  split at hx
  · rename_i a1 a2
    refine postImp (ret := cmp_Less_int.ret (fun r1 h => κ (.bool r1) h)) (fun v h hr => by unfold cmp_Less_int.ret at hr; split at hr; exact hr; exact hr.elim) ?_
    exact calls_of_pts (E := cmp_Less_int.E (fun r1 h => κ (.bool r1) h) []) (envOK seatOK cmp_Less_int.callsOK noIfc_ok) seatOK.mixed cmp_Less_int.fun (Nat.le_of_ble_eq_true rfl) wv (cutL_ok trivial) s (fuel := 3000) (by rw [← cmp_Less_int.e]; exact hx)
  · exact hx.elim

noncomputable def slices_insertionSortOrdered_int.code : Code := Go.Proofs.Try.f20.body.getD .skip

theorem slices_insertionSortOrdered_int.fun : Fun sg.P 20 49 [] slices_insertionSortOrdered_int.code := mkFun Go.Proofs.Try.func20 (by kernel_rfl) (by kernel_rfl) (by kernel_rfl) (by kernel_rfl)

def slices_insertionSortOrdered_int.ret (Q : Heap → Prop) (v : V) (h : Heap) : Prop :=
  match v with
  | .tup [] => Q  h
  | _ => False

def slices_insertionSortOrdered_int.C (vs : List V) (κ : V → Heap → Prop) (h : Heap) : Prop :=
  match vs with
  | [.sl a1, .int .i64 a2, .int .i64 a3] => slices_insertionSortOrdered_int a1 a2 a3 (fun  h => κ (.tup []) h) h
  | _ => False

noncomputable def slices_insertionSortOrdered_int.calls : List (Nat × (List V → (V → Heap → Prop) → Heap → Prop)) := [(109, cmp_Less_int.C)]

noncomputable def slices_insertionSortOrdered_int.E (Q : Heap → Prop) (cuts : List (Nat × (List Nat × (List V → Heap → Prop)))) : Env := { tis := tisT, fns := fnsT, tys := tysT, gls := [], rts := rtsT, unk := [], nxt := [], calls := slices_insertionSortOrdered_int.calls, ifc := noIfc, cuts := cuts, ret := slices_insertionSortOrdered_int.ret Q, rets := [], n := 49 }

theorem slices_insertionSortOrdered_int.callsOK {W0 : World} : CallsOK sg W0 slices_insertionSortOrdered_int.calls := ⟨cmp_Less_int.S, trivial⟩

def slices_insertionSortOrdered_int.k5 (I : Sl → Int → Int → Int → Int → Heap → Prop) (vs : List V) (h : Heap) : Prop :=
  match vs with
  | [.sl a1, .int .i64 a2, .int .i64 a3, .int .i64 a4, .int .i64 a5] => I a1 a2 a3 a4 a5 h
  | _ => False

def slices_insertionSortOrdered_int.k2 (I : Sl → Int → Int → Int → Heap → Prop) (vs : List V) (h : Heap) : Prop :=
  match vs with
  | [.sl a1, .int .i64 a2, .int .i64 a3, .int .i64 a4] => I a1 a2 a3 a4 h
  | _ => False

def slices_insertionSortOrdered_int.k4 (I : Sl → Int → Int → Int → Int → Heap → Prop) (vs : List V) (h : Heap) : Prop :=
  match vs with
  | [.sl a1, .int .i64 a2, .int .i64 a3, .int .i64 a4, .int .i64 a5] => I a1 a2 a3 a4 a5 h
  | _ => False

def slices_insertionSortOrdered_int.k1 (I : Sl → Int → Int → Int → Heap → Prop) (vs : List V) (h : Heap) : Prop :=
  match vs with
  | [.sl a1, .int .i64 a2, .int .i64 a3, .int .i64 a4] => I a1 a2 a3 a4 h
  | _ => False

theorem slices_insertionSortOrdered_int.p5 : (posC slices_insertionSortOrdered_int.code []).filter (fun p => Nat.beq p.1 5) = [(5, atPos (posC slices_insertionSortOrdered_int.code []) 5)] := by kernel_rfl

theorem slices_insertionSortOrdered_int.e5 : ∀ (I1 : Sl → Int → Int → Int → Heap → Prop) (I4 : Sl → Int → Int → Int → Int → Heap → Prop) (a1 : Sl) (a2 : Int) (a3 : Int) (a4 : Int) (a5 : Int) (Q : Heap → Prop) (h : Heap), slices_insertionSortOrdered_int.j5 I1 I4 a1 a2 a3 a4 a5 Q h = pts (slices_insertionSortOrdered_int.E Q [(4, ([0, 1, 2, 6, 7], slices_insertionSortOrdered_int.k4 I4))]) 3000 true (atPos (posC slices_insertionSortOrdered_int.code []) 5) (frAt [0, 1, 2, 6, 7] [.sl a1, .int .i64 a2, .int .i64 a3, .int .i64 a4, .int .i64 a5]) h := by
  intros; kernel_rfl

theorem slices_insertionSortOrdered_int.s5 {W0 : World} (Q : Heap → Prop) (I1 : Sl → Int → Int → Int → Heap → Prop) (I4 : Sl → Int → Int → Int → Int → Heap → Prop) (h1 : CutOK sg W0 49 (entered 20) (Post sg W0 (slices_insertionSortOrdered_int.ret Q)) (posC slices_insertionSortOrdered_int.code []) 1 [0, 1, 2, 6] (slices_insertionSortOrdered_int.k1 I1)) (h4 : CutOK sg W0 49 (entered 20) (Post sg W0 (slices_insertionSortOrdered_int.ret Q)) (posC slices_insertionSortOrdered_int.code []) 4 [0, 1, 2, 6, 7] (slices_insertionSortOrdered_int.k4 I4)) : CutOK sg W0 49 (entered 20) (Post sg W0 (slices_insertionSortOrdered_int.ret Q)) (posC slices_insertionSortOrdered_int.code []) 5 [0, 1, 2, 6, 7] (slices_insertionSortOrdered_int.k5 (fun a1 a2 a3 a4 a5 h => slices_insertionSortOrdered_int.j5 I1 I4 a1 a2 a3 a4 a5 Q h)) := by
  refine cutOK_head (fun vs h hk => ?_)
  unfold slices_insertionSortOrdered_int.k5 at hk
  split at hk
  · rename_i a1 a2 a3 a4 a5
    intro todo hm ρ a w s f hp
    exact piece (E := slices_insertionSortOrdered_int.E Q [(4, ([0, 1, 2, 6, 7], slices_insertionSortOrdered_int.k4 I4))]) (vs := [.sl a1, .int .i64 a2, .int .i64 a3, .int .i64 a4, .int .i64 a5]) (envOK seatOK slices_insertionSortOrdered_int.callsOK noIfc_ok) (fnOK seatOK slices_insertionSortOrdered_int.fun) ⟨h4, trivial⟩ slices_insertionSortOrdered_int.p5 (fuel := 3000) (by rw [← slices_insertionSortOrdered_int.e5]; exact hk) hm s f hp
  · exact hk.elim

theorem slices_insertionSortOrdered_int.p2 : (posC slices_insertionSortOrdered_int.code []).filter (fun p => Nat.beq p.1 2) = [(2, atPos (posC slices_insertionSortOrdered_int.code []) 2)] := by kernel_rfl

theorem slices_insertionSortOrdered_int.e2 : ∀ (I1 : Sl → Int → Int → Int → Heap → Prop) (a1 : Sl) (a2 : Int) (a3 : Int) (a4 : Int) (Q : Heap → Prop) (h : Heap), slices_insertionSortOrdered_int.j2 I1 a1 a2 a3 a4 Q h = pts (slices_insertionSortOrdered_int.E Q [(1, ([0, 1, 2, 6], slices_insertionSortOrdered_int.k1 I1))]) 3000 true (atPos (posC slices_insertionSortOrdered_int.code []) 2) (frAt [0, 1, 2, 6] [.sl a1, .int .i64 a2, .int .i64 a3, .int .i64 a4]) h := by
  intros; kernel_rfl

theorem slices_insertionSortOrdered_int.s2 {W0 : World} (Q : Heap → Prop) (I1 : Sl → Int → Int → Int → Heap → Prop) (h1 : CutOK sg W0 49 (entered 20) (Post sg W0 (slices_insertionSortOrdered_int.ret Q)) (posC slices_insertionSortOrdered_int.code []) 1 [0, 1, 2, 6] (slices_insertionSortOrdered_int.k1 I1)) : CutOK sg W0 49 (entered 20) (Post sg W0 (slices_insertionSortOrdered_int.ret Q)) (posC slices_insertionSortOrdered_int.code []) 2 [0, 1, 2, 6] (slices_insertionSortOrdered_int.k2 (fun a1 a2 a3 a4 h => slices_insertionSortOrdered_int.j2 I1 a1 a2 a3 a4 Q h)) := by
  refine cutOK_head (fun vs h hk => ?_)
  unfold slices_insertionSortOrdered_int.k2 at hk
  split at hk
  · rename_i a1 a2 a3 a4
    intro todo hm ρ a w s f hp
    exact piece (E := slices_insertionSortOrdered_int.E Q [(1, ([0, 1, 2, 6], slices_insertionSortOrdered_int.k1 I1))]) (vs := [.sl a1, .int .i64 a2, .int .i64 a3, .int .i64 a4]) (envOK seatOK slices_insertionSortOrdered_int.callsOK noIfc_ok) (fnOK seatOK slices_insertionSortOrdered_int.fun) ⟨h1, trivial⟩ slices_insertionSortOrdered_int.p2 (fuel := 3000) (by rw [← slices_insertionSortOrdered_int.e2]; exact hk) hm s f hp
  · exact hk.elim

theorem slices_insertionSortOrdered_int.p4 : (posC slices_insertionSortOrdered_int.code []).filter (fun p => Nat.beq p.1 4) = [(4, atPos (posC slices_insertionSortOrdered_int.code []) 4)] := by kernel_rfl

theorem slices_insertionSortOrdered_int.e4 : ∀ (I1 : Sl → Int → Int → Int → Heap → Prop) (I4 : Sl → Int → Int → Int → Int → Heap → Prop) (a1 : Sl) (a2 : Int) (a3 : Int) (a4 : Int) (a5 : Int) (Q : Heap → Prop) (h : Heap), slices_insertionSortOrdered_int.b4 I1 I4 a1 a2 a3 a4 a5 Q h = pts (slices_insertionSortOrdered_int.E Q [(5, ([0, 1, 2, 6, 7], slices_insertionSortOrdered_int.k5 (fun a1 a2 a3 a4 a5 h => slices_insertionSortOrdered_int.j5 I1 I4 a1 a2 a3 a4 a5 Q h))), (2, ([0, 1, 2, 6], slices_insertionSortOrdered_int.k2 (fun a1 a2 a3 a4 h => slices_insertionSortOrdered_int.j2 I1 a1 a2 a3 a4 Q h)))]) 3000 true (atPos (posC slices_insertionSortOrdered_int.code []) 4) (frAt [0, 1, 2, 6, 7] [.sl a1, .int .i64 a2, .int .i64 a3, .int .i64 a4, .int .i64 a5]) h := by
  intros; kernel_rfl

theorem slices_insertionSortOrdered_int.s4 {W0 : World} (Q : Heap → Prop) (I1 : Sl → Int → Int → Int → Heap → Prop) (h1 : CutOK sg W0 49 (entered 20) (Post sg W0 (slices_insertionSortOrdered_int.ret Q)) (posC slices_insertionSortOrdered_int.code []) 1 [0, 1, 2, 6] (slices_insertionSortOrdered_int.k1 I1)) : CutOK sg W0 49 (entered 20) (Post sg W0 (slices_insertionSortOrdered_int.ret Q)) (posC slices_insertionSortOrdered_int.code []) 4 [0, 1, 2, 6, 7] (slices_insertionSortOrdered_int.k4 (fun a1 a2 a3 a4 a5 h => slices_insertionSortOrdered_int.j4 I1 a1 a2 a3 a4 a5 Q h)) := by
  refine cutOK_head (fun vs h hk => ?_)
  unfold slices_insertionSortOrdered_int.k4 at hk
  split at hk
  · rename_i a1 a2 a3 a4 a5
    refine hk (fun a1 a2 a3 a4 a5 h => Head sg W0 49 (entered 20) (Post sg W0 (slices_insertionSortOrdered_int.ret Q)) (posC slices_insertionSortOrdered_int.code []) 4 [0, 1, 2, 6, 7] [.sl a1, .int .i64 a2, .int .i64 a3, .int .i64 a4, .int .i64 a5] h) ?_
    intro a1 a2 a3 a4 a5 h hb todo hm ρ a w s f hp
    have hself : CutOK sg W0 49 (entered 20) (Post sg W0 (slices_insertionSortOrdered_int.ret Q)) (posC slices_insertionSortOrdered_int.code []) 4 [0, 1, 2, 6, 7] (slices_insertionSortOrdered_int.k4 (fun a1 a2 a3 a4 a5 h => Head sg W0 49 (entered 20) (Post sg W0 (slices_insertionSortOrdered_int.ret Q)) (posC slices_insertionSortOrdered_int.code []) 4 [0, 1, 2, 6, 7] [.sl a1, .int .i64 a2, .int .i64 a3, .int .i64 a4, .int .i64 a5] h)) := cutOK_head (fun vs h hk => by unfold slices_insertionSortOrdered_int.k4 at hk; split at hk; exact hk; exact hk.elim)
    exact piece (E := slices_insertionSortOrdered_int.E Q [(5, ([0, 1, 2, 6, 7], slices_insertionSortOrdered_int.k5 (fun a1 a2 a3 a4 a5 h => slices_insertionSortOrdered_int.j5 I1 (fun a1 a2 a3 a4 a5 h => Head sg W0 49 (entered 20) (Post sg W0 (slices_insertionSortOrdered_int.ret Q)) (posC slices_insertionSortOrdered_int.code []) 4 [0, 1, 2, 6, 7] [.sl a1, .int .i64 a2, .int .i64 a3, .int .i64 a4, .int .i64 a5] h) a1 a2 a3 a4 a5 Q h))), (2, ([0, 1, 2, 6], slices_insertionSortOrdered_int.k2 (fun a1 a2 a3 a4 h => slices_insertionSortOrdered_int.j2 I1 a1 a2 a3 a4 Q h)))]) (vs := [.sl a1, .int .i64 a2, .int .i64 a3, .int .i64 a4, .int .i64 a5]) (envOK seatOK slices_insertionSortOrdered_int.callsOK noIfc_ok) (fnOK seatOK slices_insertionSortOrdered_int.fun) ⟨(slices_insertionSortOrdered_int.s5 Q I1 (fun a1 a2 a3 a4 a5 h => Head sg W0 49 (entered 20) (Post sg W0 (slices_insertionSortOrdered_int.ret Q)) (posC slices_insertionSortOrdered_int.code []) 4 [0, 1, 2, 6, 7] [.sl a1, .int .i64 a2, .int .i64 a3, .int .i64 a4, .int .i64 a5] h) h1 hself), (slices_insertionSortOrdered_int.s2 Q I1 h1), trivial⟩ slices_insertionSortOrdered_int.p4 (fuel := 3000) (by rw [← slices_insertionSortOrdered_int.e4]; exact hb) hm s f hp
  · exact hk.elim

theorem slices_insertionSortOrdered_int.p1 : (posC slices_insertionSortOrdered_int.code []).filter (fun p => Nat.beq p.1 1) = [(1, atPos (posC slices_insertionSortOrdered_int.code []) 1)] := by kernel_rfl

theorem slices_insertionSortOrdered_int.e1 : ∀  (I1 : Sl → Int → Int → Int → Heap → Prop) (a1 : Sl) (a2 : Int) (a3 : Int) (a4 : Int) (Q : Heap → Prop) (h : Heap), slices_insertionSortOrdered_int.b1  I1 a1 a2 a3 a4 Q h = pts (slices_insertionSortOrdered_int.E Q [(4, ([0, 1, 2, 6, 7], slices_insertionSortOrdered_int.k4 (fun a1 a2 a3 a4 a5 h => slices_insertionSortOrdered_int.j4 I1 a1 a2 a3 a4 a5 Q h)))]) 3000 true (atPos (posC slices_insertionSortOrdered_int.code []) 1) (frAt [0, 1, 2, 6] [.sl a1, .int .i64 a2, .int .i64 a3, .int .i64 a4]) h := by
  intros; kernel_rfl

theorem slices_insertionSortOrdered_int.s1 {W0 : World} (Q : Heap → Prop)   : CutOK sg W0 49 (entered 20) (Post sg W0 (slices_insertionSortOrdered_int.ret Q)) (posC slices_insertionSortOrdered_int.code []) 1 [0, 1, 2, 6] (slices_insertionSortOrdered_int.k1 (fun a1 a2 a3 a4 h => slices_insertionSortOrdered_int.j1  a1 a2 a3 a4 Q h)) := by
  refine cutOK_head (fun vs h hk => ?_)
  unfold slices_insertionSortOrdered_int.k1 at hk
  split at hk
  · rename_i a1 a2 a3 a4
    refine hk (fun a1 a2 a3 a4 h => Head sg W0 49 (entered 20) (Post sg W0 (slices_insertionSortOrdered_int.ret Q)) (posC slices_insertionSortOrdered_int.code []) 1 [0, 1, 2, 6] [.sl a1, .int .i64 a2, .int .i64 a3, .int .i64 a4] h) ?_
    intro a1 a2 a3 a4 h hb todo hm ρ a w s f hp
    have hself : CutOK sg W0 49 (entered 20) (Post sg W0 (slices_insertionSortOrdered_int.ret Q)) (posC slices_insertionSortOrdered_int.code []) 1 [0, 1, 2, 6] (slices_insertionSortOrdered_int.k1 (fun a1 a2 a3 a4 h => Head sg W0 49 (entered 20) (Post sg W0 (slices_insertionSortOrdered_int.ret Q)) (posC slices_insertionSortOrdered_int.code []) 1 [0, 1, 2, 6] [.sl a1, .int .i64 a2, .int .i64 a3, .int .i64 a4] h)) := cutOK_head (fun vs h hk => by unfold slices_insertionSortOrdered_int.k1 at hk; split at hk; exact hk; exact hk.elim)
    exact piece (E := slices_insertionSortOrdered_int.E Q [(4, ([0, 1, 2, 6, 7], slices_insertionSortOrdered_int.k4 (fun a1 a2 a3 a4 a5 h => slices_insertionSortOrdered_int.j4 (fun a1 a2 a3 a4 h => Head sg W0 49 (entered 20) (Post sg W0 (slices_insertionSortOrdered_int.ret Q)) (posC slices_insertionSortOrdered_int.code []) 1 [0, 1, 2, 6] [.sl a1, .int .i64 a2, .int .i64 a3, .int .i64 a4] h) a1 a2 a3 a4 a5 Q h)))]) (vs := [.sl a1, .int .i64 a2, .int .i64 a3, .int .i64 a4]) (envOK seatOK slices_insertionSortOrdered_int.callsOK noIfc_ok) (fnOK seatOK slices_insertionSortOrdered_int.fun) ⟨(slices_insertionSortOrdered_int.s4 Q (fun a1 a2 a3 a4 h => Head sg W0 49 (entered 20) (Post sg W0 (slices_insertionSortOrdered_int.ret Q)) (posC slices_insertionSortOrdered_int.code []) 1 [0, 1, 2, 6] [.sl a1, .int .i64 a2, .int .i64 a3, .int .i64 a4] h) hself), trivial⟩ slices_insertionSortOrdered_int.p1 (fuel := 3000) (by rw [← slices_insertionSortOrdered_int.e1]; exact hb) hm s f hp
  · exact hk.elim

theorem slices_insertionSortOrdered_int.e : ∀ (a1 : Sl) (a2 : Int) (a3 : Int) (Q : Heap → Prop) (h : Heap), slices_insertionSortOrdered_int a1 a2 a3 Q h = pts (slices_insertionSortOrdered_int.E Q [(1, ([0, 1, 2, 6], slices_insertionSortOrdered_int.k1 (fun a1 a2 a3 a4 h => slices_insertionSortOrdered_int.j1  a1 a2 a3 a4 Q h)))]) 3000 true [.code slices_insertionSortOrdered_int.code] (frOf 0 [.sl a1, .int .i64 a2, .int .i64 a3]) h := by
  intros; kernel_rfl

theorem slices_insertionSortOrdered_int.S {W0 : World} : FnS sg W0 110 slices_insertionSortOrdered_int.C := by
  intro vs κ h wv hx w s
  unfold slices_insertionSortOrdered_int.C at hx
  split at hx
  · rename_i a1 a2 a3
    refine postImp (ret := slices_insertionSortOrdered_int.ret (fun  h => κ (.tup []) h)) (fun v h hr => by unfold slices_insertionSortOrdered_int.ret at hr; split at hr; exact hr; exact hr.elim) ?_
    exact calls_of_pts (E := slices_insertionSortOrdered_int.E (fun  h => κ (.tup []) h) [(1, ([0, 1, 2, 6], slices_insertionSortOrdered_int.k1 (fun a1 a2 a3 a4 h => slices_insertionSortOrdered_int.j1  a1 a2 a3 a4 (fun  h => κ (.tup []) h) h)))]) (envOK seatOK slices_insertionSortOrdered_int.callsOK noIfc_ok) seatOK.mixed slices_insertionSortOrdered_int.fun (Nat.le_of_ble_eq_true rfl) wv (cutL_ok ⟨(slices_insertionSortOrdered_int.s1 (fun  h => κ (.tup []) h)), trivial⟩) s (fuel := 3000) (by rw [← slices_insertionSortOrdered_int.e]; exact hx)
  · exact hx.elim

noncomputable def slices_siftDownOrdered_int.code : Code := Go.Proofs.Try.f31.body.getD .skip

theorem slices_siftDownOrdered_int.fun : Fun sg.P 31 76 [] slices_siftDownOrdered_int.code := mkFun Go.Proofs.Try.func31 (by kernel_rfl) (by kernel_rfl) (by kernel_rfl) (by kernel_rfl)

def slices_siftDownOrdered_int.ret (Q : Heap → Prop) (v : V) (h : Heap) : Prop :=
  match v with
  | .tup [] => Q  h
  | _ => False

def slices_siftDownOrdered_int.C (vs : List V) (κ : V → Heap → Prop) (h : Heap) : Prop :=
  match vs with
  | [.sl a1, .int .i64 a2, .int .i64 a3, .int .i64 a4] => slices_siftDownOrdered_int a1 a2 a3 a4 (fun  h => κ (.tup []) h) h
  | _ => False

noncomputable def slices_siftDownOrdered_int.calls : List (Nat × (List V → (V → Heap → Prop) → Heap → Prop)) := [(109, cmp_Less_int.C)]

noncomputable def slices_siftDownOrdered_int.E (Q : Heap → Prop) (cuts : List (Nat × (List Nat × (List V → Heap → Prop)))) : Env := { tis := tisT, fns := fnsT, tys := tysT, gls := [], rts := rtsT, unk := [], nxt := [], calls := slices_siftDownOrdered_int.calls, ifc := noIfc, cuts := cuts, ret := slices_siftDownOrdered_int.ret Q, rets := [], n := 76 }

theorem slices_siftDownOrdered_int.callsOK {W0 : World} : CallsOK sg W0 slices_siftDownOrdered_int.calls := ⟨cmp_Less_int.S, trivial⟩

def slices_siftDownOrdered_int.k7 (I : Sl → Int → Int → Int → Heap → Prop) (vs : List V) (h : Heap) : Prop :=
  match vs with
  | [.sl a1, .int .i64 a2, .int .i64 a3, .int .i64 a4] => I a1 a2 a3 a4 h
  | _ => False

def slices_siftDownOrdered_int.k5 (I : Sl → Int → Int → Int → Int → Heap → Prop) (vs : List V) (h : Heap) : Prop :=
  match vs with
  | [.sl a1, .int .i64 a2, .int .i64 a3, .int .i64 a4, .int .i64 a5] => I a1 a2 a3 a4 a5 h
  | _ => False

def slices_siftDownOrdered_int.k4 (I : Sl → Int → Int → Int → Int → Heap → Prop) (vs : List V) (h : Heap) : Prop :=
  match vs with
  | [.sl a1, .int .i64 a2, .int .i64 a3, .int .i64 a4, .int .i64 a5] => I a1 a2 a3 a4 a5 h
  | _ => False

def slices_siftDownOrdered_int.k1 (I : Sl → Int → Int → Int → Heap → Prop) (vs : List V) (h : Heap) : Prop :=
  match vs with
  | [.sl a1, .int .i64 a2, .int .i64 a3, .int .i64 a4] => I a1 a2 a3 a4 h
  | _ => False

theorem slices_siftDownOrdered_int.p7 : (posC slices_siftDownOrdered_int.code []).filter (fun p => Nat.beq p.1 7) = [(7, atPos (posC slices_siftDownOrdered_int.code []) 7)] := by kernel_rfl

theorem slices_siftDownOrdered_int.e7 : ∀ (I1 : Sl → Int → Int → Int → Heap → Prop) (a1 : Sl) (a2 : Int) (a3 : Int) (a4 : Int) (Q : Heap → Prop) (h : Heap), slices_siftDownOrdered_int.j7 I1 a1 a2 a3 a4 Q h = pts (slices_siftDownOrdered_int.E Q [(1, ([0, 2, 3, 8], slices_siftDownOrdered_int.k1 I1))]) 3000 true (atPos (posC slices_siftDownOrdered_int.code []) 7) (frAt [0, 2, 3, 9] [.sl a1, .int .i64 a2, .int .i64 a3, .int .i64 a4]) h := by
  intros; kernel_rfl

theorem slices_siftDownOrdered_int.s7 {W0 : World} (Q : Heap → Prop) (I1 : Sl → Int → Int → Int → Heap → Prop) (h1 : CutOK sg W0 76 (entered 31) (Post sg W0 (slices_siftDownOrdered_int.ret Q)) (posC slices_siftDownOrdered_int.code []) 1 [0, 2, 3, 8] (slices_siftDownOrdered_int.k1 I1)) : CutOK sg W0 76 (entered 31) (Post sg W0 (slices_siftDownOrdered_int.ret Q)) (posC slices_siftDownOrdered_int.code []) 7 [0, 2, 3, 9] (slices_siftDownOrdered_int.k7 (fun a1 a2 a3 a4 h => slices_siftDownOrdered_int.j7 I1 a1 a2 a3 a4 Q h)) := by
  refine cutOK_head (fun vs h hk => ?_)
  unfold slices_siftDownOrdered_int.k7 at hk
  split at hk
  · rename_i a1 a2 a3 a4
    intro todo hm ρ a w s f hp
    exact piece (E := slices_siftDownOrdered_int.E Q [(1, ([0, 2, 3, 8], slices_siftDownOrdered_int.k1 I1))]) (vs := [.sl a1, .int .i64 a2, .int .i64 a3, .int .i64 a4]) (envOK seatOK slices_siftDownOrdered_int.callsOK noIfc_ok) (fnOK seatOK slices_siftDownOrdered_int.fun) ⟨h1, trivial⟩ slices_siftDownOrdered_int.p7 (fuel := 3000) (by rw [← slices_siftDownOrdered_int.e7]; exact hk) hm s f hp
  · exact hk.elim

theorem slices_siftDownOrdered_int.p5 : (posC slices_siftDownOrdered_int.code []).filter (fun p => Nat.beq p.1 5) = [(5, atPos (posC slices_siftDownOrdered_int.code []) 5)] := by kernel_rfl

theorem slices_siftDownOrdered_int.e5 : ∀ (I1 : Sl → Int → Int → Int → Heap → Prop) (a1 : Sl) (a2 : Int) (a3 : Int) (a4 : Int) (a5 : Int) (Q : Heap → Prop) (h : Heap), slices_siftDownOrdered_int.j5 I1 a1 a2 a3 a4 a5 Q h = pts (slices_siftDownOrdered_int.E Q [(7, ([0, 2, 3, 9], slices_siftDownOrdered_int.k7 (fun a1 a2 a3 a4 h => slices_siftDownOrdered_int.j7 I1 a1 a2 a3 a4 Q h)))]) 3000 true (atPos (posC slices_siftDownOrdered_int.code []) 5) (frAt [0, 2, 3, 8, 9] [.sl a1, .int .i64 a2, .int .i64 a3, .int .i64 a4, .int .i64 a5]) h := by
  intros; kernel_rfl

theorem slices_siftDownOrdered_int.s5 {W0 : World} (Q : Heap → Prop) (I1 : Sl → Int → Int → Int → Heap → Prop) (h1 : CutOK sg W0 76 (entered 31) (Post sg W0 (slices_siftDownOrdered_int.ret Q)) (posC slices_siftDownOrdered_int.code []) 1 [0, 2, 3, 8] (slices_siftDownOrdered_int.k1 I1)) : CutOK sg W0 76 (entered 31) (Post sg W0 (slices_siftDownOrdered_int.ret Q)) (posC slices_siftDownOrdered_int.code []) 5 [0, 2, 3, 8, 9] (slices_siftDownOrdered_int.k5 (fun a1 a2 a3 a4 a5 h => slices_siftDownOrdered_int.j5 I1 a1 a2 a3 a4 a5 Q h)) := by
  refine cutOK_head (fun vs h hk => ?_)
  unfold slices_siftDownOrdered_int.k5 at hk
  split at hk
  · rename_i a1 a2 a3 a4 a5
    intro todo hm ρ a w s f hp
    exact piece (E := slices_siftDownOrdered_int.E Q [(7, ([0, 2, 3, 9], slices_siftDownOrdered_int.k7 (fun a1 a2 a3 a4 h => slices_siftDownOrdered_int.j7 I1 a1 a2 a3 a4 Q h)))]) (vs := [.sl a1, .int .i64 a2, .int .i64 a3, .int .i64 a4, .int .i64 a5]) (envOK seatOK slices_siftDownOrdered_int.callsOK noIfc_ok) (fnOK seatOK slices_siftDownOrdered_int.fun) ⟨(slices_siftDownOrdered_int.s7 Q I1 h1), trivial⟩ slices_siftDownOrdered_int.p5 (fuel := 3000) (by rw [← slices_siftDownOrdered_int.e5]; exact hk) hm s f hp
  · exact hk.elim

theorem slices_siftDownOrdered_int.p4 : (posC slices_siftDownOrdered_int.code []).filter (fun p => Nat.beq p.1 4) = [(4, atPos (posC slices_siftDownOrdered_int.code []) 4)] := by kernel_rfl

theorem slices_siftDownOrdered_int.e4 : ∀ (I1 : Sl → Int → Int → Int → Heap → Prop) (a1 : Sl) (a2 : Int) (a3 : Int) (a4 : Int) (a5 : Int) (Q : Heap → Prop) (h : Heap), slices_siftDownOrdered_int.j4 I1 a1 a2 a3 a4 a5 Q h = pts (slices_siftDownOrdered_int.E Q [(5, ([0, 2, 3, 8, 9], slices_siftDownOrdered_int.k5 (fun a1 a2 a3 a4 a5 h => slices_siftDownOrdered_int.j5 I1 a1 a2 a3 a4 a5 Q h)))]) 3000 true (atPos (posC slices_siftDownOrdered_int.code []) 4) (frAt [0, 2, 3, 8, 9] [.sl a1, .int .i64 a2, .int .i64 a3, .int .i64 a4, .int .i64 a5]) h := by
  intros; kernel_rfl

theorem slices_siftDownOrdered_int.s4 {W0 : World} (Q : Heap → Prop) (I1 : Sl → Int → Int → Int → Heap → Prop) (h1 : CutOK sg W0 76 (entered 31) (Post sg W0 (slices_siftDownOrdered_int.ret Q)) (posC slices_siftDownOrdered_int.code []) 1 [0, 2, 3, 8] (slices_siftDownOrdered_int.k1 I1)) : CutOK sg W0 76 (entered 31) (Post sg W0 (slices_siftDownOrdered_int.ret Q)) (posC slices_siftDownOrdered_int.code []) 4 [0, 2, 3, 8, 9] (slices_siftDownOrdered_int.k4 (fun a1 a2 a3 a4 a5 h => slices_siftDownOrdered_int.j4 I1 a1 a2 a3 a4 a5 Q h)) := by
  refine cutOK_head (fun vs h hk => ?_)
  unfold slices_siftDownOrdered_int.k4 at hk
  split at hk
  · rename_i a1 a2 a3 a4 a5
    intro todo hm ρ a w s f hp
    exact piece (E := slices_siftDownOrdered_int.E Q [(5, ([0, 2, 3, 8, 9], slices_siftDownOrdered_int.k5 (fun a1 a2 a3 a4 a5 h => slices_siftDownOrdered_int.j5 I1 a1 a2 a3 a4 a5 Q h)))]) (vs := [.sl a1, .int .i64 a2, .int .i64 a3, .int .i64 a4, .int .i64 a5]) (envOK seatOK slices_siftDownOrdered_int.callsOK noIfc_ok) (fnOK seatOK slices_siftDownOrdered_int.fun) ⟨(slices_siftDownOrdered_int.s5 Q I1 h1), trivial⟩ slices_siftDownOrdered_int.p4 (fuel := 3000) (by rw [← slices_siftDownOrdered_int.e4]; exact hk) hm s f hp
  · exact hk.elim

theorem slices_siftDownOrdered_int.p1 : (posC slices_siftDownOrdered_int.code []).filter (fun p => Nat.beq p.1 1) = [(1, atPos (posC slices_siftDownOrdered_int.code []) 1)] := by kernel_rfl

theorem slices_siftDownOrdered_int.e1 : ∀  (I1 : Sl → Int → Int → Int → Heap → Prop) (a1 : Sl) (a2 : Int) (a3 : Int) (a4 : Int) (Q : Heap → Prop) (h : Heap), slices_siftDownOrdered_int.b1  I1 a1 a2 a3 a4 Q h = pts (slices_siftDownOrdered_int.E Q [(4, ([0, 2, 3, 8, 9], slices_siftDownOrdered_int.k4 (fun a1 a2 a3 a4 a5 h => slices_siftDownOrdered_int.j4 I1 a1 a2 a3 a4 a5 Q h))), (5, ([0, 2, 3, 8, 9], slices_siftDownOrdered_int.k5 (fun a1 a2 a3 a4 a5 h => slices_siftDownOrdered_int.j5 I1 a1 a2 a3 a4 a5 Q h)))]) 3000 true (atPos (posC slices_siftDownOrdered_int.code []) 1) (frAt [0, 2, 3, 8] [.sl a1, .int .i64 a2, .int .i64 a3, .int .i64 a4]) h := by
  intros; kernel_rfl

theorem slices_siftDownOrdered_int.s1 {W0 : World} (Q : Heap → Prop)   : CutOK sg W0 76 (entered 31) (Post sg W0 (slices_siftDownOrdered_int.ret Q)) (posC slices_siftDownOrdered_int.code []) 1 [0, 2, 3, 8] (slices_siftDownOrdered_int.k1 (fun a1 a2 a3 a4 h => slices_siftDownOrdered_int.j1  a1 a2 a3 a4 Q h)) := by
  refine cutOK_head (fun vs h hk => ?_)
  unfold slices_siftDownOrdered_int.k1 at hk
  split at hk
  · rename_i a1 a2 a3 a4
    refine hk (fun a1 a2 a3 a4 h => Head sg W0 76 (entered 31) (Post sg W0 (slices_siftDownOrdered_int.ret Q)) (posC slices_siftDownOrdered_int.code []) 1 [0, 2, 3, 8] [.sl a1, .int .i64 a2, .int .i64 a3, .int .i64 a4] h) ?_
    intro a1 a2 a3 a4 h hb todo hm ρ a w s f hp
    have hself : CutOK sg W0 76 (entered 31) (Post sg W0 (slices_siftDownOrdered_int.ret Q)) (posC slices_siftDownOrdered_int.code []) 1 [0, 2, 3, 8] (slices_siftDownOrdered_int.k1 (fun a1 a2 a3 a4 h => Head sg W0 76 (entered 31) (Post sg W0 (slices_siftDownOrdered_int.ret Q)) (posC slices_siftDownOrdered_int.code []) 1 [0, 2, 3, 8] [.sl a1, .int .i64 a2, .int .i64 a3, .int .i64 a4] h)) := cutOK_head (fun vs h hk => by unfold slices_siftDownOrdered_int.k1 at hk; split at hk; exact hk; exact hk.elim)
    exact piece (E := slices_siftDownOrdered_int.E Q [(4, ([0, 2, 3, 8, 9], slices_siftDownOrdered_int.k4 (fun a1 a2 a3 a4 a5 h => slices_siftDownOrdered_int.j4 (fun a1 a2 a3 a4 h => Head sg W0 76 (entered 31) (Post sg W0 (slices_siftDownOrdered_int.ret Q)) (posC slices_siftDownOrdered_int.code []) 1 [0, 2, 3, 8] [.sl a1, .int .i64 a2, .int .i64 a3, .int .i64 a4] h) a1 a2 a3 a4 a5 Q h))), (5, ([0, 2, 3, 8, 9], slices_siftDownOrdered_int.k5 (fun a1 a2 a3 a4 a5 h => slices_siftDownOrdered_int.j5 (fun a1 a2 a3 a4 h => Head sg W0 76 (entered 31) (Post sg W0 (slices_siftDownOrdered_int.ret Q)) (posC slices_siftDownOrdered_int.code []) 1 [0, 2, 3, 8] [.sl a1, .int .i64 a2, .int .i64 a3, .int .i64 a4] h) a1 a2 a3 a4 a5 Q h)))]) (vs := [.sl a1, .int .i64 a2, .int .i64 a3, .int .i64 a4]) (envOK seatOK slices_siftDownOrdered_int.callsOK noIfc_ok) (fnOK seatOK slices_siftDownOrdered_int.fun) ⟨(slices_siftDownOrdered_int.s4 Q (fun a1 a2 a3 a4 h => Head sg W0 76 (entered 31) (Post sg W0 (slices_siftDownOrdered_int.ret Q)) (posC slices_siftDownOrdered_int.code []) 1 [0, 2, 3, 8] [.sl a1, .int .i64 a2, .int .i64 a3, .int .i64 a4] h) hself), (slices_siftDownOrdered_int.s5 Q (fun a1 a2 a3 a4 h => Head sg W0 76 (entered 31) (Post sg W0 (slices_siftDownOrdered_int.ret Q)) (posC slices_siftDownOrdered_int.code []) 1 [0, 2, 3, 8] [.sl a1, .int .i64 a2, .int .i64 a3, .int .i64 a4] h) hself), trivial⟩ slices_siftDownOrdered_int.p1 (fuel := 3000) (by rw [← slices_siftDownOrdered_int.e1]; exact hb) hm s f hp
  · exact hk.elim

theorem slices_siftDownOrdered_int.e : ∀ (a1 : Sl) (a2 : Int) (a3 : Int) (a4 : Int) (Q : Heap → Prop) (h : Heap), slices_siftDownOrdered_int a1 a2 a3 a4 Q h = pts (slices_siftDownOrdered_int.E Q [(1, ([0, 2, 3, 8], slices_siftDownOrdered_int.k1 (fun a1 a2 a3 a4 h => slices_siftDownOrdered_int.j1  a1 a2 a3 a4 Q h)))]) 3000 true [.code slices_siftDownOrdered_int.code] (frOf 0 [.sl a1, .int .i64 a2, .int .i64 a3, .int .i64 a4]) h := by
  intros; kernel_rfl

theorem slices_siftDownOrdered_int.S {W0 : World} : FnS sg W0 111 slices_siftDownOrdered_int.C := by
  intro vs κ h wv hx w s
  unfold slices_siftDownOrdered_int.C at hx
  split at hx
  · rename_i a1 a2 a3 a4
    refine postImp (ret := slices_siftDownOrdered_int.ret (fun  h => κ (.tup []) h)) (fun v h hr => by unfold slices_siftDownOrdered_int.ret at hr; split at hr; exact hr; exact hr.elim) ?_
    exact calls_of_pts (E := slices_siftDownOrdered_int.E (fun  h => κ (.tup []) h) [(1, ([0, 2, 3, 8], slices_siftDownOrdered_int.k1 (fun a1 a2 a3 a4 h => slices_siftDownOrdered_int.j1  a1 a2 a3 a4 (fun  h => κ (.tup []) h) h)))]) (envOK seatOK slices_siftDownOrdered_int.callsOK noIfc_ok) seatOK.mixed slices_siftDownOrdered_int.fun (Nat.le_of_ble_eq_true rfl) wv (cutL_ok ⟨(slices_siftDownOrdered_int.s1 (fun  h => κ (.tup []) h)), trivial⟩) s (fuel := 3000) (by rw [← slices_siftDownOrdered_int.e]; exact hx)
  · exact hx.elim

noncomputable def slices_heapSortOrdered_int.code : Code := Go.Proofs.Try.f21.body.getD .skip

theorem slices_heapSortOrdered_int.fun : Fun sg.P 21 56 [] slices_heapSortOrdered_int.code := mkFun Go.Proofs.Try.func21 (by kernel_rfl) (by kernel_rfl) (by kernel_rfl) (by kernel_rfl)

def slices_heapSortOrdered_int.ret (Q : Heap → Prop) (v : V) (h : Heap) : Prop :=
  match v with
  | .tup [] => Q  h
  | _ => False

def slices_heapSortOrdered_int.C (vs : List V) (κ : V → Heap → Prop) (h : Heap) : Prop :=
  match vs with
  | [.sl a1, .int .i64 a2, .int .i64 a3] => slices_heapSortOrdered_int a1 a2 a3 (fun  h => κ (.tup []) h) h
  | _ => False

noncomputable def slices_heapSortOrdered_int.calls : List (Nat × (List V → (V → Heap → Prop) → Heap → Prop)) := [(111, slices_siftDownOrdered_int.C)]

noncomputable def slices_heapSortOrdered_int.E (Q : Heap → Prop) (cuts : List (Nat × (List Nat × (List V → Heap → Prop)))) : Env := { tis := tisT, fns := fnsT, tys := tysT, gls := [], rts := rtsT, unk := [], nxt := [], calls := slices_heapSortOrdered_int.calls, ifc := noIfc, cuts := cuts, ret := slices_heapSortOrdered_int.ret Q, rets := [], n := 56 }

theorem slices_heapSortOrdered_int.callsOK {W0 : World} : CallsOK sg W0 slices_heapSortOrdered_int.calls := ⟨slices_siftDownOrdered_int.S, trivial⟩

def slices_heapSortOrdered_int.k9 (I : Sl → Int → Int → Int → Heap → Prop) (vs : List V) (h : Heap) : Prop :=
  match vs with
  | [.sl a1, .int .i64 a2, .int .i64 a3, .int .i64 a4] => I a1 a2 a3 a4 h
  | _ => False

def slices_heapSortOrdered_int.k8 (I : Sl → Int → Int → Int → Heap → Prop) (vs : List V) (h : Heap) : Prop :=
  match vs with
  | [.sl a1, .int .i64 a2, .int .i64 a3, .int .i64 a4] => I a1 a2 a3 a4 h
  | _ => False

def slices_heapSortOrdered_int.k4 (I : Sl → Int → Int → Int → Int → Heap → Prop) (vs : List V) (h : Heap) : Prop :=
  match vs with
  | [.sl a1, .int .i64 a2, .int .i64 a3, .int .i64 a4, .int .i64 a5] => I a1 a2 a3 a4 a5 h
  | _ => False

theorem slices_heapSortOrdered_int.p9 : (posC slices_heapSortOrdered_int.code []).filter (fun p => Nat.beq p.1 9) = [(9, atPos (posC slices_heapSortOrdered_int.code []) 9)] := by kernel_rfl

theorem slices_heapSortOrdered_int.e9 : ∀ (I8 : Sl → Int → Int → Int → Heap → Prop) (a1 : Sl) (a2 : Int) (a3 : Int) (a4 : Int) (Q : Heap → Prop) (h : Heap), slices_heapSortOrdered_int.j9 I8 a1 a2 a3 a4 Q h = pts (slices_heapSortOrdered_int.E Q [(8, ([0, 6, 7, 10], slices_heapSortOrdered_int.k8 I8))]) 3000 true (atPos (posC slices_heapSortOrdered_int.code []) 9) (frAt [0, 6, 7, 10] [.sl a1, .int .i64 a2, .int .i64 a3, .int .i64 a4]) h := by
  intros; kernel_rfl

theorem slices_heapSortOrdered_int.s9 {W0 : World} (Q : Heap → Prop) (I8 : Sl → Int → Int → Int → Heap → Prop) (h8 : CutOK sg W0 56 (entered 21) (Post sg W0 (slices_heapSortOrdered_int.ret Q)) (posC slices_heapSortOrdered_int.code []) 8 [0, 6, 7, 10] (slices_heapSortOrdered_int.k8 I8)) : CutOK sg W0 56 (entered 21) (Post sg W0 (slices_heapSortOrdered_int.ret Q)) (posC slices_heapSortOrdered_int.code []) 9 [0, 6, 7, 10] (slices_heapSortOrdered_int.k9 (fun a1 a2 a3 a4 h => slices_heapSortOrdered_int.j9 I8 a1 a2 a3 a4 Q h)) := by
  refine cutOK_head (fun vs h hk => ?_)
  unfold slices_heapSortOrdered_int.k9 at hk
  split at hk
  · rename_i a1 a2 a3 a4
    intro todo hm ρ a w s f hp
    exact piece (E := slices_heapSortOrdered_int.E Q [(8, ([0, 6, 7, 10], slices_heapSortOrdered_int.k8 I8))]) (vs := [.sl a1, .int .i64 a2, .int .i64 a3, .int .i64 a4]) (envOK seatOK slices_heapSortOrdered_int.callsOK noIfc_ok) (fnOK seatOK slices_heapSortOrdered_int.fun) ⟨h8, trivial⟩ slices_heapSortOrdered_int.p9 (fuel := 3000) (by rw [← slices_heapSortOrdered_int.e9]; exact hk) hm s f hp
  · exact hk.elim

theorem slices_heapSortOrdered_int.p8 : (posC slices_heapSortOrdered_int.code []).filter (fun p => Nat.beq p.1 8) = [(8, atPos (posC slices_heapSortOrdered_int.code []) 8)] := by kernel_rfl

theorem slices_heapSortOrdered_int.e8 : ∀  (I8 : Sl → Int → Int → Int → Heap → Prop) (a1 : Sl) (a2 : Int) (a3 : Int) (a4 : Int) (Q : Heap → Prop) (h : Heap), slices_heapSortOrdered_int.b8  I8 a1 a2 a3 a4 Q h = pts (slices_heapSortOrdered_int.E Q [(9, ([0, 6, 7, 10], slices_heapSortOrdered_int.k9 (fun a1 a2 a3 a4 h => slices_heapSortOrdered_int.j9 I8 a1 a2 a3 a4 Q h)))]) 3000 true (atPos (posC slices_heapSortOrdered_int.code []) 8) (frAt [0, 6, 7, 10] [.sl a1, .int .i64 a2, .int .i64 a3, .int .i64 a4]) h := by
  intros; kernel_rfl

theorem slices_heapSortOrdered_int.s8 {W0 : World} (Q : Heap → Prop)   : CutOK sg W0 56 (entered 21) (Post sg W0 (slices_heapSortOrdered_int.ret Q)) (posC slices_heapSortOrdered_int.code []) 8 [0, 6, 7, 10] (slices_heapSortOrdered_int.k8 (fun a1 a2 a3 a4 h => slices_heapSortOrdered_int.j8  a1 a2 a3 a4 Q h)) := by
  refine cutOK_head (fun vs h hk => ?_)
  unfold slices_heapSortOrdered_int.k8 at hk
  split at hk
  · rename_i a1 a2 a3 a4
    refine hk (fun a1 a2 a3 a4 h => Head sg W0 56 (entered 21) (Post sg W0 (slices_heapSortOrdered_int.ret Q)) (posC slices_heapSortOrdered_int.code []) 8 [0, 6, 7, 10] [.sl a1, .int .i64 a2, .int .i64 a3, .int .i64 a4] h) ?_
    intro a1 a2 a3 a4 h hb todo hm ρ a w s f hp
    have hself : CutOK sg W0 56 (entered 21) (Post sg W0 (slices_heapSortOrdered_int.ret Q)) (posC slices_heapSortOrdered_int.code []) 8 [0, 6, 7, 10] (slices_heapSortOrdered_int.k8 (fun a1 a2 a3 a4 h => Head sg W0 56 (entered 21) (Post sg W0 (slices_heapSortOrdered_int.ret Q)) (posC slices_heapSortOrdered_int.code []) 8 [0, 6, 7, 10] [.sl a1, .int .i64 a2, .int .i64 a3, .int .i64 a4] h)) := cutOK_head (fun vs h hk => by unfold slices_heapSortOrdered_int.k8 at hk; split at hk; exact hk; exact hk.elim)
    exact piece (E := slices_heapSortOrdered_int.E Q [(9, ([0, 6, 7, 10], slices_heapSortOrdered_int.k9 (fun a1 a2 a3 a4 h => slices_heapSortOrdered_int.j9 (fun a1 a2 a3 a4 h => Head sg W0 56 (entered 21) (Post sg W0 (slices_heapSortOrdered_int.ret Q)) (posC slices_heapSortOrdered_int.code []) 8 [0, 6, 7, 10] [.sl a1, .int .i64 a2, .int .i64 a3, .int .i64 a4] h) a1 a2 a3 a4 Q h)))]) (vs := [.sl a1, .int .i64 a2, .int .i64 a3, .int .i64 a4]) (envOK seatOK slices_heapSortOrdered_int.callsOK noIfc_ok) (fnOK seatOK slices_heapSortOrdered_int.fun) ⟨(slices_heapSortOrdered_int.s9 Q (fun a1 a2 a3 a4 h => Head sg W0 56 (entered 21) (Post sg W0 (slices_heapSortOrdered_int.ret Q)) (posC slices_heapSortOrdered_int.code []) 8 [0, 6, 7, 10] [.sl a1, .int .i64 a2, .int .i64 a3, .int .i64 a4] h) hself), trivial⟩ slices_heapSortOrdered_int.p8 (fuel := 3000) (by rw [← slices_heapSortOrdered_int.e8]; exact hb) hm s f hp
  · exact hk.elim

theorem slices_heapSortOrdered_int.p4 : (posC slices_heapSortOrdered_int.code []).filter (fun p => Nat.beq p.1 4) = [(4, atPos (posC slices_heapSortOrdered_int.code []) 4)] := by kernel_rfl

theorem slices_heapSortOrdered_int.e4 : ∀  (I4 : Sl → Int → Int → Int → Int → Heap → Prop) (a1 : Sl) (a2 : Int) (a3 : Int) (a4 : Int) (a5 : Int) (Q : Heap → Prop) (h : Heap), slices_heapSortOrdered_int.b4  I4 a1 a2 a3 a4 a5 Q h = pts (slices_heapSortOrdered_int.E Q [(4, ([0, 6, 7, 8, 9], slices_heapSortOrdered_int.k4 I4)), (8, ([0, 6, 7, 10], slices_heapSortOrdered_int.k8 (fun a1 a2 a3 a4 h => slices_heapSortOrdered_int.j8  a1 a2 a3 a4 Q h)))]) 3000 true (atPos (posC slices_heapSortOrdered_int.code []) 4) (frAt [0, 6, 7, 8, 9] [.sl a1, .int .i64 a2, .int .i64 a3, .int .i64 a4, .int .i64 a5]) h := by
  intros; kernel_rfl

theorem slices_heapSortOrdered_int.s4 {W0 : World} (Q : Heap → Prop)   : CutOK sg W0 56 (entered 21) (Post sg W0 (slices_heapSortOrdered_int.ret Q)) (posC slices_heapSortOrdered_int.code []) 4 [0, 6, 7, 8, 9] (slices_heapSortOrdered_int.k4 (fun a1 a2 a3 a4 a5 h => slices_heapSortOrdered_int.j4  a1 a2 a3 a4 a5 Q h)) := by
  refine cutOK_head (fun vs h hk => ?_)
  unfold slices_heapSortOrdered_int.k4 at hk
  split at hk
  · rename_i a1 a2 a3 a4 a5
    refine hk (fun a1 a2 a3 a4 a5 h => Head sg W0 56 (entered 21) (Post sg W0 (slices_heapSortOrdered_int.ret Q)) (posC slices_heapSortOrdered_int.code []) 4 [0, 6, 7, 8, 9] [.sl a1, .int .i64 a2, .int .i64 a3, .int .i64 a4, .int .i64 a5] h) ?_
    intro a1 a2 a3 a4 a5 h hb todo hm ρ a w s f hp
    have hself : CutOK sg W0 56 (entered 21) (Post sg W0 (slices_heapSortOrdered_int.ret Q)) (posC slices_heapSortOrdered_int.code []) 4 [0, 6, 7, 8, 9] (slices_heapSortOrdered_int.k4 (fun a1 a2 a3 a4 a5 h => Head sg W0 56 (entered 21) (Post sg W0 (slices_heapSortOrdered_int.ret Q)) (posC slices_heapSortOrdered_int.code []) 4 [0, 6, 7, 8, 9] [.sl a1, .int .i64 a2, .int .i64 a3, .int .i64 a4, .int .i64 a5] h)) := cutOK_head (fun vs h hk => by unfold slices_heapSortOrdered_int.k4 at hk; split at hk; exact hk; exact hk.elim)
    exact piece (E := slices_heapSortOrdered_int.E Q [(4, ([0, 6, 7, 8, 9], slices_heapSortOrdered_int.k4 (fun a1 a2 a3 a4 a5 h => Head sg W0 56 (entered 21) (Post sg W0 (slices_heapSortOrdered_int.ret Q)) (posC slices_heapSortOrdered_int.code []) 4 [0, 6, 7, 8, 9] [.sl a1, .int .i64 a2, .int .i64 a3, .int .i64 a4, .int .i64 a5] h))), (8, ([0, 6, 7, 10], slices_heapSortOrdered_int.k8 (fun a1 a2 a3 a4 h => slices_heapSortOrdered_int.j8  a1 a2 a3 a4 Q h)))]) (vs := [.sl a1, .int .i64 a2, .int .i64 a3, .int .i64 a4, .int .i64 a5]) (envOK seatOK slices_heapSortOrdered_int.callsOK noIfc_ok) (fnOK seatOK slices_heapSortOrdered_int.fun) ⟨hself, (slices_heapSortOrdered_int.s8 Q  ), trivial⟩ slices_heapSortOrdered_int.p4 (fuel := 3000) (by rw [← slices_heapSortOrdered_int.e4]; exact hb) hm s f hp
  · exact hk.elim

theorem slices_heapSortOrdered_int.e : ∀ (a1 : Sl) (a2 : Int) (a3 : Int) (Q : Heap → Prop) (h : Heap), slices_heapSortOrdered_int a1 a2 a3 Q h = pts (slices_heapSortOrdered_int.E Q [(4, ([0, 6, 7, 8, 9], slices_heapSortOrdered_int.k4 (fun a1 a2 a3 a4 a5 h => slices_heapSortOrdered_int.j4  a1 a2 a3 a4 a5 Q h)))]) 3000 true [.code slices_heapSortOrdered_int.code] (frOf 0 [.sl a1, .int .i64 a2, .int .i64 a3]) h := by
  intros; kernel_rfl

theorem slices_heapSortOrdered_int.S {W0 : World} : FnS sg W0 112 slices_heapSortOrdered_int.C := by
  intro vs κ h wv hx w s
  unfold slices_heapSortOrdered_int.C at hx
  split at hx
  · rename_i a1 a2 a3
    refine postImp (ret := slices_heapSortOrdered_int.ret (fun  h => κ (.tup []) h)) (fun v h hr => by unfold slices_heapSortOrdered_int.ret at hr; split at hr; exact hr; exact hr.elim) ?_
    exact calls_of_pts (E := slices_heapSortOrdered_int.E (fun  h => κ (.tup []) h) [(4, ([0, 6, 7, 8, 9], slices_heapSortOrdered_int.k4 (fun a1 a2 a3 a4 a5 h => slices_heapSortOrdered_int.j4  a1 a2 a3 a4 a5 (fun  h => κ (.tup []) h) h)))]) (envOK seatOK slices_heapSortOrdered_int.callsOK noIfc_ok) seatOK.mixed slices_heapSortOrdered_int.fun (Nat.le_of_ble_eq_true rfl) wv (cutL_ok ⟨(slices_heapSortOrdered_int.s4 (fun  h => κ (.tup []) h)), trivial⟩) s (fuel := 3000) (by rw [← slices_heapSortOrdered_int.e]; exact hx)
  · exact hx.elim

noncomputable def slices_order2Ordered_int.code : Code := Go.Proofs.Try.f37.body.getD .skip

theorem slices_order2Ordered_int.fun : Fun sg.P 37 28 [.tmp 8, .tmp 9] slices_order2Ordered_int.code := mkFun Go.Proofs.Try.func37 (by kernel_rfl) (by kernel_rfl) (by kernel_rfl) (by kernel_rfl)

def slices_order2Ordered_int.ret (Q : Int → Int → Heap → Prop) (v : V) (h : Heap) : Prop :=
  match v with
  | .tup [.int .i64 r1, .int .i64 r2] => Q r1 r2 h
  | _ => False

def slices_order2Ordered_int.C (vs : List V) (κ : V → Heap → Prop) (h : Heap) : Prop :=
  match vs with
  | [.sl a1, .int .i64 a2, .int .i64 a3, .ptr a4] => slices_order2Ordered_int a1 a2 a3 a4 (fun r1 r2 h => κ (.tup [.int .i64 r1, .int .i64 r2]) h) h
  | _ => False

noncomputable def slices_order2Ordered_int.calls : List (Nat × (List V → (V → Heap → Prop) → Heap → Prop)) := [(109, cmp_Less_int.C)]

noncomputable def slices_order2Ordered_int.E (Q : Int → Int → Heap → Prop) (cuts : List (Nat × (List Nat × (List V → Heap → Prop)))) : Env := { tis := tisT, fns := fnsT, tys := tysT, gls := [], rts := rtsT, unk := [], nxt := [], calls := slices_order2Ordered_int.calls, ifc := noIfc, cuts := cuts, ret := slices_order2Ordered_int.ret Q, rets := [.tmp 8, .tmp 9], n := 28 }

theorem slices_order2Ordered_int.callsOK {W0 : World} : CallsOK sg W0 slices_order2Ordered_int.calls := ⟨cmp_Less_int.S, trivial⟩

theorem slices_order2Ordered_int.e : ∀ (a1 : Sl) (a2 : Int) (a3 : Int) (a4 : Option Ptr) (Q : Int → Int → Heap → Prop) (h : Heap), slices_order2Ordered_int a1 a2 a3 a4 Q h = pts (slices_order2Ordered_int.E Q []) 3000 true [.code slices_order2Ordered_int.code] (frOf 0 [.sl a1, .int .i64 a2, .int .i64 a3, .ptr a4]) h := by
  intros; kernel_rfl

theorem slices_order2Ordered_int.S {W0 : World} : FnS sg W0 113 slices_order2Ordered_int.C := by
  intro vs κ h wv hx w s
  unfold slices_order2Ordered_int.C at hx
  split at hx
  · rename_i a1 a2 a3 a4
    refine postImp (ret := slices_order2Ordered_int.ret (fun r1 r2 h => κ (.tup [.int .i64 r1, .int .i64 r2]) h)) (fun v h hr => by unfold slices_order2Ordered_int.ret at hr; split at hr; exact hr; exact hr.elim) ?_
    exact calls_of_pts (E := slices_order2Ordered_int.E (fun r1 r2 h => κ (.tup [.int .i64 r1, .int .i64 r2]) h) []) (envOK seatOK slices_order2Ordered_int.callsOK noIfc_ok) seatOK.mixed slices_order2Ordered_int.fun (Nat.le_of_ble_eq_true rfl) wv (cutL_ok trivial) s (fuel := 3000) (by rw [← slices_order2Ordered_int.e]; exact hx)
  · exact hx.elim

noncomputable def slices_medianOrdered_int.code : Code := Go.Proofs.Try.f35.body.getD .skip

theorem slices_medianOrdered_int.fun : Fun sg.P 35 36 [.tmp 10] slices_medianOrdered_int.code := mkFun Go.Proofs.Try.func35 (by kernel_rfl) (by kernel_rfl) (by kernel_rfl) (by kernel_rfl)

def slices_medianOrdered_int.ret (Q : Int → Heap → Prop) (v : V) (h : Heap) : Prop :=
  match v with
  | .int .i64 r1 => Q r1 h
  | _ => False

def slices_medianOrdered_int.C (vs : List V) (κ : V → Heap → Prop) (h : Heap) : Prop :=
  match vs with
  | [.sl a1, .int .i64 a2, .int .i64 a3, .int .i64 a4, .ptr a5] => slices_medianOrdered_int a1 a2 a3 a4 a5 (fun r1 h => κ (.int .i64 r1) h) h
  | _ => False

noncomputable def slices_medianOrdered_int.calls : List (Nat × (List V → (V → Heap → Prop) → Heap → Prop)) := [(113, slices_order2Ordered_int.C)]

noncomputable def slices_medianOrdered_int.E (Q : Int → Heap → Prop) (cuts : List (Nat × (List Nat × (List V → Heap → Prop)))) : Env := { tis := tisT, fns := fnsT, tys := tysT, gls := [], rts := rtsT, unk := [], nxt := [], calls := slices_medianOrdered_int.calls, ifc := noIfc, cuts := cuts, ret := slices_medianOrdered_int.ret Q, rets := [.tmp 10], n := 36 }

theorem slices_medianOrdered_int.callsOK {W0 : World} : CallsOK sg W0 slices_medianOrdered_int.calls := ⟨slices_order2Ordered_int.S, trivial⟩

def slices_medianOrdered_int.k4 (I : Int → Heap → Prop) (vs : List V) (h : Heap) : Prop :=
  match vs with
  | [.int .i64 a1] => I a1 h
  | _ => False

theorem slices_medianOrdered_int.p4 : (posC slices_medianOrdered_int.code []).filter (fun p => Nat.beq p.1 4) = [(4, atPos (posC slices_medianOrdered_int.code []) 4)] := by kernel_rfl

theorem slices_medianOrdered_int.e4 : ∀  (a1 : Int) (Q : Int → Heap → Prop) (h : Heap), slices_medianOrdered_int.j4  a1 Q h = pts (slices_medianOrdered_int.E Q []) 3000 true (atPos (posC slices_medianOrdered_int.code []) 4) (frAt [2] [.int .i64 a1]) h := by
  intros; kernel_rfl

theorem slices_medianOrdered_int.s4 {W0 : World} (Q : Int → Heap → Prop)   : CutOK sg W0 36 (entered 35) (Post sg W0 (slices_medianOrdered_int.ret Q)) (posC slices_medianOrdered_int.code []) 4 [2] (slices_medianOrdered_int.k4 (fun a1 h => slices_medianOrdered_int.j4  a1 Q h)) := by
  refine cutOK_head (fun vs h hk => ?_)
  unfold slices_medianOrdered_int.k4 at hk
  split at hk
  · rename_i a1
    intro todo hm ρ a w s f hp
    exact piece (E := slices_medianOrdered_int.E Q []) (vs := [.int .i64 a1]) (envOK seatOK slices_medianOrdered_int.callsOK noIfc_ok) (fnOK seatOK slices_medianOrdered_int.fun) trivial slices_medianOrdered_int.p4 (fuel := 3000) (by rw [← slices_medianOrdered_int.e4]; exact hk) hm s f hp
  · exact hk.elim

theorem slices_medianOrdered_int.e : ∀ (a1 : Sl) (a2 : Int) (a3 : Int) (a4 : Int) (a5 : Option Ptr) (Q : Int → Heap → Prop) (h : Heap), slices_medianOrdered_int a1 a2 a3 a4 a5 Q h = pts (slices_medianOrdered_int.E Q [(4, ([2], slices_medianOrdered_int.k4 (fun a1 h => slices_medianOrdered_int.j4  a1 Q h)))]) 3000 true [.code slices_medianOrdered_int.code] (frOf 0 [.sl a1, .int .i64 a2, .int .i64 a3, .int .i64 a4, .ptr a5]) h := by
  intros; kernel_rfl

theorem slices_medianOrdered_int.S {W0 : World} : FnS sg W0 114 slices_medianOrdered_int.C := by
  intro vs κ h wv hx w s
  unfold slices_medianOrdered_int.C at hx
  split at hx
  · rename_i a1 a2 a3 a4 a5
    refine postImp (ret := slices_medianOrdered_int.ret (fun r1 h => κ (.int .i64 r1) h)) (fun v h hr => by unfold slices_medianOrdered_int.ret at hr; split at hr; exact hr; exact hr.elim) ?_
    exact calls_of_pts (E := slices_medianOrdered_int.E (fun r1 h => κ (.int .i64 r1) h) [(4, ([2], slices_medianOrdered_int.k4 (fun a1 h => slices_medianOrdered_int.j4  a1 (fun r1 h => κ (.int .i64 r1) h) h)))]) (envOK seatOK slices_medianOrdered_int.callsOK noIfc_ok) seatOK.mixed slices_medianOrdered_int.fun (Nat.le_of_ble_eq_true rfl) wv (cutL_ok ⟨(slices_medianOrdered_int.s4 (fun r1 h => κ (.int .i64 r1) h)), trivial⟩) s (fuel := 3000) (by rw [← slices_medianOrdered_int.e]; exact hx)
  · exact hx.elim

noncomputable def slices_medianAdjacentOrdered_int.code : Code := Go.Proofs.Try.f34.body.getD .skip

theorem slices_medianAdjacentOrdered_int.fun : Fun sg.P 34 15 [.tmp 6] slices_medianAdjacentOrdered_int.code := mkFun Go.Proofs.Try.func34 (by kernel_rfl) (by kernel_rfl) (by kernel_rfl) (by kernel_rfl)

def slices_medianAdjacentOrdered_int.ret (Q : Int → Heap → Prop) (v : V) (h : Heap) : Prop :=
  match v with
  | .int .i64 r1 => Q r1 h
  | _ => False

def slices_medianAdjacentOrdered_int.C (vs : List V) (κ : V → Heap → Prop) (h : Heap) : Prop :=
  match vs with
  | [.sl a1, .int .i64 a2, .ptr a3] => slices_medianAdjacentOrdered_int a1 a2 a3 (fun r1 h => κ (.int .i64 r1) h) h
  | _ => False

noncomputable def slices_medianAdjacentOrdered_int.calls : List (Nat × (List V → (V → Heap → Prop) → Heap → Prop)) := [(114, slices_medianOrdered_int.C)]

noncomputable def slices_medianAdjacentOrdered_int.E (Q : Int → Heap → Prop) (cuts : List (Nat × (List Nat × (List V → Heap → Prop)))) : Env := { tis := tisT, fns := fnsT, tys := tysT, gls := [], rts := rtsT, unk := [], nxt := [], calls := slices_medianAdjacentOrdered_int.calls, ifc := noIfc, cuts := cuts, ret := slices_medianAdjacentOrdered_int.ret Q, rets := [.tmp 6], n := 15 }

theorem slices_medianAdjacentOrdered_int.callsOK {W0 : World} : CallsOK sg W0 slices_medianAdjacentOrdered_int.calls := ⟨slices_medianOrdered_int.S, trivial⟩

theorem slices_medianAdjacentOrdered_int.e : ∀ (a1 : Sl) (a2 : Int) (a3 : Option Ptr) (Q : Int → Heap → Prop) (h : Heap), slices_medianAdjacentOrdered_int a1 a2 a3 Q h = pts (slices_medianAdjacentOrdered_int.E Q []) 3000 true [.code slices_medianAdjacentOrdered_int.code] (frOf 0 [.sl a1, .int .i64 a2, .ptr a3]) h := by
  intros; kernel_rfl

theorem slices_medianAdjacentOrdered_int.S {W0 : World} : FnS sg W0 115 slices_medianAdjacentOrdered_int.C := by
  intro vs κ h wv hx w s
  unfold slices_medianAdjacentOrdered_int.C at hx
  split at hx
  · rename_i a1 a2 a3
    refine postImp (ret := slices_medianAdjacentOrdered_int.ret (fun r1 h => κ (.int .i64 r1) h)) (fun v h hr => by unfold slices_medianAdjacentOrdered_int.ret at hr; split at hr; exact hr; exact hr.elim) ?_
    exact calls_of_pts (E := slices_medianAdjacentOrdered_int.E (fun r1 h => κ (.int .i64 r1) h) []) (envOK seatOK slices_medianAdjacentOrdered_int.callsOK noIfc_ok) seatOK.mixed slices_medianAdjacentOrdered_int.fun (Nat.le_of_ble_eq_true rfl) wv (cutL_ok trivial) s (fuel := 3000) (by rw [← slices_medianAdjacentOrdered_int.e]; exact hx)
  · exact hx.elim

noncomputable def slices_choosePivotOrdered_int.code : Code := Go.Proofs.Try.f23.body.getD .skip

theorem slices_choosePivotOrdered_int.fun : Fun sg.P 23 57 [.tmp 6, .tmp 7] slices_choosePivotOrdered_int.code := mkFun Go.Proofs.Try.func23 (by kernel_rfl) (by kernel_rfl) (by kernel_rfl) (by kernel_rfl)

def slices_choosePivotOrdered_int.ret (Q : Int → Int → Heap → Prop) (v : V) (h : Heap) : Prop :=
  match v with
  | .tup [.int .i64 r1, .int .i64 r2] => Q r1 r2 h
  | _ => False

def slices_choosePivotOrdered_int.C (vs : List V) (κ : V → Heap → Prop) (h : Heap) : Prop :=
  match vs with
  | [.sl a1, .int .i64 a2, .int .i64 a3] => slices_choosePivotOrdered_int a1 a2 a3 (fun r1 r2 h => κ (.tup [.int .i64 r1, .int .i64 r2]) h) h
  | _ => False

noncomputable def slices_choosePivotOrdered_int.calls : List (Nat × (List V → (V → Heap → Prop) → Heap → Prop)) := [(115, slices_medianAdjacentOrdered_int.C), (114, slices_medianOrdered_int.C)]

noncomputable def slices_choosePivotOrdered_int.E (Q : Int → Int → Heap → Prop) (cuts : List (Nat × (List Nat × (List V → Heap → Prop)))) : Env := { tis := tisT, fns := fnsT, tys := tysT, gls := [], rts := rtsT, unk := [], nxt := [], calls := slices_choosePivotOrdered_int.calls, ifc := noIfc, cuts := cuts, ret := slices_choosePivotOrdered_int.ret Q, rets := [.tmp 6, .tmp 7], n := 57 }

theorem slices_choosePivotOrdered_int.callsOK {W0 : World} : CallsOK sg W0 slices_choosePivotOrdered_int.calls := ⟨slices_medianAdjacentOrdered_int.S, slices_medianOrdered_int.S, trivial⟩

def slices_choosePivotOrdered_int.k11 (I : Sl → Ptr → Int → Int → Int → Heap → Prop) (vs : List V) (h : Heap) : Prop :=
  match vs with
  | [.sl a1, .ptr (some a2), .int .i64 a3, .int .i64 a4, .int .i64 a5] => I a1 a2 a3 a4 a5 h
  | _ => False

def slices_choosePivotOrdered_int.k6 (I : Sl → Int → Ptr → Int → Int → Int → Heap → Prop) (vs : List V) (h : Heap) : Prop :=
  match vs with
  | [.sl a1, .int .i64 a2, .ptr (some a3), .int .i64 a4, .int .i64 a5, .int .i64 a6] => I a1 a2 a3 a4 a5 a6 h
  | _ => False

theorem slices_choosePivotOrdered_int.p11 : (posC slices_choosePivotOrdered_int.code []).filter (fun p => Nat.beq p.1 11) = [(11, atPos (posC slices_choosePivotOrdered_int.code []) 11)] := by kernel_rfl

theorem slices_choosePivotOrdered_int.e11 : ∀  (a1 : Sl) (a2 : Ptr) (a3 : Int) (a4 : Int) (a5 : Int) (Q : Int → Int → Heap → Prop) (h : Heap), slices_choosePivotOrdered_int.j11  a1 a2 a3 a4 a5 Q h = pts (slices_choosePivotOrdered_int.E Q []) 3000 true (atPos (posC slices_choosePivotOrdered_int.code []) 11) (frAt [0, 9, 10, 11, 12] [.sl a1, .ptr (some a2), .int .i64 a3, .int .i64 a4, .int .i64 a5]) h := by
  intros; kernel_rfl

theorem slices_choosePivotOrdered_int.s11 {W0 : World} (Q : Int → Int → Heap → Prop)   : CutOK sg W0 57 (entered 23) (Post sg W0 (slices_choosePivotOrdered_int.ret Q)) (posC slices_choosePivotOrdered_int.code []) 11 [0, 9, 10, 11, 12] (slices_choosePivotOrdered_int.k11 (fun a1 a2 a3 a4 a5 h => slices_choosePivotOrdered_int.j11  a1 a2 a3 a4 a5 Q h)) := by
  refine cutOK_head (fun vs h hk => ?_)
  unfold slices_choosePivotOrdered_int.k11 at hk
  split at hk
  · rename_i a1 a2 a3 a4 a5
    intro todo hm ρ a w s f hp
    exact piece (E := slices_choosePivotOrdered_int.E Q []) (vs := [.sl a1, .ptr (some a2), .int .i64 a3, .int .i64 a4, .int .i64 a5]) (envOK seatOK slices_choosePivotOrdered_int.callsOK noIfc_ok) (fnOK seatOK slices_choosePivotOrdered_int.fun) trivial slices_choosePivotOrdered_int.p11 (fuel := 3000) (by rw [← slices_choosePivotOrdered_int.e11]; exact hk) hm s f hp
  · exact hk.elim

theorem slices_choosePivotOrdered_int.p6 : (posC slices_choosePivotOrdered_int.code []).filter (fun p => Nat.beq p.1 6) = [(6, atPos (posC slices_choosePivotOrdered_int.code []) 6)] := by kernel_rfl

theorem slices_choosePivotOrdered_int.e6 : ∀  (a1 : Sl) (a2 : Int) (a3 : Ptr) (a4 : Int) (a5 : Int) (a6 : Int) (Q : Int → Int → Heap → Prop) (h : Heap), slices_choosePivotOrdered_int.j6  a1 a2 a3 a4 a5 a6 Q h = pts (slices_choosePivotOrdered_int.E Q [(11, ([0, 9, 10, 11, 12], slices_choosePivotOrdered_int.k11 (fun a1 a2 a3 a4 a5 h => slices_choosePivotOrdered_int.j11  a1 a2 a3 a4 a5 Q h)))]) 3000 true (atPos (posC slices_choosePivotOrdered_int.code []) 6) (frAt [0, 8, 9, 10, 11, 12] [.sl a1, .int .i64 a2, .ptr (some a3), .int .i64 a4, .int .i64 a5, .int .i64 a6]) h := by
  intros; kernel_rfl

theorem slices_choosePivotOrdered_int.s6 {W0 : World} (Q : Int → Int → Heap → Prop)   : CutOK sg W0 57 (entered 23) (Post sg W0 (slices_choosePivotOrdered_int.ret Q)) (posC slices_choosePivotOrdered_int.code []) 6 [0, 8, 9, 10, 11, 12] (slices_choosePivotOrdered_int.k6 (fun a1 a2 a3 a4 a5 a6 h => slices_choosePivotOrdered_int.j6  a1 a2 a3 a4 a5 a6 Q h)) := by
  refine cutOK_head (fun vs h hk => ?_)
  unfold slices_choosePivotOrdered_int.k6 at hk
  split at hk
  · rename_i a1 a2 a3 a4 a5 a6
    intro todo hm ρ a w s f hp
    exact piece (E := slices_choosePivotOrdered_int.E Q [(11, ([0, 9, 10, 11, 12], slices_choosePivotOrdered_int.k11 (fun a1 a2 a3 a4 a5 h => slices_choosePivotOrdered_int.j11  a1 a2 a3 a4 a5 Q h)))]) (vs := [.sl a1, .int .i64 a2, .ptr (some a3), .int .i64 a4, .int .i64 a5, .int .i64 a6]) (envOK seatOK slices_choosePivotOrdered_int.callsOK noIfc_ok) (fnOK seatOK slices_choosePivotOrdered_int.fun) ⟨(slices_choosePivotOrdered_int.s11 Q  ), trivial⟩ slices_choosePivotOrdered_int.p6 (fuel := 3000) (by rw [← slices_choosePivotOrdered_int.e6]; exact hk) hm s f hp
  · exact hk.elim

theorem slices_choosePivotOrdered_int.e : ∀ (a1 : Sl) (a2 : Int) (a3 : Int) (Q : Int → Int → Heap → Prop) (h : Heap), slices_choosePivotOrdered_int a1 a2 a3 Q h = pts (slices_choosePivotOrdered_int.E Q [(6, ([0, 8, 9, 10, 11, 12], slices_choosePivotOrdered_int.k6 (fun a1 a2 a3 a4 a5 a6 h => slices_choosePivotOrdered_int.j6  a1 a2 a3 a4 a5 a6 Q h)))]) 3000 true [.code slices_choosePivotOrdered_int.code] (frOf 0 [.sl a1, .int .i64 a2, .int .i64 a3]) h := by
  intros; kernel_rfl

theorem slices_choosePivotOrdered_int.S {W0 : World} : FnS sg W0 116 slices_choosePivotOrdered_int.C := by
  intro vs κ h wv hx w s
  unfold slices_choosePivotOrdered_int.C at hx
  split at hx
  · rename_i a1 a2 a3
    refine postImp (ret := slices_choosePivotOrdered_int.ret (fun r1 r2 h => κ (.tup [.int .i64 r1, .int .i64 r2]) h)) (fun v h hr => by unfold slices_choosePivotOrdered_int.ret at hr; split at hr; exact hr; exact hr.elim) ?_
    exact calls_of_pts (E := slices_choosePivotOrdered_int.E (fun r1 r2 h => κ (.tup [.int .i64 r1, .int .i64 r2]) h) [(6, ([0, 8, 9, 10, 11, 12], slices_choosePivotOrdered_int.k6 (fun a1 a2 a3 a4 a5 a6 h => slices_choosePivotOrdered_int.j6  a1 a2 a3 a4 a5 a6 (fun r1 r2 h => κ (.tup [.int .i64 r1, .int .i64 r2]) h) h)))]) (envOK seatOK slices_choosePivotOrdered_int.callsOK noIfc_ok) seatOK.mixed slices_choosePivotOrdered_int.fun (Nat.le_of_ble_eq_true rfl) wv (cutL_ok ⟨(slices_choosePivotOrdered_int.s6 (fun r1 r2 h => κ (.tup [.int .i64 r1, .int .i64 r2]) h)), trivial⟩) s (fuel := 3000) (by rw [← slices_choosePivotOrdered_int.e]; exact hx)
  · exact hx.elim

noncomputable def slices_reverseRangeOrdered_int.code : Code := Go.Proofs.Try.f24.body.getD .skip

theorem slices_reverseRangeOrdered_int.fun : Fun sg.P 24 32 [] slices_reverseRangeOrdered_int.code := mkFun Go.Proofs.Try.func24 (by kernel_rfl) (by kernel_rfl) (by kernel_rfl) (by kernel_rfl)

def slices_reverseRangeOrdered_int.ret (Q : Heap → Prop) (v : V) (h : Heap) : Prop :=
  match v with
  | .tup [] => Q  h
  | _ => False

def slices_reverseRangeOrdered_int.C (vs : List V) (κ : V → Heap → Prop) (h : Heap) : Prop :=
  match vs with
  | [.sl a1, .int .i64 a2, .int .i64 a3] => slices_reverseRangeOrdered_int a1 a2 a3 (fun  h => κ (.tup []) h) h
  | _ => False

noncomputable def slices_reverseRangeOrdered_int.calls : List (Nat × (List V → (V → Heap → Prop) → Heap → Prop)) := []

noncomputable def slices_reverseRangeOrdered_int.E (Q : Heap → Prop) (cuts : List (Nat × (List Nat × (List V → Heap → Prop)))) : Env := { tis := tisT, fns := fnsT, tys := tysT, gls := [], rts := rtsT, unk := [], nxt := [], calls := slices_reverseRangeOrdered_int.calls, ifc := noIfc, cuts := cuts, ret := slices_reverseRangeOrdered_int.ret Q, rets := [], n := 32 }

theorem slices_reverseRangeOrdered_int.callsOK {W0 : World} : CallsOK sg W0 slices_reverseRangeOrdered_int.calls := trivial

def slices_reverseRangeOrdered_int.k2 (I : Sl → Int → Int → Heap → Prop) (vs : List V) (h : Heap) : Prop :=
  match vs with
  | [.sl a1, .int .i64 a2, .int .i64 a3] => I a1 a2 a3 h
  | _ => False

theorem slices_reverseRangeOrdered_int.p2 : (posC slices_reverseRangeOrdered_int.code []).filter (fun p => Nat.beq p.1 2) = [(2, atPos (posC slices_reverseRangeOrdered_int.code []) 2)] := by kernel_rfl

theorem slices_reverseRangeOrdered_int.e2 : ∀  (I2 : Sl → Int → Int → Heap → Prop) (a1 : Sl) (a2 : Int) (a3 : Int) (Q : Heap → Prop) (h : Heap), slices_reverseRangeOrdered_int.b2  I2 a1 a2 a3 Q h = pts (slices_reverseRangeOrdered_int.E Q [(2, ([0, 6, 7], slices_reverseRangeOrdered_int.k2 I2))]) 3000 true (atPos (posC slices_reverseRangeOrdered_int.code []) 2) (frAt [0, 6, 7] [.sl a1, .int .i64 a2, .int .i64 a3]) h := by
  intros; kernel_rfl

theorem slices_reverseRangeOrdered_int.s2 {W0 : World} (Q : Heap → Prop)   : CutOK sg W0 32 (entered 24) (Post sg W0 (slices_reverseRangeOrdered_int.ret Q)) (posC slices_reverseRangeOrdered_int.code []) 2 [0, 6, 7] (slices_reverseRangeOrdered_int.k2 (fun a1 a2 a3 h => slices_reverseRangeOrdered_int.j2  a1 a2 a3 Q h)) := by
  refine cutOK_head (fun vs h hk => ?_)
  unfold slices_reverseRangeOrdered_int.k2 at hk
  split at hk
  · rename_i a1 a2 a3
    refine hk (fun a1 a2 a3 h => Head sg W0 32 (entered 24) (Post sg W0 (slices_reverseRangeOrdered_int.ret Q)) (posC slices_reverseRangeOrdered_int.code []) 2 [0, 6, 7] [.sl a1, .int .i64 a2, .int .i64 a3] h) ?_
    intro a1 a2 a3 h hb todo hm ρ a w s f hp
    have hself : CutOK sg W0 32 (entered 24) (Post sg W0 (slices_reverseRangeOrdered_int.ret Q)) (posC slices_reverseRangeOrdered_int.code []) 2 [0, 6, 7] (slices_reverseRangeOrdered_int.k2 (fun a1 a2 a3 h => Head sg W0 32 (entered 24) (Post sg W0 (slices_reverseRangeOrdered_int.ret Q)) (posC slices_reverseRangeOrdered_int.code []) 2 [0, 6, 7] [.sl a1, .int .i64 a2, .int .i64 a3] h)) := cutOK_head (fun vs h hk => by unfold slices_reverseRangeOrdered_int.k2 at hk; split at hk; exact hk; exact hk.elim)
    exact piece (E := slices_reverseRangeOrdered_int.E Q [(2, ([0, 6, 7], slices_reverseRangeOrdered_int.k2 (fun a1 a2 a3 h => Head sg W0 32 (entered 24) (Post sg W0 (slices_reverseRangeOrdered_int.ret Q)) (posC slices_reverseRangeOrdered_int.code []) 2 [0, 6, 7] [.sl a1, .int .i64 a2, .int .i64 a3] h)))]) (vs := [.sl a1, .int .i64 a2, .int .i64 a3]) (envOK seatOK slices_reverseRangeOrdered_int.callsOK noIfc_ok) (fnOK seatOK slices_reverseRangeOrdered_int.fun) ⟨hself, trivial⟩ slices_reverseRangeOrdered_int.p2 (fuel := 3000) (by rw [← slices_reverseRangeOrdered_int.e2]; exact hb) hm s f hp
  · exact hk.elim

theorem slices_reverseRangeOrdered_int.e : ∀ (a1 : Sl) (a2 : Int) (a3 : Int) (Q : Heap → Prop) (h : Heap), slices_reverseRangeOrdered_int a1 a2 a3 Q h = pts (slices_reverseRangeOrdered_int.E Q [(2, ([0, 6, 7], slices_reverseRangeOrdered_int.k2 (fun a1 a2 a3 h => slices_reverseRangeOrdered_int.j2  a1 a2 a3 Q h)))]) 3000 true [.code slices_reverseRangeOrdered_int.code] (frOf 0 [.sl a1, .int .i64 a2, .int .i64 a3]) h := by
  intros; kernel_rfl

theorem slices_reverseRangeOrdered_int.S {W0 : World} : FnS sg W0 117 slices_reverseRangeOrdered_int.C := by
  intro vs κ h wv hx w s
  unfold slices_reverseRangeOrdered_int.C at hx
  split at hx
  · rename_i a1 a2 a3
    refine postImp (ret := slices_reverseRangeOrdered_int.ret (fun  h => κ (.tup []) h)) (fun v h hr => by unfold slices_reverseRangeOrdered_int.ret at hr; split at hr; exact hr; exact hr.elim) ?_
    exact calls_of_pts (E := slices_reverseRangeOrdered_int.E (fun  h => κ (.tup []) h) [(2, ([0, 6, 7], slices_reverseRangeOrdered_int.k2 (fun a1 a2 a3 h => slices_reverseRangeOrdered_int.j2  a1 a2 a3 (fun  h => κ (.tup []) h) h)))]) (envOK seatOK slices_reverseRangeOrdered_int.callsOK noIfc_ok) seatOK.mixed slices_reverseRangeOrdered_int.fun (Nat.le_of_ble_eq_true rfl) wv (cutL_ok ⟨(slices_reverseRangeOrdered_int.s2 (fun  h => κ (.tup []) h)), trivial⟩) s (fuel := 3000) (by rw [← slices_reverseRangeOrdered_int.e]; exact hx)
  · exact hx.elim

noncomputable def slices_partialInsertionSortOrdered_int.code : Code := Go.Proofs.Try.f25.body.getD .skip

theorem slices_partialInsertionSortOrdered_int.fun : Fun sg.P 25 133 [.tmp 6] slices_partialInsertionSortOrdered_int.code := mkFun Go.Proofs.Try.func25 (by kernel_rfl) (by kernel_rfl) (by kernel_rfl) (by kernel_rfl)

def slices_partialInsertionSortOrdered_int.ret (Q : Bool → Heap → Prop) (v : V) (h : Heap) : Prop :=
  match v with
  | .bool r1 => Q r1 h
  | _ => False

def slices_partialInsertionSortOrdered_int.C (vs : List V) (κ : V → Heap → Prop) (h : Heap) : Prop :=
  match vs with
  | [.sl a1, .int .i64 a2, .int .i64 a3] => slices_partialInsertionSortOrdered_int a1 a2 a3 (fun r1 h => κ (.bool r1) h) h
  | _ => False

noncomputable def slices_partialInsertionSortOrdered_int.calls : List (Nat × (List V → (V → Heap → Prop) → Heap → Prop)) := [(109, cmp_Less_int.C)]

noncomputable def slices_partialInsertionSortOrdered_int.E (Q : Bool → Heap → Prop) (cuts : List (Nat × (List Nat × (List V → Heap → Prop)))) : Env := { tis := tisT, fns := fnsT, tys := tysT, gls := [], rts := rtsT, unk := [], nxt := [], calls := slices_partialInsertionSortOrdered_int.calls, ifc := noIfc, cuts := cuts, ret := slices_partialInsertionSortOrdered_int.ret Q, rets := [.tmp 6], n := 133 }

theorem slices_partialInsertionSortOrdered_int.callsOK {W0 : World} : CallsOK sg W0 slices_partialInsertionSortOrdered_int.calls := ⟨cmp_Less_int.S, trivial⟩

def slices_partialInsertionSortOrdered_int.k4 (I : Sl → Int → Int → Int → Int → Heap → Prop) (vs : List V) (h : Heap) : Prop :=
  match vs with
  | [.sl a1, .int .i64 a2, .int .i64 a3, .int .i64 a4, .int .i64 a5] => I a1 a2 a3 a4 a5 h
  | _ => False

def slices_partialInsertionSortOrdered_int.k21 (I : Sl → Int → Int → Int → Int → Int → Heap → Prop) (vs : List V) (h : Heap) : Prop :=
  match vs with
  | [.sl a1, .int .i64 a2, .int .i64 a3, .int .i64 a4, .int .i64 a5, .int .i64 a6] => I a1 a2 a3 a4 a5 a6 h
  | _ => False

def slices_partialInsertionSortOrdered_int.k20 (I : Sl → Int → Int → Int → Int → Int → Heap → Prop) (vs : List V) (h : Heap) : Prop :=
  match vs with
  | [.sl a1, .int .i64 a2, .int .i64 a3, .int .i64 a4, .int .i64 a5, .int .i64 a6] => I a1 a2 a3 a4 a5 a6 h
  | _ => False

def slices_partialInsertionSortOrdered_int.k18 (I : Sl → Int → Int → Int → Int → Heap → Prop) (vs : List V) (h : Heap) : Prop :=
  match vs with
  | [.sl a1, .int .i64 a2, .int .i64 a3, .int .i64 a4, .int .i64 a5] => I a1 a2 a3 a4 a5 h
  | _ => False

def slices_partialInsertionSortOrdered_int.k15 (I : Sl → Int → Int → Int → Int → Int → Heap → Prop) (vs : List V) (h : Heap) : Prop :=
  match vs with
  | [.sl a1, .int .i64 a2, .int .i64 a3, .int .i64 a4, .int .i64 a5, .int .i64 a6] => I a1 a2 a3 a4 a5 a6 h
  | _ => False

def slices_partialInsertionSortOrdered_int.k14 (I : Sl → Int → Int → Int → Int → Int → Heap → Prop) (vs : List V) (h : Heap) : Prop :=
  match vs with
  | [.sl a1, .int .i64 a2, .int .i64 a3, .int .i64 a4, .int .i64 a5, .int .i64 a6] => I a1 a2 a3 a4 a5 a6 h
  | _ => False

def slices_partialInsertionSortOrdered_int.k12 (I : Sl → Int → Int → Int → Int → Heap → Prop) (vs : List V) (h : Heap) : Prop :=
  match vs with
  | [.sl a1, .int .i64 a2, .int .i64 a3, .int .i64 a4, .int .i64 a5] => I a1 a2 a3 a4 a5 h
  | _ => False

def slices_partialInsertionSortOrdered_int.k7 (I : Sl → Int → Int → Int → Int → Heap → Prop) (vs : List V) (h : Heap) : Prop :=
  match vs with
  | [.sl a1, .int .i64 a2, .int .i64 a3, .int .i64 a4, .int .i64 a5] => I a1 a2 a3 a4 a5 h
  | _ => False

def slices_partialInsertionSortOrdered_int.k5 (I : Sl → Int → Int → Int → Int → Heap → Prop) (vs : List V) (h : Heap) : Prop :=
  match vs with
  | [.sl a1, .int .i64 a2, .int .i64 a3, .int .i64 a4, .int .i64 a5] => I a1 a2 a3 a4 a5 h
  | _ => False

def slices_partialInsertionSortOrdered_int.k3 (I : Sl → Int → Int → Int → Int → Heap → Prop) (vs : List V) (h : Heap) : Prop :=
  match vs with
  | [.sl a1, .int .i64 a2, .int .i64 a3, .int .i64 a4, .int .i64 a5] => I a1 a2 a3 a4 a5 h
  | _ => False

theorem slices_partialInsertionSortOrdered_int.p4 : (posC slices_partialInsertionSortOrdered_int.code []).filter (fun p => Nat.beq p.1 4) = [(4, atPos (posC slices_partialInsertionSortOrdered_int.code []) 4)] := by kernel_rfl

theorem slices_partialInsertionSortOrdered_int.e4 : ∀ (I3 : Sl → Int → Int → Int → Int → Heap → Prop) (a1 : Sl) (a2 : Int) (a3 : Int) (a4 : Int) (a5 : Int) (Q : Bool → Heap → Prop) (h : Heap), slices_partialInsertionSortOrdered_int.j4 I3 a1 a2 a3 a4 a5 Q h = pts (slices_partialInsertionSortOrdered_int.E Q [(3, ([0, 1, 2, 7, 8], slices_partialInsertionSortOrdered_int.k3 I3))]) 3000 true (atPos (posC slices_partialInsertionSortOrdered_int.code []) 4) (frAt [0, 1, 2, 7, 8] [.sl a1, .int .i64 a2, .int .i64 a3, .int .i64 a4, .int .i64 a5]) h := by
  intros; kernel_rfl

theorem slices_partialInsertionSortOrdered_int.s4 {W0 : World} (Q : Bool → Heap → Prop) (I3 : Sl → Int → Int → Int → Int → Heap → Prop) (h3 : CutOK sg W0 133 (entered 25) (Post sg W0 (slices_partialInsertionSortOrdered_int.ret Q)) (posC slices_partialInsertionSortOrdered_int.code []) 3 [0, 1, 2, 7, 8] (slices_partialInsertionSortOrdered_int.k3 I3)) : CutOK sg W0 133 (entered 25) (Post sg W0 (slices_partialInsertionSortOrdered_int.ret Q)) (posC slices_partialInsertionSortOrdered_int.code []) 4 [0, 1, 2, 7, 8] (slices_partialInsertionSortOrdered_int.k4 (fun a1 a2 a3 a4 a5 h => slices_partialInsertionSortOrdered_int.j4 I3 a1 a2 a3 a4 a5 Q h)) := by
  refine cutOK_head (fun vs h hk => ?_)
  unfold slices_partialInsertionSortOrdered_int.k4 at hk
  split at hk
  · rename_i a1 a2 a3 a4 a5
    intro todo hm ρ a w s f hp
    exact piece (E := slices_partialInsertionSortOrdered_int.E Q [(3, ([0, 1, 2, 7, 8], slices_partialInsertionSortOrdered_int.k3 I3))]) (vs := [.sl a1, .int .i64 a2, .int .i64 a3, .int .i64 a4, .int .i64 a5]) (envOK seatOK slices_partialInsertionSortOrdered_int.callsOK noIfc_ok) (fnOK seatOK slices_partialInsertionSortOrdered_int.fun) ⟨h3, trivial⟩ slices_partialInsertionSortOrdered_int.p4 (fuel := 3000) (by rw [← slices_partialInsertionSortOrdered_int.e4]; exact hk) hm s f hp
  · exact hk.elim

theorem slices_partialInsertionSortOrdered_int.p21 : (posC slices_partialInsertionSortOrdered_int.code []).filter (fun p => Nat.beq p.1 21) = [(21, atPos (posC slices_partialInsertionSortOrdered_int.code []) 21)] := by kernel_rfl

theorem slices_partialInsertionSortOrdered_int.e21 : ∀ (I3 : Sl → Int → Int → Int → Int → Heap → Prop) (I20 : Sl → Int → Int → Int → Int → Int → Heap → Prop) (a1 : Sl) (a2 : Int) (a3 : Int) (a4 : Int) (a5 : Int) (a6 : Int) (Q : Bool → Heap → Prop) (h : Heap), slices_partialInsertionSortOrdered_int.j21 I3 I20 a1 a2 a3 a4 a5 a6 Q h = pts (slices_partialInsertionSortOrdered_int.E Q [(20, ([0, 1, 2, 7, 8, 10], slices_partialInsertionSortOrdered_int.k20 I20))]) 3000 true (atPos (posC slices_partialInsertionSortOrdered_int.code []) 21) (frAt [0, 1, 2, 7, 8, 10] [.sl a1, .int .i64 a2, .int .i64 a3, .int .i64 a4, .int .i64 a5, .int .i64 a6]) h := by
  intros; kernel_rfl

theorem slices_partialInsertionSortOrdered_int.s21 {W0 : World} (Q : Bool → Heap → Prop) (I3 : Sl → Int → Int → Int → Int → Heap → Prop) (I20 : Sl → Int → Int → Int → Int → Int → Heap → Prop) (h3 : CutOK sg W0 133 (entered 25) (Post sg W0 (slices_partialInsertionSortOrdered_int.ret Q)) (posC slices_partialInsertionSortOrdered_int.code []) 3 [0, 1, 2, 7, 8] (slices_partialInsertionSortOrdered_int.k3 I3)) (h20 : CutOK sg W0 133 (entered 25) (Post sg W0 (slices_partialInsertionSortOrdered_int.ret Q)) (posC slices_partialInsertionSortOrdered_int.code []) 20 [0, 1, 2, 7, 8, 10] (slices_partialInsertionSortOrdered_int.k20 I20)) : CutOK sg W0 133 (entered 25) (Post sg W0 (slices_partialInsertionSortOrdered_int.ret Q)) (posC slices_partialInsertionSortOrdered_int.code []) 21 [0, 1, 2, 7, 8, 10] (slices_partialInsertionSortOrdered_int.k21 (fun a1 a2 a3 a4 a5 a6 h => slices_partialInsertionSortOrdered_int.j21 I3 I20 a1 a2 a3 a4 a5 a6 Q h)) := by
  refine cutOK_head (fun vs h hk => ?_)
  unfold slices_partialInsertionSortOrdered_int.k21 at hk
  split at hk
  · rename_i a1 a2 a3 a4 a5 a6
    intro todo hm ρ a w s f hp
    exact piece (E := slices_partialInsertionSortOrdered_int.E Q [(20, ([0, 1, 2, 7, 8, 10], slices_partialInsertionSortOrdered_int.k20 I20))]) (vs := [.sl a1, .int .i64 a2, .int .i64 a3, .int .i64 a4, .int .i64 a5, .int .i64 a6]) (envOK seatOK slices_partialInsertionSortOrdered_int.callsOK noIfc_ok) (fnOK seatOK slices_partialInsertionSortOrdered_int.fun) ⟨h20, trivial⟩ slices_partialInsertionSortOrdered_int.p21 (fuel := 3000) (by rw [← slices_partialInsertionSortOrdered_int.e21]; exact hk) hm s f hp
  · exact hk.elim

theorem slices_partialInsertionSortOrdered_int.p20 : (posC slices_partialInsertionSortOrdered_int.code []).filter (fun p => Nat.beq p.1 20) = [(20, atPos (posC slices_partialInsertionSortOrdered_int.code []) 20)] := by kernel_rfl

theorem slices_partialInsertionSortOrdered_int.e20 : ∀ (I3 : Sl → Int → Int → Int → Int → Heap → Prop) (I20 : Sl → Int → Int → Int → Int → Int → Heap → Prop) (a1 : Sl) (a2 : Int) (a3 : Int) (a4 : Int) (a5 : Int) (a6 : Int) (Q : Bool → Heap → Prop) (h : Heap), slices_partialInsertionSortOrdered_int.b20 I3 I20 a1 a2 a3 a4 a5 a6 Q h = pts (slices_partialInsertionSortOrdered_int.E Q [(4, ([0, 1, 2, 7, 8], slices_partialInsertionSortOrdered_int.k4 (fun a1 a2 a3 a4 a5 h => slices_partialInsertionSortOrdered_int.j4 I3 a1 a2 a3 a4 a5 Q h))), (21, ([0, 1, 2, 7, 8, 10], slices_partialInsertionSortOrdered_int.k21 (fun a1 a2 a3 a4 a5 a6 h => slices_partialInsertionSortOrdered_int.j21 I3 I20 a1 a2 a3 a4 a5 a6 Q h)))]) 3000 true (atPos (posC slices_partialInsertionSortOrdered_int.code []) 20) (frAt [0, 1, 2, 7, 8, 10] [.sl a1, .int .i64 a2, .int .i64 a3, .int .i64 a4, .int .i64 a5, .int .i64 a6]) h := by
  intros; kernel_rfl

theorem slices_partialInsertionSortOrdered_int.s20 {W0 : World} (Q : Bool → Heap → Prop) (I3 : Sl → Int → Int → Int → Int → Heap → Prop) (h3 : CutOK sg W0 133 (entered 25) (Post sg W0 (slices_partialInsertionSortOrdered_int.ret Q)) (posC slices_partialInsertionSortOrdered_int.code []) 3 [0, 1, 2, 7, 8] (slices_partialInsertionSortOrdered_int.k3 I3)) : CutOK sg W0 133 (entered 25) (Post sg W0 (slices_partialInsertionSortOrdered_int.ret Q)) (posC slices_partialInsertionSortOrdered_int.code []) 20 [0, 1, 2, 7, 8, 10] (slices_partialInsertionSortOrdered_int.k20 (fun a1 a2 a3 a4 a5 a6 h => slices_partialInsertionSortOrdered_int.j20 I3 a1 a2 a3 a4 a5 a6 Q h)) := by
  refine cutOK_head (fun vs h hk => ?_)
  unfold slices_partialInsertionSortOrdered_int.k20 at hk
  split at hk
  · rename_i a1 a2 a3 a4 a5 a6
    refine hk (fun a1 a2 a3 a4 a5 a6 h => Head sg W0 133 (entered 25) (Post sg W0 (slices_partialInsertionSortOrdered_int.ret Q)) (posC slices_partialInsertionSortOrdered_int.code []) 20 [0, 1, 2, 7, 8, 10] [.sl a1, .int .i64 a2, .int .i64 a3, .int .i64 a4, .int .i64 a5, .int .i64 a6] h) ?_
    intro a1 a2 a3 a4 a5 a6 h hb todo hm ρ a w s f hp
    have hself : CutOK sg W0 133 (entered 25) (Post sg W0 (slices_partialInsertionSortOrdered_int.ret Q)) (posC slices_partialInsertionSortOrdered_int.code []) 20 [0, 1, 2, 7, 8, 10] (slices_partialInsertionSortOrdered_int.k20 (fun a1 a2 a3 a4 a5 a6 h => Head sg W0 133 (entered 25) (Post sg W0 (slices_partialInsertionSortOrdered_int.ret Q)) (posC slices_partialInsertionSortOrdered_int.code []) 20 [0, 1, 2, 7, 8, 10] [.sl a1, .int .i64 a2, .int .i64 a3, .int .i64 a4, .int .i64 a5, .int .i64 a6] h)) := cutOK_head (fun vs h hk => by unfold slices_partialInsertionSortOrdered_int.k20 at hk; split at hk; exact hk; exact hk.elim)
    exact piece (E := slices_partialInsertionSortOrdered_int.E Q [(4, ([0, 1, 2, 7, 8], slices_partialInsertionSortOrdered_int.k4 (fun a1 a2 a3 a4 a5 h => slices_partialInsertionSortOrdered_int.j4 I3 a1 a2 a3 a4 a5 Q h))), (21, ([0, 1, 2, 7, 8, 10], slices_partialInsertionSortOrdered_int.k21 (fun a1 a2 a3 a4 a5 a6 h => slices_partialInsertionSortOrdered_int.j21 I3 (fun a1 a2 a3 a4 a5 a6 h => Head sg W0 133 (entered 25) (Post sg W0 (slices_partialInsertionSortOrdered_int.ret Q)) (posC slices_partialInsertionSortOrdered_int.code []) 20 [0, 1, 2, 7, 8, 10] [.sl a1, .int .i64 a2, .int .i64 a3, .int .i64 a4, .int .i64 a5, .int .i64 a6] h) a1 a2 a3 a4 a5 a6 Q h)))]) (vs := [.sl a1, .int .i64 a2, .int .i64 a3, .int .i64 a4, .int .i64 a5, .int .i64 a6]) (envOK seatOK slices_partialInsertionSortOrdered_int.callsOK noIfc_ok) (fnOK seatOK slices_partialInsertionSortOrdered_int.fun) ⟨(slices_partialInsertionSortOrdered_int.s4 Q I3 h3), (slices_partialInsertionSortOrdered_int.s21 Q I3 (fun a1 a2 a3 a4 a5 a6 h => Head sg W0 133 (entered 25) (Post sg W0 (slices_partialInsertionSortOrdered_int.ret Q)) (posC slices_partialInsertionSortOrdered_int.code []) 20 [0, 1, 2, 7, 8, 10] [.sl a1, .int .i64 a2, .int .i64 a3, .int .i64 a4, .int .i64 a5, .int .i64 a6] h) h3 hself), trivial⟩ slices_partialInsertionSortOrdered_int.p20 (fuel := 3000) (by rw [← slices_partialInsertionSortOrdered_int.e20]; exact hb) hm s f hp
  · exact hk.elim

theorem slices_partialInsertionSortOrdered_int.p18 : (posC slices_partialInsertionSortOrdered_int.code []).filter (fun p => Nat.beq p.1 18) = [(18, atPos (posC slices_partialInsertionSortOrdered_int.code []) 18)] := by kernel_rfl

theorem slices_partialInsertionSortOrdered_int.e18 : ∀ (I3 : Sl → Int → Int → Int → Int → Heap → Prop) (a1 : Sl) (a2 : Int) (a3 : Int) (a4 : Int) (a5 : Int) (Q : Bool → Heap → Prop) (h : Heap), slices_partialInsertionSortOrdered_int.j18 I3 a1 a2 a3 a4 a5 Q h = pts (slices_partialInsertionSortOrdered_int.E Q [(20, ([0, 1, 2, 7, 8, 10], slices_partialInsertionSortOrdered_int.k20 (fun a1 a2 a3 a4 a5 a6 h => slices_partialInsertionSortOrdered_int.j20 I3 a1 a2 a3 a4 a5 a6 Q h))), (4, ([0, 1, 2, 7, 8], slices_partialInsertionSortOrdered_int.k4 (fun a1 a2 a3 a4 a5 h => slices_partialInsertionSortOrdered_int.j4 I3 a1 a2 a3 a4 a5 Q h)))]) 3000 true (atPos (posC slices_partialInsertionSortOrdered_int.code []) 18) (frAt [0, 1, 2, 7, 8] [.sl a1, .int .i64 a2, .int .i64 a3, .int .i64 a4, .int .i64 a5]) h := by
  intros; kernel_rfl

theorem slices_partialInsertionSortOrdered_int.s18 {W0 : World} (Q : Bool → Heap → Prop) (I3 : Sl → Int → Int → Int → Int → Heap → Prop) (h3 : CutOK sg W0 133 (entered 25) (Post sg W0 (slices_partialInsertionSortOrdered_int.ret Q)) (posC slices_partialInsertionSortOrdered_int.code []) 3 [0, 1, 2, 7, 8] (slices_partialInsertionSortOrdered_int.k3 I3)) : CutOK sg W0 133 (entered 25) (Post sg W0 (slices_partialInsertionSortOrdered_int.ret Q)) (posC slices_partialInsertionSortOrdered_int.code []) 18 [0, 1, 2, 7, 8] (slices_partialInsertionSortOrdered_int.k18 (fun a1 a2 a3 a4 a5 h => slices_partialInsertionSortOrdered_int.j18 I3 a1 a2 a3 a4 a5 Q h)) := by
  refine cutOK_head (fun vs h hk => ?_)
  unfold slices_partialInsertionSortOrdered_int.k18 at hk
  split at hk
  · rename_i a1 a2 a3 a4 a5
    intro todo hm ρ a w s f hp
    exact piece (E := slices_partialInsertionSortOrdered_int.E Q [(20, ([0, 1, 2, 7, 8, 10], slices_partialInsertionSortOrdered_int.k20 (fun a1 a2 a3 a4 a5 a6 h => slices_partialInsertionSortOrdered_int.j20 I3 a1 a2 a3 a4 a5 a6 Q h))), (4, ([0, 1, 2, 7, 8], slices_partialInsertionSortOrdered_int.k4 (fun a1 a2 a3 a4 a5 h => slices_partialInsertionSortOrdered_int.j4 I3 a1 a2 a3 a4 a5 Q h)))]) (vs := [.sl a1, .int .i64 a2, .int .i64 a3, .int .i64 a4, .int .i64 a5]) (envOK seatOK slices_partialInsertionSortOrdered_int.callsOK noIfc_ok) (fnOK seatOK slices_partialInsertionSortOrdered_int.fun) ⟨(slices_partialInsertionSortOrdered_int.s20 Q I3 h3), (slices_partialInsertionSortOrdered_int.s4 Q I3 h3), trivial⟩ slices_partialInsertionSortOrdered_int.p18 (fuel := 3000) (by rw [← slices_partialInsertionSortOrdered_int.e18]; exact hk) hm s f hp
  · exact hk.elim

theorem slices_partialInsertionSortOrdered_int.p15 : (posC slices_partialInsertionSortOrdered_int.code []).filter (fun p => Nat.beq p.1 15) = [(15, atPos (posC slices_partialInsertionSortOrdered_int.code []) 15)] := by kernel_rfl

theorem slices_partialInsertionSortOrdered_int.e15 : ∀ (I3 : Sl → Int → Int → Int → Int → Heap → Prop) (I14 : Sl → Int → Int → Int → Int → Int → Heap → Prop) (a1 : Sl) (a2 : Int) (a3 : Int) (a4 : Int) (a5 : Int) (a6 : Int) (Q : Bool → Heap → Prop) (h : Heap), slices_partialInsertionSortOrdered_int.j15 I3 I14 a1 a2 a3 a4 a5 a6 Q h = pts (slices_partialInsertionSortOrdered_int.E Q [(14, ([0, 1, 2, 7, 8, 9], slices_partialInsertionSortOrdered_int.k14 I14))]) 3000 true (atPos (posC slices_partialInsertionSortOrdered_int.code []) 15) (frAt [0, 1, 2, 7, 8, 9] [.sl a1, .int .i64 a2, .int .i64 a3, .int .i64 a4, .int .i64 a5, .int .i64 a6]) h := by
  intros; kernel_rfl

theorem slices_partialInsertionSortOrdered_int.s15 {W0 : World} (Q : Bool → Heap → Prop) (I3 : Sl → Int → Int → Int → Int → Heap → Prop) (I14 : Sl → Int → Int → Int → Int → Int → Heap → Prop) (h3 : CutOK sg W0 133 (entered 25) (Post sg W0 (slices_partialInsertionSortOrdered_int.ret Q)) (posC slices_partialInsertionSortOrdered_int.code []) 3 [0, 1, 2, 7, 8] (slices_partialInsertionSortOrdered_int.k3 I3)) (h14 : CutOK sg W0 133 (entered 25) (Post sg W0 (slices_partialInsertionSortOrdered_int.ret Q)) (posC slices_partialInsertionSortOrdered_int.code []) 14 [0, 1, 2, 7, 8, 9] (slices_partialInsertionSortOrdered_int.k14 I14)) : CutOK sg W0 133 (entered 25) (Post sg W0 (slices_partialInsertionSortOrdered_int.ret Q)) (posC slices_partialInsertionSortOrdered_int.code []) 15 [0, 1, 2, 7, 8, 9] (slices_partialInsertionSortOrdered_int.k15 (fun a1 a2 a3 a4 a5 a6 h => slices_partialInsertionSortOrdered_int.j15 I3 I14 a1 a2 a3 a4 a5 a6 Q h)) := by
  refine cutOK_head (fun vs h hk => ?_)
  unfold slices_partialInsertionSortOrdered_int.k15 at hk
  split at hk
  · rename_i a1 a2 a3 a4 a5 a6
    intro todo hm ρ a w s f hp
    exact piece (E := slices_partialInsertionSortOrdered_int.E Q [(14, ([0, 1, 2, 7, 8, 9], slices_partialInsertionSortOrdered_int.k14 I14))]) (vs := [.sl a1, .int .i64 a2, .int .i64 a3, .int .i64 a4, .int .i64 a5, .int .i64 a6]) (envOK seatOK slices_partialInsertionSortOrdered_int.callsOK noIfc_ok) (fnOK seatOK slices_partialInsertionSortOrdered_int.fun) ⟨h14, trivial⟩ slices_partialInsertionSortOrdered_int.p15 (fuel := 3000) (by rw [← slices_partialInsertionSortOrdered_int.e15]; exact hk) hm s f hp
  · exact hk.elim

theorem slices_partialInsertionSortOrdered_int.p14 : (posC slices_partialInsertionSortOrdered_int.code []).filter (fun p => Nat.beq p.1 14) = [(14, atPos (posC slices_partialInsertionSortOrdered_int.code []) 14)] := by kernel_rfl

theorem slices_partialInsertionSortOrdered_int.e14 : ∀ (I3 : Sl → Int → Int → Int → Int → Heap → Prop) (I14 : Sl → Int → Int → Int → Int → Int → Heap → Prop) (a1 : Sl) (a2 : Int) (a3 : Int) (a4 : Int) (a5 : Int) (a6 : Int) (Q : Bool → Heap → Prop) (h : Heap), slices_partialInsertionSortOrdered_int.b14 I3 I14 a1 a2 a3 a4 a5 a6 Q h = pts (slices_partialInsertionSortOrdered_int.E Q [(18, ([0, 1, 2, 7, 8], slices_partialInsertionSortOrdered_int.k18 (fun a1 a2 a3 a4 a5 h => slices_partialInsertionSortOrdered_int.j18 I3 a1 a2 a3 a4 a5 Q h))), (15, ([0, 1, 2, 7, 8, 9], slices_partialInsertionSortOrdered_int.k15 (fun a1 a2 a3 a4 a5 a6 h => slices_partialInsertionSortOrdered_int.j15 I3 I14 a1 a2 a3 a4 a5 a6 Q h)))]) 3000 true (atPos (posC slices_partialInsertionSortOrdered_int.code []) 14) (frAt [0, 1, 2, 7, 8, 9] [.sl a1, .int .i64 a2, .int .i64 a3, .int .i64 a4, .int .i64 a5, .int .i64 a6]) h := by
  intros; kernel_rfl

theorem slices_partialInsertionSortOrdered_int.s14 {W0 : World} (Q : Bool → Heap → Prop) (I3 : Sl → Int → Int → Int → Int → Heap → Prop) (h3 : CutOK sg W0 133 (entered 25) (Post sg W0 (slices_partialInsertionSortOrdered_int.ret Q)) (posC slices_partialInsertionSortOrdered_int.code []) 3 [0, 1, 2, 7, 8] (slices_partialInsertionSortOrdered_int.k3 I3)) : CutOK sg W0 133 (entered 25) (Post sg W0 (slices_partialInsertionSortOrdered_int.ret Q)) (posC slices_partialInsertionSortOrdered_int.code []) 14 [0, 1, 2, 7, 8, 9] (slices_partialInsertionSortOrdered_int.k14 (fun a1 a2 a3 a4 a5 a6 h => slices_partialInsertionSortOrdered_int.j14 I3 a1 a2 a3 a4 a5 a6 Q h)) := by
  refine cutOK_head (fun vs h hk => ?_)
  unfold slices_partialInsertionSortOrdered_int.k14 at hk
  split at hk
  · rename_i a1 a2 a3 a4 a5 a6
    refine hk (fun a1 a2 a3 a4 a5 a6 h => Head sg W0 133 (entered 25) (Post sg W0 (slices_partialInsertionSortOrdered_int.ret Q)) (posC slices_partialInsertionSortOrdered_int.code []) 14 [0, 1, 2, 7, 8, 9] [.sl a1, .int .i64 a2, .int .i64 a3, .int .i64 a4, .int .i64 a5, .int .i64 a6] h) ?_
    intro a1 a2 a3 a4 a5 a6 h hb todo hm ρ a w s f hp
    have hself : CutOK sg W0 133 (entered 25) (Post sg W0 (slices_partialInsertionSortOrdered_int.ret Q)) (posC slices_partialInsertionSortOrdered_int.code []) 14 [0, 1, 2, 7, 8, 9] (slices_partialInsertionSortOrdered_int.k14 (fun a1 a2 a3 a4 a5 a6 h => Head sg W0 133 (entered 25) (Post sg W0 (slices_partialInsertionSortOrdered_int.ret Q)) (posC slices_partialInsertionSortOrdered_int.code []) 14 [0, 1, 2, 7, 8, 9] [.sl a1, .int .i64 a2, .int .i64 a3, .int .i64 a4, .int .i64 a5, .int .i64 a6] h)) := cutOK_head (fun vs h hk => by unfold slices_partialInsertionSortOrdered_int.k14 at hk; split at hk; exact hk; exact hk.elim)
    exact piece (E := slices_partialInsertionSortOrdered_int.E Q [(18, ([0, 1, 2, 7, 8], slices_partialInsertionSortOrdered_int.k18 (fun a1 a2 a3 a4 a5 h => slices_partialInsertionSortOrdered_int.j18 I3 a1 a2 a3 a4 a5 Q h))), (15, ([0, 1, 2, 7, 8, 9], slices_partialInsertionSortOrdered_int.k15 (fun a1 a2 a3 a4 a5 a6 h => slices_partialInsertionSortOrdered_int.j15 I3 (fun a1 a2 a3 a4 a5 a6 h => Head sg W0 133 (entered 25) (Post sg W0 (slices_partialInsertionSortOrdered_int.ret Q)) (posC slices_partialInsertionSortOrdered_int.code []) 14 [0, 1, 2, 7, 8, 9] [.sl a1, .int .i64 a2, .int .i64 a3, .int .i64 a4, .int .i64 a5, .int .i64 a6] h) a1 a2 a3 a4 a5 a6 Q h)))]) (vs := [.sl a1, .int .i64 a2, .int .i64 a3, .int .i64 a4, .int .i64 a5, .int .i64 a6]) (envOK seatOK slices_partialInsertionSortOrdered_int.callsOK noIfc_ok) (fnOK seatOK slices_partialInsertionSortOrdered_int.fun) ⟨(slices_partialInsertionSortOrdered_int.s18 Q I3 h3), (slices_partialInsertionSortOrdered_int.s15 Q I3 (fun a1 a2 a3 a4 a5 a6 h => Head sg W0 133 (entered 25) (Post sg W0 (slices_partialInsertionSortOrdered_int.ret Q)) (posC slices_partialInsertionSortOrdered_int.code []) 14 [0, 1, 2, 7, 8, 9] [.sl a1, .int .i64 a2, .int .i64 a3, .int .i64 a4, .int .i64 a5, .int .i64 a6] h) h3 hself), trivial⟩ slices_partialInsertionSortOrdered_int.p14 (fuel := 3000) (by rw [← slices_partialInsertionSortOrdered_int.e14]; exact hb) hm s f hp
  · exact hk.elim

theorem slices_partialInsertionSortOrdered_int.p12 : (posC slices_partialInsertionSortOrdered_int.code []).filter (fun p => Nat.beq p.1 12) = [(12, atPos (posC slices_partialInsertionSortOrdered_int.code []) 12)] := by kernel_rfl

theorem slices_partialInsertionSortOrdered_int.e12 : ∀ (I3 : Sl → Int → Int → Int → Int → Heap → Prop) (a1 : Sl) (a2 : Int) (a3 : Int) (a4 : Int) (a5 : Int) (Q : Bool → Heap → Prop) (h : Heap), slices_partialInsertionSortOrdered_int.j12 I3 a1 a2 a3 a4 a5 Q h = pts (slices_partialInsertionSortOrdered_int.E Q [(14, ([0, 1, 2, 7, 8, 9], slices_partialInsertionSortOrdered_int.k14 (fun a1 a2 a3 a4 a5 a6 h => slices_partialInsertionSortOrdered_int.j14 I3 a1 a2 a3 a4 a5 a6 Q h))), (18, ([0, 1, 2, 7, 8], slices_partialInsertionSortOrdered_int.k18 (fun a1 a2 a3 a4 a5 h => slices_partialInsertionSortOrdered_int.j18 I3 a1 a2 a3 a4 a5 Q h)))]) 3000 true (atPos (posC slices_partialInsertionSortOrdered_int.code []) 12) (frAt [0, 1, 2, 7, 8] [.sl a1, .int .i64 a2, .int .i64 a3, .int .i64 a4, .int .i64 a5]) h := by
  intros; kernel_rfl

theorem slices_partialInsertionSortOrdered_int.s12 {W0 : World} (Q : Bool → Heap → Prop) (I3 : Sl → Int → Int → Int → Int → Heap → Prop) (h3 : CutOK sg W0 133 (entered 25) (Post sg W0 (slices_partialInsertionSortOrdered_int.ret Q)) (posC slices_partialInsertionSortOrdered_int.code []) 3 [0, 1, 2, 7, 8] (slices_partialInsertionSortOrdered_int.k3 I3)) : CutOK sg W0 133 (entered 25) (Post sg W0 (slices_partialInsertionSortOrdered_int.ret Q)) (posC slices_partialInsertionSortOrdered_int.code []) 12 [0, 1, 2, 7, 8] (slices_partialInsertionSortOrdered_int.k12 (fun a1 a2 a3 a4 a5 h => slices_partialInsertionSortOrdered_int.j12 I3 a1 a2 a3 a4 a5 Q h)) := by
  refine cutOK_head (fun vs h hk => ?_)
  unfold slices_partialInsertionSortOrdered_int.k12 at hk
  split at hk
  · rename_i a1 a2 a3 a4 a5
    intro todo hm ρ a w s f hp
    exact piece (E := slices_partialInsertionSortOrdered_int.E Q [(14, ([0, 1, 2, 7, 8, 9], slices_partialInsertionSortOrdered_int.k14 (fun a1 a2 a3 a4 a5 a6 h => slices_partialInsertionSortOrdered_int.j14 I3 a1 a2 a3 a4 a5 a6 Q h))), (18, ([0, 1, 2, 7, 8], slices_partialInsertionSortOrdered_int.k18 (fun a1 a2 a3 a4 a5 h => slices_partialInsertionSortOrdered_int.j18 I3 a1 a2 a3 a4 a5 Q h)))]) (vs := [.sl a1, .int .i64 a2, .int .i64 a3, .int .i64 a4, .int .i64 a5]) (envOK seatOK slices_partialInsertionSortOrdered_int.callsOK noIfc_ok) (fnOK seatOK slices_partialInsertionSortOrdered_int.fun) ⟨(slices_partialInsertionSortOrdered_int.s14 Q I3 h3), (slices_partialInsertionSortOrdered_int.s18 Q I3 h3), trivial⟩ slices_partialInsertionSortOrdered_int.p12 (fuel := 3000) (by rw [← slices_partialInsertionSortOrdered_int.e12]; exact hk) hm s f hp
  · exact hk.elim

theorem slices_partialInsertionSortOrdered_int.p7 : (posC slices_partialInsertionSortOrdered_int.code []).filter (fun p => Nat.beq p.1 7) = [(7, atPos (posC slices_partialInsertionSortOrdered_int.code []) 7)] := by kernel_rfl

theorem slices_partialInsertionSortOrdered_int.e7 : ∀ (I3 : Sl → Int → Int → Int → Int → Heap → Prop) (a1 : Sl) (a2 : Int) (a3 : Int) (a4 : Int) (a5 : Int) (Q : Bool → Heap → Prop) (h : Heap), slices_partialInsertionSortOrdered_int.j7 I3 a1 a2 a3 a4 a5 Q h = pts (slices_partialInsertionSortOrdered_int.E Q [(12, ([0, 1, 2, 7, 8], slices_partialInsertionSortOrdered_int.k12 (fun a1 a2 a3 a4 a5 h => slices_partialInsertionSortOrdered_int.j12 I3 a1 a2 a3 a4 a5 Q h)))]) 3000 true (atPos (posC slices_partialInsertionSortOrdered_int.code []) 7) (frAt [0, 1, 2, 7, 8] [.sl a1, .int .i64 a2, .int .i64 a3, .int .i64 a4, .int .i64 a5]) h := by
  intros; kernel_rfl

theorem slices_partialInsertionSortOrdered_int.s7 {W0 : World} (Q : Bool → Heap → Prop) (I3 : Sl → Int → Int → Int → Int → Heap → Prop) (h3 : CutOK sg W0 133 (entered 25) (Post sg W0 (slices_partialInsertionSortOrdered_int.ret Q)) (posC slices_partialInsertionSortOrdered_int.code []) 3 [0, 1, 2, 7, 8] (slices_partialInsertionSortOrdered_int.k3 I3)) : CutOK sg W0 133 (entered 25) (Post sg W0 (slices_partialInsertionSortOrdered_int.ret Q)) (posC slices_partialInsertionSortOrdered_int.code []) 7 [0, 1, 2, 7, 8] (slices_partialInsertionSortOrdered_int.k7 (fun a1 a2 a3 a4 a5 h => slices_partialInsertionSortOrdered_int.j7 I3 a1 a2 a3 a4 a5 Q h)) := by
  refine cutOK_head (fun vs h hk => ?_)
  unfold slices_partialInsertionSortOrdered_int.k7 at hk
  split at hk
  · rename_i a1 a2 a3 a4 a5
    intro todo hm ρ a w s f hp
    exact piece (E := slices_partialInsertionSortOrdered_int.E Q [(12, ([0, 1, 2, 7, 8], slices_partialInsertionSortOrdered_int.k12 (fun a1 a2 a3 a4 a5 h => slices_partialInsertionSortOrdered_int.j12 I3 a1 a2 a3 a4 a5 Q h)))]) (vs := [.sl a1, .int .i64 a2, .int .i64 a3, .int .i64 a4, .int .i64 a5]) (envOK seatOK slices_partialInsertionSortOrdered_int.callsOK noIfc_ok) (fnOK seatOK slices_partialInsertionSortOrdered_int.fun) ⟨(slices_partialInsertionSortOrdered_int.s12 Q I3 h3), trivial⟩ slices_partialInsertionSortOrdered_int.p7 (fuel := 3000) (by rw [← slices_partialInsertionSortOrdered_int.e7]; exact hk) hm s f hp
  · exact hk.elim

theorem slices_partialInsertionSortOrdered_int.p5 : (posC slices_partialInsertionSortOrdered_int.code []).filter (fun p => Nat.beq p.1 5) = [(5, atPos (posC slices_partialInsertionSortOrdered_int.code []) 5)] := by kernel_rfl

theorem slices_partialInsertionSortOrdered_int.e5 : ∀ (I3 : Sl → Int → Int → Int → Int → Heap → Prop) (I5 : Sl → Int → Int → Int → Int → Heap → Prop) (a1 : Sl) (a2 : Int) (a3 : Int) (a4 : Int) (a5 : Int) (Q : Bool → Heap → Prop) (h : Heap), slices_partialInsertionSortOrdered_int.b5 I3 I5 a1 a2 a3 a4 a5 Q h = pts (slices_partialInsertionSortOrdered_int.E Q [(5, ([0, 1, 2, 7, 8], slices_partialInsertionSortOrdered_int.k5 I5)), (7, ([0, 1, 2, 7, 8], slices_partialInsertionSortOrdered_int.k7 (fun a1 a2 a3 a4 a5 h => slices_partialInsertionSortOrdered_int.j7 I3 a1 a2 a3 a4 a5 Q h)))]) 3000 true (atPos (posC slices_partialInsertionSortOrdered_int.code []) 5) (frAt [0, 1, 2, 7, 8] [.sl a1, .int .i64 a2, .int .i64 a3, .int .i64 a4, .int .i64 a5]) h := by
  intros; kernel_rfl

theorem slices_partialInsertionSortOrdered_int.s5 {W0 : World} (Q : Bool → Heap → Prop) (I3 : Sl → Int → Int → Int → Int → Heap → Prop) (h3 : CutOK sg W0 133 (entered 25) (Post sg W0 (slices_partialInsertionSortOrdered_int.ret Q)) (posC slices_partialInsertionSortOrdered_int.code []) 3 [0, 1, 2, 7, 8] (slices_partialInsertionSortOrdered_int.k3 I3)) : CutOK sg W0 133 (entered 25) (Post sg W0 (slices_partialInsertionSortOrdered_int.ret Q)) (posC slices_partialInsertionSortOrdered_int.code []) 5 [0, 1, 2, 7, 8] (slices_partialInsertionSortOrdered_int.k5 (fun a1 a2 a3 a4 a5 h => slices_partialInsertionSortOrdered_int.j5 I3 a1 a2 a3 a4 a5 Q h)) := by
  refine cutOK_head (fun vs h hk => ?_)
  unfold slices_partialInsertionSortOrdered_int.k5 at hk
  split at hk
  · rename_i a1 a2 a3 a4 a5
    refine hk (fun a1 a2 a3 a4 a5 h => Head sg W0 133 (entered 25) (Post sg W0 (slices_partialInsertionSortOrdered_int.ret Q)) (posC slices_partialInsertionSortOrdered_int.code []) 5 [0, 1, 2, 7, 8] [.sl a1, .int .i64 a2, .int .i64 a3, .int .i64 a4, .int .i64 a5] h) ?_
    intro a1 a2 a3 a4 a5 h hb todo hm ρ a w s f hp
    have hself : CutOK sg W0 133 (entered 25) (Post sg W0 (slices_partialInsertionSortOrdered_int.ret Q)) (posC slices_partialInsertionSortOrdered_int.code []) 5 [0, 1, 2, 7, 8] (slices_partialInsertionSortOrdered_int.k5 (fun a1 a2 a3 a4 a5 h => Head sg W0 133 (entered 25) (Post sg W0 (slices_partialInsertionSortOrdered_int.ret Q)) (posC slices_partialInsertionSortOrdered_int.code []) 5 [0, 1, 2, 7, 8] [.sl a1, .int .i64 a2, .int .i64 a3, .int .i64 a4, .int .i64 a5] h)) := cutOK_head (fun vs h hk => by unfold slices_partialInsertionSortOrdered_int.k5 at hk; split at hk; exact hk; exact hk.elim)
    exact piece (E := slices_partialInsertionSortOrdered_int.E Q [(5, ([0, 1, 2, 7, 8], slices_partialInsertionSortOrdered_int.k5 (fun a1 a2 a3 a4 a5 h => Head sg W0 133 (entered 25) (Post sg W0 (slices_partialInsertionSortOrdered_int.ret Q)) (posC slices_partialInsertionSortOrdered_int.code []) 5 [0, 1, 2, 7, 8] [.sl a1, .int .i64 a2, .int .i64 a3, .int .i64 a4, .int .i64 a5] h))), (7, ([0, 1, 2, 7, 8], slices_partialInsertionSortOrdered_int.k7 (fun a1 a2 a3 a4 a5 h => slices_partialInsertionSortOrdered_int.j7 I3 a1 a2 a3 a4 a5 Q h)))]) (vs := [.sl a1, .int .i64 a2, .int .i64 a3, .int .i64 a4, .int .i64 a5]) (envOK seatOK slices_partialInsertionSortOrdered_int.callsOK noIfc_ok) (fnOK seatOK slices_partialInsertionSortOrdered_int.fun) ⟨hself, (slices_partialInsertionSortOrdered_int.s7 Q I3 h3), trivial⟩ slices_partialInsertionSortOrdered_int.p5 (fuel := 3000) (by rw [← slices_partialInsertionSortOrdered_int.e5]; exact hb) hm s f hp
  · exact hk.elim

theorem slices_partialInsertionSortOrdered_int.p3 : (posC slices_partialInsertionSortOrdered_int.code []).filter (fun p => Nat.beq p.1 3) = [(3, atPos (posC slices_partialInsertionSortOrdered_int.code []) 3)] := by kernel_rfl

theorem slices_partialInsertionSortOrdered_int.e3 : ∀  (I3 : Sl → Int → Int → Int → Int → Heap → Prop) (a1 : Sl) (a2 : Int) (a3 : Int) (a4 : Int) (a5 : Int) (Q : Bool → Heap → Prop) (h : Heap), slices_partialInsertionSortOrdered_int.b3  I3 a1 a2 a3 a4 a5 Q h = pts (slices_partialInsertionSortOrdered_int.E Q [(5, ([0, 1, 2, 7, 8], slices_partialInsertionSortOrdered_int.k5 (fun a1 a2 a3 a4 a5 h => slices_partialInsertionSortOrdered_int.j5 I3 a1 a2 a3 a4 a5 Q h)))]) 3000 true (atPos (posC slices_partialInsertionSortOrdered_int.code []) 3) (frAt [0, 1, 2, 7, 8] [.sl a1, .int .i64 a2, .int .i64 a3, .int .i64 a4, .int .i64 a5]) h := by
  intros; kernel_rfl

theorem slices_partialInsertionSortOrdered_int.s3 {W0 : World} (Q : Bool → Heap → Prop)   : CutOK sg W0 133 (entered 25) (Post sg W0 (slices_partialInsertionSortOrdered_int.ret Q)) (posC slices_partialInsertionSortOrdered_int.code []) 3 [0, 1, 2, 7, 8] (slices_partialInsertionSortOrdered_int.k3 (fun a1 a2 a3 a4 a5 h => slices_partialInsertionSortOrdered_int.j3  a1 a2 a3 a4 a5 Q h)) := by
  refine cutOK_head (fun vs h hk => ?_)
  unfold slices_partialInsertionSortOrdered_int.k3 at hk
  split at hk
  · rename_i a1 a2 a3 a4 a5
    refine hk (fun a1 a2 a3 a4 a5 h => Head sg W0 133 (entered 25) (Post sg W0 (slices_partialInsertionSortOrdered_int.ret Q)) (posC slices_partialInsertionSortOrdered_int.code []) 3 [0, 1, 2, 7, 8] [.sl a1, .int .i64 a2, .int .i64 a3, .int .i64 a4, .int .i64 a5] h) ?_
    intro a1 a2 a3 a4 a5 h hb todo hm ρ a w s f hp
    have hself : CutOK sg W0 133 (entered 25) (Post sg W0 (slices_partialInsertionSortOrdered_int.ret Q)) (posC slices_partialInsertionSortOrdered_int.code []) 3 [0, 1, 2, 7, 8] (slices_partialInsertionSortOrdered_int.k3 (fun a1 a2 a3 a4 a5 h => Head sg W0 133 (entered 25) (Post sg W0 (slices_partialInsertionSortOrdered_int.ret Q)) (posC slices_partialInsertionSortOrdered_int.code []) 3 [0, 1, 2, 7, 8] [.sl a1, .int .i64 a2, .int .i64 a3, .int .i64 a4, .int .i64 a5] h)) := cutOK_head (fun vs h hk => by unfold slices_partialInsertionSortOrdered_int.k3 at hk; split at hk; exact hk; exact hk.elim)
    exact piece (E := slices_partialInsertionSortOrdered_int.E Q [(5, ([0, 1, 2, 7, 8], slices_partialInsertionSortOrdered_int.k5 (fun a1 a2 a3 a4 a5 h => slices_partialInsertionSortOrdered_int.j5 (fun a1 a2 a3 a4 a5 h => Head sg W0 133 (entered 25) (Post sg W0 (slices_partialInsertionSortOrdered_int.ret Q)) (posC slices_partialInsertionSortOrdered_int.code []) 3 [0, 1, 2, 7, 8] [.sl a1, .int .i64 a2, .int .i64 a3, .int .i64 a4, .int .i64 a5] h) a1 a2 a3 a4 a5 Q h)))]) (vs := [.sl a1, .int .i64 a2, .int .i64 a3, .int .i64 a4, .int .i64 a5]) (envOK seatOK slices_partialInsertionSortOrdered_int.callsOK noIfc_ok) (fnOK seatOK slices_partialInsertionSortOrdered_int.fun) ⟨(slices_partialInsertionSortOrdered_int.s5 Q (fun a1 a2 a3 a4 a5 h => Head sg W0 133 (entered 25) (Post sg W0 (slices_partialInsertionSortOrdered_int.ret Q)) (posC slices_partialInsertionSortOrdered_int.code []) 3 [0, 1, 2, 7, 8] [.sl a1, .int .i64 a2, .int .i64 a3, .int .i64 a4, .int .i64 a5] h) hself), trivial⟩ slices_partialInsertionSortOrdered_int.p3 (fuel := 3000) (by rw [← slices_partialInsertionSortOrdered_int.e3]; exact hb) hm s f hp
  · exact hk.elim

theorem slices_partialInsertionSortOrdered_int.e : ∀ (a1 : Sl) (a2 : Int) (a3 : Int) (Q : Bool → Heap → Prop) (h : Heap), slices_partialInsertionSortOrdered_int a1 a2 a3 Q h = pts (slices_partialInsertionSortOrdered_int.E Q [(3, ([0, 1, 2, 7, 8], slices_partialInsertionSortOrdered_int.k3 (fun a1 a2 a3 a4 a5 h => slices_partialInsertionSortOrdered_int.j3  a1 a2 a3 a4 a5 Q h)))]) 3000 true [.code slices_partialInsertionSortOrdered_int.code] (frOf 0 [.sl a1, .int .i64 a2, .int .i64 a3]) h := by
  intros; kernel_rfl

theorem slices_partialInsertionSortOrdered_int.S {W0 : World} : FnS sg W0 118 slices_partialInsertionSortOrdered_int.C := by
  intro vs κ h wv hx w s
  unfold slices_partialInsertionSortOrdered_int.C at hx
  split at hx
  · rename_i a1 a2 a3
    refine postImp (ret := slices_partialInsertionSortOrdered_int.ret (fun r1 h => κ (.bool r1) h)) (fun v h hr => by unfold slices_partialInsertionSortOrdered_int.ret at hr; split at hr; exact hr; exact hr.elim) ?_
    exact calls_of_pts (E := slices_partialInsertionSortOrdered_int.E (fun r1 h => κ (.bool r1) h) [(3, ([0, 1, 2, 7, 8], slices_partialInsertionSortOrdered_int.k3 (fun a1 a2 a3 a4 a5 h => slices_partialInsertionSortOrdered_int.j3  a1 a2 a3 a4 a5 (fun r1 h => κ (.bool r1) h) h)))]) (envOK seatOK slices_partialInsertionSortOrdered_int.callsOK noIfc_ok) seatOK.mixed slices_partialInsertionSortOrdered_int.fun (Nat.le_of_ble_eq_true rfl) wv (cutL_ok ⟨(slices_partialInsertionSortOrdered_int.s3 (fun r1 h => κ (.bool r1) h)), trivial⟩) s (fuel := 3000) (by rw [← slices_partialInsertionSortOrdered_int.e]; exact hx)
  · exact hx.elim

noncomputable def slices_partitionEqualOrdered_int.code : Code := Go.Proofs.Try.f27.body.getD .skip

theorem slices_partitionEqualOrdered_int.fun : Fun sg.P 27 84 [.tmp 8] slices_partitionEqualOrdered_int.code := mkFun Go.Proofs.Try.func27 (by kernel_rfl) (by kernel_rfl) (by kernel_rfl) (by kernel_rfl)

def slices_partitionEqualOrdered_int.ret (Q : Int → Heap → Prop) (v : V) (h : Heap) : Prop :=
  match v with
  | .int .i64 r1 => Q r1 h
  | _ => False

def slices_partitionEqualOrdered_int.C (vs : List V) (κ : V → Heap → Prop) (h : Heap) : Prop :=
  match vs with
  | [.sl a1, .int .i64 a2, .int .i64 a3, .int .i64 a4] => slices_partitionEqualOrdered_int a1 a2 a3 a4 (fun r1 h => κ (.int .i64 r1) h) h
  | _ => False

noncomputable def slices_partitionEqualOrdered_int.calls : List (Nat × (List V → (V → Heap → Prop) → Heap → Prop)) := [(109, cmp_Less_int.C)]

noncomputable def slices_partitionEqualOrdered_int.E (Q : Int → Heap → Prop) (cuts : List (Nat × (List Nat × (List V → Heap → Prop)))) : Env := { tis := tisT, fns := fnsT, tys := tysT, gls := [], rts := rtsT, unk := [], nxt := [], calls := slices_partitionEqualOrdered_int.calls, ifc := noIfc, cuts := cuts, ret := slices_partitionEqualOrdered_int.ret Q, rets := [.tmp 8], n := 84 }

theorem slices_partitionEqualOrdered_int.callsOK {W0 : World} : CallsOK sg W0 slices_partitionEqualOrdered_int.calls := ⟨cmp_Less_int.S, trivial⟩

def slices_partitionEqualOrdered_int.k7 (I : Sl → Int → Int → Int → Heap → Prop) (vs : List V) (h : Heap) : Prop :=
  match vs with
  | [.sl a1, .int .i64 a2, .int .i64 a3, .int .i64 a4] => I a1 a2 a3 a4 h
  | _ => False

def slices_partitionEqualOrdered_int.k5 (I : Sl → Int → Int → Int → Heap → Prop) (vs : List V) (h : Heap) : Prop :=
  match vs with
  | [.sl a1, .int .i64 a2, .int .i64 a3, .int .i64 a4] => I a1 a2 a3 a4 h
  | _ => False

def slices_partitionEqualOrdered_int.k3 (I : Sl → Int → Int → Int → Heap → Prop) (vs : List V) (h : Heap) : Prop :=
  match vs with
  | [.sl a1, .int .i64 a2, .int .i64 a3, .int .i64 a4] => I a1 a2 a3 a4 h
  | _ => False

theorem slices_partitionEqualOrdered_int.p7 : (posC slices_partitionEqualOrdered_int.code []).filter (fun p => Nat.beq p.1 7) = [(7, atPos (posC slices_partitionEqualOrdered_int.code []) 7)] := by kernel_rfl

theorem slices_partitionEqualOrdered_int.e7 : ∀ (I3 : Sl → Int → Int → Int → Heap → Prop) (a1 : Sl) (a2 : Int) (a3 : Int) (a4 : Int) (Q : Int → Heap → Prop) (h : Heap), slices_partitionEqualOrdered_int.j7 I3 a1 a2 a3 a4 Q h = pts (slices_partitionEqualOrdered_int.E Q [(3, ([0, 1, 9, 10], slices_partitionEqualOrdered_int.k3 I3))]) 3000 true (atPos (posC slices_partitionEqualOrdered_int.code []) 7) (frAt [0, 1, 9, 10] [.sl a1, .int .i64 a2, .int .i64 a3, .int .i64 a4]) h := by
  intros; kernel_rfl

theorem slices_partitionEqualOrdered_int.s7 {W0 : World} (Q : Int → Heap → Prop) (I3 : Sl → Int → Int → Int → Heap → Prop) (h3 : CutOK sg W0 84 (entered 27) (Post sg W0 (slices_partitionEqualOrdered_int.ret Q)) (posC slices_partitionEqualOrdered_int.code []) 3 [0, 1, 9, 10] (slices_partitionEqualOrdered_int.k3 I3)) : CutOK sg W0 84 (entered 27) (Post sg W0 (slices_partitionEqualOrdered_int.ret Q)) (posC slices_partitionEqualOrdered_int.code []) 7 [0, 1, 9, 10] (slices_partitionEqualOrdered_int.k7 (fun a1 a2 a3 a4 h => slices_partitionEqualOrdered_int.j7 I3 a1 a2 a3 a4 Q h)) := by
  refine cutOK_head (fun vs h hk => ?_)
  unfold slices_partitionEqualOrdered_int.k7 at hk
  split at hk
  · rename_i a1 a2 a3 a4
    intro todo hm ρ a w s f hp
    exact piece (E := slices_partitionEqualOrdered_int.E Q [(3, ([0, 1, 9, 10], slices_partitionEqualOrdered_int.k3 I3))]) (vs := [.sl a1, .int .i64 a2, .int .i64 a3, .int .i64 a4]) (envOK seatOK slices_partitionEqualOrdered_int.callsOK noIfc_ok) (fnOK seatOK slices_partitionEqualOrdered_int.fun) ⟨h3, trivial⟩ slices_partitionEqualOrdered_int.p7 (fuel := 3000) (by rw [← slices_partitionEqualOrdered_int.e7]; exact hk) hm s f hp
  · exact hk.elim

theorem slices_partitionEqualOrdered_int.p5 : (posC slices_partitionEqualOrdered_int.code []).filter (fun p => Nat.beq p.1 5) = [(5, atPos (posC slices_partitionEqualOrdered_int.code []) 5)] := by kernel_rfl

theorem slices_partitionEqualOrdered_int.e5 : ∀ (I3 : Sl → Int → Int → Int → Heap → Prop) (I5 : Sl → Int → Int → Int → Heap → Prop) (a1 : Sl) (a2 : Int) (a3 : Int) (a4 : Int) (Q : Int → Heap → Prop) (h : Heap), slices_partitionEqualOrdered_int.b5 I3 I5 a1 a2 a3 a4 Q h = pts (slices_partitionEqualOrdered_int.E Q [(5, ([0, 1, 9, 10], slices_partitionEqualOrdered_int.k5 I5)), (7, ([0, 1, 9, 10], slices_partitionEqualOrdered_int.k7 (fun a1 a2 a3 a4 h => slices_partitionEqualOrdered_int.j7 I3 a1 a2 a3 a4 Q h)))]) 3000 true (atPos (posC slices_partitionEqualOrdered_int.code []) 5) (frAt [0, 1, 9, 10] [.sl a1, .int .i64 a2, .int .i64 a3, .int .i64 a4]) h := by
  intros; kernel_rfl

theorem slices_partitionEqualOrdered_int.s5 {W0 : World} (Q : Int → Heap → Prop) (I3 : Sl → Int → Int → Int → Heap → Prop) (h3 : CutOK sg W0 84 (entered 27) (Post sg W0 (slices_partitionEqualOrdered_int.ret Q)) (posC slices_partitionEqualOrdered_int.code []) 3 [0, 1, 9, 10] (slices_partitionEqualOrdered_int.k3 I3)) : CutOK sg W0 84 (entered 27) (Post sg W0 (slices_partitionEqualOrdered_int.ret Q)) (posC slices_partitionEqualOrdered_int.code []) 5 [0, 1, 9, 10] (slices_partitionEqualOrdered_int.k5 (fun a1 a2 a3 a4 h => slices_partitionEqualOrdered_int.j5 I3 a1 a2 a3 a4 Q h)) := by
  refine cutOK_head (fun vs h hk => ?_)
  unfold slices_partitionEqualOrdered_int.k5 at hk
  split at hk
  · rename_i a1 a2 a3 a4
    refine hk (fun a1 a2 a3 a4 h => Head sg W0 84 (entered 27) (Post sg W0 (slices_partitionEqualOrdered_int.ret Q)) (posC slices_partitionEqualOrdered_int.code []) 5 [0, 1, 9, 10] [.sl a1, .int .i64 a2, .int .i64 a3, .int .i64 a4] h) ?_
    intro a1 a2 a3 a4 h hb todo hm ρ a w s f hp
    have hself : CutOK sg W0 84 (entered 27) (Post sg W0 (slices_partitionEqualOrdered_int.ret Q)) (posC slices_partitionEqualOrdered_int.code []) 5 [0, 1, 9, 10] (slices_partitionEqualOrdered_int.k5 (fun a1 a2 a3 a4 h => Head sg W0 84 (entered 27) (Post sg W0 (slices_partitionEqualOrdered_int.ret Q)) (posC slices_partitionEqualOrdered_int.code []) 5 [0, 1, 9, 10] [.sl a1, .int .i64 a2, .int .i64 a3, .int .i64 a4] h)) := cutOK_head (fun vs h hk => by unfold slices_partitionEqualOrdered_int.k5 at hk; split at hk; exact hk; exact hk.elim)
    exact piece (E := slices_partitionEqualOrdered_int.E Q [(5, ([0, 1, 9, 10], slices_partitionEqualOrdered_int.k5 (fun a1 a2 a3 a4 h => Head sg W0 84 (entered 27) (Post sg W0 (slices_partitionEqualOrdered_int.ret Q)) (posC slices_partitionEqualOrdered_int.code []) 5 [0, 1, 9, 10] [.sl a1, .int .i64 a2, .int .i64 a3, .int .i64 a4] h))), (7, ([0, 1, 9, 10], slices_partitionEqualOrdered_int.k7 (fun a1 a2 a3 a4 h => slices_partitionEqualOrdered_int.j7 I3 a1 a2 a3 a4 Q h)))]) (vs := [.sl a1, .int .i64 a2, .int .i64 a3, .int .i64 a4]) (envOK seatOK slices_partitionEqualOrdered_int.callsOK noIfc_ok) (fnOK seatOK slices_partitionEqualOrdered_int.fun) ⟨hself, (slices_partitionEqualOrdered_int.s7 Q I3 h3), trivial⟩ slices_partitionEqualOrdered_int.p5 (fuel := 3000) (by rw [← slices_partitionEqualOrdered_int.e5]; exact hb) hm s f hp
  · exact hk.elim

theorem slices_partitionEqualOrdered_int.p3 : (posC slices_partitionEqualOrdered_int.code []).filter (fun p => Nat.beq p.1 3) = [(3, atPos (posC slices_partitionEqualOrdered_int.code []) 3)] := by kernel_rfl

theorem slices_partitionEqualOrdered_int.e3 : ∀  (I3 : Sl → Int → Int → Int → Heap → Prop) (a1 : Sl) (a2 : Int) (a3 : Int) (a4 : Int) (Q : Int → Heap → Prop) (h : Heap), slices_partitionEqualOrdered_int.b3  I3 a1 a2 a3 a4 Q h = pts (slices_partitionEqualOrdered_int.E Q [(3, ([0, 1, 9, 10], slices_partitionEqualOrdered_int.k3 I3)), (5, ([0, 1, 9, 10], slices_partitionEqualOrdered_int.k5 (fun a1 a2 a3 a4 h => slices_partitionEqualOrdered_int.j5 I3 a1 a2 a3 a4 Q h)))]) 3000 true (atPos (posC slices_partitionEqualOrdered_int.code []) 3) (frAt [0, 1, 9, 10] [.sl a1, .int .i64 a2, .int .i64 a3, .int .i64 a4]) h := by
  intros; kernel_rfl

theorem slices_partitionEqualOrdered_int.s3 {W0 : World} (Q : Int → Heap → Prop)   : CutOK sg W0 84 (entered 27) (Post sg W0 (slices_partitionEqualOrdered_int.ret Q)) (posC slices_partitionEqualOrdered_int.code []) 3 [0, 1, 9, 10] (slices_partitionEqualOrdered_int.k3 (fun a1 a2 a3 a4 h => slices_partitionEqualOrdered_int.j3  a1 a2 a3 a4 Q h)) := by
  refine cutOK_head (fun vs h hk => ?_)
  unfold slices_partitionEqualOrdered_int.k3 at hk
  split at hk
  · rename_i a1 a2 a3 a4
    refine hk (fun a1 a2 a3 a4 h => Head sg W0 84 (entered 27) (Post sg W0 (slices_partitionEqualOrdered_int.ret Q)) (posC slices_partitionEqualOrdered_int.code []) 3 [0, 1, 9, 10] [.sl a1, .int .i64 a2, .int .i64 a3, .int .i64 a4] h) ?_
    intro a1 a2 a3 a4 h hb todo hm ρ a w s f hp
    have hself : CutOK sg W0 84 (entered 27) (Post sg W0 (slices_partitionEqualOrdered_int.ret Q)) (posC slices_partitionEqualOrdered_int.code []) 3 [0, 1, 9, 10] (slices_partitionEqualOrdered_int.k3 (fun a1 a2 a3 a4 h => Head sg W0 84 (entered 27) (Post sg W0 (slices_partitionEqualOrdered_int.ret Q)) (posC slices_partitionEqualOrdered_int.code []) 3 [0, 1, 9, 10] [.sl a1, .int .i64 a2, .int .i64 a3, .int .i64 a4] h)) := cutOK_head (fun vs h hk => by unfold slices_partitionEqualOrdered_int.k3 at hk; split at hk; exact hk; exact hk.elim)
    exact piece (E := slices_partitionEqualOrdered_int.E Q [(3, ([0, 1, 9, 10], slices_partitionEqualOrdered_int.k3 (fun a1 a2 a3 a4 h => Head sg W0 84 (entered 27) (Post sg W0 (slices_partitionEqualOrdered_int.ret Q)) (posC slices_partitionEqualOrdered_int.code []) 3 [0, 1, 9, 10] [.sl a1, .int .i64 a2, .int .i64 a3, .int .i64 a4] h))), (5, ([0, 1, 9, 10], slices_partitionEqualOrdered_int.k5 (fun a1 a2 a3 a4 h => slices_partitionEqualOrdered_int.j5 (fun a1 a2 a3 a4 h => Head sg W0 84 (entered 27) (Post sg W0 (slices_partitionEqualOrdered_int.ret Q)) (posC slices_partitionEqualOrdered_int.code []) 3 [0, 1, 9, 10] [.sl a1, .int .i64 a2, .int .i64 a3, .int .i64 a4] h) a1 a2 a3 a4 Q h)))]) (vs := [.sl a1, .int .i64 a2, .int .i64 a3, .int .i64 a4]) (envOK seatOK slices_partitionEqualOrdered_int.callsOK noIfc_ok) (fnOK seatOK slices_partitionEqualOrdered_int.fun) ⟨hself, (slices_partitionEqualOrdered_int.s5 Q (fun a1 a2 a3 a4 h => Head sg W0 84 (entered 27) (Post sg W0 (slices_partitionEqualOrdered_int.ret Q)) (posC slices_partitionEqualOrdered_int.code []) 3 [0, 1, 9, 10] [.sl a1, .int .i64 a2, .int .i64 a3, .int .i64 a4] h) hself), trivial⟩ slices_partitionEqualOrdered_int.p3 (fuel := 3000) (by rw [← slices_partitionEqualOrdered_int.e3]; exact hb) hm s f hp
  · exact hk.elim

theorem slices_partitionEqualOrdered_int.e : ∀ (a1 : Sl) (a2 : Int) (a3 : Int) (a4 : Int) (Q : Int → Heap → Prop) (h : Heap), slices_partitionEqualOrdered_int a1 a2 a3 a4 Q h = pts (slices_partitionEqualOrdered_int.E Q [(3, ([0, 1, 9, 10], slices_partitionEqualOrdered_int.k3 (fun a1 a2 a3 a4 h => slices_partitionEqualOrdered_int.j3  a1 a2 a3 a4 Q h)))]) 3000 true [.code slices_partitionEqualOrdered_int.code] (frOf 0 [.sl a1, .int .i64 a2, .int .i64 a3, .int .i64 a4]) h := by
  intros; kernel_rfl

theorem slices_partitionEqualOrdered_int.S {W0 : World} : FnS sg W0 119 slices_partitionEqualOrdered_int.C := by
  intro vs κ h wv hx w s
  unfold slices_partitionEqualOrdered_int.C at hx
  split at hx
  · rename_i a1 a2 a3 a4
    refine postImp (ret := slices_partitionEqualOrdered_int.ret (fun r1 h => κ (.int .i64 r1) h)) (fun v h hr => by unfold slices_partitionEqualOrdered_int.ret at hr; split at hr; exact hr; exact hr.elim) ?_
    exact calls_of_pts (E := slices_partitionEqualOrdered_int.E (fun r1 h => κ (.int .i64 r1) h) [(3, ([0, 1, 9, 10], slices_partitionEqualOrdered_int.k3 (fun a1 a2 a3 a4 h => slices_partitionEqualOrdered_int.j3  a1 a2 a3 a4 (fun r1 h => κ (.int .i64 r1) h) h)))]) (envOK seatOK slices_partitionEqualOrdered_int.callsOK noIfc_ok) seatOK.mixed slices_partitionEqualOrdered_int.fun (Nat.le_of_ble_eq_true rfl) wv (cutL_ok ⟨(slices_partitionEqualOrdered_int.s3 (fun r1 h => κ (.int .i64 r1) h)), trivial⟩) s (fuel := 3000) (by rw [← slices_partitionEqualOrdered_int.e]; exact hx)
  · exact hx.elim

noncomputable def slices_partitionOrdered_int.code : Code := Go.Proofs.Try.f28.body.getD .skip

theorem slices_partitionOrdered_int.fun : Fun sg.P 28 168 [.tmp 8, .tmp 9] slices_partitionOrdered_int.code := mkFun Go.Proofs.Try.func28 (by kernel_rfl) (by kernel_rfl) (by kernel_rfl) (by kernel_rfl)

def slices_partitionOrdered_int.ret (Q : Int → Bool → Heap → Prop) (v : V) (h : Heap) : Prop :=
  match v with
  | .tup [.int .i64 r1, .bool r2] => Q r1 r2 h
  | _ => False

def slices_partitionOrdered_int.C (vs : List V) (κ : V → Heap → Prop) (h : Heap) : Prop :=
  match vs with
  | [.sl a1, .int .i64 a2, .int .i64 a3, .int .i64 a4] => slices_partitionOrdered_int a1 a2 a3 a4 (fun r1 r2 h => κ (.tup [.int .i64 r1, .bool r2]) h) h
  | _ => False

noncomputable def slices_partitionOrdered_int.calls : List (Nat × (List V → (V → Heap → Prop) → Heap → Prop)) := [(109, cmp_Less_int.C)]

noncomputable def slices_partitionOrdered_int.E (Q : Int → Bool → Heap → Prop) (cuts : List (Nat × (List Nat × (List V → Heap → Prop)))) : Env := { tis := tisT, fns := fnsT, tys := tysT, gls := [], rts := rtsT, unk := [], nxt := [], calls := slices_partitionOrdered_int.calls, ifc := noIfc, cuts := cuts, ret := slices_partitionOrdered_int.ret Q, rets := [.tmp 8, .tmp 9], n := 168 }

theorem slices_partitionOrdered_int.callsOK {W0 : World} : CallsOK sg W0 slices_partitionOrdered_int.calls := ⟨cmp_Less_int.S, trivial⟩

def slices_partitionOrdered_int.k17 (I : Sl → Int → Int → Int → Heap → Prop) (vs : List V) (h : Heap) : Prop :=
  match vs with
  | [.sl a1, .int .i64 a2, .int .i64 a3, .int .i64 a4] => I a1 a2 a3 a4 h
  | _ => False

def slices_partitionOrdered_int.k15 (I : Sl → Int → Int → Int → Heap → Prop) (vs : List V) (h : Heap) : Prop :=
  match vs with
  | [.sl a1, .int .i64 a2, .int .i64 a3, .int .i64 a4] => I a1 a2 a3 a4 h
  | _ => False

def slices_partitionOrdered_int.k13 (I : Sl → Int → Int → Int → Heap → Prop) (vs : List V) (h : Heap) : Prop :=
  match vs with
  | [.sl a1, .int .i64 a2, .int .i64 a3, .int .i64 a4] => I a1 a2 a3 a4 h
  | _ => False

def slices_partitionOrdered_int.k7 (I : Sl → Int → Int → Int → Heap → Prop) (vs : List V) (h : Heap) : Prop :=
  match vs with
  | [.sl a1, .int .i64 a2, .int .i64 a3, .int .i64 a4] => I a1 a2 a3 a4 h
  | _ => False

def slices_partitionOrdered_int.k5 (I : Sl → Int → Int → Int → Heap → Prop) (vs : List V) (h : Heap) : Prop :=
  match vs with
  | [.sl a1, .int .i64 a2, .int .i64 a3, .int .i64 a4] => I a1 a2 a3 a4 h
  | _ => False

def slices_partitionOrdered_int.k3 (I : Sl → Int → Int → Int → Heap → Prop) (vs : List V) (h : Heap) : Prop :=
  match vs with
  | [.sl a1, .int .i64 a2, .int .i64 a3, .int .i64 a4] => I a1 a2 a3 a4 h
  | _ => False

theorem slices_partitionOrdered_int.p17 : (posC slices_partitionOrdered_int.code []).filter (fun p => Nat.beq p.1 17) = [(17, atPos (posC slices_partitionOrdered_int.code []) 17)] := by kernel_rfl

theorem slices_partitionOrdered_int.e17 : ∀ (I13 : Sl → Int → Int → Int → Heap → Prop) (a1 : Sl) (a2 : Int) (a3 : Int) (a4 : Int) (Q : Int → Bool → Heap → Prop) (h : Heap), slices_partitionOrdered_int.j17 I13 a1 a2 a3 a4 Q h = pts (slices_partitionOrdered_int.E Q [(13, ([0, 1, 10, 11], slices_partitionOrdered_int.k13 I13))]) 3000 true (atPos (posC slices_partitionOrdered_int.code []) 17) (frAt [0, 1, 10, 11] [.sl a1, .int .i64 a2, .int .i64 a3, .int .i64 a4]) h := by
  intros; kernel_rfl

theorem slices_partitionOrdered_int.s17 {W0 : World} (Q : Int → Bool → Heap → Prop) (I13 : Sl → Int → Int → Int → Heap → Prop) (h13 : CutOK sg W0 168 (entered 28) (Post sg W0 (slices_partitionOrdered_int.ret Q)) (posC slices_partitionOrdered_int.code []) 13 [0, 1, 10, 11] (slices_partitionOrdered_int.k13 I13)) : CutOK sg W0 168 (entered 28) (Post sg W0 (slices_partitionOrdered_int.ret Q)) (posC slices_partitionOrdered_int.code []) 17 [0, 1, 10, 11] (slices_partitionOrdered_int.k17 (fun a1 a2 a3 a4 h => slices_partitionOrdered_int.j17 I13 a1 a2 a3 a4 Q h)) := by
  refine cutOK_head (fun vs h hk => ?_)
  unfold slices_partitionOrdered_int.k17 at hk
  split at hk
  · rename_i a1 a2 a3 a4
    intro todo hm ρ a w s f hp
    exact piece (E := slices_partitionOrdered_int.E Q [(13, ([0, 1, 10, 11], slices_partitionOrdered_int.k13 I13))]) (vs := [.sl a1, .int .i64 a2, .int .i64 a3, .int .i64 a4]) (envOK seatOK slices_partitionOrdered_int.callsOK noIfc_ok) (fnOK seatOK slices_partitionOrdered_int.fun) ⟨h13, trivial⟩ slices_partitionOrdered_int.p17 (fuel := 3000) (by rw [← slices_partitionOrdered_int.e17]; exact hk) hm s f hp
  · exact hk.elim

theorem slices_partitionOrdered_int.p15 : (posC slices_partitionOrdered_int.code []).filter (fun p => Nat.beq p.1 15) = [(15, atPos (posC slices_partitionOrdered_int.code []) 15)] := by kernel_rfl

theorem slices_partitionOrdered_int.e15 : ∀ (I13 : Sl → Int → Int → Int → Heap → Prop) (I15 : Sl → Int → Int → Int → Heap → Prop) (a1 : Sl) (a2 : Int) (a3 : Int) (a4 : Int) (Q : Int → Bool → Heap → Prop) (h : Heap), slices_partitionOrdered_int.b15 I13 I15 a1 a2 a3 a4 Q h = pts (slices_partitionOrdered_int.E Q [(15, ([0, 1, 10, 11], slices_partitionOrdered_int.k15 I15)), (17, ([0, 1, 10, 11], slices_partitionOrdered_int.k17 (fun a1 a2 a3 a4 h => slices_partitionOrdered_int.j17 I13 a1 a2 a3 a4 Q h)))]) 3000 true (atPos (posC slices_partitionOrdered_int.code []) 15) (frAt [0, 1, 10, 11] [.sl a1, .int .i64 a2, .int .i64 a3, .int .i64 a4]) h := by
  intros; kernel_rfl

theorem slices_partitionOrdered_int.s15 {W0 : World} (Q : Int → Bool → Heap → Prop) (I13 : Sl → Int → Int → Int → Heap → Prop) (h13 : CutOK sg W0 168 (entered 28) (Post sg W0 (slices_partitionOrdered_int.ret Q)) (posC slices_partitionOrdered_int.code []) 13 [0, 1, 10, 11] (slices_partitionOrdered_int.k13 I13)) : CutOK sg W0 168 (entered 28) (Post sg W0 (slices_partitionOrdered_int.ret Q)) (posC slices_partitionOrdered_int.code []) 15 [0, 1, 10, 11] (slices_partitionOrdered_int.k15 (fun a1 a2 a3 a4 h => slices_partitionOrdered_int.j15 I13 a1 a2 a3 a4 Q h)) := by
  refine cutOK_head (fun vs h hk => ?_)
  unfold slices_partitionOrdered_int.k15 at hk
  split at hk
  · rename_i a1 a2 a3 a4
    refine hk (fun a1 a2 a3 a4 h => Head sg W0 168 (entered 28) (Post sg W0 (slices_partitionOrdered_int.ret Q)) (posC slices_partitionOrdered_int.code []) 15 [0, 1, 10, 11] [.sl a1, .int .i64 a2, .int .i64 a3, .int .i64 a4] h) ?_
    intro a1 a2 a3 a4 h hb todo hm ρ a w s f hp
    have hself : CutOK sg W0 168 (entered 28) (Post sg W0 (slices_partitionOrdered_int.ret Q)) (posC slices_partitionOrdered_int.code []) 15 [0, 1, 10, 11] (slices_partitionOrdered_int.k15 (fun a1 a2 a3 a4 h => Head sg W0 168 (entered 28) (Post sg W0 (slices_partitionOrdered_int.ret Q)) (posC slices_partitionOrdered_int.code []) 15 [0, 1, 10, 11] [.sl a1, .int .i64 a2, .int .i64 a3, .int .i64 a4] h)) := cutOK_head (fun vs h hk => by unfold slices_partitionOrdered_int.k15 at hk; split at hk; exact hk; exact hk.elim)
    exact piece (E := slices_partitionOrdered_int.E Q [(15, ([0, 1, 10, 11], slices_partitionOrdered_int.k15 (fun a1 a2 a3 a4 h => Head sg W0 168 (entered 28) (Post sg W0 (slices_partitionOrdered_int.ret Q)) (posC slices_partitionOrdered_int.code []) 15 [0, 1, 10, 11] [.sl a1, .int .i64 a2, .int .i64 a3, .int .i64 a4] h))), (17, ([0, 1, 10, 11], slices_partitionOrdered_int.k17 (fun a1 a2 a3 a4 h => slices_partitionOrdered_int.j17 I13 a1 a2 a3 a4 Q h)))]) (vs := [.sl a1, .int .i64 a2, .int .i64 a3, .int .i64 a4]) (envOK seatOK slices_partitionOrdered_int.callsOK noIfc_ok) (fnOK seatOK slices_partitionOrdered_int.fun) ⟨hself, (slices_partitionOrdered_int.s17 Q I13 h13), trivial⟩ slices_partitionOrdered_int.p15 (fuel := 3000) (by rw [← slices_partitionOrdered_int.e15]; exact hb) hm s f hp
  · exact hk.elim

theorem slices_partitionOrdered_int.p13 : (posC slices_partitionOrdered_int.code []).filter (fun p => Nat.beq p.1 13) = [(13, atPos (posC slices_partitionOrdered_int.code []) 13)] := by kernel_rfl

theorem slices_partitionOrdered_int.e13 : ∀  (I13 : Sl → Int → Int → Int → Heap → Prop) (a1 : Sl) (a2 : Int) (a3 : Int) (a4 : Int) (Q : Int → Bool → Heap → Prop) (h : Heap), slices_partitionOrdered_int.b13  I13 a1 a2 a3 a4 Q h = pts (slices_partitionOrdered_int.E Q [(13, ([0, 1, 10, 11], slices_partitionOrdered_int.k13 I13)), (15, ([0, 1, 10, 11], slices_partitionOrdered_int.k15 (fun a1 a2 a3 a4 h => slices_partitionOrdered_int.j15 I13 a1 a2 a3 a4 Q h)))]) 3000 true (atPos (posC slices_partitionOrdered_int.code []) 13) (frAt [0, 1, 10, 11] [.sl a1, .int .i64 a2, .int .i64 a3, .int .i64 a4]) h := by
  intros; kernel_rfl

theorem slices_partitionOrdered_int.s13 {W0 : World} (Q : Int → Bool → Heap → Prop)   : CutOK sg W0 168 (entered 28) (Post sg W0 (slices_partitionOrdered_int.ret Q)) (posC slices_partitionOrdered_int.code []) 13 [0, 1, 10, 11] (slices_partitionOrdered_int.k13 (fun a1 a2 a3 a4 h => slices_partitionOrdered_int.j13  a1 a2 a3 a4 Q h)) := by
  refine cutOK_head (fun vs h hk => ?_)
  unfold slices_partitionOrdered_int.k13 at hk
  split at hk
  · rename_i a1 a2 a3 a4
    refine hk (fun a1 a2 a3 a4 h => Head sg W0 168 (entered 28) (Post sg W0 (slices_partitionOrdered_int.ret Q)) (posC slices_partitionOrdered_int.code []) 13 [0, 1, 10, 11] [.sl a1, .int .i64 a2, .int .i64 a3, .int .i64 a4] h) ?_
    intro a1 a2 a3 a4 h hb todo hm ρ a w s f hp
    have hself : CutOK sg W0 168 (entered 28) (Post sg W0 (slices_partitionOrdered_int.ret Q)) (posC slices_partitionOrdered_int.code []) 13 [0, 1, 10, 11] (slices_partitionOrdered_int.k13 (fun a1 a2 a3 a4 h => Head sg W0 168 (entered 28) (Post sg W0 (slices_partitionOrdered_int.ret Q)) (posC slices_partitionOrdered_int.code []) 13 [0, 1, 10, 11] [.sl a1, .int .i64 a2, .int .i64 a3, .int .i64 a4] h)) := cutOK_head (fun vs h hk => by unfold slices_partitionOrdered_int.k13 at hk; split at hk; exact hk; exact hk.elim)
    exact piece (E := slices_partitionOrdered_int.E Q [(13, ([0, 1, 10, 11], slices_partitionOrdered_int.k13 (fun a1 a2 a3 a4 h => Head sg W0 168 (entered 28) (Post sg W0 (slices_partitionOrdered_int.ret Q)) (posC slices_partitionOrdered_int.code []) 13 [0, 1, 10, 11] [.sl a1, .int .i64 a2, .int .i64 a3, .int .i64 a4] h))), (15, ([0, 1, 10, 11], slices_partitionOrdered_int.k15 (fun a1 a2 a3 a4 h => slices_partitionOrdered_int.j15 (fun a1 a2 a3 a4 h => Head sg W0 168 (entered 28) (Post sg W0 (slices_partitionOrdered_int.ret Q)) (posC slices_partitionOrdered_int.code []) 13 [0, 1, 10, 11] [.sl a1, .int .i64 a2, .int .i64 a3, .int .i64 a4] h) a1 a2 a3 a4 Q h)))]) (vs := [.sl a1, .int .i64 a2, .int .i64 a3, .int .i64 a4]) (envOK seatOK slices_partitionOrdered_int.callsOK noIfc_ok) (fnOK seatOK slices_partitionOrdered_int.fun) ⟨hself, (slices_partitionOrdered_int.s15 Q (fun a1 a2 a3 a4 h => Head sg W0 168 (entered 28) (Post sg W0 (slices_partitionOrdered_int.ret Q)) (posC slices_partitionOrdered_int.code []) 13 [0, 1, 10, 11] [.sl a1, .int .i64 a2, .int .i64 a3, .int .i64 a4] h) hself), trivial⟩ slices_partitionOrdered_int.p13 (fuel := 3000) (by rw [← slices_partitionOrdered_int.e13]; exact hb) hm s f hp
  · exact hk.elim

theorem slices_partitionOrdered_int.p7 : (posC slices_partitionOrdered_int.code []).filter (fun p => Nat.beq p.1 7) = [(7, atPos (posC slices_partitionOrdered_int.code []) 7)] := by kernel_rfl

theorem slices_partitionOrdered_int.e7 : ∀  (a1 : Sl) (a2 : Int) (a3 : Int) (a4 : Int) (Q : Int → Bool → Heap → Prop) (h : Heap), slices_partitionOrdered_int.j7  a1 a2 a3 a4 Q h = pts (slices_partitionOrdered_int.E Q [(13, ([0, 1, 10, 11], slices_partitionOrdered_int.k13 (fun a1 a2 a3 a4 h => slices_partitionOrdered_int.j13  a1 a2 a3 a4 Q h)))]) 3000 true (atPos (posC slices_partitionOrdered_int.code []) 7) (frAt [0, 1, 10, 11] [.sl a1, .int .i64 a2, .int .i64 a3, .int .i64 a4]) h := by
  intros; kernel_rfl

theorem slices_partitionOrdered_int.s7 {W0 : World} (Q : Int → Bool → Heap → Prop)   : CutOK sg W0 168 (entered 28) (Post sg W0 (slices_partitionOrdered_int.ret Q)) (posC slices_partitionOrdered_int.code []) 7 [0, 1, 10, 11] (slices_partitionOrdered_int.k7 (fun a1 a2 a3 a4 h => slices_partitionOrdered_int.j7  a1 a2 a3 a4 Q h)) := by
  refine cutOK_head (fun vs h hk => ?_)
  unfold slices_partitionOrdered_int.k7 at hk
  split at hk
  · rename_i a1 a2 a3 a4
    intro todo hm ρ a w s f hp
    exact piece (E := slices_partitionOrdered_int.E Q [(13, ([0, 1, 10, 11], slices_partitionOrdered_int.k13 (fun a1 a2 a3 a4 h => slices_partitionOrdered_int.j13  a1 a2 a3 a4 Q h)))]) (vs := [.sl a1, .int .i64 a2, .int .i64 a3, .int .i64 a4]) (envOK seatOK slices_partitionOrdered_int.callsOK noIfc_ok) (fnOK seatOK slices_partitionOrdered_int.fun) ⟨(slices_partitionOrdered_int.s13 Q  ), trivial⟩ slices_partitionOrdered_int.p7 (fuel := 3000) (by rw [← slices_partitionOrdered_int.e7]; exact hk) hm s f hp
  · exact hk.elim

theorem slices_partitionOrdered_int.p5 : (posC slices_partitionOrdered_int.code []).filter (fun p => Nat.beq p.1 5) = [(5, atPos (posC slices_partitionOrdered_int.code []) 5)] := by kernel_rfl

theorem slices_partitionOrdered_int.e5 : ∀  (I5 : Sl → Int → Int → Int → Heap → Prop) (a1 : Sl) (a2 : Int) (a3 : Int) (a4 : Int) (Q : Int → Bool → Heap → Prop) (h : Heap), slices_partitionOrdered_int.b5  I5 a1 a2 a3 a4 Q h = pts (slices_partitionOrdered_int.E Q [(5, ([0, 1, 10, 11], slices_partitionOrdered_int.k5 I5)), (7, ([0, 1, 10, 11], slices_partitionOrdered_int.k7 (fun a1 a2 a3 a4 h => slices_partitionOrdered_int.j7  a1 a2 a3 a4 Q h)))]) 3000 true (atPos (posC slices_partitionOrdered_int.code []) 5) (frAt [0, 1, 10, 11] [.sl a1, .int .i64 a2, .int .i64 a3, .int .i64 a4]) h := by
  intros; kernel_rfl

theorem slices_partitionOrdered_int.s5 {W0 : World} (Q : Int → Bool → Heap → Prop)   : CutOK sg W0 168 (entered 28) (Post sg W0 (slices_partitionOrdered_int.ret Q)) (posC slices_partitionOrdered_int.code []) 5 [0, 1, 10, 11] (slices_partitionOrdered_int.k5 (fun a1 a2 a3 a4 h => slices_partitionOrdered_int.j5  a1 a2 a3 a4 Q h)) := by
  refine cutOK_head (fun vs h hk => ?_)
  unfold slices_partitionOrdered_int.k5 at hk
  split at hk
  · rename_i a1 a2 a3 a4
    refine hk (fun a1 a2 a3 a4 h => Head sg W0 168 (entered 28) (Post sg W0 (slices_partitionOrdered_int.ret Q)) (posC slices_partitionOrdered_int.code []) 5 [0, 1, 10, 11] [.sl a1, .int .i64 a2, .int .i64 a3, .int .i64 a4] h) ?_
    intro a1 a2 a3 a4 h hb todo hm ρ a w s f hp
    have hself : CutOK sg W0 168 (entered 28) (Post sg W0 (slices_partitionOrdered_int.ret Q)) (posC slices_partitionOrdered_int.code []) 5 [0, 1, 10, 11] (slices_partitionOrdered_int.k5 (fun a1 a2 a3 a4 h => Head sg W0 168 (entered 28) (Post sg W0 (slices_partitionOrdered_int.ret Q)) (posC slices_partitionOrdered_int.code []) 5 [0, 1, 10, 11] [.sl a1, .int .i64 a2, .int .i64 a3, .int .i64 a4] h)) := cutOK_head (fun vs h hk => by unfold slices_partitionOrdered_int.k5 at hk; split at hk; exact hk; exact hk.elim)
    exact piece (E := slices_partitionOrdered_int.E Q [(5, ([0, 1, 10, 11], slices_partitionOrdered_int.k5 (fun a1 a2 a3 a4 h => Head sg W0 168 (entered 28) (Post sg W0 (slices_partitionOrdered_int.ret Q)) (posC slices_partitionOrdered_int.code []) 5 [0, 1, 10, 11] [.sl a1, .int .i64 a2, .int .i64 a3, .int .i64 a4] h))), (7, ([0, 1, 10, 11], slices_partitionOrdered_int.k7 (fun a1 a2 a3 a4 h => slices_partitionOrdered_int.j7  a1 a2 a3 a4 Q h)))]) (vs := [.sl a1, .int .i64 a2, .int .i64 a3, .int .i64 a4]) (envOK seatOK slices_partitionOrdered_int.callsOK noIfc_ok) (fnOK seatOK slices_partitionOrdered_int.fun) ⟨hself, (slices_partitionOrdered_int.s7 Q  ), trivial⟩ slices_partitionOrdered_int.p5 (fuel := 3000) (by rw [← slices_partitionOrdered_int.e5]; exact hb) hm s f hp
  · exact hk.elim

theorem slices_partitionOrdered_int.p3 : (posC slices_partitionOrdered_int.code []).filter (fun p => Nat.beq p.1 3) = [(3, atPos (posC slices_partitionOrdered_int.code []) 3)] := by kernel_rfl

theorem slices_partitionOrdered_int.e3 : ∀  (I3 : Sl → Int → Int → Int → Heap → Prop) (a1 : Sl) (a2 : Int) (a3 : Int) (a4 : Int) (Q : Int → Bool → Heap → Prop) (h : Heap), slices_partitionOrdered_int.b3  I3 a1 a2 a3 a4 Q h = pts (slices_partitionOrdered_int.E Q [(3, ([0, 1, 10, 11], slices_partitionOrdered_int.k3 I3)), (5, ([0, 1, 10, 11], slices_partitionOrdered_int.k5 (fun a1 a2 a3 a4 h => slices_partitionOrdered_int.j5  a1 a2 a3 a4 Q h)))]) 3000 true (atPos (posC slices_partitionOrdered_int.code []) 3) (frAt [0, 1, 10, 11] [.sl a1, .int .i64 a2, .int .i64 a3, .int .i64 a4]) h := by
  intros; kernel_rfl

theorem slices_partitionOrdered_int.s3 {W0 : World} (Q : Int → Bool → Heap → Prop)   : CutOK sg W0 168 (entered 28) (Post sg W0 (slices_partitionOrdered_int.ret Q)) (posC slices_partitionOrdered_int.code []) 3 [0, 1, 10, 11] (slices_partitionOrdered_int.k3 (fun a1 a2 a3 a4 h => slices_partitionOrdered_int.j3  a1 a2 a3 a4 Q h)) := by
  refine cutOK_head (fun vs h hk => ?_)
  unfold slices_partitionOrdered_int.k3 at hk
  split at hk
  · rename_i a1 a2 a3 a4
    refine hk (fun a1 a2 a3 a4 h => Head sg W0 168 (entered 28) (Post sg W0 (slices_partitionOrdered_int.ret Q)) (posC slices_partitionOrdered_int.code []) 3 [0, 1, 10, 11] [.sl a1, .int .i64 a2, .int .i64 a3, .int .i64 a4] h) ?_
    intro a1 a2 a3 a4 h hb todo hm ρ a w s f hp
    have hself : CutOK sg W0 168 (entered 28) (Post sg W0 (slices_partitionOrdered_int.ret Q)) (posC slices_partitionOrdered_int.code []) 3 [0, 1, 10, 11] (slices_partitionOrdered_int.k3 (fun a1 a2 a3 a4 h => Head sg W0 168 (entered 28) (Post sg W0 (slices_partitionOrdered_int.ret Q)) (posC slices_partitionOrdered_int.code []) 3 [0, 1, 10, 11] [.sl a1, .int .i64 a2, .int .i64 a3, .int .i64 a4] h)) := cutOK_head (fun vs h hk => by unfold slices_partitionOrdered_int.k3 at hk; split at hk; exact hk; exact hk.elim)
    exact piece (E := slices_partitionOrdered_int.E Q [(3, ([0, 1, 10, 11], slices_partitionOrdered_int.k3 (fun a1 a2 a3 a4 h => Head sg W0 168 (entered 28) (Post sg W0 (slices_partitionOrdered_int.ret Q)) (posC slices_partitionOrdered_int.code []) 3 [0, 1, 10, 11] [.sl a1, .int .i64 a2, .int .i64 a3, .int .i64 a4] h))), (5, ([0, 1, 10, 11], slices_partitionOrdered_int.k5 (fun a1 a2 a3 a4 h => slices_partitionOrdered_int.j5  a1 a2 a3 a4 Q h)))]) (vs := [.sl a1, .int .i64 a2, .int .i64 a3, .int .i64 a4]) (envOK seatOK slices_partitionOrdered_int.callsOK noIfc_ok) (fnOK seatOK slices_partitionOrdered_int.fun) ⟨hself, (slices_partitionOrdered_int.s5 Q  ), trivial⟩ slices_partitionOrdered_int.p3 (fuel := 3000) (by rw [← slices_partitionOrdered_int.e3]; exact hb) hm s f hp
  · exact hk.elim

theorem slices_partitionOrdered_int.e : ∀ (a1 : Sl) (a2 : Int) (a3 : Int) (a4 : Int) (Q : Int → Bool → Heap → Prop) (h : Heap), slices_partitionOrdered_int a1 a2 a3 a4 Q h = pts (slices_partitionOrdered_int.E Q [(3, ([0, 1, 10, 11], slices_partitionOrdered_int.k3 (fun a1 a2 a3 a4 h => slices_partitionOrdered_int.j3  a1 a2 a3 a4 Q h)))]) 3000 true [.code slices_partitionOrdered_int.code] (frOf 0 [.sl a1, .int .i64 a2, .int .i64 a3, .int .i64 a4]) h := by
  intros; kernel_rfl

theorem slices_partitionOrdered_int.S {W0 : World} : FnS sg W0 120 slices_partitionOrdered_int.C := by
  intro vs κ h wv hx w s
  unfold slices_partitionOrdered_int.C at hx
  split at hx
  · rename_i a1 a2 a3 a4
    refine postImp (ret := slices_partitionOrdered_int.ret (fun r1 r2 h => κ (.tup [.int .i64 r1, .bool r2]) h)) (fun v h hr => by unfold slices_partitionOrdered_int.ret at hr; split at hr; exact hr; exact hr.elim) ?_
    exact calls_of_pts (E := slices_partitionOrdered_int.E (fun r1 r2 h => κ (.tup [.int .i64 r1, .bool r2]) h) [(3, ([0, 1, 10, 11], slices_partitionOrdered_int.k3 (fun a1 a2 a3 a4 h => slices_partitionOrdered_int.j3  a1 a2 a3 a4 (fun r1 r2 h => κ (.tup [.int .i64 r1, .bool r2]) h) h)))]) (envOK seatOK slices_partitionOrdered_int.callsOK noIfc_ok) seatOK.mixed slices_partitionOrdered_int.fun (Nat.le_of_ble_eq_true rfl) wv (cutL_ok ⟨(slices_partitionOrdered_int.s3 (fun r1 r2 h => κ (.tup [.int .i64 r1, .bool r2]) h)), trivial⟩) s (fuel := 3000) (by rw [← slices_partitionOrdered_int.e]; exact hx)
  · exact hx.elim

noncomputable def slices_nextPowerOfTwo.code : Code := Go.Proofs.Try.f32.body.getD .skip

theorem slices_nextPowerOfTwo.fun : Fun sg.P 32 7 [.tmp 2] slices_nextPowerOfTwo.code := mkFun Go.Proofs.Try.func32 (by kernel_rfl) (by kernel_rfl) (by kernel_rfl) (by kernel_rfl)

def slices_nextPowerOfTwo.ret (Q : Int → Heap → Prop) (v : V) (h : Heap) : Prop :=
  match v with
  | .int .u64 r1 => Q r1 h
  | _ => False

def slices_nextPowerOfTwo.C (vs : List V) (κ : V → Heap → Prop) (h : Heap) : Prop :=
  match vs with
  | [.int .i64 a1] => slices_nextPowerOfTwo a1 (fun r1 h => κ (.int .u64 r1) h) h
  | _ => False

noncomputable def slices_nextPowerOfTwo.calls : List (Nat × (List V → (V → Heap → Prop) → Heap → Prop)) := [(107, math_bits_Len.C)]

noncomputable def slices_nextPowerOfTwo.E (Q : Int → Heap → Prop) (cuts : List (Nat × (List Nat × (List V → Heap → Prop)))) : Env := { tis := tisT, fns := fnsT, tys := tysT, gls := [], rts := rtsT, unk := [], nxt := [], calls := slices_nextPowerOfTwo.calls, ifc := noIfc, cuts := cuts, ret := slices_nextPowerOfTwo.ret Q, rets := [.tmp 2], n := 7 }

theorem slices_nextPowerOfTwo.callsOK {W0 : World} : CallsOK sg W0 slices_nextPowerOfTwo.calls := ⟨math_bits_Len.S, trivial⟩

theorem slices_nextPowerOfTwo.e : ∀ (a1 : Int) (Q : Int → Heap → Prop) (h : Heap), slices_nextPowerOfTwo a1 Q h = pts (slices_nextPowerOfTwo.E Q []) 3000 true [.code slices_nextPowerOfTwo.code] (frOf 0 [.int .i64 a1]) h := by
  intros; kernel_rfl

theorem slices_nextPowerOfTwo.S {W0 : World} : FnS sg W0 121 slices_nextPowerOfTwo.C := by
  intro vs κ h wv hx w s
  unfold slices_nextPowerOfTwo.C at hx
  split at hx
  · rename_i a1
    refine postImp (ret := slices_nextPowerOfTwo.ret (fun r1 h => κ (.int .u64 r1) h)) (fun v h hr => by unfold slices_nextPowerOfTwo.ret at hr; split at hr; exact hr; exact hr.elim) ?_
    exact calls_of_pts (E := slices_nextPowerOfTwo.E (fun r1 h => κ (.int .u64 r1) h) []) (envOK seatOK slices_nextPowerOfTwo.callsOK noIfc_ok) seatOK.mixed slices_nextPowerOfTwo.fun (Nat.le_of_ble_eq_true rfl) wv (cutL_ok trivial) s (fuel := 3000) (by rw [← slices_nextPowerOfTwo.e]; exact hx)
  · exact hx.elim

noncomputable def slices_xorshift_Next.code : Code := Go.Proofs.Try.f33.body.getD .skip

theorem slices_xorshift_Next.fun : Fun sg.P 33 33 [.tmp 2] slices_xorshift_Next.code := mkFun Go.Proofs.Try.func33 (by kernel_rfl) (by kernel_rfl) (by kernel_rfl) (by kernel_rfl)

def slices_xorshift_Next.ret (Q : Int → Heap → Prop) (v : V) (h : Heap) : Prop :=
  match v with
  | .int .u64 r1 => Q r1 h
  | _ => False

def slices_xorshift_Next.C (vs : List V) (κ : V → Heap → Prop) (h : Heap) : Prop :=
  match vs with
  | [.ptr a1] => slices_xorshift_Next a1 (fun r1 h => κ (.int .u64 r1) h) h
  | _ => False

noncomputable def slices_xorshift_Next.calls : List (Nat × (List V → (V → Heap → Prop) → Heap → Prop)) := []

noncomputable def slices_xorshift_Next.E (Q : Int → Heap → Prop) (cuts : List (Nat × (List Nat × (List V → Heap → Prop)))) : Env := { tis := tisT, fns := fnsT, tys := tysT, gls := [], rts := rtsT, unk := [], nxt := [], calls := slices_xorshift_Next.calls, ifc := noIfc, cuts := cuts, ret := slices_xorshift_Next.ret Q, rets := [.tmp 2], n := 33 }

theorem slices_xorshift_Next.callsOK {W0 : World} : CallsOK sg W0 slices_xorshift_Next.calls := trivial

def slices_xorshift_Next.k4 (I : (Option Ptr) → Heap → Prop) (vs : List V) (h : Heap) : Prop :=
  match vs with
  | [.ptr a1] => I a1 h
  | _ => False

theorem slices_xorshift_Next.p4 : (posC slices_xorshift_Next.code []).filter (fun p => Nat.beq p.1 4) = [(4, atPos (posC slices_xorshift_Next.code []) 4)] := by kernel_rfl

theorem slices_xorshift_Next.e4 : ∀  (a1 : Option Ptr) (Q : Int → Heap → Prop) (h : Heap), slices_xorshift_Next.j4  a1 Q h = pts (slices_xorshift_Next.E Q []) 3000 true (atPos (posC slices_xorshift_Next.code []) 4) (frAt [0] [.ptr a1]) h := by
  intros; kernel_rfl

theorem slices_xorshift_Next.s4 {W0 : World} (Q : Int → Heap → Prop)   : CutOK sg W0 33 (entered 33) (Post sg W0 (slices_xorshift_Next.ret Q)) (posC slices_xorshift_Next.code []) 4 [0] (slices_xorshift_Next.k4 (fun a1 h => slices_xorshift_Next.j4  a1 Q h)) := by
  refine cutOK_head (fun vs h hk => ?_)
  unfold slices_xorshift_Next.k4 at hk
  split at hk
  · rename_i a1
    intro todo hm ρ a w s f hp
    exact piece (E := slices_xorshift_Next.E Q []) (vs := [.ptr a1]) (envOK seatOK slices_xorshift_Next.callsOK noIfc_ok) (fnOK seatOK slices_xorshift_Next.fun) trivial slices_xorshift_Next.p4 (fuel := 3000) (by rw [← slices_xorshift_Next.e4]; exact hk) hm s f hp
  · exact hk.elim

theorem slices_xorshift_Next.e : ∀ (a1 : Option Ptr) (Q : Int → Heap → Prop) (h : Heap), slices_xorshift_Next a1 Q h = pts (slices_xorshift_Next.E Q [(4, ([0], slices_xorshift_Next.k4 (fun a1 h => slices_xorshift_Next.j4  a1 Q h)))]) 3000 true [.code slices_xorshift_Next.code] (frOf 0 [.ptr a1]) h := by
  intros; kernel_rfl

theorem slices_xorshift_Next.S {W0 : World} : FnS sg W0 122 slices_xorshift_Next.C := by
  intro vs κ h wv hx w s
  unfold slices_xorshift_Next.C at hx
  split at hx
  · rename_i a1
    refine postImp (ret := slices_xorshift_Next.ret (fun r1 h => κ (.int .u64 r1) h)) (fun v h hr => by unfold slices_xorshift_Next.ret at hr; split at hr; exact hr; exact hr.elim) ?_
    exact calls_of_pts (E := slices_xorshift_Next.E (fun r1 h => κ (.int .u64 r1) h) [(4, ([0], slices_xorshift_Next.k4 (fun a1 h => slices_xorshift_Next.j4  a1 (fun r1 h => κ (.int .u64 r1) h) h)))]) (envOK seatOK slices_xorshift_Next.callsOK noIfc_ok) seatOK.mixed slices_xorshift_Next.fun (Nat.le_of_ble_eq_true rfl) wv (cutL_ok ⟨(slices_xorshift_Next.s4 (fun r1 h => κ (.int .u64 r1) h)), trivial⟩) s (fuel := 3000) (by rw [← slices_xorshift_Next.e]; exact hx)
  · exact hx.elim

noncomputable def slices_breakPatternsOrdered_int.code : Code := Go.Proofs.Try.f22.body.getD .skip

theorem slices_breakPatternsOrdered_int.fun : Fun sg.P 22 65 [] slices_breakPatternsOrdered_int.code := mkFun Go.Proofs.Try.func22 (by kernel_rfl) (by kernel_rfl) (by kernel_rfl) (by kernel_rfl)

def slices_breakPatternsOrdered_int.ret (Q : Heap → Prop) (v : V) (h : Heap) : Prop :=
  match v with
  | .tup [] => Q  h
  | _ => False

def slices_breakPatternsOrdered_int.C (vs : List V) (κ : V → Heap → Prop) (h : Heap) : Prop :=
  match vs with
  | [.sl a1, .int .i64 a2, .int .i64 a3] => slices_breakPatternsOrdered_int a1 a2 a3 (fun  h => κ (.tup []) h) h
  | _ => False

noncomputable def slices_breakPatternsOrdered_int.calls : List (Nat × (List V → (V → Heap → Prop) → Heap → Prop)) := [(121, slices_nextPowerOfTwo.C), (122, slices_xorshift_Next.C)]

noncomputable def slices_breakPatternsOrdered_int.E (Q : Heap → Prop) (cuts : List (Nat × (List Nat × (List V → Heap → Prop)))) : Env := { tis := tisT, fns := fnsT, tys := tysT, gls := [], rts := rtsT, unk := [], nxt := [], calls := slices_breakPatternsOrdered_int.calls, ifc := noIfc, cuts := cuts, ret := slices_breakPatternsOrdered_int.ret Q, rets := [], n := 65 }

theorem slices_breakPatternsOrdered_int.callsOK {W0 : World} : CallsOK sg W0 slices_breakPatternsOrdered_int.calls := ⟨slices_nextPowerOfTwo.S, slices_xorshift_Next.S, trivial⟩

def slices_breakPatternsOrdered_int.k6 (I : Sl → Int → Int → Ptr → Int → Int → Heap → Prop) (vs : List V) (h : Heap) : Prop :=
  match vs with
  | [.sl a1, .int .i64 a2, .int .i64 a3, .ptr (some a4), .int .u64 a5, .int .i64 a6] => I a1 a2 a3 a4 a5 a6 h
  | _ => False

def slices_breakPatternsOrdered_int.k10 (I : Sl → Int → Int → Ptr → Int → Int → Int → Heap → Prop) (vs : List V) (h : Heap) : Prop :=
  match vs with
  | [.sl a1, .int .i64 a2, .int .i64 a3, .ptr (some a4), .int .u64 a5, .int .i64 a6, .int .i64 a7] => I a1 a2 a3 a4 a5 a6 a7 h
  | _ => False

def slices_breakPatternsOrdered_int.k5 (I : Sl → Int → Int → Ptr → Int → Int → Heap → Prop) (vs : List V) (h : Heap) : Prop :=
  match vs with
  | [.sl a1, .int .i64 a2, .int .i64 a3, .ptr (some a4), .int .u64 a5, .int .i64 a6] => I a1 a2 a3 a4 a5 a6 h
  | _ => False

theorem slices_breakPatternsOrdered_int.p6 : (posC slices_breakPatternsOrdered_int.code []).filter (fun p => Nat.beq p.1 6) = [(6, atPos (posC slices_breakPatternsOrdered_int.code []) 6)] := by kernel_rfl

theorem slices_breakPatternsOrdered_int.e6 : ∀ (I5 : Sl → Int → Int → Ptr → Int → Int → Heap → Prop) (a1 : Sl) (a2 : Int) (a3 : Int) (a4 : Ptr) (a5 : Int) (a6 : Int) (Q : Heap → Prop) (h : Heap), slices_breakPatternsOrdered_int.j6 I5 a1 a2 a3 a4 a5 a6 Q h = pts (slices_breakPatternsOrdered_int.E Q [(5, ([0, 1, 6, 7, 8, 9], slices_breakPatternsOrdered_int.k5 I5))]) 3000 true (atPos (posC slices_breakPatternsOrdered_int.code []) 6) (frAt [0, 1, 6, 7, 8, 9] [.sl a1, .int .i64 a2, .int .i64 a3, .ptr (some a4), .int .u64 a5, .int .i64 a6]) h := by
  intros; kernel_rfl

theorem slices_breakPatternsOrdered_int.s6 {W0 : World} (Q : Heap → Prop) (I5 : Sl → Int → Int → Ptr → Int → Int → Heap → Prop) (h5 : CutOK sg W0 65 (entered 22) (Post sg W0 (slices_breakPatternsOrdered_int.ret Q)) (posC slices_breakPatternsOrdered_int.code []) 5 [0, 1, 6, 7, 8, 9] (slices_breakPatternsOrdered_int.k5 I5)) : CutOK sg W0 65 (entered 22) (Post sg W0 (slices_breakPatternsOrdered_int.ret Q)) (posC slices_breakPatternsOrdered_int.code []) 6 [0, 1, 6, 7, 8, 9] (slices_breakPatternsOrdered_int.k6 (fun a1 a2 a3 a4 a5 a6 h => slices_breakPatternsOrdered_int.j6 I5 a1 a2 a3 a4 a5 a6 Q h)) := by
  refine cutOK_head (fun vs h hk => ?_)
  unfold slices_breakPatternsOrdered_int.k6 at hk
  split at hk
  · rename_i a1 a2 a3 a4 a5 a6
    intro todo hm ρ a w s f hp
    exact piece (E := slices_breakPatternsOrdered_int.E Q [(5, ([0, 1, 6, 7, 8, 9], slices_breakPatternsOrdered_int.k5 I5))]) (vs := [.sl a1, .int .i64 a2, .int .i64 a3, .ptr (some a4), .int .u64 a5, .int .i64 a6]) (envOK seatOK slices_breakPatternsOrdered_int.callsOK noIfc_ok) (fnOK seatOK slices_breakPatternsOrdered_int.fun) ⟨h5, trivial⟩ slices_breakPatternsOrdered_int.p6 (fuel := 3000) (by rw [← slices_breakPatternsOrdered_int.e6]; exact hk) hm s f hp
  · exact hk.elim

theorem slices_breakPatternsOrdered_int.p10 : (posC slices_breakPatternsOrdered_int.code []).filter (fun p => Nat.beq p.1 10) = [(10, atPos (posC slices_breakPatternsOrdered_int.code []) 10)] := by kernel_rfl

theorem slices_breakPatternsOrdered_int.e10 : ∀ (I5 : Sl → Int → Int → Ptr → Int → Int → Heap → Prop) (a1 : Sl) (a2 : Int) (a3 : Int) (a4 : Ptr) (a5 : Int) (a6 : Int) (a7 : Int) (Q : Heap → Prop) (h : Heap), slices_breakPatternsOrdered_int.j10 I5 a1 a2 a3 a4 a5 a6 a7 Q h = pts (slices_breakPatternsOrdered_int.E Q [(6, ([0, 1, 6, 7, 8, 9], slices_breakPatternsOrdered_int.k6 (fun a1 a2 a3 a4 a5 a6 h => slices_breakPatternsOrdered_int.j6 I5 a1 a2 a3 a4 a5 a6 Q h)))]) 3000 true (atPos (posC slices_breakPatternsOrdered_int.code []) 10) (frAt [0, 1, 6, 7, 8, 9, 10] [.sl a1, .int .i64 a2, .int .i64 a3, .ptr (some a4), .int .u64 a5, .int .i64 a6, .int .i64 a7]) h := by
  intros; kernel_rfl

theorem slices_breakPatternsOrdered_int.s10 {W0 : World} (Q : Heap → Prop) (I5 : Sl → Int → Int → Ptr → Int → Int → Heap → Prop) (h5 : CutOK sg W0 65 (entered 22) (Post sg W0 (slices_breakPatternsOrdered_int.ret Q)) (posC slices_breakPatternsOrdered_int.code []) 5 [0, 1, 6, 7, 8, 9] (slices_breakPatternsOrdered_int.k5 I5)) : CutOK sg W0 65 (entered 22) (Post sg W0 (slices_breakPatternsOrdered_int.ret Q)) (posC slices_breakPatternsOrdered_int.code []) 10 [0, 1, 6, 7, 8, 9, 10] (slices_breakPatternsOrdered_int.k10 (fun a1 a2 a3 a4 a5 a6 a7 h => slices_breakPatternsOrdered_int.j10 I5 a1 a2 a3 a4 a5 a6 a7 Q h)) := by
  refine cutOK_head (fun vs h hk => ?_)
  unfold slices_breakPatternsOrdered_int.k10 at hk
  split at hk
  · rename_i a1 a2 a3 a4 a5 a6 a7
    intro todo hm ρ a w s f hp
    exact piece (E := slices_breakPatternsOrdered_int.E Q [(6, ([0, 1, 6, 7, 8, 9], slices_breakPatternsOrdered_int.k6 (fun a1 a2 a3 a4 a5 a6 h => slices_breakPatternsOrdered_int.j6 I5 a1 a2 a3 a4 a5 a6 Q h)))]) (vs := [.sl a1, .int .i64 a2, .int .i64 a3, .ptr (some a4), .int .u64 a5, .int .i64 a6, .int .i64 a7]) (envOK seatOK slices_breakPatternsOrdered_int.callsOK noIfc_ok) (fnOK seatOK slices_breakPatternsOrdered_int.fun) ⟨(slices_breakPatternsOrdered_int.s6 Q I5 h5), trivial⟩ slices_breakPatternsOrdered_int.p10 (fuel := 3000) (by rw [← slices_breakPatternsOrdered_int.e10]; exact hk) hm s f hp
  · exact hk.elim

theorem slices_breakPatternsOrdered_int.p5 : (posC slices_breakPatternsOrdered_int.code []).filter (fun p => Nat.beq p.1 5) = [(5, atPos (posC slices_breakPatternsOrdered_int.code []) 5)] := by kernel_rfl

theorem slices_breakPatternsOrdered_int.e5 : ∀  (I5 : Sl → Int → Int → Ptr → Int → Int → Heap → Prop) (a1 : Sl) (a2 : Int) (a3 : Int) (a4 : Ptr) (a5 : Int) (a6 : Int) (Q : Heap → Prop) (h : Heap), slices_breakPatternsOrdered_int.b5  I5 a1 a2 a3 a4 a5 a6 Q h = pts (slices_breakPatternsOrdered_int.E Q [(10, ([0, 1, 6, 7, 8, 9, 10], slices_breakPatternsOrdered_int.k10 (fun a1 a2 a3 a4 a5 a6 a7 h => slices_breakPatternsOrdered_int.j10 I5 a1 a2 a3 a4 a5 a6 a7 Q h)))]) 3000 true (atPos (posC slices_breakPatternsOrdered_int.code []) 5) (frAt [0, 1, 6, 7, 8, 9] [.sl a1, .int .i64 a2, .int .i64 a3, .ptr (some a4), .int .u64 a5, .int .i64 a6]) h := by
  intros; kernel_rfl

theorem slices_breakPatternsOrdered_int.s5 {W0 : World} (Q : Heap → Prop)   : CutOK sg W0 65 (entered 22) (Post sg W0 (slices_breakPatternsOrdered_int.ret Q)) (posC slices_breakPatternsOrdered_int.code []) 5 [0, 1, 6, 7, 8, 9] (slices_breakPatternsOrdered_int.k5 (fun a1 a2 a3 a4 a5 a6 h => slices_breakPatternsOrdered_int.j5  a1 a2 a3 a4 a5 a6 Q h)) := by
  refine cutOK_head (fun vs h hk => ?_)
  unfold slices_breakPatternsOrdered_int.k5 at hk
  split at hk
  · rename_i a1 a2 a3 a4 a5 a6
    refine hk (fun a1 a2 a3 a4 a5 a6 h => Head sg W0 65 (entered 22) (Post sg W0 (slices_breakPatternsOrdered_int.ret Q)) (posC slices_breakPatternsOrdered_int.code []) 5 [0, 1, 6, 7, 8, 9] [.sl a1, .int .i64 a2, .int .i64 a3, .ptr (some a4), .int .u64 a5, .int .i64 a6] h) ?_
    intro a1 a2 a3 a4 a5 a6 h hb todo hm ρ a w s f hp
    have hself : CutOK sg W0 65 (entered 22) (Post sg W0 (slices_breakPatternsOrdered_int.ret Q)) (posC slices_breakPatternsOrdered_int.code []) 5 [0, 1, 6, 7, 8, 9] (slices_breakPatternsOrdered_int.k5 (fun a1 a2 a3 a4 a5 a6 h => Head sg W0 65 (entered 22) (Post sg W0 (slices_breakPatternsOrdered_int.ret Q)) (posC slices_breakPatternsOrdered_int.code []) 5 [0, 1, 6, 7, 8, 9] [.sl a1, .int .i64 a2, .int .i64 a3, .ptr (some a4), .int .u64 a5, .int .i64 a6] h)) := cutOK_head (fun vs h hk => by unfold slices_breakPatternsOrdered_int.k5 at hk; split at hk; exact hk; exact hk.elim)
    exact piece (E := slices_breakPatternsOrdered_int.E Q [(10, ([0, 1, 6, 7, 8, 9, 10], slices_breakPatternsOrdered_int.k10 (fun a1 a2 a3 a4 a5 a6 a7 h => slices_breakPatternsOrdered_int.j10 (fun a1 a2 a3 a4 a5 a6 h => Head sg W0 65 (entered 22) (Post sg W0 (slices_breakPatternsOrdered_int.ret Q)) (posC slices_breakPatternsOrdered_int.code []) 5 [0, 1, 6, 7, 8, 9] [.sl a1, .int .i64 a2, .int .i64 a3, .ptr (some a4), .int .u64 a5, .int .i64 a6] h) a1 a2 a3 a4 a5 a6 a7 Q h)))]) (vs := [.sl a1, .int .i64 a2, .int .i64 a3, .ptr (some a4), .int .u64 a5, .int .i64 a6]) (envOK seatOK slices_breakPatternsOrdered_int.callsOK noIfc_ok) (fnOK seatOK slices_breakPatternsOrdered_int.fun) ⟨(slices_breakPatternsOrdered_int.s10 Q (fun a1 a2 a3 a4 a5 a6 h => Head sg W0 65 (entered 22) (Post sg W0 (slices_breakPatternsOrdered_int.ret Q)) (posC slices_breakPatternsOrdered_int.code []) 5 [0, 1, 6, 7, 8, 9] [.sl a1, .int .i64 a2, .int .i64 a3, .ptr (some a4), .int .u64 a5, .int .i64 a6] h) hself), trivial⟩ slices_breakPatternsOrdered_int.p5 (fuel := 3000) (by rw [← slices_breakPatternsOrdered_int.e5]; exact hb) hm s f hp
  · exact hk.elim

theorem slices_breakPatternsOrdered_int.e : ∀ (a1 : Sl) (a2 : Int) (a3 : Int) (Q : Heap → Prop) (h : Heap), slices_breakPatternsOrdered_int a1 a2 a3 Q h = pts (slices_breakPatternsOrdered_int.E Q [(5, ([0, 1, 6, 7, 8, 9], slices_breakPatternsOrdered_int.k5 (fun a1 a2 a3 a4 a5 a6 h => slices_breakPatternsOrdered_int.j5  a1 a2 a3 a4 a5 a6 Q h)))]) 3000 true [.code slices_breakPatternsOrdered_int.code] (frOf 0 [.sl a1, .int .i64 a2, .int .i64 a3]) h := by
  intros; kernel_rfl

theorem slices_breakPatternsOrdered_int.S {W0 : World} : FnS sg W0 123 slices_breakPatternsOrdered_int.C := by
  intro vs κ h wv hx w s
  unfold slices_breakPatternsOrdered_int.C at hx
  split at hx
  · rename_i a1 a2 a3
    refine postImp (ret := slices_breakPatternsOrdered_int.ret (fun  h => κ (.tup []) h)) (fun v h hr => by unfold slices_breakPatternsOrdered_int.ret at hr; split at hr; exact hr; exact hr.elim) ?_
    exact calls_of_pts (E := slices_breakPatternsOrdered_int.E (fun  h => κ (.tup []) h) [(5, ([0, 1, 6, 7, 8, 9], slices_breakPatternsOrdered_int.k5 (fun a1 a2 a3 a4 a5 a6 h => slices_breakPatternsOrdered_int.j5  a1 a2 a3 a4 a5 a6 (fun  h => κ (.tup []) h) h)))]) (envOK seatOK slices_breakPatternsOrdered_int.callsOK noIfc_ok) seatOK.mixed slices_breakPatternsOrdered_int.fun (Nat.le_of_ble_eq_true rfl) wv (cutL_ok ⟨(slices_breakPatternsOrdered_int.s5 (fun  h => κ (.tup []) h)), trivial⟩) s (fuel := 3000) (by rw [← slices_breakPatternsOrdered_int.e]; exact hx)
  · exact hx.elim

noncomputable def slices_pdqsortOrdered_int.code : Code := Go.Proofs.Try.f18.body.getD .skip

theorem slices_pdqsortOrdered_int.fun : Fun sg.P 18 134 [] slices_pdqsortOrdered_int.code := mkFun Go.Proofs.Try.func18 (by kernel_rfl) (by kernel_rfl) (by kernel_rfl) (by kernel_rfl)

def slices_pdqsortOrdered_int.ret (Q : Heap → Prop) (v : V) (h : Heap) : Prop :=
  match v with
  | .tup [] => Q  h
  | _ => False

def slices_pdqsortOrdered_int.C (vs : List V) (κ : V → Heap → Prop) (h : Heap) : Prop :=
  match vs with
  | [.sl a1, .int .i64 a2, .int .i64 a3, .int .i64 a4] => slices_pdqsortOrdered_int a1 a2 a3 a4 (fun  h => κ (.tup []) h) h
  | _ => False

noncomputable def slices_pdqsortOrdered_int.calls : List (Nat × (List V → (V → Heap → Prop) → Heap → Prop)) := [(110, slices_insertionSortOrdered_int.C), (112, slices_heapSortOrdered_int.C), (123, slices_breakPatternsOrdered_int.C), (116, slices_choosePivotOrdered_int.C), (117, slices_reverseRangeOrdered_int.C), (118, slices_partialInsertionSortOrdered_int.C), (109, cmp_Less_int.C), (119, slices_partitionEqualOrdered_int.C), (120, slices_partitionOrdered_int.C)]

noncomputable def slices_pdqsortOrdered_int.E (Q : Heap → Prop) (cuts : List (Nat × (List Nat × (List V → Heap → Prop)))) : Env := { tis := tisT, fns := fnsT, tys := tysT, gls := [], rts := rtsT, unk := [], nxt := [], calls := slices_pdqsortOrdered_int.calls, ifc := noIfc, cuts := cuts, ret := slices_pdqsortOrdered_int.ret Q, rets := [], n := 134 }

theorem slices_pdqsortOrdered_int.callsOK {W0 : World} : CallsOK sg W0 slices_pdqsortOrdered_int.calls := ⟨slices_insertionSortOrdered_int.S, slices_heapSortOrdered_int.S, slices_breakPatternsOrdered_int.S, slices_choosePivotOrdered_int.S, slices_reverseRangeOrdered_int.S, slices_partialInsertionSortOrdered_int.S, cmp_Less_int.S, slices_partitionEqualOrdered_int.S, slices_partitionOrdered_int.S, trivial⟩

def slices_pdqsortOrdered_int.k25 (I : Sl → Int → Int → Int → Bool → Int → Int → Int → Heap → Prop) (vs : List V) (h : Heap) : Prop :=
  match vs with
  | [.sl a1, .int .i64 a2, .int .i64 a3, .int .i64 a4, .bool a5, .int .i64 a6, .int .i64 a7, .int .i64 a8] => I a1 a2 a3 a4 a5 a6 a7 a8 h
  | _ => False

def slices_pdqsortOrdered_int.k28 (I : Sl → Int → Int → Int → Bool → Int → Int → Int → Heap → Prop) (vs : List V) (h : Heap) : Prop :=
  match vs with
  | [.sl a1, .int .i64 a2, .int .i64 a3, .int .i64 a4, .bool a5, .int .i64 a6, .int .i64 a7, .int .i64 a8] => I a1 a2 a3 a4 a5 a6 a7 a8 h
  | _ => False

def slices_pdqsortOrdered_int.k20 (I : Sl → Int → Int → Int → Int → Int → Heap → Prop) (vs : List V) (h : Heap) : Prop :=
  match vs with
  | [.sl a1, .int .i64 a2, .int .i64 a3, .int .i64 a4, .int .i64 a5, .int .i64 a6] => I a1 a2 a3 a4 a5 a6 h
  | _ => False

def slices_pdqsortOrdered_int.k17 (I : Sl → Int → Int → Int → Bool → Bool → Int → Int → Heap → Prop) (vs : List V) (h : Heap) : Prop :=
  match vs with
  | [.sl a1, .int .i64 a2, .int .i64 a3, .int .i64 a4, .bool a5, .bool a6, .int .i64 a7, .int .i64 a8] => I a1 a2 a3 a4 a5 a6 a7 a8 h
  | _ => False

def slices_pdqsortOrdered_int.k15 (I : Sl → Int → Int → Int → Bool → Bool → Int → Int → Int → Heap → Prop) (vs : List V) (h : Heap) : Prop :=
  match vs with
  | [.sl a1, .int .i64 a2, .int .i64 a3, .int .i64 a4, .bool a5, .bool a6, .int .i64 a7, .int .i64 a8, .int .i64 a9] => I a1 a2 a3 a4 a5 a6 a7 a8 a9 h
  | _ => False

def slices_pdqsortOrdered_int.k10 (I : Sl → Int → Int → Int → Bool → Bool → Int → Heap → Prop) (vs : List V) (h : Heap) : Prop :=
  match vs with
  | [.sl a1, .int .i64 a2, .int .i64 a3, .int .i64 a4, .bool a5, .bool a6, .int .i64 a7] => I a1 a2 a3 a4 a5 a6 a7 h
  | _ => False

def slices_pdqsortOrdered_int.k2 (I : Sl → Int → Int → Int → Bool → Bool → Heap → Prop) (vs : List V) (h : Heap) : Prop :=
  match vs with
  | [.sl a1, .int .i64 a2, .int .i64 a3, .int .i64 a4, .bool a5, .bool a6] => I a1 a2 a3 a4 a5 a6 h
  | _ => False

theorem slices_pdqsortOrdered_int.p25 : (posC slices_pdqsortOrdered_int.code []).filter (fun p => Nat.beq p.1 25) = [(25, atPos (posC slices_pdqsortOrdered_int.code []) 25)] := by kernel_rfl

theorem slices_pdqsortOrdered_int.e25 : ∀ (I2 : Sl → Int → Int → Int → Bool → Bool → Heap → Prop) (a1 : Sl) (a2 : Int) (a3 : Int) (a4 : Int) (a5 : Bool) (a6 : Int) (a7 : Int) (a8 : Int) (Q : Heap → Prop) (h : Heap), slices_pdqsortOrdered_int.j25 I2 a1 a2 a3 a4 a5 a6 a7 a8 Q h = pts (slices_pdqsortOrdered_int.E Q []) 3000 true (atPos (posC slices_pdqsortOrdered_int.code []) 25) (frAt [0, 1, 2, 3, 9, 14, 16, 18] [.sl a1, .int .i64 a2, .int .i64 a3, .int .i64 a4, .bool a5, .int .i64 a6, .int .i64 a7, .int .i64 a8]) h := by
  intros; kernel_rfl

theorem slices_pdqsortOrdered_int.s25 {W0 : World} (Q : Heap → Prop) (I2 : Sl → Int → Int → Int → Bool → Bool → Heap → Prop) (h2 : CutOK sg W0 134 (entered 18) (Post sg W0 (slices_pdqsortOrdered_int.ret Q)) (posC slices_pdqsortOrdered_int.code []) 2 [0, 1, 2, 3, 8, 9] (slices_pdqsortOrdered_int.k2 I2)) : CutOK sg W0 134 (entered 18) (Post sg W0 (slices_pdqsortOrdered_int.ret Q)) (posC slices_pdqsortOrdered_int.code []) 25 [0, 1, 2, 3, 9, 14, 16, 18] (slices_pdqsortOrdered_int.k25 (fun a1 a2 a3 a4 a5 a6 a7 a8 h => slices_pdqsortOrdered_int.j25 I2 a1 a2 a3 a4 a5 a6 a7 a8 Q h)) := by
  refine cutOK_head (fun vs h hk => ?_)
  unfold slices_pdqsortOrdered_int.k25 at hk
  split at hk
  · rename_i a1 a2 a3 a4 a5 a6 a7 a8
    intro todo hm ρ a w s f hp
    exact piece (E := slices_pdqsortOrdered_int.E Q []) (vs := [.sl a1, .int .i64 a2, .int .i64 a3, .int .i64 a4, .bool a5, .int .i64 a6, .int .i64 a7, .int .i64 a8]) (envOK seatOK slices_pdqsortOrdered_int.callsOK noIfc_ok) (fnOK seatOK slices_pdqsortOrdered_int.fun) trivial slices_pdqsortOrdered_int.p25 (fuel := 3000) (by rw [← slices_pdqsortOrdered_int.e25]; exact hk) hm s f hp
  · exact hk.elim

theorem slices_pdqsortOrdered_int.p28 : (posC slices_pdqsortOrdered_int.code []).filter (fun p => Nat.beq p.1 28) = [(28, atPos (posC slices_pdqsortOrdered_int.code []) 28)] := by kernel_rfl

theorem slices_pdqsortOrdered_int.e28 : ∀ (I2 : Sl → Int → Int → Int → Bool → Bool → Heap → Prop) (a1 : Sl) (a2 : Int) (a3 : Int) (a4 : Int) (a5 : Bool) (a6 : Int) (a7 : Int) (a8 : Int) (Q : Heap → Prop) (h : Heap), slices_pdqsortOrdered_int.j28 I2 a1 a2 a3 a4 a5 a6 a7 a8 Q h = pts (slices_pdqsortOrdered_int.E Q []) 3000 true (atPos (posC slices_pdqsortOrdered_int.code []) 28) (frAt [0, 1, 2, 3, 9, 14, 17, 18] [.sl a1, .int .i64 a2, .int .i64 a3, .int .i64 a4, .bool a5, .int .i64 a6, .int .i64 a7, .int .i64 a8]) h := by
  intros; kernel_rfl

theorem slices_pdqsortOrdered_int.s28 {W0 : World} (Q : Heap → Prop) (I2 : Sl → Int → Int → Int → Bool → Bool → Heap → Prop) (h2 : CutOK sg W0 134 (entered 18) (Post sg W0 (slices_pdqsortOrdered_int.ret Q)) (posC slices_pdqsortOrdered_int.code []) 2 [0, 1, 2, 3, 8, 9] (slices_pdqsortOrdered_int.k2 I2)) : CutOK sg W0 134 (entered 18) (Post sg W0 (slices_pdqsortOrdered_int.ret Q)) (posC slices_pdqsortOrdered_int.code []) 28 [0, 1, 2, 3, 9, 14, 17, 18] (slices_pdqsortOrdered_int.k28 (fun a1 a2 a3 a4 a5 a6 a7 a8 h => slices_pdqsortOrdered_int.j28 I2 a1 a2 a3 a4 a5 a6 a7 a8 Q h)) := by
  refine cutOK_head (fun vs h hk => ?_)
  unfold slices_pdqsortOrdered_int.k28 at hk
  split at hk
  · rename_i a1 a2 a3 a4 a5 a6 a7 a8
    intro todo hm ρ a w s f hp
    exact piece (E := slices_pdqsortOrdered_int.E Q []) (vs := [.sl a1, .int .i64 a2, .int .i64 a3, .int .i64 a4, .bool a5, .int .i64 a6, .int .i64 a7, .int .i64 a8]) (envOK seatOK slices_pdqsortOrdered_int.callsOK noIfc_ok) (fnOK seatOK slices_pdqsortOrdered_int.fun) trivial slices_pdqsortOrdered_int.p28 (fuel := 3000) (by rw [← slices_pdqsortOrdered_int.e28]; exact hk) hm s f hp
  · exact hk.elim

theorem slices_pdqsortOrdered_int.p20 : (posC slices_pdqsortOrdered_int.code []).filter (fun p => Nat.beq p.1 20) = [(20, atPos (posC slices_pdqsortOrdered_int.code []) 20)] := by kernel_rfl

theorem slices_pdqsortOrdered_int.e20 : ∀ (I2 : Sl → Int → Int → Int → Bool → Bool → Heap → Prop) (a1 : Sl) (a2 : Int) (a3 : Int) (a4 : Int) (a5 : Int) (a6 : Int) (Q : Heap → Prop) (h : Heap), slices_pdqsortOrdered_int.j20 I2 a1 a2 a3 a4 a5 a6 Q h = pts (slices_pdqsortOrdered_int.E Q [(25, ([0, 1, 2, 3, 9, 14, 16, 18], slices_pdqsortOrdered_int.k25 (fun a1 a2 a3 a4 a5 a6 a7 a8 h => slices_pdqsortOrdered_int.j25 I2 a1 a2 a3 a4 a5 a6 a7 a8 Q h))), (28, ([0, 1, 2, 3, 9, 14, 17, 18], slices_pdqsortOrdered_int.k28 (fun a1 a2 a3 a4 a5 a6 a7 a8 h => slices_pdqsortOrdered_int.j28 I2 a1 a2 a3 a4 a5 a6 a7 a8 Q h)))]) 3000 true (atPos (posC slices_pdqsortOrdered_int.code []) 20) (frAt [0, 1, 2, 3, 10, 11] [.sl a1, .int .i64 a2, .int .i64 a3, .int .i64 a4, .int .i64 a5, .int .i64 a6]) h := by
  intros; kernel_rfl

theorem slices_pdqsortOrdered_int.s20 {W0 : World} (Q : Heap → Prop) (I2 : Sl → Int → Int → Int → Bool → Bool → Heap → Prop) (h2 : CutOK sg W0 134 (entered 18) (Post sg W0 (slices_pdqsortOrdered_int.ret Q)) (posC slices_pdqsortOrdered_int.code []) 2 [0, 1, 2, 3, 8, 9] (slices_pdqsortOrdered_int.k2 I2)) : CutOK sg W0 134 (entered 18) (Post sg W0 (slices_pdqsortOrdered_int.ret Q)) (posC slices_pdqsortOrdered_int.code []) 20 [0, 1, 2, 3, 10, 11] (slices_pdqsortOrdered_int.k20 (fun a1 a2 a3 a4 a5 a6 h => slices_pdqsortOrdered_int.j20 I2 a1 a2 a3 a4 a5 a6 Q h)) := by
  refine cutOK_head (fun vs h hk => ?_)
  unfold slices_pdqsortOrdered_int.k20 at hk
  split at hk
  · rename_i a1 a2 a3 a4 a5 a6
    intro todo hm ρ a w s f hp
    exact piece (E := slices_pdqsortOrdered_int.E Q [(25, ([0, 1, 2, 3, 9, 14, 16, 18], slices_pdqsortOrdered_int.k25 (fun a1 a2 a3 a4 a5 a6 a7 a8 h => slices_pdqsortOrdered_int.j25 I2 a1 a2 a3 a4 a5 a6 a7 a8 Q h))), (28, ([0, 1, 2, 3, 9, 14, 17, 18], slices_pdqsortOrdered_int.k28 (fun a1 a2 a3 a4 a5 a6 a7 a8 h => slices_pdqsortOrdered_int.j28 I2 a1 a2 a3 a4 a5 a6 a7 a8 Q h)))]) (vs := [.sl a1, .int .i64 a2, .int .i64 a3, .int .i64 a4, .int .i64 a5, .int .i64 a6]) (envOK seatOK slices_pdqsortOrdered_int.callsOK noIfc_ok) (fnOK seatOK slices_pdqsortOrdered_int.fun) ⟨(slices_pdqsortOrdered_int.s25 Q I2 h2), (slices_pdqsortOrdered_int.s28 Q I2 h2), trivial⟩ slices_pdqsortOrdered_int.p20 (fuel := 3000) (by rw [← slices_pdqsortOrdered_int.e20]; exact hk) hm s f hp
  · exact hk.elim

theorem slices_pdqsortOrdered_int.p17 : (posC slices_pdqsortOrdered_int.code []).filter (fun p => Nat.beq p.1 17) = [(17, atPos (posC slices_pdqsortOrdered_int.code []) 17)] := by kernel_rfl

theorem slices_pdqsortOrdered_int.e17 : ∀ (I2 : Sl → Int → Int → Int → Bool → Bool → Heap → Prop) (a1 : Sl) (a2 : Int) (a3 : Int) (a4 : Int) (a5 : Bool) (a6 : Bool) (a7 : Int) (a8 : Int) (Q : Heap → Prop) (h : Heap), slices_pdqsortOrdered_int.j17 I2 a1 a2 a3 a4 a5 a6 a7 a8 Q h = pts (slices_pdqsortOrdered_int.E Q [(2, ([0, 1, 2, 3, 8, 9], slices_pdqsortOrdered_int.k2 I2)), (20, ([0, 1, 2, 3, 10, 11], slices_pdqsortOrdered_int.k20 (fun a1 a2 a3 a4 a5 a6 h => slices_pdqsortOrdered_int.j20 I2 a1 a2 a3 a4 a5 a6 Q h)))]) 3000 true (atPos (posC slices_pdqsortOrdered_int.code []) 17) (frAt [0, 1, 2, 3, 8, 9, 10, 11] [.sl a1, .int .i64 a2, .int .i64 a3, .int .i64 a4, .bool a5, .bool a6, .int .i64 a7, .int .i64 a8]) h := by
  intros; kernel_rfl

theorem slices_pdqsortOrdered_int.s17 {W0 : World} (Q : Heap → Prop) (I2 : Sl → Int → Int → Int → Bool → Bool → Heap → Prop) (h2 : CutOK sg W0 134 (entered 18) (Post sg W0 (slices_pdqsortOrdered_int.ret Q)) (posC slices_pdqsortOrdered_int.code []) 2 [0, 1, 2, 3, 8, 9] (slices_pdqsortOrdered_int.k2 I2)) : CutOK sg W0 134 (entered 18) (Post sg W0 (slices_pdqsortOrdered_int.ret Q)) (posC slices_pdqsortOrdered_int.code []) 17 [0, 1, 2, 3, 8, 9, 10, 11] (slices_pdqsortOrdered_int.k17 (fun a1 a2 a3 a4 a5 a6 a7 a8 h => slices_pdqsortOrdered_int.j17 I2 a1 a2 a3 a4 a5 a6 a7 a8 Q h)) := by
  refine cutOK_head (fun vs h hk => ?_)
  unfold slices_pdqsortOrdered_int.k17 at hk
  split at hk
  · rename_i a1 a2 a3 a4 a5 a6 a7 a8
    intro todo hm ρ a w s f hp
    exact piece (E := slices_pdqsortOrdered_int.E Q [(2, ([0, 1, 2, 3, 8, 9], slices_pdqsortOrdered_int.k2 I2)), (20, ([0, 1, 2, 3, 10, 11], slices_pdqsortOrdered_int.k20 (fun a1 a2 a3 a4 a5 a6 h => slices_pdqsortOrdered_int.j20 I2 a1 a2 a3 a4 a5 a6 Q h)))]) (vs := [.sl a1, .int .i64 a2, .int .i64 a3, .int .i64 a4, .bool a5, .bool a6, .int .i64 a7, .int .i64 a8]) (envOK seatOK slices_pdqsortOrdered_int.callsOK noIfc_ok) (fnOK seatOK slices_pdqsortOrdered_int.fun) ⟨h2, (slices_pdqsortOrdered_int.s20 Q I2 h2), trivial⟩ slices_pdqsortOrdered_int.p17 (fuel := 3000) (by rw [← slices_pdqsortOrdered_int.e17]; exact hk) hm s f hp
  · exact hk.elim

theorem slices_pdqsortOrdered_int.p15 : (posC slices_pdqsortOrdered_int.code []).filter (fun p => Nat.beq p.1 15) = [(15, atPos (posC slices_pdqsortOrdered_int.code []) 15)] := by kernel_rfl

theorem slices_pdqsortOrdered_int.e15 : ∀ (I2 : Sl → Int → Int → Int → Bool → Bool → Heap → Prop) (a1 : Sl) (a2 : Int) (a3 : Int) (a4 : Int) (a5 : Bool) (a6 : Bool) (a7 : Int) (a8 : Int) (a9 : Int) (Q : Heap → Prop) (h : Heap), slices_pdqsortOrdered_int.j15 I2 a1 a2 a3 a4 a5 a6 a7 a8 a9 Q h = pts (slices_pdqsortOrdered_int.E Q [(17, ([0, 1, 2, 3, 8, 9, 10, 11], slices_pdqsortOrdered_int.k17 (fun a1 a2 a3 a4 a5 a6 a7 a8 h => slices_pdqsortOrdered_int.j17 I2 a1 a2 a3 a4 a5 a6 a7 a8 Q h)))]) 3000 true (atPos (posC slices_pdqsortOrdered_int.code []) 15) (frAt [0, 1, 2, 3, 8, 9, 10, 11, 12] [.sl a1, .int .i64 a2, .int .i64 a3, .int .i64 a4, .bool a5, .bool a6, .int .i64 a7, .int .i64 a8, .int .i64 a9]) h := by
  intros; kernel_rfl

theorem slices_pdqsortOrdered_int.s15 {W0 : World} (Q : Heap → Prop) (I2 : Sl → Int → Int → Int → Bool → Bool → Heap → Prop) (h2 : CutOK sg W0 134 (entered 18) (Post sg W0 (slices_pdqsortOrdered_int.ret Q)) (posC slices_pdqsortOrdered_int.code []) 2 [0, 1, 2, 3, 8, 9] (slices_pdqsortOrdered_int.k2 I2)) : CutOK sg W0 134 (entered 18) (Post sg W0 (slices_pdqsortOrdered_int.ret Q)) (posC slices_pdqsortOrdered_int.code []) 15 [0, 1, 2, 3, 8, 9, 10, 11, 12] (slices_pdqsortOrdered_int.k15 (fun a1 a2 a3 a4 a5 a6 a7 a8 a9 h => slices_pdqsortOrdered_int.j15 I2 a1 a2 a3 a4 a5 a6 a7 a8 a9 Q h)) := by
  refine cutOK_head (fun vs h hk => ?_)
  unfold slices_pdqsortOrdered_int.k15 at hk
  split at hk
  · rename_i a1 a2 a3 a4 a5 a6 a7 a8 a9
    intro todo hm ρ a w s f hp
    exact piece (E := slices_pdqsortOrdered_int.E Q [(17, ([0, 1, 2, 3, 8, 9, 10, 11], slices_pdqsortOrdered_int.k17 (fun a1 a2 a3 a4 a5 a6 a7 a8 h => slices_pdqsortOrdered_int.j17 I2 a1 a2 a3 a4 a5 a6 a7 a8 Q h)))]) (vs := [.sl a1, .int .i64 a2, .int .i64 a3, .int .i64 a4, .bool a5, .bool a6, .int .i64 a7, .int .i64 a8, .int .i64 a9]) (envOK seatOK slices_pdqsortOrdered_int.callsOK noIfc_ok) (fnOK seatOK slices_pdqsortOrdered_int.fun) ⟨(slices_pdqsortOrdered_int.s17 Q I2 h2), trivial⟩ slices_pdqsortOrdered_int.p15 (fuel := 3000) (by rw [← slices_pdqsortOrdered_int.e15]; exact hk) hm s f hp
  · exact hk.elim

theorem slices_pdqsortOrdered_int.p10 : (posC slices_pdqsortOrdered_int.code []).filter (fun p => Nat.beq p.1 10) = [(10, atPos (posC slices_pdqsortOrdered_int.code []) 10)] := by kernel_rfl

theorem slices_pdqsortOrdered_int.e10 : ∀ (I2 : Sl → Int → Int → Int → Bool → Bool → Heap → Prop) (a1 : Sl) (a2 : Int) (a3 : Int) (a4 : Int) (a5 : Bool) (a6 : Bool) (a7 : Int) (Q : Heap → Prop) (h : Heap), slices_pdqsortOrdered_int.j10 I2 a1 a2 a3 a4 a5 a6 a7 Q h = pts (slices_pdqsortOrdered_int.E Q [(15, ([0, 1, 2, 3, 8, 9, 10, 11, 12], slices_pdqsortOrdered_int.k15 (fun a1 a2 a3 a4 a5 a6 a7 a8 a9 h => slices_pdqsortOrdered_int.j15 I2 a1 a2 a3 a4 a5 a6 a7 a8 a9 Q h)))]) 3000 true (atPos (posC slices_pdqsortOrdered_int.code []) 10) (frAt [0, 1, 2, 3, 8, 9, 10] [.sl a1, .int .i64 a2, .int .i64 a3, .int .i64 a4, .bool a5, .bool a6, .int .i64 a7]) h := by
  intros; kernel_rfl

theorem slices_pdqsortOrdered_int.s10 {W0 : World} (Q : Heap → Prop) (I2 : Sl → Int → Int → Int → Bool → Bool → Heap → Prop) (h2 : CutOK sg W0 134 (entered 18) (Post sg W0 (slices_pdqsortOrdered_int.ret Q)) (posC slices_pdqsortOrdered_int.code []) 2 [0, 1, 2, 3, 8, 9] (slices_pdqsortOrdered_int.k2 I2)) : CutOK sg W0 134 (entered 18) (Post sg W0 (slices_pdqsortOrdered_int.ret Q)) (posC slices_pdqsortOrdered_int.code []) 10 [0, 1, 2, 3, 8, 9, 10] (slices_pdqsortOrdered_int.k10 (fun a1 a2 a3 a4 a5 a6 a7 h => slices_pdqsortOrdered_int.j10 I2 a1 a2 a3 a4 a5 a6 a7 Q h)) := by
  refine cutOK_head (fun vs h hk => ?_)
  unfold slices_pdqsortOrdered_int.k10 at hk
  split at hk
  · rename_i a1 a2 a3 a4 a5 a6 a7
    intro todo hm ρ a w s f hp
    exact piece (E := slices_pdqsortOrdered_int.E Q [(15, ([0, 1, 2, 3, 8, 9, 10, 11, 12], slices_pdqsortOrdered_int.k15 (fun a1 a2 a3 a4 a5 a6 a7 a8 a9 h => slices_pdqsortOrdered_int.j15 I2 a1 a2 a3 a4 a5 a6 a7 a8 a9 Q h)))]) (vs := [.sl a1, .int .i64 a2, .int .i64 a3, .int .i64 a4, .bool a5, .bool a6, .int .i64 a7]) (envOK seatOK slices_pdqsortOrdered_int.callsOK noIfc_ok) (fnOK seatOK slices_pdqsortOrdered_int.fun) ⟨(slices_pdqsortOrdered_int.s15 Q I2 h2), trivial⟩ slices_pdqsortOrdered_int.p10 (fuel := 3000) (by rw [← slices_pdqsortOrdered_int.e10]; exact hk) hm s f hp
  · exact hk.elim

theorem slices_pdqsortOrdered_int.p2 : (posC slices_pdqsortOrdered_int.code []).filter (fun p => Nat.beq p.1 2) = [(2, atPos (posC slices_pdqsortOrdered_int.code []) 2)] := by kernel_rfl

theorem slices_pdqsortOrdered_int.e2 : ∀  (I2 : Sl → Int → Int → Int → Bool → Bool → Heap → Prop) (a1 : Sl) (a2 : Int) (a3 : Int) (a4 : Int) (a5 : Bool) (a6 : Bool) (Q : Heap → Prop) (h : Heap), slices_pdqsortOrdered_int.b2  I2 a1 a2 a3 a4 a5 a6 Q h = pts (slices_pdqsortOrdered_int.E Q [(10, ([0, 1, 2, 3, 8, 9, 10], slices_pdqsortOrdered_int.k10 (fun a1 a2 a3 a4 a5 a6 a7 h => slices_pdqsortOrdered_int.j10 I2 a1 a2 a3 a4 a5 a6 a7 Q h)))]) 3000 true (atPos (posC slices_pdqsortOrdered_int.code []) 2) (frAt [0, 1, 2, 3, 8, 9] [.sl a1, .int .i64 a2, .int .i64 a3, .int .i64 a4, .bool a5, .bool a6]) h := by
  intros; kernel_rfl

theorem slices_pdqsortOrdered_int.s2 {W0 : World} (Q : Heap → Prop)   : CutOK sg W0 134 (entered 18) (Post sg W0 (slices_pdqsortOrdered_int.ret Q)) (posC slices_pdqsortOrdered_int.code []) 2 [0, 1, 2, 3, 8, 9] (slices_pdqsortOrdered_int.k2 (fun a1 a2 a3 a4 a5 a6 h => slices_pdqsortOrdered_int.j2  a1 a2 a3 a4 a5 a6 Q h)) := by
  refine cutOK_head (fun vs h hk => ?_)
  unfold slices_pdqsortOrdered_int.k2 at hk
  split at hk
  · rename_i a1 a2 a3 a4 a5 a6
    refine hk (fun a1 a2 a3 a4 a5 a6 h => Head sg W0 134 (entered 18) (Post sg W0 (slices_pdqsortOrdered_int.ret Q)) (posC slices_pdqsortOrdered_int.code []) 2 [0, 1, 2, 3, 8, 9] [.sl a1, .int .i64 a2, .int .i64 a3, .int .i64 a4, .bool a5, .bool a6] h) ?_
    intro a1 a2 a3 a4 a5 a6 h hb todo hm ρ a w s f hp
    have hself : CutOK sg W0 134 (entered 18) (Post sg W0 (slices_pdqsortOrdered_int.ret Q)) (posC slices_pdqsortOrdered_int.code []) 2 [0, 1, 2, 3, 8, 9] (slices_pdqsortOrdered_int.k2 (fun a1 a2 a3 a4 a5 a6 h => Head sg W0 134 (entered 18) (Post sg W0 (slices_pdqsortOrdered_int.ret Q)) (posC slices_pdqsortOrdered_int.code []) 2 [0, 1, 2, 3, 8, 9] [.sl a1, .int .i64 a2, .int .i64 a3, .int .i64 a4, .bool a5, .bool a6] h)) := cutOK_head (fun vs h hk => by unfold slices_pdqsortOrdered_int.k2 at hk; split at hk; exact hk; exact hk.elim)
    exact piece (E := slices_pdqsortOrdered_int.E Q [(10, ([0, 1, 2, 3, 8, 9, 10], slices_pdqsortOrdered_int.k10 (fun a1 a2 a3 a4 a5 a6 a7 h => slices_pdqsortOrdered_int.j10 (fun a1 a2 a3 a4 a5 a6 h => Head sg W0 134 (entered 18) (Post sg W0 (slices_pdqsortOrdered_int.ret Q)) (posC slices_pdqsortOrdered_int.code []) 2 [0, 1, 2, 3, 8, 9] [.sl a1, .int .i64 a2, .int .i64 a3, .int .i64 a4, .bool a5, .bool a6] h) a1 a2 a3 a4 a5 a6 a7 Q h)))]) (vs := [.sl a1, .int .i64 a2, .int .i64 a3, .int .i64 a4, .bool a5, .bool a6]) (envOK seatOK slices_pdqsortOrdered_int.callsOK noIfc_ok) (fnOK seatOK slices_pdqsortOrdered_int.fun) ⟨(slices_pdqsortOrdered_int.s10 Q (fun a1 a2 a3 a4 a5 a6 h => Head sg W0 134 (entered 18) (Post sg W0 (slices_pdqsortOrdered_int.ret Q)) (posC slices_pdqsortOrdered_int.code []) 2 [0, 1, 2, 3, 8, 9] [.sl a1, .int .i64 a2, .int .i64 a3, .int .i64 a4, .bool a5, .bool a6] h) hself), trivial⟩ slices_pdqsortOrdered_int.p2 (fuel := 3000) (by rw [← slices_pdqsortOrdered_int.e2]; exact hb) hm s f hp
  · exact hk.elim

theorem slices_pdqsortOrdered_int.e : ∀ (a1 : Sl) (a2 : Int) (a3 : Int) (a4 : Int) (Q : Heap → Prop) (h : Heap), slices_pdqsortOrdered_int a1 a2 a3 a4 Q h = pts (slices_pdqsortOrdered_int.E Q [(2, ([0, 1, 2, 3, 8, 9], slices_pdqsortOrdered_int.k2 (fun a1 a2 a3 a4 a5 a6 h => slices_pdqsortOrdered_int.j2  a1 a2 a3 a4 a5 a6 Q h)))]) 3000 true [.code slices_pdqsortOrdered_int.code] (frOf 0 [.sl a1, .int .i64 a2, .int .i64 a3, .int .i64 a4]) h := by
  intros; kernel_rfl

theorem slices_pdqsortOrdered_int.S {W0 : World} : FnS sg W0 124 slices_pdqsortOrdered_int.C := by
  intro vs κ h wv hx w s
  unfold slices_pdqsortOrdered_int.C at hx
  split at hx
  · rename_i a1 a2 a3 a4
    refine postImp (ret := slices_pdqsortOrdered_int.ret (fun  h => κ (.tup []) h)) (fun v h hr => by unfold slices_pdqsortOrdered_int.ret at hr; split at hr; exact hr; exact hr.elim) ?_
    exact calls_of_pts (E := slices_pdqsortOrdered_int.E (fun  h => κ (.tup []) h) [(2, ([0, 1, 2, 3, 8, 9], slices_pdqsortOrdered_int.k2 (fun a1 a2 a3 a4 a5 a6 h => slices_pdqsortOrdered_int.j2  a1 a2 a3 a4 a5 a6 (fun  h => κ (.tup []) h) h)))]) (envOK seatOK slices_pdqsortOrdered_int.callsOK noIfc_ok) seatOK.mixed slices_pdqsortOrdered_int.fun (Nat.le_of_ble_eq_true rfl) wv (cutL_ok ⟨(slices_pdqsortOrdered_int.s2 (fun  h => κ (.tup []) h)), trivial⟩) s (fuel := 3000) (by rw [← slices_pdqsortOrdered_int.e]; exact hx)
  · exact hx.elim

noncomputable def slices_Sort_int_int.code : Code := Go.Proofs.Try.f17.body.getD .skip

theorem slices_Sort_int_int.fun : Fun sg.P 17 11 [] slices_Sort_int_int.code := mkFun Go.Proofs.Try.func17 (by kernel_rfl) (by kernel_rfl) (by kernel_rfl) (by kernel_rfl)

def slices_Sort_int_int.ret (Q : Heap → Prop) (v : V) (h : Heap) : Prop :=
  match v with
  | .tup [] => Q  h
  | _ => False

def slices_Sort_int_int.C (vs : List V) (κ : V → Heap → Prop) (h : Heap) : Prop :=
  match vs with
  | [.sl a1] => slices_Sort_int_int a1 (fun  h => κ (.tup []) h) h
  | _ => False

noncomputable def slices_Sort_int_int.calls : List (Nat × (List V → (V → Heap → Prop) → Heap → Prop)) := [(124, slices_pdqsortOrdered_int.C), (107, math_bits_Len.C)]

noncomputable def slices_Sort_int_int.E (Q : Heap → Prop) (cuts : List (Nat × (List Nat × (List V → Heap → Prop)))) : Env := { tis := tisT, fns := fnsT, tys := tysT, gls := [], rts := rtsT, unk := [], nxt := [], calls := slices_Sort_int_int.calls, ifc := noIfc, cuts := cuts, ret := slices_Sort_int_int.ret Q, rets := [], n := 11 }

theorem slices_Sort_int_int.callsOK {W0 : World} : CallsOK sg W0 slices_Sort_int_int.calls := ⟨slices_pdqsortOrdered_int.S, math_bits_Len.S, trivial⟩

theorem slices_Sort_int_int.e : ∀ (a1 : Sl) (Q : Heap → Prop) (h : Heap), slices_Sort_int_int a1 Q h = pts (slices_Sort_int_int.E Q []) 3000 true [.code slices_Sort_int_int.code] (frOf 0 [.sl a1]) h := by
  intros; kernel_rfl

theorem slices_Sort_int_int.S {W0 : World} : FnS sg W0 125 slices_Sort_int_int.C := by
  intro vs κ h wv hx w s
  unfold slices_Sort_int_int.C at hx
  split at hx
  · rename_i a1
    refine postImp (ret := slices_Sort_int_int.ret (fun  h => κ (.tup []) h)) (fun v h hr => by unfold slices_Sort_int_int.ret at hr; split at hr; exact hr; exact hr.elim) ?_
    exact calls_of_pts (E := slices_Sort_int_int.E (fun  h => κ (.tup []) h) []) (envOK seatOK slices_Sort_int_int.callsOK noIfc_ok) seatOK.mixed slices_Sort_int_int.fun (Nat.le_of_ble_eq_true rfl) wv (cutL_ok trivial) s (fuel := 3000) (by rw [← slices_Sort_int_int.e]; exact hx)
  · exact hx.elim

noncomputable def vtimer_Timers_Due.code : Code := Go.Proofs.Try.f9.body.getD .skip

theorem vtimer_Timers_Due.fun : Fun sg.P 9 52 [.tmp 4] vtimer_Timers_Due.code := mkFun Go.Proofs.Try.func9 (by kernel_rfl) (by kernel_rfl) (by kernel_rfl) (by kernel_rfl)

def vtimer_Timers_Due.ret (Q : Sl → Heap → Prop) (v : V) (h : Heap) : Prop :=
  match v with
  | .sl r1 => Q r1 h
  | _ => False

def vtimer_Timers_Due.C (vs : List V) (κ : V → Heap → Prop) (h : Heap) : Prop :=
  match vs with
  | [.ptr a1, .int .u64 a2] => vtimer_Timers_Due a1 a2 (fun r1 h => κ (.sl r1) h) h
  | _ => False

noncomputable def vtimer_Timers_Due.calls : List (Nat × (List V → (V → Heap → Prop) → Heap → Prop)) := [(132, vtimer_timer_now.C), (125, slices_Sort_int_int.C)]

noncomputable def vtimer_Timers_Due.E (Q : Sl → Heap → Prop) (cuts : List (Nat × (List Nat × (List V → Heap → Prop)))) : Env := { tis := tisT, fns := fnsT, tys := tysT, gls := [], rts := rtsT, unk := [], nxt := [(18, (.one (.int .i64), .one (.ptr)))], calls := vtimer_Timers_Due.calls, ifc := noIfc, cuts := cuts, ret := vtimer_Timers_Due.ret Q, rets := [.tmp 4], n := 52 }

theorem vtimer_Timers_Due.callsOK {W0 : World} : CallsOK sg W0 vtimer_Timers_Due.calls := ⟨vtimer_timer_now.S, slices_Sort_int_int.S, trivial⟩

def vtimer_Timers_Due.k8 (I : Int → Sl → Int → (Option Ptr) → Ptr → Heap → Prop) (vs : List V) (h : Heap) : Prop :=
  match vs with
  | [.int .u64 a1, .sl a2, .int .i64 a3, .ptr a4, .ptr (some a5)] => I a1 a2 a3 a4 a5 h
  | _ => False

def vtimer_Timers_Due.k5 (I : Int → Sl → Ptr → Heap → Prop) (vs : List V) (h : Heap) : Prop :=
  match vs with
  | [.int .u64 a1, .sl a2, .ptr (some a3)] => I a1 a2 a3 h
  | _ => False

theorem vtimer_Timers_Due.p8 : (posC vtimer_Timers_Due.code []).filter (fun p => Nat.beq p.1 8) = [(8, atPos (posC vtimer_Timers_Due.code []) 8)] := by kernel_rfl

theorem vtimer_Timers_Due.e8 : ∀ (I5 : Int → Sl → Ptr → Heap → Prop) (a1 : Int) (a2 : Sl) (a3 : Int) (a4 : Option Ptr) (a5 : Ptr) (Q : Sl → Heap → Prop) (h : Heap), vtimer_Timers_Due.j8 I5 a1 a2 a3 a4 a5 Q h = pts (vtimer_Timers_Due.E Q [(5, ([1, 5, 15], vtimer_Timers_Due.k5 I5))]) 3000 true (atPos (posC vtimer_Timers_Due.code []) 8) (frAt [1, 5, 6, 7, 15] [.int .u64 a1, .sl a2, .int .i64 a3, .ptr a4, .ptr (some a5)]) h := by
  intros; kernel_rfl

theorem vtimer_Timers_Due.s8 {W0 : World} (Q : Sl → Heap → Prop) (I5 : Int → Sl → Ptr → Heap → Prop) (h5 : CutOK sg W0 52 (entered 9) (Post sg W0 (vtimer_Timers_Due.ret Q)) (posC vtimer_Timers_Due.code []) 5 [1, 5, 15] (vtimer_Timers_Due.k5 I5)) : CutOK sg W0 52 (entered 9) (Post sg W0 (vtimer_Timers_Due.ret Q)) (posC vtimer_Timers_Due.code []) 8 [1, 5, 6, 7, 15] (vtimer_Timers_Due.k8 (fun a1 a2 a3 a4 a5 h => vtimer_Timers_Due.j8 I5 a1 a2 a3 a4 a5 Q h)) := by
  refine cutOK_head (fun vs h hk => ?_)
  unfold vtimer_Timers_Due.k8 at hk
  split at hk
  · rename_i a1 a2 a3 a4 a5
    intro todo hm ρ a w s f hp
    exact piece (E := vtimer_Timers_Due.E Q [(5, ([1, 5, 15], vtimer_Timers_Due.k5 I5))]) (vs := [.int .u64 a1, .sl a2, .int .i64 a3, .ptr a4, .ptr (some a5)]) (envOK seatOK vtimer_Timers_Due.callsOK noIfc_ok) (fnOK seatOK vtimer_Timers_Due.fun) ⟨h5, trivial⟩ vtimer_Timers_Due.p8 (fuel := 3000) (by rw [← vtimer_Timers_Due.e8]; exact hk) hm s f hp
  · exact hk.elim

theorem vtimer_Timers_Due.p5 : (posC vtimer_Timers_Due.code []).filter (fun p => Nat.beq p.1 5) = [(5, atPos (posC vtimer_Timers_Due.code []) 5)] := by kernel_rfl

theorem vtimer_Timers_Due.e5 : ∀  (I5 : Int → Sl → Ptr → Heap → Prop) (a1 : Int) (a2 : Sl) (a3 : Ptr) (Q : Sl → Heap → Prop) (h : Heap), vtimer_Timers_Due.b5  I5 a1 a2 a3 Q h = pts (vtimer_Timers_Due.E Q [(8, ([1, 5, 6, 7, 15], vtimer_Timers_Due.k8 (fun a1 a2 a3 a4 a5 h => vtimer_Timers_Due.j8 I5 a1 a2 a3 a4 a5 Q h))), (5, ([1, 5, 15], vtimer_Timers_Due.k5 I5))]) 3000 true (atPos (posC vtimer_Timers_Due.code []) 5) (frAt [1, 5, 15] [.int .u64 a1, .sl a2, .ptr (some a3)]) h := by
  intros; kernel_rfl

theorem vtimer_Timers_Due.s5 {W0 : World} (Q : Sl → Heap → Prop)   : CutOK sg W0 52 (entered 9) (Post sg W0 (vtimer_Timers_Due.ret Q)) (posC vtimer_Timers_Due.code []) 5 [1, 5, 15] (vtimer_Timers_Due.k5 (fun a1 a2 a3 h => vtimer_Timers_Due.j5  a1 a2 a3 Q h)) := by
  refine cutOK_head (fun vs h hk => ?_)
  unfold vtimer_Timers_Due.k5 at hk
  split at hk
  · rename_i a1 a2 a3
    refine hk (fun a1 a2 a3 h => Head sg W0 52 (entered 9) (Post sg W0 (vtimer_Timers_Due.ret Q)) (posC vtimer_Timers_Due.code []) 5 [1, 5, 15] [.int .u64 a1, .sl a2, .ptr (some a3)] h) ?_
    intro a1 a2 a3 h hb todo hm ρ a w s f hp
    have hself : CutOK sg W0 52 (entered 9) (Post sg W0 (vtimer_Timers_Due.ret Q)) (posC vtimer_Timers_Due.code []) 5 [1, 5, 15] (vtimer_Timers_Due.k5 (fun a1 a2 a3 h => Head sg W0 52 (entered 9) (Post sg W0 (vtimer_Timers_Due.ret Q)) (posC vtimer_Timers_Due.code []) 5 [1, 5, 15] [.int .u64 a1, .sl a2, .ptr (some a3)] h)) := cutOK_head (fun vs h hk => by unfold vtimer_Timers_Due.k5 at hk; split at hk; exact hk; exact hk.elim)
    exact piece (E := vtimer_Timers_Due.E Q [(8, ([1, 5, 6, 7, 15], vtimer_Timers_Due.k8 (fun a1 a2 a3 a4 a5 h => vtimer_Timers_Due.j8 (fun a1 a2 a3 h => Head sg W0 52 (entered 9) (Post sg W0 (vtimer_Timers_Due.ret Q)) (posC vtimer_Timers_Due.code []) 5 [1, 5, 15] [.int .u64 a1, .sl a2, .ptr (some a3)] h) a1 a2 a3 a4 a5 Q h))), (5, ([1, 5, 15], vtimer_Timers_Due.k5 (fun a1 a2 a3 h => Head sg W0 52 (entered 9) (Post sg W0 (vtimer_Timers_Due.ret Q)) (posC vtimer_Timers_Due.code []) 5 [1, 5, 15] [.int .u64 a1, .sl a2, .ptr (some a3)] h)))]) (vs := [.int .u64 a1, .sl a2, .ptr (some a3)]) (envOK seatOK vtimer_Timers_Due.callsOK noIfc_ok) (fnOK seatOK vtimer_Timers_Due.fun) ⟨(vtimer_Timers_Due.s8 Q (fun a1 a2 a3 h => Head sg W0 52 (entered 9) (Post sg W0 (vtimer_Timers_Due.ret Q)) (posC vtimer_Timers_Due.code []) 5 [1, 5, 15] [.int .u64 a1, .sl a2, .ptr (some a3)] h) hself), hself, trivial⟩ vtimer_Timers_Due.p5 (fuel := 3000) (by rw [← vtimer_Timers_Due.e5]; exact hb) hm s f hp
  · exact hk.elim

theorem vtimer_Timers_Due.e : ∀ (a1 : Option Ptr) (a2 : Int) (Q : Sl → Heap → Prop) (h : Heap), vtimer_Timers_Due a1 a2 Q h = pts (vtimer_Timers_Due.E Q [(5, ([1, 5, 15], vtimer_Timers_Due.k5 (fun a1 a2 a3 h => vtimer_Timers_Due.j5  a1 a2 a3 Q h)))]) 3000 true [.code vtimer_Timers_Due.code] (frOf 0 [.ptr a1, .int .u64 a2]) h := by
  intros; kernel_rfl

theorem vtimer_Timers_Due.S {W0 : World} : FnS sg W0 126 vtimer_Timers_Due.C := by
  intro vs κ h wv hx w s
  unfold vtimer_Timers_Due.C at hx
  split at hx
  · rename_i a1 a2
    refine postImp (ret := vtimer_Timers_Due.ret (fun r1 h => κ (.sl r1) h)) (fun v h hr => by unfold vtimer_Timers_Due.ret at hr; split at hr; exact hr; exact hr.elim) ?_
    exact calls_of_pts (E := vtimer_Timers_Due.E (fun r1 h => κ (.sl r1) h) [(5, ([1, 5, 15], vtimer_Timers_Due.k5 (fun a1 a2 a3 h => vtimer_Timers_Due.j5  a1 a2 a3 (fun r1 h => κ (.sl r1) h) h)))]) (envOK seatOK vtimer_Timers_Due.callsOK noIfc_ok) seatOK.mixed vtimer_Timers_Due.fun (Nat.le_of_ble_eq_true rfl) wv (cutL_ok ⟨(vtimer_Timers_Due.s5 (fun r1 h => κ (.sl r1) h)), trivial⟩) s (fuel := 3000) (by rw [← vtimer_Timers_Due.e]; exact hx)
  · exact hx.elim

noncomputable def vtimer_Timers_Go.code : Code := Go.Proofs.Try.f10.body.getD .skip

theorem vtimer_Timers_Go.fun : Fun sg.P 10 43 [.tmp 6] vtimer_Timers_Go.code := mkFun Go.Proofs.Try.func10 (by kernel_rfl) (by kernel_rfl) (by kernel_rfl) (by kernel_rfl)

def vtimer_Timers_Go.ret (Q : Int → Heap → Prop) (v : V) (h : Heap) : Prop :=
  match v with
  | .int .i64 r1 => Q r1 h
  | _ => False

def vtimer_Timers_Go.C (vs : List V) (κ : V → Heap → Prop) (h : Heap) : Prop :=
  match vs with
  | [.ptr a1, .int .i64 a2, .int .u64 a3] => vtimer_Timers_Go a1 a2 a3 (fun r1 h => κ (.int .i64 r1) h) h
  | _ => False

noncomputable def vtimer_Timers_Go.calls : List (Nat × (List V → (V → Heap → Prop) → Heap → Prop)) := [(100, vtimer_Timers_of.C)]

noncomputable def vtimer_Timers_Go.E (Q : Int → Heap → Prop) (cuts : List (Nat × (List Nat × (List V → Heap → Prop)))) : Env := { tis := tisT, fns := fnsT, tys := tysT, gls := [], rts := rtsT, unk := [], nxt := [], calls := vtimer_Timers_Go.calls, ifc := noIfc, cuts := cuts, ret := vtimer_Timers_Go.ret Q, rets := [.tmp 6], n := 43 }

theorem vtimer_Timers_Go.callsOK {W0 : World} : CallsOK sg W0 vtimer_Timers_Go.calls := ⟨vtimer_Timers_of.S, trivial⟩

def vtimer_Timers_Go.k7 (I : Heap → Prop) (vs : List V) (h : Heap) : Prop :=
  match vs with
  | [] => I  h
  | _ => False

theorem vtimer_Timers_Go.p7 : (posC vtimer_Timers_Go.code []).filter (fun p => Nat.beq p.1 7) = [(7, atPos (posC vtimer_Timers_Go.code []) 7)] := by kernel_rfl

theorem vtimer_Timers_Go.e7 : ∀   (Q : Int → Heap → Prop) (h : Heap), vtimer_Timers_Go.j7   Q h = pts (vtimer_Timers_Go.E Q []) 3000 true (atPos (posC vtimer_Timers_Go.code []) 7) (frAt [] []) h := by
  intros; kernel_rfl

theorem vtimer_Timers_Go.s7 {W0 : World} (Q : Int → Heap → Prop)   : CutOK sg W0 43 (entered 10) (Post sg W0 (vtimer_Timers_Go.ret Q)) (posC vtimer_Timers_Go.code []) 7 [] (vtimer_Timers_Go.k7 (fun  h => vtimer_Timers_Go.j7   Q h)) := by
  refine cutOK_head (fun vs h hk => ?_)
  unfold vtimer_Timers_Go.k7 at hk
  split at hk
  · skip
    intro todo hm ρ a w s f hp
    exact piece (E := vtimer_Timers_Go.E Q []) (vs := []) (envOK seatOK vtimer_Timers_Go.callsOK noIfc_ok) (fnOK seatOK vtimer_Timers_Go.fun) trivial vtimer_Timers_Go.p7 (fuel := 3000) (by rw [← vtimer_Timers_Go.e7]; exact hk) hm s f hp
  · exact hk.elim

theorem vtimer_Timers_Go.e : ∀ (a1 : Option Ptr) (a2 : Int) (a3 : Int) (Q : Int → Heap → Prop) (h : Heap), vtimer_Timers_Go a1 a2 a3 Q h = pts (vtimer_Timers_Go.E Q [(7, ([], vtimer_Timers_Go.k7 (fun  h => vtimer_Timers_Go.j7   Q h)))]) 3000 true [.code vtimer_Timers_Go.code] (frOf 0 [.ptr a1, .int .i64 a2, .int .u64 a3]) h := by
  intros; kernel_rfl

theorem vtimer_Timers_Go.S {W0 : World} : FnS sg W0 133 vtimer_Timers_Go.C := by
  intro vs κ h wv hx w s
  unfold vtimer_Timers_Go.C at hx
  split at hx
  · rename_i a1 a2 a3
    refine postImp (ret := vtimer_Timers_Go.ret (fun r1 h => κ (.int .i64 r1) h)) (fun v h hr => by unfold vtimer_Timers_Go.ret at hr; split at hr; exact hr; exact hr.elim) ?_
    exact calls_of_pts (E := vtimer_Timers_Go.E (fun r1 h => κ (.int .i64 r1) h) [(7, ([], vtimer_Timers_Go.k7 (fun  h => vtimer_Timers_Go.j7   (fun r1 h => κ (.int .i64 r1) h) h)))]) (envOK seatOK vtimer_Timers_Go.callsOK noIfc_ok) seatOK.mixed vtimer_Timers_Go.fun (Nat.le_of_ble_eq_true rfl) wv (cutL_ok ⟨(vtimer_Timers_Go.s7 (fun r1 h => κ (.int .i64 r1) h)), trivial⟩) s (fuel := 3000) (by rw [← vtimer_Timers_Go.e]; exact hx)
  · exact hx.elim

noncomputable def vtimer_Timers_Now.code : Code := Go.Proofs.Try.f11.body.getD .skip

theorem vtimer_Timers_Now.fun : Fun sg.P 11 21 [.tmp 6, .tmp 7] vtimer_Timers_Now.code := mkFun Go.Proofs.Try.func11 (by kernel_rfl) (by kernel_rfl) (by kernel_rfl) (by kernel_rfl)

def vtimer_Timers_Now.ret (Q : Int → Bool → Heap → Prop) (v : V) (h : Heap) : Prop :=
  match v with
  | .tup [.int .u64 r1, .bool r2] => Q r1 r2 h
  | _ => False

def vtimer_Timers_Now.C (vs : List V) (κ : V → Heap → Prop) (h : Heap) : Prop :=
  match vs with
  | [.ptr a1, .int .i64 a2, .int .u64 a3] => vtimer_Timers_Now a1 a2 a3 (fun r1 r2 h => κ (.tup [.int .u64 r1, .bool r2]) h) h
  | _ => False

noncomputable def vtimer_Timers_Now.calls : List (Nat × (List V → (V → Heap → Prop) → Heap → Prop)) := [(100, vtimer_Timers_of.C), (132, vtimer_timer_now.C)]

noncomputable def vtimer_Timers_Now.E (Q : Int → Bool → Heap → Prop) (cuts : List (Nat × (List Nat × (List V → Heap → Prop)))) : Env := { tis := tisT, fns := fnsT, tys := tysT, gls := [], rts := rtsT, unk := [], nxt := [], calls := vtimer_Timers_Now.calls, ifc := noIfc, cuts := cuts, ret := vtimer_Timers_Now.ret Q, rets := [.tmp 6, .tmp 7], n := 21 }

theorem vtimer_Timers_Now.callsOK {W0 : World} : CallsOK sg W0 vtimer_Timers_Now.calls := ⟨vtimer_Timers_of.S, vtimer_timer_now.S, trivial⟩

theorem vtimer_Timers_Now.e : ∀ (a1 : Option Ptr) (a2 : Int) (a3 : Int) (Q : Int → Bool → Heap → Prop) (h : Heap), vtimer_Timers_Now a1 a2 a3 Q h = pts (vtimer_Timers_Now.E Q []) 3000 true [.code vtimer_Timers_Now.code] (frOf 0 [.ptr a1, .int .i64 a2, .int .u64 a3]) h := by
  intros; kernel_rfl

theorem vtimer_Timers_Now.S {W0 : World} : FnS sg W0 102 vtimer_Timers_Now.C := by
  intro vs κ h wv hx w s
  unfold vtimer_Timers_Now.C at hx
  split at hx
  · rename_i a1 a2 a3
    refine postImp (ret := vtimer_Timers_Now.ret (fun r1 r2 h => κ (.tup [.int .u64 r1, .bool r2]) h)) (fun v h hr => by unfold vtimer_Timers_Now.ret at hr; split at hr; exact hr; exact hr.elim) ?_
    exact calls_of_pts (E := vtimer_Timers_Now.E (fun r1 r2 h => κ (.tup [.int .u64 r1, .bool r2]) h) []) (envOK seatOK vtimer_Timers_Now.callsOK noIfc_ok) seatOK.mixed vtimer_Timers_Now.fun (Nat.le_of_ble_eq_true rfl) wv (cutL_ok trivial) s (fuel := 3000) (by rw [← vtimer_Timers_Now.e]; exact hx)
  · exact hx.elim

noncomputable def vtimer_Timers_Next.code : Code := Go.Proofs.Try.f12.body.getD .skip

theorem vtimer_Timers_Next.fun : Fun sg.P 12 55 [.tmp 2, .tmp 3] vtimer_Timers_Next.code := mkFun Go.Proofs.Try.func12 (by kernel_rfl) (by kernel_rfl) (by kernel_rfl) (by kernel_rfl)

def vtimer_Timers_Next.ret (Q : Int → Bool → Heap → Prop) (v : V) (h : Heap) : Prop :=
  match v with
  | .tup [.int .u64 r1, .bool r2] => Q r1 r2 h
  | _ => False

def vtimer_Timers_Next.C (vs : List V) (κ : V → Heap → Prop) (h : Heap) : Prop :=
  match vs with
  | [.ptr a1] => vtimer_Timers_Next a1 (fun r1 r2 h => κ (.tup [.int .u64 r1, .bool r2]) h) h
  | _ => False

noncomputable def vtimer_Timers_Next.calls : List (Nat × (List V → (V → Heap → Prop) → Heap → Prop)) := []

noncomputable def vtimer_Timers_Next.E (Q : Int → Bool → Heap → Prop) (cuts : List (Nat × (List Nat × (List V → Heap → Prop)))) : Env := { tis := tisT, fns := fnsT, tys := tysT, gls := [], rts := rtsT, unk := [], nxt := [(20, (.one (.int .i64), .one (.ptr)))], calls := vtimer_Timers_Next.calls, ifc := noIfc, cuts := cuts, ret := vtimer_Timers_Next.ret Q, rets := [.tmp 2, .tmp 3], n := 55 }

theorem vtimer_Timers_Next.callsOK {W0 : World} : CallsOK sg W0 vtimer_Timers_Next.calls := trivial

def vtimer_Timers_Next.k9 (I : Int → Ptr → Heap → Prop) (vs : List V) (h : Heap) : Prop :=
  match vs with
  | [.int .u64 a1, .ptr (some a2)] => I a1 a2 h
  | _ => False

def vtimer_Timers_Next.k5 (I : Int → Bool → Ptr → Heap → Prop) (vs : List V) (h : Heap) : Prop :=
  match vs with
  | [.int .u64 a1, .bool a2, .ptr (some a3)] => I a1 a2 a3 h
  | _ => False

theorem vtimer_Timers_Next.p9 : (posC vtimer_Timers_Next.code []).filter (fun p => Nat.beq p.1 9) = [(9, atPos (posC vtimer_Timers_Next.code []) 9)] := by kernel_rfl

theorem vtimer_Timers_Next.e9 : ∀ (I5 : Int → Bool → Ptr → Heap → Prop) (a1 : Int) (a2 : Ptr) (Q : Int → Bool → Heap → Prop) (h : Heap), vtimer_Timers_Next.j9 I5 a1 a2 Q h = pts (vtimer_Timers_Next.E Q [(5, ([4, 5, 17], vtimer_Timers_Next.k5 I5))]) 3000 true (atPos (posC vtimer_Timers_Next.code []) 9) (frAt [8, 17] [.int .u64 a1, .ptr (some a2)]) h := by
  intros; kernel_rfl

theorem vtimer_Timers_Next.s9 {W0 : World} (Q : Int → Bool → Heap → Prop) (I5 : Int → Bool → Ptr → Heap → Prop) (h5 : CutOK sg W0 55 (entered 12) (Post sg W0 (vtimer_Timers_Next.ret Q)) (posC vtimer_Timers_Next.code []) 5 [4, 5, 17] (vtimer_Timers_Next.k5 I5)) : CutOK sg W0 55 (entered 12) (Post sg W0 (vtimer_Timers_Next.ret Q)) (posC vtimer_Timers_Next.code []) 9 [8, 17] (vtimer_Timers_Next.k9 (fun a1 a2 h => vtimer_Timers_Next.j9 I5 a1 a2 Q h)) := by
  refine cutOK_head (fun vs h hk => ?_)
  unfold vtimer_Timers_Next.k9 at hk
  split at hk
  · rename_i a1 a2
    intro todo hm ρ a w s f hp
    exact piece (E := vtimer_Timers_Next.E Q [(5, ([4, 5, 17], vtimer_Timers_Next.k5 I5))]) (vs := [.int .u64 a1, .ptr (some a2)]) (envOK seatOK vtimer_Timers_Next.callsOK noIfc_ok) (fnOK seatOK vtimer_Timers_Next.fun) ⟨h5, trivial⟩ vtimer_Timers_Next.p9 (fuel := 3000) (by rw [← vtimer_Timers_Next.e9]; exact hk) hm s f hp
  · exact hk.elim

theorem vtimer_Timers_Next.p5 : (posC vtimer_Timers_Next.code []).filter (fun p => Nat.beq p.1 5) = [(5, atPos (posC vtimer_Timers_Next.code []) 5)] := by kernel_rfl

theorem vtimer_Timers_Next.e5 : ∀  (I5 : Int → Bool → Ptr → Heap → Prop) (a1 : Int) (a2 : Bool) (a3 : Ptr) (Q : Int → Bool → Heap → Prop) (h : Heap), vtimer_Timers_Next.b5  I5 a1 a2 a3 Q h = pts (vtimer_Timers_Next.E Q [(9, ([8, 17], vtimer_Timers_Next.k9 (fun a1 a2 h => vtimer_Timers_Next.j9 I5 a1 a2 Q h))), (5, ([4, 5, 17], vtimer_Timers_Next.k5 I5))]) 3000 true (atPos (posC vtimer_Timers_Next.code []) 5) (frAt [4, 5, 17] [.int .u64 a1, .bool a2, .ptr (some a3)]) h := by
  intros; kernel_rfl

theorem vtimer_Timers_Next.s5 {W0 : World} (Q : Int → Bool → Heap → Prop)   : CutOK sg W0 55 (entered 12) (Post sg W0 (vtimer_Timers_Next.ret Q)) (posC vtimer_Timers_Next.code []) 5 [4, 5, 17] (vtimer_Timers_Next.k5 (fun a1 a2 a3 h => vtimer_Timers_Next.j5  a1 a2 a3 Q h)) := by
  refine cutOK_head (fun vs h hk => ?_)
  unfold vtimer_Timers_Next.k5 at hk
  split at hk
  · rename_i a1 a2 a3
    refine hk (fun a1 a2 a3 h => Head sg W0 55 (entered 12) (Post sg W0 (vtimer_Timers_Next.ret Q)) (posC vtimer_Timers_Next.code []) 5 [4, 5, 17] [.int .u64 a1, .bool a2, .ptr (some a3)] h) ?_
    intro a1 a2 a3 h hb todo hm ρ a w s f hp
    have hself : CutOK sg W0 55 (entered 12) (Post sg W0 (vtimer_Timers_Next.ret Q)) (posC vtimer_Timers_Next.code []) 5 [4, 5, 17] (vtimer_Timers_Next.k5 (fun a1 a2 a3 h => Head sg W0 55 (entered 12) (Post sg W0 (vtimer_Timers_Next.ret Q)) (posC vtimer_Timers_Next.code []) 5 [4, 5, 17] [.int .u64 a1, .bool a2, .ptr (some a3)] h)) := cutOK_head (fun vs h hk => by unfold vtimer_Timers_Next.k5 at hk; split at hk; exact hk; exact hk.elim)
    exact piece (E := vtimer_Timers_Next.E Q [(9, ([8, 17], vtimer_Timers_Next.k9 (fun a1 a2 h => vtimer_Timers_Next.j9 (fun a1 a2 a3 h => Head sg W0 55 (entered 12) (Post sg W0 (vtimer_Timers_Next.ret Q)) (posC vtimer_Timers_Next.code []) 5 [4, 5, 17] [.int .u64 a1, .bool a2, .ptr (some a3)] h) a1 a2 Q h))), (5, ([4, 5, 17], vtimer_Timers_Next.k5 (fun a1 a2 a3 h => Head sg W0 55 (entered 12) (Post sg W0 (vtimer_Timers_Next.ret Q)) (posC vtimer_Timers_Next.code []) 5 [4, 5, 17] [.int .u64 a1, .bool a2, .ptr (some a3)] h)))]) (vs := [.int .u64 a1, .bool a2, .ptr (some a3)]) (envOK seatOK vtimer_Timers_Next.callsOK noIfc_ok) (fnOK seatOK vtimer_Timers_Next.fun) ⟨(vtimer_Timers_Next.s9 Q (fun a1 a2 a3 h => Head sg W0 55 (entered 12) (Post sg W0 (vtimer_Timers_Next.ret Q)) (posC vtimer_Timers_Next.code []) 5 [4, 5, 17] [.int .u64 a1, .bool a2, .ptr (some a3)] h) hself), hself, trivial⟩ vtimer_Timers_Next.p5 (fuel := 3000) (by rw [← vtimer_Timers_Next.e5]; exact hb) hm s f hp
  · exact hk.elim

theorem vtimer_Timers_Next.e : ∀ (a1 : Option Ptr) (Q : Int → Bool → Heap → Prop) (h : Heap), vtimer_Timers_Next a1 Q h = pts (vtimer_Timers_Next.E Q [(5, ([4, 5, 17], vtimer_Timers_Next.k5 (fun a1 a2 a3 h => vtimer_Timers_Next.j5  a1 a2 a3 Q h)))]) 3000 true [.code vtimer_Timers_Next.code] (frOf 0 [.ptr a1]) h := by
  intros; kernel_rfl

theorem vtimer_Timers_Next.S {W0 : World} : FnS sg W0 103 vtimer_Timers_Next.C := by
  intro vs κ h wv hx w s
  unfold vtimer_Timers_Next.C at hx
  split at hx
  · rename_i a1
    refine postImp (ret := vtimer_Timers_Next.ret (fun r1 r2 h => κ (.tup [.int .u64 r1, .bool r2]) h)) (fun v h hr => by unfold vtimer_Timers_Next.ret at hr; split at hr; exact hr; exact hr.elim) ?_
    exact calls_of_pts (E := vtimer_Timers_Next.E (fun r1 r2 h => κ (.tup [.int .u64 r1, .bool r2]) h) [(5, ([4, 5, 17], vtimer_Timers_Next.k5 (fun a1 a2 a3 h => vtimer_Timers_Next.j5  a1 a2 a3 (fun r1 r2 h => κ (.tup [.int .u64 r1, .bool r2]) h) h)))]) (envOK seatOK vtimer_Timers_Next.callsOK noIfc_ok) seatOK.mixed vtimer_Timers_Next.fun (Nat.le_of_ble_eq_true rfl) wv (cutL_ok ⟨(vtimer_Timers_Next.s5 (fun r1 r2 h => κ (.tup [.int .u64 r1, .bool r2]) h)), trivial⟩) s (fuel := 3000) (by rw [← vtimer_Timers_Next.e]; exact hx)
  · exact hx.elim

noncomputable def palisadelaw21_VtimerOnce.code : Code := Go.Proofs.Try.f3.body.getD .skip

theorem palisadelaw21_VtimerOnce.fun : Fun sg.P 3 188 [.tmp 6] palisadelaw21_VtimerOnce.code := mkFun Go.Proofs.Try.func3 (by kernel_rfl) (by kernel_rfl) (by kernel_rfl) (by kernel_rfl)

def palisadelaw21_VtimerOnce.ret (Q : Bool → Heap → Prop) (v : V) (h : Heap) : Prop :=
  match v with
  | .bool r1 => Q r1 h
  | _ => False

def palisadelaw21_VtimerOnce.C (vs : List V) (κ : V → Heap → Prop) (h : Heap) : Prop :=
  match vs with
  | [.int .u64 a1, .int .u64 a2, .sl a3] => palisadelaw21_VtimerOnce a1 a2 a3 (fun r1 h => κ (.bool r1) h) h
  | _ => False

noncomputable def palisadelaw21_VtimerOnce.calls : List (Nat × (List V → (V → Heap → Prop) → Heap → Prop)) := [(99, vtimer_New.C), (130, vtimer_Timers_Begin.C), (131, vtimer_Timers_Set.C), (105, vtimer_Timers_Halt.C), (126, vtimer_Timers_Due.C), (133, vtimer_Timers_Go.C), (102, vtimer_Timers_Now.C), (103, vtimer_Timers_Next.C)]

noncomputable def palisadelaw21_VtimerOnce.E (Q : Bool → Heap → Prop) (cuts : List (Nat × (List Nat × (List V → Heap → Prop)))) : Env := { tis := tisT, fns := fnsT, tys := tysT, gls := [], rts := rtsT, unk := [], nxt := [], calls := palisadelaw21_VtimerOnce.calls, ifc := noIfc, cuts := cuts, ret := palisadelaw21_VtimerOnce.ret Q, rets := [.tmp 6], n := 188 }

theorem palisadelaw21_VtimerOnce.callsOK {W0 : World} : CallsOK sg W0 palisadelaw21_VtimerOnce.calls := ⟨vtimer_New.S, vtimer_Timers_Begin.S, vtimer_Timers_Set.S, vtimer_Timers_Halt.S, vtimer_Timers_Due.S, vtimer_Timers_Go.S, vtimer_Timers_Now.S, vtimer_Timers_Next.S, trivial⟩

def palisadelaw21_VtimerOnce.k4 (I : Heap → Prop) (vs : List V) (h : Heap) : Prop :=
  match vs with
  | [] => I  h
  | _ => False

def palisadelaw21_VtimerOnce.k11 (I : Heap → Prop) (vs : List V) (h : Heap) : Prop :=
  match vs with
  | [] => I  h
  | _ => False

def palisadelaw21_VtimerOnce.k19 (I : Heap → Prop) (vs : List V) (h : Heap) : Prop :=
  match vs with
  | [] => I  h
  | _ => False

def palisadelaw21_VtimerOnce.k8 (I : Int → Int → Sl → (Option Ptr) → Int → Int → Int → Heap → Prop) (vs : List V) (h : Heap) : Prop :=
  match vs with
  | [.int .u64 a1, .int .u64 a2, .sl a3, .ptr a4, .int .u64 a5, .int .u64 a6, .int .i64 a7] => I a1 a2 a3 a4 a5 a6 a7 h
  | _ => False

def palisadelaw21_VtimerOnce.k20 (I : Int → Int → Sl → (Option Ptr) → Int → Int → Int → Sl → Heap → Prop) (vs : List V) (h : Heap) : Prop :=
  match vs with
  | [.int .u64 a1, .int .u64 a2, .sl a3, .ptr a4, .int .u64 a5, .int .u64 a6, .int .i64 a7, .sl a8] => I a1 a2 a3 a4 a5 a6 a7 a8 h
  | _ => False

def palisadelaw21_VtimerOnce.k17 (I : Int → Int → Sl → (Option Ptr) → Int → Int → Int → Sl → Heap → Prop) (vs : List V) (h : Heap) : Prop :=
  match vs with
  | [.int .u64 a1, .int .u64 a2, .sl a3, .ptr a4, .int .u64 a5, .int .u64 a6, .int .i64 a7, .sl a8] => I a1 a2 a3 a4 a5 a6 a7 a8 h
  | _ => False

def palisadelaw21_VtimerOnce.k12 (I : Int → Int → Sl → (Option Ptr) → Int → Int → Int → Int → Heap → Prop) (vs : List V) (h : Heap) : Prop :=
  match vs with
  | [.int .u64 a1, .int .u64 a2, .sl a3, .ptr a4, .int .u64 a5, .int .u64 a6, .int .i64 a7, .int .u64 a8] => I a1 a2 a3 a4 a5 a6 a7 a8 h
  | _ => False

def palisadelaw21_VtimerOnce.k25 (I : Heap → Prop) (vs : List V) (h : Heap) : Prop :=
  match vs with
  | [] => I  h
  | _ => False

def palisadelaw21_VtimerOnce.k26 (I : (Option Ptr) → Int → Heap → Prop) (vs : List V) (h : Heap) : Prop :=
  match vs with
  | [.ptr a1, .int .u64 a2] => I a1 a2 h
  | _ => False

def palisadelaw21_VtimerOnce.k23 (I : Int → Int → (Option Ptr) → Int → Int → Heap → Prop) (vs : List V) (h : Heap) : Prop :=
  match vs with
  | [.int .u64 a1, .int .u64 a2, .ptr a3, .int .u64 a4, .int .u64 a5] => I a1 a2 a3 a4 a5 h
  | _ => False

def palisadelaw21_VtimerOnce.k7 (I : Int → Int → Sl → (Option Ptr) → Int → Int → Int → Heap → Prop) (vs : List V) (h : Heap) : Prop :=
  match vs with
  | [.int .u64 a1, .int .u64 a2, .sl a3, .ptr a4, .int .u64 a5, .int .u64 a6, .int .i64 a7] => I a1 a2 a3 a4 a5 a6 a7 h
  | _ => False

def palisadelaw21_VtimerOnce.k6 (I : Int → Int → Sl → (Option Ptr) → Int → Int → Heap → Prop) (vs : List V) (h : Heap) : Prop :=
  match vs with
  | [.int .u64 a1, .int .u64 a2, .sl a3, .ptr a4, .int .u64 a5, .int .u64 a6] => I a1 a2 a3 a4 a5 a6 h
  | _ => False

theorem palisadelaw21_VtimerOnce.p4 : (posC palisadelaw21_VtimerOnce.code []).filter (fun p => Nat.beq p.1 4) = [(4, atPos (posC palisadelaw21_VtimerOnce.code []) 4)] := by kernel_rfl

theorem palisadelaw21_VtimerOnce.e4 : ∀   (Q : Bool → Heap → Prop) (h : Heap), palisadelaw21_VtimerOnce.j4   Q h = pts (palisadelaw21_VtimerOnce.E Q []) 3000 true (atPos (posC palisadelaw21_VtimerOnce.code []) 4) (frAt [] []) h := by
  intros; kernel_rfl

theorem palisadelaw21_VtimerOnce.s4 {W0 : World} (Q : Bool → Heap → Prop)   : CutOK sg W0 188 (entered 3) (Post sg W0 (palisadelaw21_VtimerOnce.ret Q)) (posC palisadelaw21_VtimerOnce.code []) 4 [] (palisadelaw21_VtimerOnce.k4 (fun  h => palisadelaw21_VtimerOnce.j4   Q h)) := by
  refine cutOK_head (fun vs h hk => ?_)
  unfold palisadelaw21_VtimerOnce.k4 at hk
  split at hk
  · skip
    intro todo hm ρ a w s f hp
    exact piece (E := palisadelaw21_VtimerOnce.E Q []) (vs := []) (envOK seatOK palisadelaw21_VtimerOnce.callsOK noIfc_ok) (fnOK seatOK palisadelaw21_VtimerOnce.fun) trivial palisadelaw21_VtimerOnce.p4 (fuel := 3000) (by rw [← palisadelaw21_VtimerOnce.e4]; exact hk) hm s f hp
  · exact hk.elim

theorem palisadelaw21_VtimerOnce.p11 : (posC palisadelaw21_VtimerOnce.code []).filter (fun p => Nat.beq p.1 11) = [(11, atPos (posC palisadelaw21_VtimerOnce.code []) 11)] := by kernel_rfl

theorem palisadelaw21_VtimerOnce.e11 : ∀ (I7 : Int → Int → Sl → (Option Ptr) → Int → Int → Int → Heap → Prop)  (Q : Bool → Heap → Prop) (h : Heap), palisadelaw21_VtimerOnce.j11 I7  Q h = pts (palisadelaw21_VtimerOnce.E Q []) 3000 true (atPos (posC palisadelaw21_VtimerOnce.code []) 11) (frAt [] []) h := by
  intros; kernel_rfl

theorem palisadelaw21_VtimerOnce.s11 {W0 : World} (Q : Bool → Heap → Prop) (I7 : Int → Int → Sl → (Option Ptr) → Int → Int → Int → Heap → Prop) (h7 : CutOK sg W0 188 (entered 3) (Post sg W0 (palisadelaw21_VtimerOnce.ret Q)) (posC palisadelaw21_VtimerOnce.code []) 7 [0, 1, 2, 7, 8, 9, 10] (palisadelaw21_VtimerOnce.k7 I7)) : CutOK sg W0 188 (entered 3) (Post sg W0 (palisadelaw21_VtimerOnce.ret Q)) (posC palisadelaw21_VtimerOnce.code []) 11 [] (palisadelaw21_VtimerOnce.k11 (fun  h => palisadelaw21_VtimerOnce.j11 I7  Q h)) := by
  refine cutOK_head (fun vs h hk => ?_)
  unfold palisadelaw21_VtimerOnce.k11 at hk
  split at hk
  · skip
    intro todo hm ρ a w s f hp
    exact piece (E := palisadelaw21_VtimerOnce.E Q []) (vs := []) (envOK seatOK palisadelaw21_VtimerOnce.callsOK noIfc_ok) (fnOK seatOK palisadelaw21_VtimerOnce.fun) trivial palisadelaw21_VtimerOnce.p11 (fuel := 3000) (by rw [← palisadelaw21_VtimerOnce.e11]; exact hk) hm s f hp
  · exact hk.elim

theorem palisadelaw21_VtimerOnce.p19 : (posC palisadelaw21_VtimerOnce.code []).filter (fun p => Nat.beq p.1 19) = [(19, atPos (posC palisadelaw21_VtimerOnce.code []) 19)] := by kernel_rfl

theorem palisadelaw21_VtimerOnce.e19 : ∀ (I7 : Int → Int → Sl → (Option Ptr) → Int → Int → Int → Heap → Prop)  (Q : Bool → Heap → Prop) (h : Heap), palisadelaw21_VtimerOnce.j19 I7  Q h = pts (palisadelaw21_VtimerOnce.E Q []) 3000 true (atPos (posC palisadelaw21_VtimerOnce.code []) 19) (frAt [] []) h := by
  intros; kernel_rfl

theorem palisadelaw21_VtimerOnce.s19 {W0 : World} (Q : Bool → Heap → Prop) (I7 : Int → Int → Sl → (Option Ptr) → Int → Int → Int → Heap → Prop) (h7 : CutOK sg W0 188 (entered 3) (Post sg W0 (palisadelaw21_VtimerOnce.ret Q)) (posC palisadelaw21_VtimerOnce.code []) 7 [0, 1, 2, 7, 8, 9, 10] (palisadelaw21_VtimerOnce.k7 I7)) : CutOK sg W0 188 (entered 3) (Post sg W0 (palisadelaw21_VtimerOnce.ret Q)) (posC palisadelaw21_VtimerOnce.code []) 19 [] (palisadelaw21_VtimerOnce.k19 (fun  h => palisadelaw21_VtimerOnce.j19 I7  Q h)) := by
  refine cutOK_head (fun vs h hk => ?_)
  unfold palisadelaw21_VtimerOnce.k19 at hk
  split at hk
  · skip
    intro todo hm ρ a w s f hp
    exact piece (E := palisadelaw21_VtimerOnce.E Q []) (vs := []) (envOK seatOK palisadelaw21_VtimerOnce.callsOK noIfc_ok) (fnOK seatOK palisadelaw21_VtimerOnce.fun) trivial palisadelaw21_VtimerOnce.p19 (fuel := 3000) (by rw [← palisadelaw21_VtimerOnce.e19]; exact hk) hm s f hp
  · exact hk.elim

theorem palisadelaw21_VtimerOnce.p8 : (posC palisadelaw21_VtimerOnce.code []).filter (fun p => Nat.beq p.1 8) = [(8, atPos (posC palisadelaw21_VtimerOnce.code []) 8)] := by kernel_rfl

theorem palisadelaw21_VtimerOnce.e8 : ∀ (I7 : Int → Int → Sl → (Option Ptr) → Int → Int → Int → Heap → Prop) (a1 : Int) (a2 : Int) (a3 : Sl) (a4 : Option Ptr) (a5 : Int) (a6 : Int) (a7 : Int) (Q : Bool → Heap → Prop) (h : Heap), palisadelaw21_VtimerOnce.j8 I7 a1 a2 a3 a4 a5 a6 a7 Q h = pts (palisadelaw21_VtimerOnce.E Q [(7, ([0, 1, 2, 7, 8, 9, 10], palisadelaw21_VtimerOnce.k7 I7))]) 3000 true (atPos (posC palisadelaw21_VtimerOnce.code []) 8) (frAt [0, 1, 2, 7, 8, 9, 10] [.int .u64 a1, .int .u64 a2, .sl a3, .ptr a4, .int .u64 a5, .int .u64 a6, .int .i64 a7]) h := by
  intros; kernel_rfl

theorem palisadelaw21_VtimerOnce.s8 {W0 : World} (Q : Bool → Heap → Prop) (I7 : Int → Int → Sl → (Option Ptr) → Int → Int → Int → Heap → Prop) (h7 : CutOK sg W0 188 (entered 3) (Post sg W0 (palisadelaw21_VtimerOnce.ret Q)) (posC palisadelaw21_VtimerOnce.code []) 7 [0, 1, 2, 7, 8, 9, 10] (palisadelaw21_VtimerOnce.k7 I7)) : CutOK sg W0 188 (entered 3) (Post sg W0 (palisadelaw21_VtimerOnce.ret Q)) (posC palisadelaw21_VtimerOnce.code []) 8 [0, 1, 2, 7, 8, 9, 10] (palisadelaw21_VtimerOnce.k8 (fun a1 a2 a3 a4 a5 a6 a7 h => palisadelaw21_VtimerOnce.j8 I7 a1 a2 a3 a4 a5 a6 a7 Q h)) := by
  refine cutOK_head (fun vs h hk => ?_)
  unfold palisadelaw21_VtimerOnce.k8 at hk
  split at hk
  · rename_i a1 a2 a3 a4 a5 a6 a7
    intro todo hm ρ a w s f hp
    exact piece (E := palisadelaw21_VtimerOnce.E Q [(7, ([0, 1, 2, 7, 8, 9, 10], palisadelaw21_VtimerOnce.k7 I7))]) (vs := [.int .u64 a1, .int .u64 a2, .sl a3, .ptr a4, .int .u64 a5, .int .u64 a6, .int .i64 a7]) (envOK seatOK palisadelaw21_VtimerOnce.callsOK noIfc_ok) (fnOK seatOK palisadelaw21_VtimerOnce.fun) ⟨h7, trivial⟩ palisadelaw21_VtimerOnce.p8 (fuel := 3000) (by rw [← palisadelaw21_VtimerOnce.e8]; exact hk) hm s f hp
  · exact hk.elim

theorem palisadelaw21_VtimerOnce.p20 : (posC palisadelaw21_VtimerOnce.code []).filter (fun p => Nat.beq p.1 20) = [(20, atPos (posC palisadelaw21_VtimerOnce.code []) 20)] := by kernel_rfl

theorem palisadelaw21_VtimerOnce.e20 : ∀ (I7 : Int → Int → Sl → (Option Ptr) → Int → Int → Int → Heap → Prop) (a1 : Int) (a2 : Int) (a3 : Sl) (a4 : Option Ptr) (a5 : Int) (a6 : Int) (a7 : Int) (a8 : Sl) (Q : Bool → Heap → Prop) (h : Heap), palisadelaw21_VtimerOnce.j20 I7 a1 a2 a3 a4 a5 a6 a7 a8 Q h = pts (palisadelaw21_VtimerOnce.E Q [(8, ([0, 1, 2, 7, 8, 9, 10], palisadelaw21_VtimerOnce.k8 (fun a1 a2 a3 a4 a5 a6 a7 h => palisadelaw21_VtimerOnce.j8 I7 a1 a2 a3 a4 a5 a6 a7 Q h)))]) 3000 true (atPos (posC palisadelaw21_VtimerOnce.code []) 20) (frAt [0, 1, 2, 7, 8, 9, 10, 12] [.int .u64 a1, .int .u64 a2, .sl a3, .ptr a4, .int .u64 a5, .int .u64 a6, .int .i64 a7, .sl a8]) h := by
  intros; kernel_rfl

theorem palisadelaw21_VtimerOnce.s20 {W0 : World} (Q : Bool → Heap → Prop) (I7 : Int → Int → Sl → (Option Ptr) → Int → Int → Int → Heap → Prop) (h7 : CutOK sg W0 188 (entered 3) (Post sg W0 (palisadelaw21_VtimerOnce.ret Q)) (posC palisadelaw21_VtimerOnce.code []) 7 [0, 1, 2, 7, 8, 9, 10] (palisadelaw21_VtimerOnce.k7 I7)) : CutOK sg W0 188 (entered 3) (Post sg W0 (palisadelaw21_VtimerOnce.ret Q)) (posC palisadelaw21_VtimerOnce.code []) 20 [0, 1, 2, 7, 8, 9, 10, 12] (palisadelaw21_VtimerOnce.k20 (fun a1 a2 a3 a4 a5 a6 a7 a8 h => palisadelaw21_VtimerOnce.j20 I7 a1 a2 a3 a4 a5 a6 a7 a8 Q h)) := by
  refine cutOK_head (fun vs h hk => ?_)
  unfold palisadelaw21_VtimerOnce.k20 at hk
  split at hk
  · rename_i a1 a2 a3 a4 a5 a6 a7 a8
    intro todo hm ρ a w s f hp
    exact piece (E := palisadelaw21_VtimerOnce.E Q [(8, ([0, 1, 2, 7, 8, 9, 10], palisadelaw21_VtimerOnce.k8 (fun a1 a2 a3 a4 a5 a6 a7 h => palisadelaw21_VtimerOnce.j8 I7 a1 a2 a3 a4 a5 a6 a7 Q h)))]) (vs := [.int .u64 a1, .int .u64 a2, .sl a3, .ptr a4, .int .u64 a5, .int .u64 a6, .int .i64 a7, .sl a8]) (envOK seatOK palisadelaw21_VtimerOnce.callsOK noIfc_ok) (fnOK seatOK palisadelaw21_VtimerOnce.fun) ⟨(palisadelaw21_VtimerOnce.s8 Q I7 h7), trivial⟩ palisadelaw21_VtimerOnce.p20 (fuel := 3000) (by rw [← palisadelaw21_VtimerOnce.e20]; exact hk) hm s f hp
  · exact hk.elim

theorem palisadelaw21_VtimerOnce.p17 : (posC palisadelaw21_VtimerOnce.code []).filter (fun p => Nat.beq p.1 17) = [(17, atPos (posC palisadelaw21_VtimerOnce.code []) 17)] := by kernel_rfl

theorem palisadelaw21_VtimerOnce.e17 : ∀ (I7 : Int → Int → Sl → (Option Ptr) → Int → Int → Int → Heap → Prop) (a1 : Int) (a2 : Int) (a3 : Sl) (a4 : Option Ptr) (a5 : Int) (a6 : Int) (a7 : Int) (a8 : Sl) (Q : Bool → Heap → Prop) (h : Heap), palisadelaw21_VtimerOnce.j17 I7 a1 a2 a3 a4 a5 a6 a7 a8 Q h = pts (palisadelaw21_VtimerOnce.E Q [(19, ([], palisadelaw21_VtimerOnce.k19 (fun  h => palisadelaw21_VtimerOnce.j19 I7  Q h))), (20, ([0, 1, 2, 7, 8, 9, 10, 12], palisadelaw21_VtimerOnce.k20 (fun a1 a2 a3 a4 a5 a6 a7 a8 h => palisadelaw21_VtimerOnce.j20 I7 a1 a2 a3 a4 a5 a6 a7 a8 Q h)))]) 3000 true (atPos (posC palisadelaw21_VtimerOnce.code []) 17) (frAt [0, 1, 2, 7, 8, 9, 10, 12] [.int .u64 a1, .int .u64 a2, .sl a3, .ptr a4, .int .u64 a5, .int .u64 a6, .int .i64 a7, .sl a8]) h := by
  intros; kernel_rfl

theorem palisadelaw21_VtimerOnce.s17 {W0 : World} (Q : Bool → Heap → Prop) (I7 : Int → Int → Sl → (Option Ptr) → Int → Int → Int → Heap → Prop) (h7 : CutOK sg W0 188 (entered 3) (Post sg W0 (palisadelaw21_VtimerOnce.ret Q)) (posC palisadelaw21_VtimerOnce.code []) 7 [0, 1, 2, 7, 8, 9, 10] (palisadelaw21_VtimerOnce.k7 I7)) : CutOK sg W0 188 (entered 3) (Post sg W0 (palisadelaw21_VtimerOnce.ret Q)) (posC palisadelaw21_VtimerOnce.code []) 17 [0, 1, 2, 7, 8, 9, 10, 12] (palisadelaw21_VtimerOnce.k17 (fun a1 a2 a3 a4 a5 a6 a7 a8 h => palisadelaw21_VtimerOnce.j17 I7 a1 a2 a3 a4 a5 a6 a7 a8 Q h)) := by
  refine cutOK_head (fun vs h hk => ?_)
  unfold palisadelaw21_VtimerOnce.k17 at hk
  split at hk
  · rename_i a1 a2 a3 a4 a5 a6 a7 a8
    intro todo hm ρ a w s f hp
    exact piece (E := palisadelaw21_VtimerOnce.E Q [(19, ([], palisadelaw21_VtimerOnce.k19 (fun  h => palisadelaw21_VtimerOnce.j19 I7  Q h))), (20, ([0, 1, 2, 7, 8, 9, 10, 12], palisadelaw21_VtimerOnce.k20 (fun a1 a2 a3 a4 a5 a6 a7 a8 h => palisadelaw21_VtimerOnce.j20 I7 a1 a2 a3 a4 a5 a6 a7 a8 Q h)))]) (vs := [.int .u64 a1, .int .u64 a2, .sl a3, .ptr a4, .int .u64 a5, .int .u64 a6, .int .i64 a7, .sl a8]) (envOK seatOK palisadelaw21_VtimerOnce.callsOK noIfc_ok) (fnOK seatOK palisadelaw21_VtimerOnce.fun) ⟨(palisadelaw21_VtimerOnce.s19 Q I7 h7), (palisadelaw21_VtimerOnce.s20 Q I7 h7), trivial⟩ palisadelaw21_VtimerOnce.p17 (fuel := 3000) (by rw [← palisadelaw21_VtimerOnce.e17]; exact hk) hm s f hp
  · exact hk.elim

theorem palisadelaw21_VtimerOnce.p12 : (posC palisadelaw21_VtimerOnce.code []).filter (fun p => Nat.beq p.1 12) = [(12, atPos (posC palisadelaw21_VtimerOnce.code []) 12)] := by kernel_rfl

theorem palisadelaw21_VtimerOnce.e12 : ∀ (I7 : Int → Int → Sl → (Option Ptr) → Int → Int → Int → Heap → Prop) (a1 : Int) (a2 : Int) (a3 : Sl) (a4 : Option Ptr) (a5 : Int) (a6 : Int) (a7 : Int) (a8 : Int) (Q : Bool → Heap → Prop) (h : Heap), palisadelaw21_VtimerOnce.j12 I7 a1 a2 a3 a4 a5 a6 a7 a8 Q h = pts (palisadelaw21_VtimerOnce.E Q [(17, ([0, 1, 2, 7, 8, 9, 10, 12], palisadelaw21_VtimerOnce.k17 (fun a1 a2 a3 a4 a5 a6 a7 a8 h => palisadelaw21_VtimerOnce.j17 I7 a1 a2 a3 a4 a5 a6 a7 a8 Q h)))]) 3000 true (atPos (posC palisadelaw21_VtimerOnce.code []) 12) (frAt [0, 1, 2, 7, 8, 9, 10, 11] [.int .u64 a1, .int .u64 a2, .sl a3, .ptr a4, .int .u64 a5, .int .u64 a6, .int .i64 a7, .int .u64 a8]) h := by
  intros; kernel_rfl

theorem palisadelaw21_VtimerOnce.s12 {W0 : World} (Q : Bool → Heap → Prop) (I7 : Int → Int → Sl → (Option Ptr) → Int → Int → Int → Heap → Prop) (h7 : CutOK sg W0 188 (entered 3) (Post sg W0 (palisadelaw21_VtimerOnce.ret Q)) (posC palisadelaw21_VtimerOnce.code []) 7 [0, 1, 2, 7, 8, 9, 10] (palisadelaw21_VtimerOnce.k7 I7)) : CutOK sg W0 188 (entered 3) (Post sg W0 (palisadelaw21_VtimerOnce.ret Q)) (posC palisadelaw21_VtimerOnce.code []) 12 [0, 1, 2, 7, 8, 9, 10, 11] (palisadelaw21_VtimerOnce.k12 (fun a1 a2 a3 a4 a5 a6 a7 a8 h => palisadelaw21_VtimerOnce.j12 I7 a1 a2 a3 a4 a5 a6 a7 a8 Q h)) := by
  refine cutOK_head (fun vs h hk => ?_)
  unfold palisadelaw21_VtimerOnce.k12 at hk
  split at hk
  · rename_i a1 a2 a3 a4 a5 a6 a7 a8
    intro todo hm ρ a w s f hp
    exact piece (E := palisadelaw21_VtimerOnce.E Q [(17, ([0, 1, 2, 7, 8, 9, 10, 12], palisadelaw21_VtimerOnce.k17 (fun a1 a2 a3 a4 a5 a6 a7 a8 h => palisadelaw21_VtimerOnce.j17 I7 a1 a2 a3 a4 a5 a6 a7 a8 Q h)))]) (vs := [.int .u64 a1, .int .u64 a2, .sl a3, .ptr a4, .int .u64 a5, .int .u64 a6, .int .i64 a7, .int .u64 a8]) (envOK seatOK palisadelaw21_VtimerOnce.callsOK noIfc_ok) (fnOK seatOK palisadelaw21_VtimerOnce.fun) ⟨(palisadelaw21_VtimerOnce.s17 Q I7 h7), trivial⟩ palisadelaw21_VtimerOnce.p12 (fuel := 3000) (by rw [← palisadelaw21_VtimerOnce.e12]; exact hk) hm s f hp
  · exact hk.elim

theorem palisadelaw21_VtimerOnce.p25 : (posC palisadelaw21_VtimerOnce.code []).filter (fun p => Nat.beq p.1 25) = [(25, atPos (posC palisadelaw21_VtimerOnce.code []) 25)] := by kernel_rfl

theorem palisadelaw21_VtimerOnce.e25 : ∀   (Q : Bool → Heap → Prop) (h : Heap), palisadelaw21_VtimerOnce.j25   Q h = pts (palisadelaw21_VtimerOnce.E Q []) 3000 true (atPos (posC palisadelaw21_VtimerOnce.code []) 25) (frAt [] []) h := by
  intros; kernel_rfl

theorem palisadelaw21_VtimerOnce.s25 {W0 : World} (Q : Bool → Heap → Prop)   : CutOK sg W0 188 (entered 3) (Post sg W0 (palisadelaw21_VtimerOnce.ret Q)) (posC palisadelaw21_VtimerOnce.code []) 25 [] (palisadelaw21_VtimerOnce.k25 (fun  h => palisadelaw21_VtimerOnce.j25   Q h)) := by
  refine cutOK_head (fun vs h hk => ?_)
  unfold palisadelaw21_VtimerOnce.k25 at hk
  split at hk
  · skip
    intro todo hm ρ a w s f hp
    exact piece (E := palisadelaw21_VtimerOnce.E Q []) (vs := []) (envOK seatOK palisadelaw21_VtimerOnce.callsOK noIfc_ok) (fnOK seatOK palisadelaw21_VtimerOnce.fun) trivial palisadelaw21_VtimerOnce.p25 (fuel := 3000) (by rw [← palisadelaw21_VtimerOnce.e25]; exact hk) hm s f hp
  · exact hk.elim

theorem palisadelaw21_VtimerOnce.p26 : (posC palisadelaw21_VtimerOnce.code []).filter (fun p => Nat.beq p.1 26) = [(26, atPos (posC palisadelaw21_VtimerOnce.code []) 26)] := by kernel_rfl

theorem palisadelaw21_VtimerOnce.e26 : ∀  (a1 : Option Ptr) (a2 : Int) (Q : Bool → Heap → Prop) (h : Heap), palisadelaw21_VtimerOnce.j26  a1 a2 Q h = pts (palisadelaw21_VtimerOnce.E Q []) 3000 true (atPos (posC palisadelaw21_VtimerOnce.code []) 26) (frAt [7, 17] [.ptr a1, .int .u64 a2]) h := by
  intros; kernel_rfl

theorem palisadelaw21_VtimerOnce.s26 {W0 : World} (Q : Bool → Heap → Prop)   : CutOK sg W0 188 (entered 3) (Post sg W0 (palisadelaw21_VtimerOnce.ret Q)) (posC palisadelaw21_VtimerOnce.code []) 26 [7, 17] (palisadelaw21_VtimerOnce.k26 (fun a1 a2 h => palisadelaw21_VtimerOnce.j26  a1 a2 Q h)) := by
  refine cutOK_head (fun vs h hk => ?_)
  unfold palisadelaw21_VtimerOnce.k26 at hk
  split at hk
  · rename_i a1 a2
    intro todo hm ρ a w s f hp
    exact piece (E := palisadelaw21_VtimerOnce.E Q []) (vs := [.ptr a1, .int .u64 a2]) (envOK seatOK palisadelaw21_VtimerOnce.callsOK noIfc_ok) (fnOK seatOK palisadelaw21_VtimerOnce.fun) trivial palisadelaw21_VtimerOnce.p26 (fuel := 3000) (by rw [← palisadelaw21_VtimerOnce.e26]; exact hk) hm s f hp
  · exact hk.elim

theorem palisadelaw21_VtimerOnce.p23 : (posC palisadelaw21_VtimerOnce.code []).filter (fun p => Nat.beq p.1 23) = [(23, atPos (posC palisadelaw21_VtimerOnce.code []) 23)] := by kernel_rfl

theorem palisadelaw21_VtimerOnce.e23 : ∀  (a1 : Int) (a2 : Int) (a3 : Option Ptr) (a4 : Int) (a5 : Int) (Q : Bool → Heap → Prop) (h : Heap), palisadelaw21_VtimerOnce.j23  a1 a2 a3 a4 a5 Q h = pts (palisadelaw21_VtimerOnce.E Q [(25, ([], palisadelaw21_VtimerOnce.k25 (fun  h => palisadelaw21_VtimerOnce.j25   Q h))), (26, ([7, 17], palisadelaw21_VtimerOnce.k26 (fun a1 a2 h => palisadelaw21_VtimerOnce.j26  a1 a2 Q h)))]) 3000 true (atPos (posC palisadelaw21_VtimerOnce.code []) 23) (frAt [0, 1, 7, 8, 9] [.int .u64 a1, .int .u64 a2, .ptr a3, .int .u64 a4, .int .u64 a5]) h := by
  intros; kernel_rfl

theorem palisadelaw21_VtimerOnce.s23 {W0 : World} (Q : Bool → Heap → Prop)   : CutOK sg W0 188 (entered 3) (Post sg W0 (palisadelaw21_VtimerOnce.ret Q)) (posC palisadelaw21_VtimerOnce.code []) 23 [0, 1, 7, 8, 9] (palisadelaw21_VtimerOnce.k23 (fun a1 a2 a3 a4 a5 h => palisadelaw21_VtimerOnce.j23  a1 a2 a3 a4 a5 Q h)) := by
  refine cutOK_head (fun vs h hk => ?_)
  unfold palisadelaw21_VtimerOnce.k23 at hk
  split at hk
  · rename_i a1 a2 a3 a4 a5
    intro todo hm ρ a w s f hp
    exact piece (E := palisadelaw21_VtimerOnce.E Q [(25, ([], palisadelaw21_VtimerOnce.k25 (fun  h => palisadelaw21_VtimerOnce.j25   Q h))), (26, ([7, 17], palisadelaw21_VtimerOnce.k26 (fun a1 a2 h => palisadelaw21_VtimerOnce.j26  a1 a2 Q h)))]) (vs := [.int .u64 a1, .int .u64 a2, .ptr a3, .int .u64 a4, .int .u64 a5]) (envOK seatOK palisadelaw21_VtimerOnce.callsOK noIfc_ok) (fnOK seatOK palisadelaw21_VtimerOnce.fun) ⟨(palisadelaw21_VtimerOnce.s25 Q  ), (palisadelaw21_VtimerOnce.s26 Q  ), trivial⟩ palisadelaw21_VtimerOnce.p23 (fuel := 3000) (by rw [← palisadelaw21_VtimerOnce.e23]; exact hk) hm s f hp
  · exact hk.elim

theorem palisadelaw21_VtimerOnce.p7 : (posC palisadelaw21_VtimerOnce.code []).filter (fun p => Nat.beq p.1 7) = [(7, atPos (posC palisadelaw21_VtimerOnce.code []) 7)] := by kernel_rfl

theorem palisadelaw21_VtimerOnce.e7 : ∀  (I7 : Int → Int → Sl → (Option Ptr) → Int → Int → Int → Heap → Prop) (a1 : Int) (a2 : Int) (a3 : Sl) (a4 : Option Ptr) (a5 : Int) (a6 : Int) (a7 : Int) (Q : Bool → Heap → Prop) (h : Heap), palisadelaw21_VtimerOnce.b7  I7 a1 a2 a3 a4 a5 a6 a7 Q h = pts (palisadelaw21_VtimerOnce.E Q [(11, ([], palisadelaw21_VtimerOnce.k11 (fun  h => palisadelaw21_VtimerOnce.j11 I7  Q h))), (12, ([0, 1, 2, 7, 8, 9, 10, 11], palisadelaw21_VtimerOnce.k12 (fun a1 a2 a3 a4 a5 a6 a7 a8 h => palisadelaw21_VtimerOnce.j12 I7 a1 a2 a3 a4 a5 a6 a7 a8 Q h))), (23, ([0, 1, 7, 8, 9], palisadelaw21_VtimerOnce.k23 (fun a1 a2 a3 a4 a5 h => palisadelaw21_VtimerOnce.j23  a1 a2 a3 a4 a5 Q h)))]) 3000 true (atPos (posC palisadelaw21_VtimerOnce.code []) 7) (frAt [0, 1, 2, 7, 8, 9, 10] [.int .u64 a1, .int .u64 a2, .sl a3, .ptr a4, .int .u64 a5, .int .u64 a6, .int .i64 a7]) h := by
  intros; kernel_rfl

theorem palisadelaw21_VtimerOnce.s7 {W0 : World} (Q : Bool → Heap → Prop)   : CutOK sg W0 188 (entered 3) (Post sg W0 (palisadelaw21_VtimerOnce.ret Q)) (posC palisadelaw21_VtimerOnce.code []) 7 [0, 1, 2, 7, 8, 9, 10] (palisadelaw21_VtimerOnce.k7 (fun a1 a2 a3 a4 a5 a6 a7 h => palisadelaw21_VtimerOnce.j7  a1 a2 a3 a4 a5 a6 a7 Q h)) := by
  refine cutOK_head (fun vs h hk => ?_)
  unfold palisadelaw21_VtimerOnce.k7 at hk
  split at hk
  · rename_i a1 a2 a3 a4 a5 a6 a7
    refine hk (fun a1 a2 a3 a4 a5 a6 a7 h => Head sg W0 188 (entered 3) (Post sg W0 (palisadelaw21_VtimerOnce.ret Q)) (posC palisadelaw21_VtimerOnce.code []) 7 [0, 1, 2, 7, 8, 9, 10] [.int .u64 a1, .int .u64 a2, .sl a3, .ptr a4, .int .u64 a5, .int .u64 a6, .int .i64 a7] h) ?_
    intro a1 a2 a3 a4 a5 a6 a7 h hb todo hm ρ a w s f hp
    have hself : CutOK sg W0 188 (entered 3) (Post sg W0 (palisadelaw21_VtimerOnce.ret Q)) (posC palisadelaw21_VtimerOnce.code []) 7 [0, 1, 2, 7, 8, 9, 10] (palisadelaw21_VtimerOnce.k7 (fun a1 a2 a3 a4 a5 a6 a7 h => Head sg W0 188 (entered 3) (Post sg W0 (palisadelaw21_VtimerOnce.ret Q)) (posC palisadelaw21_VtimerOnce.code []) 7 [0, 1, 2, 7, 8, 9, 10] [.int .u64 a1, .int .u64 a2, .sl a3, .ptr a4, .int .u64 a5, .int .u64 a6, .int .i64 a7] h)) := cutOK_head (fun vs h hk => by unfold palisadelaw21_VtimerOnce.k7 at hk; split at hk; exact hk; exact hk.elim)
    exact piece (E := palisadelaw21_VtimerOnce.E Q [(11, ([], palisadelaw21_VtimerOnce.k11 (fun  h => palisadelaw21_VtimerOnce.j11 (fun a1 a2 a3 a4 a5 a6 a7 h => Head sg W0 188 (entered 3) (Post sg W0 (palisadelaw21_VtimerOnce.ret Q)) (posC palisadelaw21_VtimerOnce.code []) 7 [0, 1, 2, 7, 8, 9, 10] [.int .u64 a1, .int .u64 a2, .sl a3, .ptr a4, .int .u64 a5, .int .u64 a6, .int .i64 a7] h)  Q h))), (12, ([0, 1, 2, 7, 8, 9, 10, 11], palisadelaw21_VtimerOnce.k12 (fun a1 a2 a3 a4 a5 a6 a7 a8 h => palisadelaw21_VtimerOnce.j12 (fun a1 a2 a3 a4 a5 a6 a7 h => Head sg W0 188 (entered 3) (Post sg W0 (palisadelaw21_VtimerOnce.ret Q)) (posC palisadelaw21_VtimerOnce.code []) 7 [0, 1, 2, 7, 8, 9, 10] [.int .u64 a1, .int .u64 a2, .sl a3, .ptr a4, .int .u64 a5, .int .u64 a6, .int .i64 a7] h) a1 a2 a3 a4 a5 a6 a7 a8 Q h))), (23, ([0, 1, 7, 8, 9], palisadelaw21_VtimerOnce.k23 (fun a1 a2 a3 a4 a5 h => palisadelaw21_VtimerOnce.j23  a1 a2 a3 a4 a5 Q h)))]) (vs := [.int .u64 a1, .int .u64 a2, .sl a3, .ptr a4, .int .u64 a5, .int .u64 a6, .int .i64 a7]) (envOK seatOK palisadelaw21_VtimerOnce.callsOK noIfc_ok) (fnOK seatOK palisadelaw21_VtimerOnce.fun) ⟨(palisadelaw21_VtimerOnce.s11 Q (fun a1 a2 a3 a4 a5 a6 a7 h => Head sg W0 188 (entered 3) (Post sg W0 (palisadelaw21_VtimerOnce.ret Q)) (posC palisadelaw21_VtimerOnce.code []) 7 [0, 1, 2, 7, 8, 9, 10] [.int .u64 a1, .int .u64 a2, .sl a3, .ptr a4, .int .u64 a5, .int .u64 a6, .int .i64 a7] h) hself), (palisadelaw21_VtimerOnce.s12 Q (fun a1 a2 a3 a4 a5 a6 a7 h => Head sg W0 188 (entered 3) (Post sg W0 (palisadelaw21_VtimerOnce.ret Q)) (posC palisadelaw21_VtimerOnce.code []) 7 [0, 1, 2, 7, 8, 9, 10] [.int .u64 a1, .int .u64 a2, .sl a3, .ptr a4, .int .u64 a5, .int .u64 a6, .int .i64 a7] h) hself), (palisadelaw21_VtimerOnce.s23 Q  ), trivial⟩ palisadelaw21_VtimerOnce.p7 (fuel := 3000) (by rw [← palisadelaw21_VtimerOnce.e7]; exact hb) hm s f hp
  · exact hk.elim

theorem palisadelaw21_VtimerOnce.p6 : (posC palisadelaw21_VtimerOnce.code []).filter (fun p => Nat.beq p.1 6) = [(6, atPos (posC palisadelaw21_VtimerOnce.code []) 6)] := by kernel_rfl

theorem palisadelaw21_VtimerOnce.e6 : ∀  (a1 : Int) (a2 : Int) (a3 : Sl) (a4 : Option Ptr) (a5 : Int) (a6 : Int) (Q : Bool → Heap → Prop) (h : Heap), palisadelaw21_VtimerOnce.j6  a1 a2 a3 a4 a5 a6 Q h = pts (palisadelaw21_VtimerOnce.E Q [(7, ([0, 1, 2, 7, 8, 9, 10], palisadelaw21_VtimerOnce.k7 (fun a1 a2 a3 a4 a5 a6 a7 h => palisadelaw21_VtimerOnce.j7  a1 a2 a3 a4 a5 a6 a7 Q h)))]) 3000 true (atPos (posC palisadelaw21_VtimerOnce.code []) 6) (frAt [0, 1, 2, 7, 8, 9] [.int .u64 a1, .int .u64 a2, .sl a3, .ptr a4, .int .u64 a5, .int .u64 a6]) h := by
  intros; kernel_rfl

theorem palisadelaw21_VtimerOnce.s6 {W0 : World} (Q : Bool → Heap → Prop)   : CutOK sg W0 188 (entered 3) (Post sg W0 (palisadelaw21_VtimerOnce.ret Q)) (posC palisadelaw21_VtimerOnce.code []) 6 [0, 1, 2, 7, 8, 9] (palisadelaw21_VtimerOnce.k6 (fun a1 a2 a3 a4 a5 a6 h => palisadelaw21_VtimerOnce.j6  a1 a2 a3 a4 a5 a6 Q h)) := by
  refine cutOK_head (fun vs h hk => ?_)
  unfold palisadelaw21_VtimerOnce.k6 at hk
  split at hk
  · rename_i a1 a2 a3 a4 a5 a6
    intro todo hm ρ a w s f hp
    exact piece (E := palisadelaw21_VtimerOnce.E Q [(7, ([0, 1, 2, 7, 8, 9, 10], palisadelaw21_VtimerOnce.k7 (fun a1 a2 a3 a4 a5 a6 a7 h => palisadelaw21_VtimerOnce.j7  a1 a2 a3 a4 a5 a6 a7 Q h)))]) (vs := [.int .u64 a1, .int .u64 a2, .sl a3, .ptr a4, .int .u64 a5, .int .u64 a6]) (envOK seatOK palisadelaw21_VtimerOnce.callsOK noIfc_ok) (fnOK seatOK palisadelaw21_VtimerOnce.fun) ⟨(palisadelaw21_VtimerOnce.s7 Q  ), trivial⟩ palisadelaw21_VtimerOnce.p6 (fuel := 3000) (by rw [← palisadelaw21_VtimerOnce.e6]; exact hk) hm s f hp
  · exact hk.elim

theorem palisadelaw21_VtimerOnce.e : ∀ (a1 : Int) (a2 : Int) (a3 : Sl) (Q : Bool → Heap → Prop) (h : Heap), palisadelaw21_VtimerOnce a1 a2 a3 Q h = pts (palisadelaw21_VtimerOnce.E Q [(4, ([], palisadelaw21_VtimerOnce.k4 (fun  h => palisadelaw21_VtimerOnce.j4   Q h))), (6, ([0, 1, 2, 7, 8, 9], palisadelaw21_VtimerOnce.k6 (fun a1 a2 a3 a4 a5 a6 h => palisadelaw21_VtimerOnce.j6  a1 a2 a3 a4 a5 a6 Q h)))]) 3000 true [.code palisadelaw21_VtimerOnce.code] (frOf 0 [.int .u64 a1, .int .u64 a2, .sl a3]) h := by
  intros; kernel_rfl

theorem palisadelaw21_VtimerOnce.S {W0 : World} : FnS sg W0 101 palisadelaw21_VtimerOnce.C := by
  intro vs κ h wv hx w s
  unfold palisadelaw21_VtimerOnce.C at hx
  split at hx
  · rename_i a1 a2 a3
    refine postImp (ret := palisadelaw21_VtimerOnce.ret (fun r1 h => κ (.bool r1) h)) (fun v h hr => by unfold palisadelaw21_VtimerOnce.ret at hr; split at hr; exact hr; exact hr.elim) ?_
    exact calls_of_pts (E := palisadelaw21_VtimerOnce.E (fun r1 h => κ (.bool r1) h) [(4, ([], palisadelaw21_VtimerOnce.k4 (fun  h => palisadelaw21_VtimerOnce.j4   (fun r1 h => κ (.bool r1) h) h))), (6, ([0, 1, 2, 7, 8, 9], palisadelaw21_VtimerOnce.k6 (fun a1 a2 a3 a4 a5 a6 h => palisadelaw21_VtimerOnce.j6  a1 a2 a3 a4 a5 a6 (fun r1 h => κ (.bool r1) h) h)))]) (envOK seatOK palisadelaw21_VtimerOnce.callsOK noIfc_ok) seatOK.mixed palisadelaw21_VtimerOnce.fun (Nat.le_of_ble_eq_true rfl) wv (cutL_ok ⟨(palisadelaw21_VtimerOnce.s4 (fun r1 h => κ (.bool r1) h)), (palisadelaw21_VtimerOnce.s6 (fun r1 h => κ (.bool r1) h)), trivial⟩) s (fuel := 3000) (by rw [← palisadelaw21_VtimerOnce.e]; exact hx)
  · exact hx.elim

noncomputable def vtimer_Timers_Stop.code : Code := Go.Proofs.Try.f13.body.getD .skip

theorem vtimer_Timers_Stop.fun : Fun sg.P 13 19 [.tmp 4] vtimer_Timers_Stop.code := mkFun Go.Proofs.Try.func13 (by kernel_rfl) (by kernel_rfl) (by kernel_rfl) (by kernel_rfl)

def vtimer_Timers_Stop.ret (Q : Int → Heap → Prop) (v : V) (h : Heap) : Prop :=
  match v with
  | .int .i64 r1 => Q r1 h
  | _ => False

def vtimer_Timers_Stop.C (vs : List V) (κ : V → Heap → Prop) (h : Heap) : Prop :=
  match vs with
  | [.ptr a1, .int .i64 a2] => vtimer_Timers_Stop a1 a2 (fun r1 h => κ (.int .i64 r1) h) h
  | _ => False

noncomputable def vtimer_Timers_Stop.calls : List (Nat × (List V → (V → Heap → Prop) → Heap → Prop)) := [(100, vtimer_Timers_of.C)]

noncomputable def vtimer_Timers_Stop.E (Q : Int → Heap → Prop) (cuts : List (Nat × (List Nat × (List V → Heap → Prop)))) : Env := { tis := tisT, fns := fnsT, tys := tysT, gls := [], rts := rtsT, unk := [], nxt := [], calls := vtimer_Timers_Stop.calls, ifc := noIfc, cuts := cuts, ret := vtimer_Timers_Stop.ret Q, rets := [.tmp 4], n := 19 }

theorem vtimer_Timers_Stop.callsOK {W0 : World} : CallsOK sg W0 vtimer_Timers_Stop.calls := ⟨vtimer_Timers_of.S, trivial⟩

theorem vtimer_Timers_Stop.e : ∀ (a1 : Option Ptr) (a2 : Int) (Q : Int → Heap → Prop) (h : Heap), vtimer_Timers_Stop a1 a2 Q h = pts (vtimer_Timers_Stop.E Q []) 3000 true [.code vtimer_Timers_Stop.code] (frOf 0 [.ptr a1, .int .i64 a2]) h := by
  intros; kernel_rfl

theorem vtimer_Timers_Stop.S {W0 : World} : FnS sg W0 127 vtimer_Timers_Stop.C := by
  intro vs κ h wv hx w s
  unfold vtimer_Timers_Stop.C at hx
  split at hx
  · rename_i a1 a2
    refine postImp (ret := vtimer_Timers_Stop.ret (fun r1 h => κ (.int .i64 r1) h)) (fun v h hr => by unfold vtimer_Timers_Stop.ret at hr; split at hr; exact hr; exact hr.elim) ?_
    exact calls_of_pts (E := vtimer_Timers_Stop.E (fun r1 h => κ (.int .i64 r1) h) []) (envOK seatOK vtimer_Timers_Stop.callsOK noIfc_ok) seatOK.mixed vtimer_Timers_Stop.fun (Nat.le_of_ble_eq_true rfl) wv (cutL_ok trivial) s (fuel := 3000) (by rw [← vtimer_Timers_Stop.e]; exact hx)
  · exact hx.elim

noncomputable def vtimer_Timers_End.code : Code := Go.Proofs.Try.f14.body.getD .skip

theorem vtimer_Timers_End.fun : Fun sg.P 14 21 [.tmp 4] vtimer_Timers_End.code := mkFun Go.Proofs.Try.func14 (by kernel_rfl) (by kernel_rfl) (by kernel_rfl) (by kernel_rfl)

def vtimer_Timers_End.ret (Q : Int → Heap → Prop) (v : V) (h : Heap) : Prop :=
  match v with
  | .int .i64 r1 => Q r1 h
  | _ => False

def vtimer_Timers_End.C (vs : List V) (κ : V → Heap → Prop) (h : Heap) : Prop :=
  match vs with
  | [.ptr a1, .int .i64 a2] => vtimer_Timers_End a1 a2 (fun r1 h => κ (.int .i64 r1) h) h
  | _ => False

noncomputable def vtimer_Timers_End.calls : List (Nat × (List V → (V → Heap → Prop) → Heap → Prop)) := [(100, vtimer_Timers_of.C)]

noncomputable def vtimer_Timers_End.E (Q : Int → Heap → Prop) (cuts : List (Nat × (List Nat × (List V → Heap → Prop)))) : Env := { tis := tisT, fns := fnsT, tys := tysT, gls := [], rts := rtsT, unk := [], nxt := [], calls := vtimer_Timers_End.calls, ifc := noIfc, cuts := cuts, ret := vtimer_Timers_End.ret Q, rets := [.tmp 4], n := 21 }

theorem vtimer_Timers_End.callsOK {W0 : World} : CallsOK sg W0 vtimer_Timers_End.calls := ⟨vtimer_Timers_of.S, trivial⟩

theorem vtimer_Timers_End.e : ∀ (a1 : Option Ptr) (a2 : Int) (Q : Int → Heap → Prop) (h : Heap), vtimer_Timers_End a1 a2 Q h = pts (vtimer_Timers_End.E Q []) 3000 true [.code vtimer_Timers_End.code] (frOf 0 [.ptr a1, .int .i64 a2]) h := by
  intros; kernel_rfl

theorem vtimer_Timers_End.S {W0 : World} : FnS sg W0 128 vtimer_Timers_End.C := by
  intro vs κ h wv hx w s
  unfold vtimer_Timers_End.C at hx
  split at hx
  · rename_i a1 a2
    refine postImp (ret := vtimer_Timers_End.ret (fun r1 h => κ (.int .i64 r1) h)) (fun v h hr => by unfold vtimer_Timers_End.ret at hr; split at hr; exact hr; exact hr.elim) ?_
    exact calls_of_pts (E := vtimer_Timers_End.E (fun r1 h => κ (.int .i64 r1) h) []) (envOK seatOK vtimer_Timers_End.callsOK noIfc_ok) seatOK.mixed vtimer_Timers_End.fun (Nat.le_of_ble_eq_true rfl) wv (cutL_ok trivial) s (fuel := 3000) (by rw [← vtimer_Timers_End.e]; exact hx)
  · exact hx.elim

noncomputable def palisadelaw21_VtimerNobody.code : Code := Go.Proofs.Try.f4.body.getD .skip

theorem palisadelaw21_VtimerNobody.fun : Fun sg.P 4 102 [.tmp 2] palisadelaw21_VtimerNobody.code := mkFun Go.Proofs.Try.func4 (by kernel_rfl) (by kernel_rfl) (by kernel_rfl) (by kernel_rfl)

def palisadelaw21_VtimerNobody.ret (Q : Bool → Heap → Prop) (v : V) (h : Heap) : Prop :=
  match v with
  | .bool r1 => Q r1 h
  | _ => False

def palisadelaw21_VtimerNobody.C (vs : List V) (κ : V → Heap → Prop) (h : Heap) : Prop :=
  match vs with
  | [.agg [.int .i64 a1, .int .i64 a2, .int .u64 a3]] => palisadelaw21_VtimerNobody a1 a2 a3 (fun r1 h => κ (.bool r1) h) h
  | _ => False

noncomputable def palisadelaw21_VtimerNobody.calls : List (Nat × (List V → (V → Heap → Prop) → Heap → Prop)) := [(130, vtimer_Timers_Begin.C), (131, vtimer_Timers_Set.C), (105, vtimer_Timers_Halt.C), (126, vtimer_Timers_Due.C), (133, vtimer_Timers_Go.C), (102, vtimer_Timers_Now.C), (103, vtimer_Timers_Next.C), (127, vtimer_Timers_Stop.C), (128, vtimer_Timers_End.C)]

noncomputable def palisadelaw21_VtimerNobody.E (Q : Bool → Heap → Prop) (cuts : List (Nat × (List Nat × (List V → Heap → Prop)))) : Env := { tis := tisT, fns := fnsT, tys := tysT, gls := [], rts := rtsT, unk := [], nxt := [], calls := palisadelaw21_VtimerNobody.calls, ifc := noIfc, cuts := cuts, ret := palisadelaw21_VtimerNobody.ret Q, rets := [.tmp 2], n := 102 }

theorem palisadelaw21_VtimerNobody.callsOK {W0 : World} : CallsOK sg W0 palisadelaw21_VtimerNobody.calls := ⟨vtimer_Timers_Begin.S, vtimer_Timers_Set.S, vtimer_Timers_Halt.S, vtimer_Timers_Due.S, vtimer_Timers_Go.S, vtimer_Timers_Now.S, vtimer_Timers_Next.S, vtimer_Timers_Stop.S, vtimer_Timers_End.S, trivial⟩

def palisadelaw21_VtimerNobody.k7 (I : Heap → Prop) (vs : List V) (h : Heap) : Prop :=
  match vs with
  | [] => I  h
  | _ => False

def palisadelaw21_VtimerNobody.k8 (I : Ptr → Sl → Int → Int → Heap → Prop) (vs : List V) (h : Heap) : Prop :=
  match vs with
  | [.ptr (some a1), .sl a2, .int .i64 a3, .int .i64 a4] => I a1 a2 a3 a4 h
  | _ => False

def palisadelaw21_VtimerNobody.k2 (I : Ptr → Sl → Int → Int → Heap → Prop) (vs : List V) (h : Heap) : Prop :=
  match vs with
  | [.ptr (some a1), .sl a2, .int .i64 a3, .int .i64 a4] => I a1 a2 a3 a4 h
  | _ => False

theorem palisadelaw21_VtimerNobody.p7 : (posC palisadelaw21_VtimerNobody.code []).filter (fun p => Nat.beq p.1 7) = [(7, atPos (posC palisadelaw21_VtimerNobody.code []) 7)] := by kernel_rfl

theorem palisadelaw21_VtimerNobody.e7 : ∀ (I2 : Ptr → Sl → Int → Int → Heap → Prop)  (Q : Bool → Heap → Prop) (h : Heap), palisadelaw21_VtimerNobody.j7 I2  Q h = pts (palisadelaw21_VtimerNobody.E Q []) 3000 true (atPos (posC palisadelaw21_VtimerNobody.code []) 7) (frAt [] []) h := by
  intros; kernel_rfl

theorem palisadelaw21_VtimerNobody.s7 {W0 : World} (Q : Bool → Heap → Prop) (I2 : Ptr → Sl → Int → Int → Heap → Prop) (h2 : CutOK sg W0 102 (entered 4) (Post sg W0 (palisadelaw21_VtimerNobody.ret Q)) (posC palisadelaw21_VtimerNobody.code []) 2 [1, 11, 12, 13] (palisadelaw21_VtimerNobody.k2 I2)) : CutOK sg W0 102 (entered 4) (Post sg W0 (palisadelaw21_VtimerNobody.ret Q)) (posC palisadelaw21_VtimerNobody.code []) 7 [] (palisadelaw21_VtimerNobody.k7 (fun  h => palisadelaw21_VtimerNobody.j7 I2  Q h)) := by
  refine cutOK_head (fun vs h hk => ?_)
  unfold palisadelaw21_VtimerNobody.k7 at hk
  split at hk
  · skip
    intro todo hm ρ a w s f hp
    exact piece (E := palisadelaw21_VtimerNobody.E Q []) (vs := []) (envOK seatOK palisadelaw21_VtimerNobody.callsOK noIfc_ok) (fnOK seatOK palisadelaw21_VtimerNobody.fun) trivial palisadelaw21_VtimerNobody.p7 (fuel := 3000) (by rw [← palisadelaw21_VtimerNobody.e7]; exact hk) hm s f hp
  · exact hk.elim

theorem palisadelaw21_VtimerNobody.p8 : (posC palisadelaw21_VtimerNobody.code []).filter (fun p => Nat.beq p.1 8) = [(8, atPos (posC palisadelaw21_VtimerNobody.code []) 8)] := by kernel_rfl

theorem palisadelaw21_VtimerNobody.e8 : ∀ (I2 : Ptr → Sl → Int → Int → Heap → Prop) (a1 : Ptr) (a2 : Sl) (a3 : Int) (a4 : Int) (Q : Bool → Heap → Prop) (h : Heap), palisadelaw21_VtimerNobody.j8 I2 a1 a2 a3 a4 Q h = pts (palisadelaw21_VtimerNobody.E Q [(2, ([1, 11, 12, 13], palisadelaw21_VtimerNobody.k2 I2))]) 3000 true (atPos (posC palisadelaw21_VtimerNobody.code []) 8) (frAt [1, 11, 12, 13] [.ptr (some a1), .sl a2, .int .i64 a3, .int .i64 a4]) h := by
  intros; kernel_rfl

theorem palisadelaw21_VtimerNobody.s8 {W0 : World} (Q : Bool → Heap → Prop) (I2 : Ptr → Sl → Int → Int → Heap → Prop) (h2 : CutOK sg W0 102 (entered 4) (Post sg W0 (palisadelaw21_VtimerNobody.ret Q)) (posC palisadelaw21_VtimerNobody.code []) 2 [1, 11, 12, 13] (palisadelaw21_VtimerNobody.k2 I2)) : CutOK sg W0 102 (entered 4) (Post sg W0 (palisadelaw21_VtimerNobody.ret Q)) (posC palisadelaw21_VtimerNobody.code []) 8 [1, 11, 12, 13] (palisadelaw21_VtimerNobody.k8 (fun a1 a2 a3 a4 h => palisadelaw21_VtimerNobody.j8 I2 a1 a2 a3 a4 Q h)) := by
  refine cutOK_head (fun vs h hk => ?_)
  unfold palisadelaw21_VtimerNobody.k8 at hk
  split at hk
  · rename_i a1 a2 a3 a4
    intro todo hm ρ a w s f hp
    exact piece (E := palisadelaw21_VtimerNobody.E Q [(2, ([1, 11, 12, 13], palisadelaw21_VtimerNobody.k2 I2))]) (vs := [.ptr (some a1), .sl a2, .int .i64 a3, .int .i64 a4]) (envOK seatOK palisadelaw21_VtimerNobody.callsOK noIfc_ok) (fnOK seatOK palisadelaw21_VtimerNobody.fun) ⟨h2, trivial⟩ palisadelaw21_VtimerNobody.p8 (fuel := 3000) (by rw [← palisadelaw21_VtimerNobody.e8]; exact hk) hm s f hp
  · exact hk.elim

theorem palisadelaw21_VtimerNobody.p2 : (posC palisadelaw21_VtimerNobody.code []).filter (fun p => Nat.beq p.1 2) = [(2, atPos (posC palisadelaw21_VtimerNobody.code []) 2)] := by kernel_rfl

theorem palisadelaw21_VtimerNobody.e2 : ∀  (I2 : Ptr → Sl → Int → Int → Heap → Prop) (a1 : Ptr) (a2 : Sl) (a3 : Int) (a4 : Int) (Q : Bool → Heap → Prop) (h : Heap), palisadelaw21_VtimerNobody.b2  I2 a1 a2 a3 a4 Q h = pts (palisadelaw21_VtimerNobody.E Q [(7, ([], palisadelaw21_VtimerNobody.k7 (fun  h => palisadelaw21_VtimerNobody.j7 I2  Q h))), (8, ([1, 11, 12, 13], palisadelaw21_VtimerNobody.k8 (fun a1 a2 a3 a4 h => palisadelaw21_VtimerNobody.j8 I2 a1 a2 a3 a4 Q h)))]) 3000 true (atPos (posC palisadelaw21_VtimerNobody.code []) 2) (frAt [1, 11, 12, 13] [.ptr (some a1), .sl a2, .int .i64 a3, .int .i64 a4]) h := by
  intros; kernel_rfl

theorem palisadelaw21_VtimerNobody.s2 {W0 : World} (Q : Bool → Heap → Prop)   : CutOK sg W0 102 (entered 4) (Post sg W0 (palisadelaw21_VtimerNobody.ret Q)) (posC palisadelaw21_VtimerNobody.code []) 2 [1, 11, 12, 13] (palisadelaw21_VtimerNobody.k2 (fun a1 a2 a3 a4 h => palisadelaw21_VtimerNobody.j2  a1 a2 a3 a4 Q h)) := by
  refine cutOK_head (fun vs h hk => ?_)
  unfold palisadelaw21_VtimerNobody.k2 at hk
  split at hk
  · rename_i a1 a2 a3 a4
    refine hk (fun a1 a2 a3 a4 h => Head sg W0 102 (entered 4) (Post sg W0 (palisadelaw21_VtimerNobody.ret Q)) (posC palisadelaw21_VtimerNobody.code []) 2 [1, 11, 12, 13] [.ptr (some a1), .sl a2, .int .i64 a3, .int .i64 a4] h) ?_
    intro a1 a2 a3 a4 h hb todo hm ρ a w s f hp
    have hself : CutOK sg W0 102 (entered 4) (Post sg W0 (palisadelaw21_VtimerNobody.ret Q)) (posC palisadelaw21_VtimerNobody.code []) 2 [1, 11, 12, 13] (palisadelaw21_VtimerNobody.k2 (fun a1 a2 a3 a4 h => Head sg W0 102 (entered 4) (Post sg W0 (palisadelaw21_VtimerNobody.ret Q)) (posC palisadelaw21_VtimerNobody.code []) 2 [1, 11, 12, 13] [.ptr (some a1), .sl a2, .int .i64 a3, .int .i64 a4] h)) := cutOK_head (fun vs h hk => by unfold palisadelaw21_VtimerNobody.k2 at hk; split at hk; exact hk; exact hk.elim)
    exact piece (E := palisadelaw21_VtimerNobody.E Q [(7, ([], palisadelaw21_VtimerNobody.k7 (fun  h => palisadelaw21_VtimerNobody.j7 (fun a1 a2 a3 a4 h => Head sg W0 102 (entered 4) (Post sg W0 (palisadelaw21_VtimerNobody.ret Q)) (posC palisadelaw21_VtimerNobody.code []) 2 [1, 11, 12, 13] [.ptr (some a1), .sl a2, .int .i64 a3, .int .i64 a4] h)  Q h))), (8, ([1, 11, 12, 13], palisadelaw21_VtimerNobody.k8 (fun a1 a2 a3 a4 h => palisadelaw21_VtimerNobody.j8 (fun a1 a2 a3 a4 h => Head sg W0 102 (entered 4) (Post sg W0 (palisadelaw21_VtimerNobody.ret Q)) (posC palisadelaw21_VtimerNobody.code []) 2 [1, 11, 12, 13] [.ptr (some a1), .sl a2, .int .i64 a3, .int .i64 a4] h) a1 a2 a3 a4 Q h)))]) (vs := [.ptr (some a1), .sl a2, .int .i64 a3, .int .i64 a4]) (envOK seatOK palisadelaw21_VtimerNobody.callsOK noIfc_ok) (fnOK seatOK palisadelaw21_VtimerNobody.fun) ⟨(palisadelaw21_VtimerNobody.s7 Q (fun a1 a2 a3 a4 h => Head sg W0 102 (entered 4) (Post sg W0 (palisadelaw21_VtimerNobody.ret Q)) (posC palisadelaw21_VtimerNobody.code []) 2 [1, 11, 12, 13] [.ptr (some a1), .sl a2, .int .i64 a3, .int .i64 a4] h) hself), (palisadelaw21_VtimerNobody.s8 Q (fun a1 a2 a3 a4 h => Head sg W0 102 (entered 4) (Post sg W0 (palisadelaw21_VtimerNobody.ret Q)) (posC palisadelaw21_VtimerNobody.code []) 2 [1, 11, 12, 13] [.ptr (some a1), .sl a2, .int .i64 a3, .int .i64 a4] h) hself), trivial⟩ palisadelaw21_VtimerNobody.p2 (fuel := 3000) (by rw [← palisadelaw21_VtimerNobody.e2]; exact hb) hm s f hp
  · exact hk.elim

theorem palisadelaw21_VtimerNobody.e : ∀ (a1 : Int) (a2 : Int) (a3 : Int) (Q : Bool → Heap → Prop) (h : Heap), palisadelaw21_VtimerNobody a1 a2 a3 Q h = pts (palisadelaw21_VtimerNobody.E Q [(2, ([1, 11, 12, 13], palisadelaw21_VtimerNobody.k2 (fun a1 a2 a3 a4 h => palisadelaw21_VtimerNobody.j2  a1 a2 a3 a4 Q h)))]) 3000 true [.code palisadelaw21_VtimerNobody.code] (frOf 0 [.agg [.int .i64 a1, .int .i64 a2, .int .u64 a3]]) h := by
  intros; kernel_rfl

theorem palisadelaw21_VtimerNobody.S {W0 : World} : FnS sg W0 104 palisadelaw21_VtimerNobody.C := by
  intro vs κ h wv hx w s
  unfold palisadelaw21_VtimerNobody.C at hx
  split at hx
  · rename_i a1 a2 a3
    refine postImp (ret := palisadelaw21_VtimerNobody.ret (fun r1 h => κ (.bool r1) h)) (fun v h hr => by unfold palisadelaw21_VtimerNobody.ret at hr; split at hr; exact hr; exact hr.elim) ?_
    exact calls_of_pts (E := palisadelaw21_VtimerNobody.E (fun r1 h => κ (.bool r1) h) [(2, ([1, 11, 12, 13], palisadelaw21_VtimerNobody.k2 (fun a1 a2 a3 a4 h => palisadelaw21_VtimerNobody.j2  a1 a2 a3 a4 (fun r1 h => κ (.bool r1) h) h)))]) (envOK seatOK palisadelaw21_VtimerNobody.callsOK noIfc_ok) seatOK.mixed palisadelaw21_VtimerNobody.fun (Nat.le_of_ble_eq_true rfl) wv (cutL_ok ⟨(palisadelaw21_VtimerNobody.s2 (fun r1 h => κ (.bool r1) h)), trivial⟩) s (fuel := 3000) (by rw [← palisadelaw21_VtimerNobody.e]; exact hx)
  · exact hx.elim

end Go.Fn
