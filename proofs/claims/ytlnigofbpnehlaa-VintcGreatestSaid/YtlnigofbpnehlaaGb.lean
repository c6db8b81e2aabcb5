/- The links of the shallow functions to the machine. PRINTED by lift.py. -/
import Derived.Test.YtlnigofbpnehlaaGa
set_option linter.unusedVariables false
set_option maxRecDepth 100000
namespace Go.Fn
open Go.Lift

noncomputable def vintc_New.code : Code := Go.Proofs.Try.f13.body.getD .skip

theorem vintc_New.fun : Fun sg.P 13 26 [.tmp 2, .tmp 3] vintc_New.code := mkFun Go.Proofs.Try.func13 (by kernel_rfl) (by kernel_rfl) (by kernel_rfl) (by kernel_rfl)

def vintc_New.ret (Q : (Option Ptr) → Int → Heap → Prop) (v : V) (h : Heap) : Prop :=
  match v with
  | .tup [.ptr r1, .int .i64 r2] => Q r1 r2 h
  | _ => False

def vintc_New.C (vs : List V) (κ : V → Heap → Prop) (h : Heap) : Prop :=
  match vs with
  | [.int .i64 a1] => vintc_New a1 (fun r1 r2 h => κ (.tup [.ptr r1, .int .i64 r2]) h) h
  | _ => False

noncomputable def vintc_New.calls : List (Nat × (List V → (V → Heap → Prop) → Heap → Prop)) := []

noncomputable def vintc_New.E (Q : (Option Ptr) → Int → Heap → Prop) (cuts : List (Nat × (List Nat × (List V → Heap → Prop)))) : Env := { tis := tisT, fns := fnsT, tys := tysT, calls := vintc_New.calls, ifc := noIfc, cuts := cuts, ret := vintc_New.ret Q, rets := [.tmp 2, .tmp 3], n := 26 }

theorem vintc_New.callsOK {W0 : World} : CallsOK sg W0 vintc_New.calls := trivial

def vintc_New.k2 (I : Heap → Prop) (vs : List V) (h : Heap) : Prop :=
  match vs with
  | [] => I  h
  | _ => False

def vintc_New.k5 (I : Ptr → Int → Heap → Prop) (vs : List V) (h : Heap) : Prop :=
  match vs with
  | [.ptr (some a1), .int .i64 a2] => I a1 a2 h
  | _ => False

theorem vintc_New.p2 : (posC vintc_New.code []).filter (fun p => Nat.beq p.1 2) = [(2, atPos (posC vintc_New.code []) 2)] := by kernel_rfl

theorem vintc_New.e2 : ∀   (Q : (Option Ptr) → Int → Heap → Prop) (h : Heap), vintc_New.j2   Q h = pts (vintc_New.E Q []) 3000 true (atPos (posC vintc_New.code []) 2) (frAt [] []) h := by
  intros; kernel_rfl

theorem vintc_New.s2 {W0 : World} (Q : (Option Ptr) → Int → Heap → Prop)   : CutOK sg W0 26 (entered 13) (Post sg W0 (vintc_New.ret Q)) (posC vintc_New.code []) 2 [] (vintc_New.k2 (fun  h => vintc_New.j2   Q h)) := by
  refine cutOK_head (fun vs h hk => ?_)
  unfold vintc_New.k2 at hk
  split at hk
  · skip
    intro todo hm ρ a w s f hp
    exact piece (E := vintc_New.E Q []) (vs := []) (envOK seatOK vintc_New.callsOK noIfc_ok) (fnOK seatOK vintc_New.fun) trivial vintc_New.p2 (fuel := 3000) (by rw [← vintc_New.e2]; exact hk) hm s f hp
  · exact hk.elim

theorem vintc_New.p5 : (posC vintc_New.code []).filter (fun p => Nat.beq p.1 5) = [(5, atPos (posC vintc_New.code []) 5)] := by kernel_rfl

theorem vintc_New.e5 : ∀  (I5 : Ptr → Int → Heap → Prop) (a1 : Ptr) (a2 : Int) (Q : (Option Ptr) → Int → Heap → Prop) (h : Heap), vintc_New.b5  I5 a1 a2 Q h = pts (vintc_New.E Q [(5, ([4, 15], vintc_New.k5 I5))]) 3000 true (atPos (posC vintc_New.code []) 5) (frAt [4, 15] [.ptr (some a1), .int .i64 a2]) h := by
  intros; kernel_rfl

theorem vintc_New.s5 {W0 : World} (Q : (Option Ptr) → Int → Heap → Prop)   : CutOK sg W0 26 (entered 13) (Post sg W0 (vintc_New.ret Q)) (posC vintc_New.code []) 5 [4, 15] (vintc_New.k5 (fun a1 a2 h => vintc_New.j5  a1 a2 Q h)) := by
  refine cutOK_head (fun vs h hk => ?_)
  unfold vintc_New.k5 at hk
  split at hk
  · rename_i a1 a2
    refine hk (fun a1 a2 h => Head sg W0 26 (entered 13) (Post sg W0 (vintc_New.ret Q)) (posC vintc_New.code []) 5 [4, 15] [.ptr (some a1), .int .i64 a2] h) ?_
    intro a1 a2 h hb todo hm ρ a w s f hp
    have hself : CutOK sg W0 26 (entered 13) (Post sg W0 (vintc_New.ret Q)) (posC vintc_New.code []) 5 [4, 15] (vintc_New.k5 (fun a1 a2 h => Head sg W0 26 (entered 13) (Post sg W0 (vintc_New.ret Q)) (posC vintc_New.code []) 5 [4, 15] [.ptr (some a1), .int .i64 a2] h)) := cutOK_head (fun vs h hk => by unfold vintc_New.k5 at hk; split at hk; exact hk; exact hk.elim)
    exact piece (E := vintc_New.E Q [(5, ([4, 15], vintc_New.k5 (fun a1 a2 h => Head sg W0 26 (entered 13) (Post sg W0 (vintc_New.ret Q)) (posC vintc_New.code []) 5 [4, 15] [.ptr (some a1), .int .i64 a2] h)))]) (vs := [.ptr (some a1), .int .i64 a2]) (envOK seatOK vintc_New.callsOK noIfc_ok) (fnOK seatOK vintc_New.fun) ⟨hself, trivial⟩ vintc_New.p5 (fuel := 3000) (by rw [← vintc_New.e5]; exact hb) hm s f hp
  · exact hk.elim

theorem vintc_New.e : ∀ (a1 : Int) (Q : (Option Ptr) → Int → Heap → Prop) (h : Heap), vintc_New a1 Q h = pts (vintc_New.E Q [(2, ([], vintc_New.k2 (fun  h => vintc_New.j2   Q h))), (5, ([4, 15], vintc_New.k5 (fun a1 a2 h => vintc_New.j5  a1 a2 Q h)))]) 3000 true [.code vintc_New.code] (frOf 0 [.int .i64 a1]) h := by
  intros; kernel_rfl

theorem vintc_New.S {W0 : World} : FnS sg W0 4 vintc_New.C := by
  intro vs κ h wv hx w s
  unfold vintc_New.C at hx
  split at hx
  · rename_i a1
    refine postImp (ret := vintc_New.ret (fun r1 r2 h => κ (.tup [.ptr r1, .int .i64 r2]) h)) (fun v h hr => by unfold vintc_New.ret at hr; split at hr; exact hr; exact hr.elim) ?_
    exact calls_of_pts (E := vintc_New.E (fun r1 r2 h => κ (.tup [.ptr r1, .int .i64 r2]) h) [(2, ([], vintc_New.k2 (fun  h => vintc_New.j2   (fun r1 r2 h => κ (.tup [.ptr r1, .int .i64 r2]) h) h))), (5, ([4, 15], vintc_New.k5 (fun a1 a2 h => vintc_New.j5  a1 a2 (fun r1 r2 h => κ (.tup [.ptr r1, .int .i64 r2]) h) h)))]) (envOK seatOK vintc_New.callsOK noIfc_ok) seatOK.mixed vintc_New.fun (Nat.le_of_ble_eq_true rfl) wv (cutL_ok ⟨(vintc_New.s2 (fun r1 r2 h => κ (.tup [.ptr r1, .int .i64 r2]) h)), (vintc_New.s5 (fun r1 r2 h => κ (.tup [.ptr r1, .int .i64 r2]) h)), trivial⟩) s (fuel := 3000) (by rw [← vintc_New.e]; exact hx)
  · exact hx.elim

noncomputable def vintc_isSource.code : Code := Go.Proofs.Try.f55.body.getD .skip

theorem vintc_isSource.fun : Fun sg.P 55 9 [.tmp 2] vintc_isSource.code := mkFun Go.Proofs.Try.func55 (by kernel_rfl) (by kernel_rfl) (by kernel_rfl) (by kernel_rfl)

def vintc_isSource.ret (Q : Bool → Heap → Prop) (v : V) (h : Heap) : Prop :=
  match v with
  | .bool r1 => Q r1 h
  | _ => False

def vintc_isSource.C (vs : List V) (κ : V → Heap → Prop) (h : Heap) : Prop :=
  match vs with
  | [.int .i64 a1] => vintc_isSource a1 (fun r1 h => κ (.bool r1) h) h
  | _ => False

noncomputable def vintc_isSource.calls : List (Nat × (List V → (V → Heap → Prop) → Heap → Prop)) := []

noncomputable def vintc_isSource.E (Q : Bool → Heap → Prop) (cuts : List (Nat × (List Nat × (List V → Heap → Prop)))) : Env := { tis := tisT, fns := fnsT, tys := tysT, calls := vintc_isSource.calls, ifc := noIfc, cuts := cuts, ret := vintc_isSource.ret Q, rets := [.tmp 2], n := 9 }

theorem vintc_isSource.callsOK {W0 : World} : CallsOK sg W0 vintc_isSource.calls := trivial

theorem vintc_isSource.e : ∀ (a1 : Int) (Q : Bool → Heap → Prop) (h : Heap), vintc_isSource a1 Q h = pts (vintc_isSource.E Q []) 3000 true [.code vintc_isSource.code] (frOf 0 [.int .i64 a1]) h := by
  intros; kernel_rfl

theorem vintc_isSource.S {W0 : World} : FnS sg W0 5 vintc_isSource.C := by
  intro vs κ h wv hx w s
  unfold vintc_isSource.C at hx
  split at hx
  · rename_i a1
    refine postImp (ret := vintc_isSource.ret (fun r1 h => κ (.bool r1) h)) (fun v h hr => by unfold vintc_isSource.ret at hr; split at hr; exact hr; exact hr.elim) ?_
    exact calls_of_pts (E := vintc_isSource.E (fun r1 h => κ (.bool r1) h) []) (envOK seatOK vintc_isSource.callsOK noIfc_ok) seatOK.mixed vintc_isSource.fun (Nat.le_of_ble_eq_true rfl) wv (cutL_ok trivial) s (fuel := 3000) (by rw [← vintc_isSource.e]; exact hx)
  · exact hx.elim

noncomputable def vintc_Intc_none.code : Code := Go.Proofs.Try.f59.body.getD .skip

theorem vintc_Intc_none.fun : Fun sg.P 59 12 [.tmp 2] vintc_Intc_none.code := mkFun Go.Proofs.Try.func59 (by kernel_rfl) (by kernel_rfl) (by kernel_rfl) (by kernel_rfl)

def vintc_Intc_none.ret (Q : Bool → Heap → Prop) (v : V) (h : Heap) : Prop :=
  match v with
  | .bool r1 => Q r1 h
  | _ => False

def vintc_Intc_none.C (vs : List V) (κ : V → Heap → Prop) (h : Heap) : Prop :=
  match vs with
  | [.ptr a1] => vintc_Intc_none a1 (fun r1 h => κ (.bool r1) h) h
  | _ => False

noncomputable def vintc_Intc_none.calls : List (Nat × (List V → (V → Heap → Prop) → Heap → Prop)) := []

noncomputable def vintc_Intc_none.E (Q : Bool → Heap → Prop) (cuts : List (Nat × (List Nat × (List V → Heap → Prop)))) : Env := { tis := tisT, fns := fnsT, tys := tysT, calls := vintc_Intc_none.calls, ifc := noIfc, cuts := cuts, ret := vintc_Intc_none.ret Q, rets := [.tmp 2], n := 12 }

theorem vintc_Intc_none.callsOK {W0 : World} : CallsOK sg W0 vintc_Intc_none.calls := trivial

theorem vintc_Intc_none.e : ∀ (a1 : Option Ptr) (Q : Bool → Heap → Prop) (h : Heap), vintc_Intc_none a1 Q h = pts (vintc_Intc_none.E Q []) 3000 true [.code vintc_Intc_none.code] (frOf 0 [.ptr a1]) h := by
  intros; kernel_rfl

theorem vintc_Intc_none.S {W0 : World} : FnS sg W0 6 vintc_Intc_none.C := by
  intro vs κ h wv hx w s
  unfold vintc_Intc_none.C at hx
  split at hx
  · rename_i a1
    refine postImp (ret := vintc_Intc_none.ret (fun r1 h => κ (.bool r1) h)) (fun v h hr => by unfold vintc_Intc_none.ret at hr; split at hr; exact hr; exact hr.elim) ?_
    exact calls_of_pts (E := vintc_Intc_none.E (fun r1 h => κ (.bool r1) h) []) (envOK seatOK vintc_Intc_none.callsOK noIfc_ok) seatOK.mixed vintc_Intc_none.fun (Nat.le_of_ble_eq_true rfl) wv (cutL_ok trivial) s (fuel := 3000) (by rw [← vintc_Intc_none.e]; exact hx)
  · exact hx.elim

noncomputable def vintc_Intc_wrong.code : Code := Go.Proofs.Try.f54.body.getD .skip

theorem vintc_Intc_wrong.fun : Fun sg.P 54 11 [.tmp 4] vintc_Intc_wrong.code := mkFun Go.Proofs.Try.func54 (by kernel_rfl) (by kernel_rfl) (by kernel_rfl) (by kernel_rfl)

def vintc_Intc_wrong.ret (Q : Int → Heap → Prop) (v : V) (h : Heap) : Prop :=
  match v with
  | .int .i64 r1 => Q r1 h
  | _ => False

def vintc_Intc_wrong.C (vs : List V) (κ : V → Heap → Prop) (h : Heap) : Prop :=
  match vs with
  | [.ptr a1, .bool a2] => vintc_Intc_wrong a1 a2 (fun r1 h => κ (.int .i64 r1) h) h
  | _ => False

noncomputable def vintc_Intc_wrong.calls : List (Nat × (List V → (V → Heap → Prop) → Heap → Prop)) := [(6, vintc_Intc_none.C)]

noncomputable def vintc_Intc_wrong.E (Q : Int → Heap → Prop) (cuts : List (Nat × (List Nat × (List V → Heap → Prop)))) : Env := { tis := tisT, fns := fnsT, tys := tysT, calls := vintc_Intc_wrong.calls, ifc := noIfc, cuts := cuts, ret := vintc_Intc_wrong.ret Q, rets := [.tmp 4], n := 11 }

theorem vintc_Intc_wrong.callsOK {W0 : World} : CallsOK sg W0 vintc_Intc_wrong.calls := ⟨vintc_Intc_none.S, trivial⟩

theorem vintc_Intc_wrong.e : ∀ (a1 : Option Ptr) (a2 : Bool) (Q : Int → Heap → Prop) (h : Heap), vintc_Intc_wrong a1 a2 Q h = pts (vintc_Intc_wrong.E Q []) 3000 true [.code vintc_Intc_wrong.code] (frOf 0 [.ptr a1, .bool a2]) h := by
  intros; kernel_rfl

theorem vintc_Intc_wrong.S {W0 : World} : FnS sg W0 7 vintc_Intc_wrong.C := by
  intro vs κ h wv hx w s
  unfold vintc_Intc_wrong.C at hx
  split at hx
  · rename_i a1 a2
    refine postImp (ret := vintc_Intc_wrong.ret (fun r1 h => κ (.int .i64 r1) h)) (fun v h hr => by unfold vintc_Intc_wrong.ret at hr; split at hr; exact hr; exact hr.elim) ?_
    exact calls_of_pts (E := vintc_Intc_wrong.E (fun r1 h => κ (.int .i64 r1) h) []) (envOK seatOK vintc_Intc_wrong.callsOK noIfc_ok) seatOK.mixed vintc_Intc_wrong.fun (Nat.le_of_ble_eq_true rfl) wv (cutL_ok trivial) s (fuel := 3000) (by rw [← vintc_Intc_wrong.e]; exact hx)
  · exact hx.elim

noncomputable def vintc_Intc_Raise.code : Code := Go.Proofs.Try.f14.body.getD .skip

theorem vintc_Intc_Raise.fun : Fun sg.P 14 19 [.tmp 4] vintc_Intc_Raise.code := mkFun Go.Proofs.Try.func14 (by kernel_rfl) (by kernel_rfl) (by kernel_rfl) (by kernel_rfl)

def vintc_Intc_Raise.ret (Q : Int → Heap → Prop) (v : V) (h : Heap) : Prop :=
  match v with
  | .int .i64 r1 => Q r1 h
  | _ => False

def vintc_Intc_Raise.C (vs : List V) (κ : V → Heap → Prop) (h : Heap) : Prop :=
  match vs with
  | [.ptr a1, .int .i64 a2] => vintc_Intc_Raise a1 a2 (fun r1 h => κ (.int .i64 r1) h) h
  | _ => False

noncomputable def vintc_Intc_Raise.calls : List (Nat × (List V → (V → Heap → Prop) → Heap → Prop)) := [(7, vintc_Intc_wrong.C), (5, vintc_isSource.C)]

noncomputable def vintc_Intc_Raise.E (Q : Int → Heap → Prop) (cuts : List (Nat × (List Nat × (List V → Heap → Prop)))) : Env := { tis := tisT, fns := fnsT, tys := tysT, calls := vintc_Intc_Raise.calls, ifc := noIfc, cuts := cuts, ret := vintc_Intc_Raise.ret Q, rets := [.tmp 4], n := 19 }

theorem vintc_Intc_Raise.callsOK {W0 : World} : CallsOK sg W0 vintc_Intc_Raise.calls := ⟨vintc_Intc_wrong.S, vintc_isSource.S, trivial⟩

theorem vintc_Intc_Raise.e : ∀ (a1 : Option Ptr) (a2 : Int) (Q : Int → Heap → Prop) (h : Heap), vintc_Intc_Raise a1 a2 Q h = pts (vintc_Intc_Raise.E Q []) 3000 true [.code vintc_Intc_Raise.code] (frOf 0 [.ptr a1, .int .i64 a2]) h := by
  intros; kernel_rfl

theorem vintc_Intc_Raise.S {W0 : World} : FnS sg W0 8 vintc_Intc_Raise.C := by
  intro vs κ h wv hx w s
  unfold vintc_Intc_Raise.C at hx
  split at hx
  · rename_i a1 a2
    refine postImp (ret := vintc_Intc_Raise.ret (fun r1 h => κ (.int .i64 r1) h)) (fun v h hr => by unfold vintc_Intc_Raise.ret at hr; split at hr; exact hr; exact hr.elim) ?_
    exact calls_of_pts (E := vintc_Intc_Raise.E (fun r1 h => κ (.int .i64 r1) h) []) (envOK seatOK vintc_Intc_Raise.callsOK noIfc_ok) seatOK.mixed vintc_Intc_Raise.fun (Nat.le_of_ble_eq_true rfl) wv (cutL_ok trivial) s (fuel := 3000) (by rw [← vintc_Intc_Raise.e]; exact hx)
  · exact hx.elim

noncomputable def vintc_Intc_has.code : Code := Go.Proofs.Try.f56.body.getD .skip

theorem vintc_Intc_has.fun : Fun sg.P 56 20 [.tmp 4] vintc_Intc_has.code := mkFun Go.Proofs.Try.func56 (by kernel_rfl) (by kernel_rfl) (by kernel_rfl) (by kernel_rfl)

def vintc_Intc_has.ret (Q : Bool → Heap → Prop) (v : V) (h : Heap) : Prop :=
  match v with
  | .bool r1 => Q r1 h
  | _ => False

def vintc_Intc_has.C (vs : List V) (κ : V → Heap → Prop) (h : Heap) : Prop :=
  match vs with
  | [.ptr a1, .int .i64 a2] => vintc_Intc_has a1 a2 (fun r1 h => κ (.bool r1) h) h
  | _ => False

noncomputable def vintc_Intc_has.calls : List (Nat × (List V → (V → Heap → Prop) → Heap → Prop)) := [(6, vintc_Intc_none.C)]

noncomputable def vintc_Intc_has.E (Q : Bool → Heap → Prop) (cuts : List (Nat × (List Nat × (List V → Heap → Prop)))) : Env := { tis := tisT, fns := fnsT, tys := tysT, calls := vintc_Intc_has.calls, ifc := noIfc, cuts := cuts, ret := vintc_Intc_has.ret Q, rets := [.tmp 4], n := 20 }

theorem vintc_Intc_has.callsOK {W0 : World} : CallsOK sg W0 vintc_Intc_has.calls := ⟨vintc_Intc_none.S, trivial⟩

theorem vintc_Intc_has.e : ∀ (a1 : Option Ptr) (a2 : Int) (Q : Bool → Heap → Prop) (h : Heap), vintc_Intc_has a1 a2 Q h = pts (vintc_Intc_has.E Q []) 3000 true [.code vintc_Intc_has.code] (frOf 0 [.ptr a1, .int .i64 a2]) h := by
  intros; kernel_rfl

theorem vintc_Intc_has.S {W0 : World} : FnS sg W0 9 vintc_Intc_has.C := by
  intro vs κ h wv hx w s
  unfold vintc_Intc_has.C at hx
  split at hx
  · rename_i a1 a2
    refine postImp (ret := vintc_Intc_has.ret (fun r1 h => κ (.bool r1) h)) (fun v h hr => by unfold vintc_Intc_has.ret at hr; split at hr; exact hr; exact hr.elim) ?_
    exact calls_of_pts (E := vintc_Intc_has.E (fun r1 h => κ (.bool r1) h) []) (envOK seatOK vintc_Intc_has.callsOK noIfc_ok) seatOK.mixed vintc_Intc_has.fun (Nat.le_of_ble_eq_true rfl) wv (cutL_ok trivial) s (fuel := 3000) (by rw [← vintc_Intc_has.e]; exact hx)
  · exact hx.elim

noncomputable def vintc_Intc_Enable.code : Code := Go.Proofs.Try.f15.body.getD .skip

theorem vintc_Intc_Enable.fun : Fun sg.P 15 31 [.tmp 8] vintc_Intc_Enable.code := mkFun Go.Proofs.Try.func15 (by kernel_rfl) (by kernel_rfl) (by kernel_rfl) (by kernel_rfl)

def vintc_Intc_Enable.ret (Q : Int → Heap → Prop) (v : V) (h : Heap) : Prop :=
  match v with
  | .int .i64 r1 => Q r1 h
  | _ => False

def vintc_Intc_Enable.C (vs : List V) (κ : V → Heap → Prop) (h : Heap) : Prop :=
  match vs with
  | [.ptr a1, .int .i64 a2, .int .i64 a3, .bool a4] => vintc_Intc_Enable a1 a2 a3 a4 (fun r1 h => κ (.int .i64 r1) h) h
  | _ => False

noncomputable def vintc_Intc_Enable.calls : List (Nat × (List V → (V → Heap → Prop) → Heap → Prop)) := [(7, vintc_Intc_wrong.C), (5, vintc_isSource.C), (9, vintc_Intc_has.C)]

noncomputable def vintc_Intc_Enable.E (Q : Int → Heap → Prop) (cuts : List (Nat × (List Nat × (List V → Heap → Prop)))) : Env := { tis := tisT, fns := fnsT, tys := tysT, calls := vintc_Intc_Enable.calls, ifc := noIfc, cuts := cuts, ret := vintc_Intc_Enable.ret Q, rets := [.tmp 8], n := 31 }

theorem vintc_Intc_Enable.callsOK {W0 : World} : CallsOK sg W0 vintc_Intc_Enable.calls := ⟨vintc_Intc_wrong.S, vintc_isSource.S, vintc_Intc_has.S, trivial⟩

def vintc_Intc_Enable.k2 (I : (Option Ptr) → Int → Int → Bool → Int → Heap → Prop) (vs : List V) (h : Heap) : Prop :=
  match vs with
  | [.ptr a1, .int .i64 a2, .int .i64 a3, .bool a4, .int .i64 a5] => I a1 a2 a3 a4 a5 h
  | _ => False

theorem vintc_Intc_Enable.p2 : (posC vintc_Intc_Enable.code []).filter (fun p => Nat.beq p.1 2) = [(2, atPos (posC vintc_Intc_Enable.code []) 2)] := by kernel_rfl

theorem vintc_Intc_Enable.e2 : ∀  (a1 : Option Ptr) (a2 : Int) (a3 : Int) (a4 : Bool) (a5 : Int) (Q : Int → Heap → Prop) (h : Heap), vintc_Intc_Enable.j2  a1 a2 a3 a4 a5 Q h = pts (vintc_Intc_Enable.E Q []) 3000 true (atPos (posC vintc_Intc_Enable.code []) 2) (frAt [0, 1, 2, 3, 9] [.ptr a1, .int .i64 a2, .int .i64 a3, .bool a4, .int .i64 a5]) h := by
  intros; kernel_rfl

theorem vintc_Intc_Enable.s2 {W0 : World} (Q : Int → Heap → Prop)   : CutOK sg W0 31 (entered 15) (Post sg W0 (vintc_Intc_Enable.ret Q)) (posC vintc_Intc_Enable.code []) 2 [0, 1, 2, 3, 9] (vintc_Intc_Enable.k2 (fun a1 a2 a3 a4 a5 h => vintc_Intc_Enable.j2  a1 a2 a3 a4 a5 Q h)) := by
  refine cutOK_head (fun vs h hk => ?_)
  unfold vintc_Intc_Enable.k2 at hk
  split at hk
  · rename_i a1 a2 a3 a4 a5
    intro todo hm ρ a w s f hp
    exact piece (E := vintc_Intc_Enable.E Q []) (vs := [.ptr a1, .int .i64 a2, .int .i64 a3, .bool a4, .int .i64 a5]) (envOK seatOK vintc_Intc_Enable.callsOK noIfc_ok) (fnOK seatOK vintc_Intc_Enable.fun) trivial vintc_Intc_Enable.p2 (fuel := 3000) (by rw [← vintc_Intc_Enable.e2]; exact hk) hm s f hp
  · exact hk.elim

theorem vintc_Intc_Enable.e : ∀ (a1 : Option Ptr) (a2 : Int) (a3 : Int) (a4 : Bool) (Q : Int → Heap → Prop) (h : Heap), vintc_Intc_Enable a1 a2 a3 a4 Q h = pts (vintc_Intc_Enable.E Q [(2, ([0, 1, 2, 3, 9], vintc_Intc_Enable.k2 (fun a1 a2 a3 a4 a5 h => vintc_Intc_Enable.j2  a1 a2 a3 a4 a5 Q h)))]) 3000 true [.code vintc_Intc_Enable.code] (frOf 0 [.ptr a1, .int .i64 a2, .int .i64 a3, .bool a4]) h := by
  intros; kernel_rfl

theorem vintc_Intc_Enable.S {W0 : World} : FnS sg W0 10 vintc_Intc_Enable.C := by
  intro vs κ h wv hx w s
  unfold vintc_Intc_Enable.C at hx
  split at hx
  · rename_i a1 a2 a3 a4
    refine postImp (ret := vintc_Intc_Enable.ret (fun r1 h => κ (.int .i64 r1) h)) (fun v h hr => by unfold vintc_Intc_Enable.ret at hr; split at hr; exact hr; exact hr.elim) ?_
    exact calls_of_pts (E := vintc_Intc_Enable.E (fun r1 h => κ (.int .i64 r1) h) [(2, ([0, 1, 2, 3, 9], vintc_Intc_Enable.k2 (fun a1 a2 a3 a4 a5 h => vintc_Intc_Enable.j2  a1 a2 a3 a4 a5 (fun r1 h => κ (.int .i64 r1) h) h)))]) (envOK seatOK vintc_Intc_Enable.callsOK noIfc_ok) seatOK.mixed vintc_Intc_Enable.fun (Nat.le_of_ble_eq_true rfl) wv (cutL_ok ⟨(vintc_Intc_Enable.s2 (fun r1 h => κ (.int .i64 r1) h)), trivial⟩) s (fuel := 3000) (by rw [← vintc_Intc_Enable.e]; exact hx)
  · exact hx.elim

noncomputable def vintc_isLevel.code : Code := Go.Proofs.Try.f57.body.getD .skip

theorem vintc_isLevel.fun : Fun sg.P 57 9 [.tmp 2] vintc_isLevel.code := mkFun Go.Proofs.Try.func57 (by kernel_rfl) (by kernel_rfl) (by kernel_rfl) (by kernel_rfl)

def vintc_isLevel.ret (Q : Bool → Heap → Prop) (v : V) (h : Heap) : Prop :=
  match v with
  | .bool r1 => Q r1 h
  | _ => False

def vintc_isLevel.C (vs : List V) (κ : V → Heap → Prop) (h : Heap) : Prop :=
  match vs with
  | [.int .i64 a1] => vintc_isLevel a1 (fun r1 h => κ (.bool r1) h) h
  | _ => False

noncomputable def vintc_isLevel.calls : List (Nat × (List V → (V → Heap → Prop) → Heap → Prop)) := []

noncomputable def vintc_isLevel.E (Q : Bool → Heap → Prop) (cuts : List (Nat × (List Nat × (List V → Heap → Prop)))) : Env := { tis := tisT, fns := fnsT, tys := tysT, calls := vintc_isLevel.calls, ifc := noIfc, cuts := cuts, ret := vintc_isLevel.ret Q, rets := [.tmp 2], n := 9 }

theorem vintc_isLevel.callsOK {W0 : World} : CallsOK sg W0 vintc_isLevel.calls := trivial

theorem vintc_isLevel.e : ∀ (a1 : Int) (Q : Bool → Heap → Prop) (h : Heap), vintc_isLevel a1 Q h = pts (vintc_isLevel.E Q []) 3000 true [.code vintc_isLevel.code] (frOf 0 [.int .i64 a1]) h := by
  intros; kernel_rfl

theorem vintc_isLevel.S {W0 : World} : FnS sg W0 11 vintc_isLevel.C := by
  intro vs κ h wv hx w s
  unfold vintc_isLevel.C at hx
  split at hx
  · rename_i a1
    refine postImp (ret := vintc_isLevel.ret (fun r1 h => κ (.bool r1) h)) (fun v h hr => by unfold vintc_isLevel.ret at hr; split at hr; exact hr; exact hr.elim) ?_
    exact calls_of_pts (E := vintc_isLevel.E (fun r1 h => κ (.bool r1) h) []) (envOK seatOK vintc_isLevel.callsOK noIfc_ok) seatOK.mixed vintc_isLevel.fun (Nat.le_of_ble_eq_true rfl) wv (cutL_ok trivial) s (fuel := 3000) (by rw [← vintc_isLevel.e]; exact hx)
  · exact hx.elim

noncomputable def vintc_Intc_Weigh.code : Code := Go.Proofs.Try.f16.body.getD .skip

theorem vintc_Intc_Weigh.fun : Fun sg.P 16 26 [.tmp 6] vintc_Intc_Weigh.code := mkFun Go.Proofs.Try.func16 (by kernel_rfl) (by kernel_rfl) (by kernel_rfl) (by kernel_rfl)

def vintc_Intc_Weigh.ret (Q : Int → Heap → Prop) (v : V) (h : Heap) : Prop :=
  match v with
  | .int .i64 r1 => Q r1 h
  | _ => False

def vintc_Intc_Weigh.C (vs : List V) (κ : V → Heap → Prop) (h : Heap) : Prop :=
  match vs with
  | [.ptr a1, .int .i64 a2, .int .i64 a3] => vintc_Intc_Weigh a1 a2 a3 (fun r1 h => κ (.int .i64 r1) h) h
  | _ => False

noncomputable def vintc_Intc_Weigh.calls : List (Nat × (List V → (V → Heap → Prop) → Heap → Prop)) := [(7, vintc_Intc_wrong.C), (5, vintc_isSource.C), (11, vintc_isLevel.C)]

noncomputable def vintc_Intc_Weigh.E (Q : Int → Heap → Prop) (cuts : List (Nat × (List Nat × (List V → Heap → Prop)))) : Env := { tis := tisT, fns := fnsT, tys := tysT, calls := vintc_Intc_Weigh.calls, ifc := noIfc, cuts := cuts, ret := vintc_Intc_Weigh.ret Q, rets := [.tmp 6], n := 26 }

theorem vintc_Intc_Weigh.callsOK {W0 : World} : CallsOK sg W0 vintc_Intc_Weigh.calls := ⟨vintc_Intc_wrong.S, vintc_isSource.S, vintc_isLevel.S, trivial⟩

theorem vintc_Intc_Weigh.e : ∀ (a1 : Option Ptr) (a2 : Int) (a3 : Int) (Q : Int → Heap → Prop) (h : Heap), vintc_Intc_Weigh a1 a2 a3 Q h = pts (vintc_Intc_Weigh.E Q []) 3000 true [.code vintc_Intc_Weigh.code] (frOf 0 [.ptr a1, .int .i64 a2, .int .i64 a3]) h := by
  intros; kernel_rfl

theorem vintc_Intc_Weigh.S {W0 : World} : FnS sg W0 12 vintc_Intc_Weigh.C := by
  intro vs κ h wv hx w s
  unfold vintc_Intc_Weigh.C at hx
  split at hx
  · rename_i a1 a2 a3
    refine postImp (ret := vintc_Intc_Weigh.ret (fun r1 h => κ (.int .i64 r1) h)) (fun v h hr => by unfold vintc_Intc_Weigh.ret at hr; split at hr; exact hr; exact hr.elim) ?_
    exact calls_of_pts (E := vintc_Intc_Weigh.E (fun r1 h => κ (.int .i64 r1) h) []) (envOK seatOK vintc_Intc_Weigh.callsOK noIfc_ok) seatOK.mixed vintc_Intc_Weigh.fun (Nat.le_of_ble_eq_true rfl) wv (cutL_ok trivial) s (fuel := 3000) (by rw [← vintc_Intc_Weigh.e]; exact hx)
  · exact hx.elim

noncomputable def vintc_Intc_Bar.code : Code := Go.Proofs.Try.f17.body.getD .skip

theorem vintc_Intc_Bar.fun : Fun sg.P 17 26 [.tmp 6] vintc_Intc_Bar.code := mkFun Go.Proofs.Try.func17 (by kernel_rfl) (by kernel_rfl) (by kernel_rfl) (by kernel_rfl)

def vintc_Intc_Bar.ret (Q : Int → Heap → Prop) (v : V) (h : Heap) : Prop :=
  match v with
  | .int .i64 r1 => Q r1 h
  | _ => False

def vintc_Intc_Bar.C (vs : List V) (κ : V → Heap → Prop) (h : Heap) : Prop :=
  match vs with
  | [.ptr a1, .int .i64 a2, .int .i64 a3] => vintc_Intc_Bar a1 a2 a3 (fun r1 h => κ (.int .i64 r1) h) h
  | _ => False

noncomputable def vintc_Intc_Bar.calls : List (Nat × (List V → (V → Heap → Prop) → Heap → Prop)) := [(7, vintc_Intc_wrong.C), (9, vintc_Intc_has.C), (11, vintc_isLevel.C)]

noncomputable def vintc_Intc_Bar.E (Q : Int → Heap → Prop) (cuts : List (Nat × (List Nat × (List V → Heap → Prop)))) : Env := { tis := tisT, fns := fnsT, tys := tysT, calls := vintc_Intc_Bar.calls, ifc := noIfc, cuts := cuts, ret := vintc_Intc_Bar.ret Q, rets := [.tmp 6], n := 26 }

theorem vintc_Intc_Bar.callsOK {W0 : World} : CallsOK sg W0 vintc_Intc_Bar.calls := ⟨vintc_Intc_wrong.S, vintc_Intc_has.S, vintc_isLevel.S, trivial⟩

theorem vintc_Intc_Bar.e : ∀ (a1 : Option Ptr) (a2 : Int) (a3 : Int) (Q : Int → Heap → Prop) (h : Heap), vintc_Intc_Bar a1 a2 a3 Q h = pts (vintc_Intc_Bar.E Q []) 3000 true [.code vintc_Intc_Bar.code] (frOf 0 [.ptr a1, .int .i64 a2, .int .i64 a3]) h := by
  intros; kernel_rfl

theorem vintc_Intc_Bar.S {W0 : World} : FnS sg W0 13 vintc_Intc_Bar.C := by
  intro vs κ h wv hx w s
  unfold vintc_Intc_Bar.C at hx
  split at hx
  · rename_i a1 a2 a3
    refine postImp (ret := vintc_Intc_Bar.ret (fun r1 h => κ (.int .i64 r1) h)) (fun v h hr => by unfold vintc_Intc_Bar.ret at hr; split at hr; exact hr; exact hr.elim) ?_
    exact calls_of_pts (E := vintc_Intc_Bar.E (fun r1 h => κ (.int .i64 r1) h) []) (envOK seatOK vintc_Intc_Bar.callsOK noIfc_ok) seatOK.mixed vintc_Intc_Bar.fun (Nat.le_of_ble_eq_true rfl) wv (cutL_ok trivial) s (fuel := 3000) (by rw [← vintc_Intc_Bar.e]; exact hx)
  · exact hx.elim

noncomputable def vintc_Intc_first_c1.code : Code := Go.Proofs.Try.f82.body.getD .skip

theorem vintc_Intc_first_c1.fun : Fun sg.P 82 17 [.tmp 3] vintc_Intc_first_c1.code := mkFun Go.Proofs.Try.func82 (by kernel_rfl) (by kernel_rfl) (by kernel_rfl) (by kernel_rfl)

def vintc_Intc_first_c1.ret (Q : Bool → Heap → Prop) (v : V) (h : Heap) : Prop :=
  match v with
  | .bool r1 => Q r1 h
  | _ => False

def vintc_Intc_first_c1.C (vs : List V) (κ : V → Heap → Prop) (h : Heap) : Prop :=
  match vs with
  | [.agg [.bool a1, .int .i64 a2, .int .i64 a3, .bool a4, .bool a5, .bool a6, .bool a7], .ptr (some a8)] => vintc_Intc_first_c1 a1 a2 a3 a4 a5 a6 a7 a8 (fun r1 h => κ (.bool r1) h) h
  | _ => False

noncomputable def vintc_Intc_first_c1.calls : List (Nat × (List V → (V → Heap → Prop) → Heap → Prop)) := []

noncomputable def vintc_Intc_first_c1.E (Q : Bool → Heap → Prop) (cuts : List (Nat × (List Nat × (List V → Heap → Prop)))) : Env := { tis := tisT, fns := fnsT, tys := tysT, calls := vintc_Intc_first_c1.calls, ifc := noIfc, cuts := cuts, ret := vintc_Intc_first_c1.ret Q, rets := [.tmp 3], n := 17 }

theorem vintc_Intc_first_c1.callsOK {W0 : World} : CallsOK sg W0 vintc_Intc_first_c1.calls := trivial

theorem vintc_Intc_first_c1.e : ∀ (a1 : Bool) (a2 : Int) (a3 : Int) (a4 : Bool) (a5 : Bool) (a6 : Bool) (a7 : Bool) (a8 : Ptr) (Q : Bool → Heap → Prop) (h : Heap), vintc_Intc_first_c1 a1 a2 a3 a4 a5 a6 a7 a8 Q h = pts (vintc_Intc_first_c1.E Q []) 3000 true [.code vintc_Intc_first_c1.code] (frOf 0 [.agg [.bool a1, .int .i64 a2, .int .i64 a3, .bool a4, .bool a5, .bool a6, .bool a7], .ptr (some a8)]) h := by
  intros; kernel_rfl

theorem vintc_Intc_first_c1.S {W0 : World} : FnS sg W0 1 vintc_Intc_first_c1.C := by
  intro vs κ h wv hx w s
  unfold vintc_Intc_first_c1.C at hx
  split at hx
  · rename_i a1 a2 a3 a4 a5 a6 a7 a8
    refine postImp (ret := vintc_Intc_first_c1.ret (fun r1 h => κ (.bool r1) h)) (fun v h hr => by unfold vintc_Intc_first_c1.ret at hr; split at hr; exact hr; exact hr.elim) ?_
    exact calls_of_pts (E := vintc_Intc_first_c1.E (fun r1 h => κ (.bool r1) h) []) (envOK seatOK vintc_Intc_first_c1.callsOK noIfc_ok) seatOK.mixed vintc_Intc_first_c1.fun (Nat.le_of_ble_eq_true rfl) wv (cutL_ok trivial) s (fuel := 3000) (by rw [← vintc_Intc_first_c1.e]; exact hx)
  · exact hx.elim

noncomputable def vintc_Intc_first.code : Code := Go.Proofs.Try.f58.body.getD .skip

theorem vintc_Intc_first.fun : Fun sg.P 58 44 [.tmp 4] vintc_Intc_first.code := mkFun Go.Proofs.Try.func58 (by kernel_rfl) (by kernel_rfl) (by kernel_rfl) (by kernel_rfl)

def vintc_Intc_first.ret (Q : Int → Heap → Prop) (v : V) (h : Heap) : Prop :=
  match v with
  | .int .i64 r1 => Q r1 h
  | _ => False

def vintc_Intc_first.C (vs : List V) (κ : V → Heap → Prop) (h : Heap) : Prop :=
  match vs with
  | [.ptr a1, .int .i64 a2] => vintc_Intc_first a1 a2 (fun r1 h => κ (.int .i64 r1) h) h
  | _ => False

noncomputable def vintc_Intc_first.calls : List (Nat × (List V → (V → Heap → Prop) → Heap → Prop)) := [(1, vintc_Intc_first_c1.C)]

noncomputable def vintc_Intc_first.E (Q : Int → Heap → Prop) (cuts : List (Nat × (List Nat × (List V → Heap → Prop)))) : Env := { tis := tisT, fns := fnsT, tys := tysT, calls := vintc_Intc_first.calls, ifc := noIfc, cuts := cuts, ret := vintc_Intc_first.ret Q, rets := [.tmp 4], n := 44 }

theorem vintc_Intc_first.callsOK {W0 : World} : CallsOK sg W0 vintc_Intc_first.calls := ⟨vintc_Intc_first_c1.S, trivial⟩

def vintc_Intc_first.k8 (I : Int → Int → Ptr → (List V) → Int → Heap → Prop) (vs : List V) (h : Heap) : Prop :=
  match vs with
  | [.int .i64 a1, .int .i64 a2, .fn 1 [.ptr (some a3)], .ago a4, .int .i64 a5] => I a1 a2 a3 a4 a5 h
  | _ => False

def vintc_Intc_first.k4 (I : Int → Int → Ptr → (List V) → Int → Heap → Prop) (vs : List V) (h : Heap) : Prop :=
  match vs with
  | [.int .i64 a1, .int .i64 a2, .fn 1 [.ptr (some a3)], .ago a4, .int .i64 a5] => I a1 a2 a3 a4 a5 h
  | _ => False

theorem vintc_Intc_first.p8 : (posC vintc_Intc_first.code []).filter (fun p => Nat.beq p.1 8) = [(8, atPos (posC vintc_Intc_first.code []) 8)] := by kernel_rfl

theorem vintc_Intc_first.e8 : ∀ (I4 : Int → Int → Ptr → (List V) → Int → Heap → Prop) (a1 : Int) (a2 : Int) (a3 : Ptr) (a4 : List V) (a5 : Int) (Q : Int → Heap → Prop) (h : Heap), vintc_Intc_first.j8 I4 a1 a2 a3 a4 a5 Q h = pts (vintc_Intc_first.E Q [(4, ([5, 6, 7, 20, 21], vintc_Intc_first.k4 I4))]) 3000 true (atPos (posC vintc_Intc_first.code []) 8) (frAt [5, 6, 7, 20, 21] [.int .i64 a1, .int .i64 a2, .fn 1 [.ptr (some a3)], .ago a4, .int .i64 a5]) h := by
  intros; kernel_rfl

theorem vintc_Intc_first.s8 {W0 : World} (Q : Int → Heap → Prop) (I4 : Int → Int → Ptr → (List V) → Int → Heap → Prop) (h4 : CutOK sg W0 44 (entered 58) (Post sg W0 (vintc_Intc_first.ret Q)) (posC vintc_Intc_first.code []) 4 [5, 6, 7, 20, 21] (vintc_Intc_first.k4 I4)) : CutOK sg W0 44 (entered 58) (Post sg W0 (vintc_Intc_first.ret Q)) (posC vintc_Intc_first.code []) 8 [5, 6, 7, 20, 21] (vintc_Intc_first.k8 (fun a1 a2 a3 a4 a5 h => vintc_Intc_first.j8 I4 a1 a2 a3 a4 a5 Q h)) := by
  refine cutOK_head (fun vs h hk => ?_)
  unfold vintc_Intc_first.k8 at hk
  split at hk
  · rename_i a1 a2 a3 a4 a5
    intro todo hm ρ a w s f hp
    exact piece (E := vintc_Intc_first.E Q [(4, ([5, 6, 7, 20, 21], vintc_Intc_first.k4 I4))]) (vs := [.int .i64 a1, .int .i64 a2, .fn 1 [.ptr (some a3)], .ago a4, .int .i64 a5]) (envOK seatOK vintc_Intc_first.callsOK noIfc_ok) (fnOK seatOK vintc_Intc_first.fun) ⟨h4, trivial⟩ vintc_Intc_first.p8 (fuel := 3000) (by rw [← vintc_Intc_first.e8]; exact hk) hm s f hp
  · exact hk.elim

theorem vintc_Intc_first.p4 : (posC vintc_Intc_first.code []).filter (fun p => Nat.beq p.1 4) = [(4, atPos (posC vintc_Intc_first.code []) 4)] := by kernel_rfl

theorem vintc_Intc_first.e4 : ∀  (I4 : Int → Int → Ptr → (List V) → Int → Heap → Prop) (a1 : Int) (a2 : Int) (a3 : Ptr) (a4 : List V) (a5 : Int) (Q : Int → Heap → Prop) (h : Heap), vintc_Intc_first.b4  I4 a1 a2 a3 a4 a5 Q h = pts (vintc_Intc_first.E Q [(8, ([5, 6, 7, 20, 21], vintc_Intc_first.k8 (fun a1 a2 a3 a4 a5 h => vintc_Intc_first.j8 I4 a1 a2 a3 a4 a5 Q h)))]) 3000 true (atPos (posC vintc_Intc_first.code []) 4) (frAt [5, 6, 7, 20, 21] [.int .i64 a1, .int .i64 a2, .fn 1 [.ptr (some a3)], .ago a4, .int .i64 a5]) h := by
  intros; kernel_rfl

theorem vintc_Intc_first.s4 {W0 : World} (Q : Int → Heap → Prop)   : CutOK sg W0 44 (entered 58) (Post sg W0 (vintc_Intc_first.ret Q)) (posC vintc_Intc_first.code []) 4 [5, 6, 7, 20, 21] (vintc_Intc_first.k4 (fun a1 a2 a3 a4 a5 h => vintc_Intc_first.j4  a1 a2 a3 a4 a5 Q h)) := by
  refine cutOK_head (fun vs h hk => ?_)
  unfold vintc_Intc_first.k4 at hk
  split at hk
  · rename_i a1 a2 a3 a4 a5
    refine hk (fun a1 a2 a3 a4 a5 h => Head sg W0 44 (entered 58) (Post sg W0 (vintc_Intc_first.ret Q)) (posC vintc_Intc_first.code []) 4 [5, 6, 7, 20, 21] [.int .i64 a1, .int .i64 a2, .fn 1 [.ptr (some a3)], .ago a4, .int .i64 a5] h) ?_
    intro a1 a2 a3 a4 a5 h hb todo hm ρ a w s f hp
    have hself : CutOK sg W0 44 (entered 58) (Post sg W0 (vintc_Intc_first.ret Q)) (posC vintc_Intc_first.code []) 4 [5, 6, 7, 20, 21] (vintc_Intc_first.k4 (fun a1 a2 a3 a4 a5 h => Head sg W0 44 (entered 58) (Post sg W0 (vintc_Intc_first.ret Q)) (posC vintc_Intc_first.code []) 4 [5, 6, 7, 20, 21] [.int .i64 a1, .int .i64 a2, .fn 1 [.ptr (some a3)], .ago a4, .int .i64 a5] h)) := cutOK_head (fun vs h hk => by unfold vintc_Intc_first.k4 at hk; split at hk; exact hk; exact hk.elim)
    exact piece (E := vintc_Intc_first.E Q [(8, ([5, 6, 7, 20, 21], vintc_Intc_first.k8 (fun a1 a2 a3 a4 a5 h => vintc_Intc_first.j8 (fun a1 a2 a3 a4 a5 h => Head sg W0 44 (entered 58) (Post sg W0 (vintc_Intc_first.ret Q)) (posC vintc_Intc_first.code []) 4 [5, 6, 7, 20, 21] [.int .i64 a1, .int .i64 a2, .fn 1 [.ptr (some a3)], .ago a4, .int .i64 a5] h) a1 a2 a3 a4 a5 Q h)))]) (vs := [.int .i64 a1, .int .i64 a2, .fn 1 [.ptr (some a3)], .ago a4, .int .i64 a5]) (envOK seatOK vintc_Intc_first.callsOK noIfc_ok) (fnOK seatOK vintc_Intc_first.fun) ⟨(vintc_Intc_first.s8 Q (fun a1 a2 a3 a4 a5 h => Head sg W0 44 (entered 58) (Post sg W0 (vintc_Intc_first.ret Q)) (posC vintc_Intc_first.code []) 4 [5, 6, 7, 20, 21] [.int .i64 a1, .int .i64 a2, .fn 1 [.ptr (some a3)], .ago a4, .int .i64 a5] h) hself), trivial⟩ vintc_Intc_first.p4 (fuel := 3000) (by rw [← vintc_Intc_first.e4]; exact hb) hm s f hp
  · exact hk.elim

theorem vintc_Intc_first.e : ∀ (a1 : Option Ptr) (a2 : Int) (Q : Int → Heap → Prop) (h : Heap), vintc_Intc_first a1 a2 Q h = pts (vintc_Intc_first.E Q [(4, ([5, 6, 7, 20, 21], vintc_Intc_first.k4 (fun a1 a2 a3 a4 a5 h => vintc_Intc_first.j4  a1 a2 a3 a4 a5 Q h)))]) 3000 true [.code vintc_Intc_first.code] (frOf 0 [.ptr a1, .int .i64 a2]) h := by
  intros; kernel_rfl

theorem vintc_Intc_first.S {W0 : World} : FnS sg W0 14 vintc_Intc_first.C := by
  intro vs κ h wv hx w s
  unfold vintc_Intc_first.C at hx
  split at hx
  · rename_i a1 a2
    refine postImp (ret := vintc_Intc_first.ret (fun r1 h => κ (.int .i64 r1) h)) (fun v h hr => by unfold vintc_Intc_first.ret at hr; split at hr; exact hr; exact hr.elim) ?_
    exact calls_of_pts (E := vintc_Intc_first.E (fun r1 h => κ (.int .i64 r1) h) [(4, ([5, 6, 7, 20, 21], vintc_Intc_first.k4 (fun a1 a2 a3 a4 a5 h => vintc_Intc_first.j4  a1 a2 a3 a4 a5 (fun r1 h => κ (.int .i64 r1) h) h)))]) (envOK seatOK vintc_Intc_first.callsOK noIfc_ok) seatOK.mixed vintc_Intc_first.fun (Nat.le_of_ble_eq_true rfl) wv (cutL_ok ⟨(vintc_Intc_first.s4 (fun r1 h => κ (.int .i64 r1) h)), trivial⟩) s (fuel := 3000) (by rw [← vintc_Intc_first.e]; exact hx)
  · exact hx.elim

noncomputable def vintc_Intc_Line.code : Code := Go.Proofs.Try.f18.body.getD .skip

theorem vintc_Intc_Line.fun : Fun sg.P 18 14 [.tmp 4] vintc_Intc_Line.code := mkFun Go.Proofs.Try.func18 (by kernel_rfl) (by kernel_rfl) (by kernel_rfl) (by kernel_rfl)

def vintc_Intc_Line.ret (Q : Bool → Heap → Prop) (v : V) (h : Heap) : Prop :=
  match v with
  | .bool r1 => Q r1 h
  | _ => False

def vintc_Intc_Line.C (vs : List V) (κ : V → Heap → Prop) (h : Heap) : Prop :=
  match vs with
  | [.ptr a1, .int .i64 a2] => vintc_Intc_Line a1 a2 (fun r1 h => κ (.bool r1) h) h
  | _ => False

noncomputable def vintc_Intc_Line.calls : List (Nat × (List V → (V → Heap → Prop) → Heap → Prop)) := [(9, vintc_Intc_has.C), (14, vintc_Intc_first.C)]

noncomputable def vintc_Intc_Line.E (Q : Bool → Heap → Prop) (cuts : List (Nat × (List Nat × (List V → Heap → Prop)))) : Env := { tis := tisT, fns := fnsT, tys := tysT, calls := vintc_Intc_Line.calls, ifc := noIfc, cuts := cuts, ret := vintc_Intc_Line.ret Q, rets := [.tmp 4], n := 14 }

theorem vintc_Intc_Line.callsOK {W0 : World} : CallsOK sg W0 vintc_Intc_Line.calls := ⟨vintc_Intc_has.S, vintc_Intc_first.S, trivial⟩

theorem vintc_Intc_Line.e : ∀ (a1 : Option Ptr) (a2 : Int) (Q : Bool → Heap → Prop) (h : Heap), vintc_Intc_Line a1 a2 Q h = pts (vintc_Intc_Line.E Q []) 3000 true [.code vintc_Intc_Line.code] (frOf 0 [.ptr a1, .int .i64 a2]) h := by
  intros; kernel_rfl

theorem vintc_Intc_Line.S {W0 : World} : FnS sg W0 15 vintc_Intc_Line.C := by
  intro vs κ h wv hx w s
  unfold vintc_Intc_Line.C at hx
  split at hx
  · rename_i a1 a2
    refine postImp (ret := vintc_Intc_Line.ret (fun r1 h => κ (.bool r1) h)) (fun v h hr => by unfold vintc_Intc_Line.ret at hr; split at hr; exact hr; exact hr.elim) ?_
    exact calls_of_pts (E := vintc_Intc_Line.E (fun r1 h => κ (.bool r1) h) []) (envOK seatOK vintc_Intc_Line.callsOK noIfc_ok) seatOK.mixed vintc_Intc_Line.fun (Nat.le_of_ble_eq_true rfl) wv (cutL_ok trivial) s (fuel := 3000) (by rw [← vintc_Intc_Line.e]; exact hx)
  · exact hx.elim

noncomputable def vintc_Intc_Claim.code : Code := Go.Proofs.Try.f19.body.getD .skip

theorem vintc_Intc_Claim.fun : Fun sg.P 19 36 [.tmp 4, .tmp 5] vintc_Intc_Claim.code := mkFun Go.Proofs.Try.func19 (by kernel_rfl) (by kernel_rfl) (by kernel_rfl) (by kernel_rfl)

def vintc_Intc_Claim.ret (Q : Int → Int → Heap → Prop) (v : V) (h : Heap) : Prop :=
  match v with
  | .tup [.int .i64 r1, .int .i64 r2] => Q r1 r2 h
  | _ => False

def vintc_Intc_Claim.C (vs : List V) (κ : V → Heap → Prop) (h : Heap) : Prop :=
  match vs with
  | [.ptr a1, .int .i64 a2] => vintc_Intc_Claim a1 a2 (fun r1 r2 h => κ (.tup [.int .i64 r1, .int .i64 r2]) h) h
  | _ => False

noncomputable def vintc_Intc_Claim.calls : List (Nat × (List V → (V → Heap → Prop) → Heap → Prop)) := [(7, vintc_Intc_wrong.C), (9, vintc_Intc_has.C), (14, vintc_Intc_first.C)]

noncomputable def vintc_Intc_Claim.E (Q : Int → Int → Heap → Prop) (cuts : List (Nat × (List Nat × (List V → Heap → Prop)))) : Env := { tis := tisT, fns := fnsT, tys := tysT, calls := vintc_Intc_Claim.calls, ifc := noIfc, cuts := cuts, ret := vintc_Intc_Claim.ret Q, rets := [.tmp 4, .tmp 5], n := 36 }

theorem vintc_Intc_Claim.callsOK {W0 : World} : CallsOK sg W0 vintc_Intc_Claim.calls := ⟨vintc_Intc_wrong.S, vintc_Intc_has.S, vintc_Intc_first.S, trivial⟩

theorem vintc_Intc_Claim.e : ∀ (a1 : Option Ptr) (a2 : Int) (Q : Int → Int → Heap → Prop) (h : Heap), vintc_Intc_Claim a1 a2 Q h = pts (vintc_Intc_Claim.E Q []) 3000 true [.code vintc_Intc_Claim.code] (frOf 0 [.ptr a1, .int .i64 a2]) h := by
  intros; kernel_rfl

theorem vintc_Intc_Claim.S {W0 : World} : FnS sg W0 16 vintc_Intc_Claim.C := by
  intro vs κ h wv hx w s
  unfold vintc_Intc_Claim.C at hx
  split at hx
  · rename_i a1 a2
    refine postImp (ret := vintc_Intc_Claim.ret (fun r1 r2 h => κ (.tup [.int .i64 r1, .int .i64 r2]) h)) (fun v h hr => by unfold vintc_Intc_Claim.ret at hr; split at hr; exact hr; exact hr.elim) ?_
    exact calls_of_pts (E := vintc_Intc_Claim.E (fun r1 r2 h => κ (.tup [.int .i64 r1, .int .i64 r2]) h) []) (envOK seatOK vintc_Intc_Claim.callsOK noIfc_ok) seatOK.mixed vintc_Intc_Claim.fun (Nat.le_of_ble_eq_true rfl) wv (cutL_ok trivial) s (fuel := 3000) (by rw [← vintc_Intc_Claim.e]; exact hx)
  · exact hx.elim

noncomputable def vintc_Intc_Complete.code : Code := Go.Proofs.Try.f20.body.getD .skip

theorem vintc_Intc_Complete.fun : Fun sg.P 20 38 [.tmp 6] vintc_Intc_Complete.code := mkFun Go.Proofs.Try.func20 (by kernel_rfl) (by kernel_rfl) (by kernel_rfl) (by kernel_rfl)

def vintc_Intc_Complete.ret (Q : Int → Heap → Prop) (v : V) (h : Heap) : Prop :=
  match v with
  | .int .i64 r1 => Q r1 h
  | _ => False

def vintc_Intc_Complete.C (vs : List V) (κ : V → Heap → Prop) (h : Heap) : Prop :=
  match vs with
  | [.ptr a1, .int .i64 a2, .int .i64 a3] => vintc_Intc_Complete a1 a2 a3 (fun r1 h => κ (.int .i64 r1) h) h
  | _ => False

noncomputable def vintc_Intc_Complete.calls : List (Nat × (List V → (V → Heap → Prop) → Heap → Prop)) := [(7, vintc_Intc_wrong.C), (5, vintc_isSource.C), (9, vintc_Intc_has.C)]

noncomputable def vintc_Intc_Complete.E (Q : Int → Heap → Prop) (cuts : List (Nat × (List Nat × (List V → Heap → Prop)))) : Env := { tis := tisT, fns := fnsT, tys := tysT, calls := vintc_Intc_Complete.calls, ifc := noIfc, cuts := cuts, ret := vintc_Intc_Complete.ret Q, rets := [.tmp 6], n := 38 }

theorem vintc_Intc_Complete.callsOK {W0 : World} : CallsOK sg W0 vintc_Intc_Complete.calls := ⟨vintc_Intc_wrong.S, vintc_isSource.S, vintc_Intc_has.S, trivial⟩

def vintc_Intc_Complete.k2 (I : (Option Ptr) → Int → Int → Int → Heap → Prop) (vs : List V) (h : Heap) : Prop :=
  match vs with
  | [.ptr a1, .int .i64 a2, .int .i64 a3, .int .i64 a4] => I a1 a2 a3 a4 h
  | _ => False

theorem vintc_Intc_Complete.p2 : (posC vintc_Intc_Complete.code []).filter (fun p => Nat.beq p.1 2) = [(2, atPos (posC vintc_Intc_Complete.code []) 2)] := by kernel_rfl

theorem vintc_Intc_Complete.e2 : ∀  (a1 : Option Ptr) (a2 : Int) (a3 : Int) (a4 : Int) (Q : Int → Heap → Prop) (h : Heap), vintc_Intc_Complete.j2  a1 a2 a3 a4 Q h = pts (vintc_Intc_Complete.E Q []) 3000 true (atPos (posC vintc_Intc_Complete.code []) 2) (frAt [0, 1, 2, 7] [.ptr a1, .int .i64 a2, .int .i64 a3, .int .i64 a4]) h := by
  intros; kernel_rfl

theorem vintc_Intc_Complete.s2 {W0 : World} (Q : Int → Heap → Prop)   : CutOK sg W0 38 (entered 20) (Post sg W0 (vintc_Intc_Complete.ret Q)) (posC vintc_Intc_Complete.code []) 2 [0, 1, 2, 7] (vintc_Intc_Complete.k2 (fun a1 a2 a3 a4 h => vintc_Intc_Complete.j2  a1 a2 a3 a4 Q h)) := by
  refine cutOK_head (fun vs h hk => ?_)
  unfold vintc_Intc_Complete.k2 at hk
  split at hk
  · rename_i a1 a2 a3 a4
    intro todo hm ρ a w s f hp
    exact piece (E := vintc_Intc_Complete.E Q []) (vs := [.ptr a1, .int .i64 a2, .int .i64 a3, .int .i64 a4]) (envOK seatOK vintc_Intc_Complete.callsOK noIfc_ok) (fnOK seatOK vintc_Intc_Complete.fun) trivial vintc_Intc_Complete.p2 (fuel := 3000) (by rw [← vintc_Intc_Complete.e2]; exact hk) hm s f hp
  · exact hk.elim

theorem vintc_Intc_Complete.e : ∀ (a1 : Option Ptr) (a2 : Int) (a3 : Int) (Q : Int → Heap → Prop) (h : Heap), vintc_Intc_Complete a1 a2 a3 Q h = pts (vintc_Intc_Complete.E Q [(2, ([0, 1, 2, 7], vintc_Intc_Complete.k2 (fun a1 a2 a3 a4 h => vintc_Intc_Complete.j2  a1 a2 a3 a4 Q h)))]) 3000 true [.code vintc_Intc_Complete.code] (frOf 0 [.ptr a1, .int .i64 a2, .int .i64 a3]) h := by
  intros; kernel_rfl

theorem vintc_Intc_Complete.S {W0 : World} : FnS sg W0 17 vintc_Intc_Complete.C := by
  intro vs κ h wv hx w s
  unfold vintc_Intc_Complete.C at hx
  split at hx
  · rename_i a1 a2 a3
    refine postImp (ret := vintc_Intc_Complete.ret (fun r1 h => κ (.int .i64 r1) h)) (fun v h hr => by unfold vintc_Intc_Complete.ret at hr; split at hr; exact hr; exact hr.elim) ?_
    exact calls_of_pts (E := vintc_Intc_Complete.E (fun r1 h => κ (.int .i64 r1) h) [(2, ([0, 1, 2, 7], vintc_Intc_Complete.k2 (fun a1 a2 a3 a4 h => vintc_Intc_Complete.j2  a1 a2 a3 a4 (fun r1 h => κ (.int .i64 r1) h) h)))]) (envOK seatOK vintc_Intc_Complete.callsOK noIfc_ok) seatOK.mixed vintc_Intc_Complete.fun (Nat.le_of_ble_eq_true rfl) wv (cutL_ok ⟨(vintc_Intc_Complete.s2 (fun r1 h => κ (.int .i64 r1) h)), trivial⟩) s (fuel := 3000) (by rw [← vintc_Intc_Complete.e]; exact hx)
  · exact hx.elim

noncomputable def palisadelaw20_VintcOnce.code : Code := Go.Proofs.Try.f3.body.getD .skip

theorem palisadelaw20_VintcOnce.fun : Fun sg.P 3 159 [.tmp 4] palisadelaw20_VintcOnce.code := mkFun Go.Proofs.Try.func3 (by kernel_rfl) (by kernel_rfl) (by kernel_rfl) (by kernel_rfl)

def palisadelaw20_VintcOnce.ret (Q : Bool → Heap → Prop) (v : V) (h : Heap) : Prop :=
  match v with
  | .bool r1 => Q r1 h
  | _ => False

def palisadelaw20_VintcOnce.C (vs : List V) (κ : V → Heap → Prop) (h : Heap) : Prop :=
  match vs with
  | [.int .i64 a1, .sl a2] => palisadelaw20_VintcOnce a1 a2 (fun r1 h => κ (.bool r1) h) h
  | _ => False

noncomputable def palisadelaw20_VintcOnce.calls : List (Nat × (List V → (V → Heap → Prop) → Heap → Prop)) := [(4, vintc_New.C), (8, vintc_Intc_Raise.C), (10, vintc_Intc_Enable.C), (12, vintc_Intc_Weigh.C), (13, vintc_Intc_Bar.C), (15, vintc_Intc_Line.C), (16, vintc_Intc_Claim.C), (17, vintc_Intc_Complete.C)]

noncomputable def palisadelaw20_VintcOnce.E (Q : Bool → Heap → Prop) (cuts : List (Nat × (List Nat × (List V → Heap → Prop)))) : Env := { tis := tisT, fns := fnsT, tys := tysT, calls := palisadelaw20_VintcOnce.calls, ifc := noIfc, cuts := cuts, ret := palisadelaw20_VintcOnce.ret Q, rets := [.tmp 4], n := 159 }

theorem palisadelaw20_VintcOnce.callsOK {W0 : World} : CallsOK sg W0 palisadelaw20_VintcOnce.calls := ⟨vintc_New.S, vintc_Intc_Raise.S, vintc_Intc_Enable.S, vintc_Intc_Weigh.S, vintc_Intc_Bar.S, vintc_Intc_Line.S, vintc_Intc_Claim.S, vintc_Intc_Complete.S, trivial⟩

def palisadelaw20_VintcOnce.k4 (I : Heap → Prop) (vs : List V) (h : Heap) : Prop :=
  match vs with
  | [] => I  h
  | _ => False

def palisadelaw20_VintcOnce.k8 (I : Int → Sl → (Option Ptr) → Ptr → Ptr → Ptr → Int → Heap → Prop) (vs : List V) (h : Heap) : Prop :=
  match vs with
  | [.int .i64 a1, .sl a2, .ptr a3, .ptr (some a4), .ptr (some a5), .ptr (some a6), .int .i64 a7] => I a1 a2 a3 a4 a5 a6 a7 h
  | _ => False

def palisadelaw20_VintcOnce.k27 (I : Heap → Prop) (vs : List V) (h : Heap) : Prop :=
  match vs with
  | [] => I  h
  | _ => False

def palisadelaw20_VintcOnce.k31 (I : Heap → Prop) (vs : List V) (h : Heap) : Prop :=
  match vs with
  | [] => I  h
  | _ => False

def palisadelaw20_VintcOnce.k7 (I : Int → Sl → (Option Ptr) → Ptr → Ptr → Ptr → Int → Heap → Prop) (vs : List V) (h : Heap) : Prop :=
  match vs with
  | [.int .i64 a1, .sl a2, .ptr a3, .ptr (some a4), .ptr (some a5), .ptr (some a6), .int .i64 a7] => I a1 a2 a3 a4 a5 a6 a7 h
  | _ => False

theorem palisadelaw20_VintcOnce.p4 : (posC palisadelaw20_VintcOnce.code []).filter (fun p => Nat.beq p.1 4) = [(4, atPos (posC palisadelaw20_VintcOnce.code []) 4)] := by kernel_rfl

theorem palisadelaw20_VintcOnce.e4 : ∀   (Q : Bool → Heap → Prop) (h : Heap), palisadelaw20_VintcOnce.j4   Q h = pts (palisadelaw20_VintcOnce.E Q []) 3000 true (atPos (posC palisadelaw20_VintcOnce.code []) 4) (frAt [] []) h := by
  intros; kernel_rfl

theorem palisadelaw20_VintcOnce.s4 {W0 : World} (Q : Bool → Heap → Prop)   : CutOK sg W0 159 (entered 3) (Post sg W0 (palisadelaw20_VintcOnce.ret Q)) (posC palisadelaw20_VintcOnce.code []) 4 [] (palisadelaw20_VintcOnce.k4 (fun  h => palisadelaw20_VintcOnce.j4   Q h)) := by
  refine cutOK_head (fun vs h hk => ?_)
  unfold palisadelaw20_VintcOnce.k4 at hk
  split at hk
  · skip
    intro todo hm ρ a w s f hp
    exact piece (E := palisadelaw20_VintcOnce.E Q []) (vs := []) (envOK seatOK palisadelaw20_VintcOnce.callsOK noIfc_ok) (fnOK seatOK palisadelaw20_VintcOnce.fun) trivial palisadelaw20_VintcOnce.p4 (fuel := 3000) (by rw [← palisadelaw20_VintcOnce.e4]; exact hk) hm s f hp
  · exact hk.elim

theorem palisadelaw20_VintcOnce.p8 : (posC palisadelaw20_VintcOnce.code []).filter (fun p => Nat.beq p.1 8) = [(8, atPos (posC palisadelaw20_VintcOnce.code []) 8)] := by kernel_rfl

theorem palisadelaw20_VintcOnce.e8 : ∀ (I7 : Int → Sl → (Option Ptr) → Ptr → Ptr → Ptr → Int → Heap → Prop) (a1 : Int) (a2 : Sl) (a3 : Option Ptr) (a4 : Ptr) (a5 : Ptr) (a6 : Ptr) (a7 : Int) (Q : Bool → Heap → Prop) (h : Heap), palisadelaw20_VintcOnce.j8 I7 a1 a2 a3 a4 a5 a6 a7 Q h = pts (palisadelaw20_VintcOnce.E Q [(7, ([0, 1, 5, 7, 8, 9, 10], palisadelaw20_VintcOnce.k7 I7))]) 3000 true (atPos (posC palisadelaw20_VintcOnce.code []) 8) (frAt [0, 1, 5, 7, 8, 9, 10] [.int .i64 a1, .sl a2, .ptr a3, .ptr (some a4), .ptr (some a5), .ptr (some a6), .int .i64 a7]) h := by
  intros; kernel_rfl

theorem palisadelaw20_VintcOnce.s8 {W0 : World} (Q : Bool → Heap → Prop) (I7 : Int → Sl → (Option Ptr) → Ptr → Ptr → Ptr → Int → Heap → Prop) (h7 : CutOK sg W0 159 (entered 3) (Post sg W0 (palisadelaw20_VintcOnce.ret Q)) (posC palisadelaw20_VintcOnce.code []) 7 [0, 1, 5, 7, 8, 9, 10] (palisadelaw20_VintcOnce.k7 I7)) : CutOK sg W0 159 (entered 3) (Post sg W0 (palisadelaw20_VintcOnce.ret Q)) (posC palisadelaw20_VintcOnce.code []) 8 [0, 1, 5, 7, 8, 9, 10] (palisadelaw20_VintcOnce.k8 (fun a1 a2 a3 a4 a5 a6 a7 h => palisadelaw20_VintcOnce.j8 I7 a1 a2 a3 a4 a5 a6 a7 Q h)) := by
  refine cutOK_head (fun vs h hk => ?_)
  unfold palisadelaw20_VintcOnce.k8 at hk
  split at hk
  · rename_i a1 a2 a3 a4 a5 a6 a7
    intro todo hm ρ a w s f hp
    exact piece (E := palisadelaw20_VintcOnce.E Q [(7, ([0, 1, 5, 7, 8, 9, 10], palisadelaw20_VintcOnce.k7 I7))]) (vs := [.int .i64 a1, .sl a2, .ptr a3, .ptr (some a4), .ptr (some a5), .ptr (some a6), .int .i64 a7]) (envOK seatOK palisadelaw20_VintcOnce.callsOK noIfc_ok) (fnOK seatOK palisadelaw20_VintcOnce.fun) ⟨h7, trivial⟩ palisadelaw20_VintcOnce.p8 (fuel := 3000) (by rw [← palisadelaw20_VintcOnce.e8]; exact hk) hm s f hp
  · exact hk.elim

theorem palisadelaw20_VintcOnce.p27 : (posC palisadelaw20_VintcOnce.code []).filter (fun p => Nat.beq p.1 27) = [(27, atPos (posC palisadelaw20_VintcOnce.code []) 27)] := by kernel_rfl

theorem palisadelaw20_VintcOnce.e27 : ∀ (I7 : Int → Sl → (Option Ptr) → Ptr → Ptr → Ptr → Int → Heap → Prop)  (Q : Bool → Heap → Prop) (h : Heap), palisadelaw20_VintcOnce.j27 I7  Q h = pts (palisadelaw20_VintcOnce.E Q []) 3000 true (atPos (posC palisadelaw20_VintcOnce.code []) 27) (frAt [] []) h := by
  intros; kernel_rfl

theorem palisadelaw20_VintcOnce.s27 {W0 : World} (Q : Bool → Heap → Prop) (I7 : Int → Sl → (Option Ptr) → Ptr → Ptr → Ptr → Int → Heap → Prop) (h7 : CutOK sg W0 159 (entered 3) (Post sg W0 (palisadelaw20_VintcOnce.ret Q)) (posC palisadelaw20_VintcOnce.code []) 7 [0, 1, 5, 7, 8, 9, 10] (palisadelaw20_VintcOnce.k7 I7)) : CutOK sg W0 159 (entered 3) (Post sg W0 (palisadelaw20_VintcOnce.ret Q)) (posC palisadelaw20_VintcOnce.code []) 27 [] (palisadelaw20_VintcOnce.k27 (fun  h => palisadelaw20_VintcOnce.j27 I7  Q h)) := by
  refine cutOK_head (fun vs h hk => ?_)
  unfold palisadelaw20_VintcOnce.k27 at hk
  split at hk
  · skip
    intro todo hm ρ a w s f hp
    exact piece (E := palisadelaw20_VintcOnce.E Q []) (vs := []) (envOK seatOK palisadelaw20_VintcOnce.callsOK noIfc_ok) (fnOK seatOK palisadelaw20_VintcOnce.fun) trivial palisadelaw20_VintcOnce.p27 (fuel := 3000) (by rw [← palisadelaw20_VintcOnce.e27]; exact hk) hm s f hp
  · exact hk.elim

theorem palisadelaw20_VintcOnce.p31 : (posC palisadelaw20_VintcOnce.code []).filter (fun p => Nat.beq p.1 31) = [(31, atPos (posC palisadelaw20_VintcOnce.code []) 31)] := by kernel_rfl

theorem palisadelaw20_VintcOnce.e31 : ∀ (I7 : Int → Sl → (Option Ptr) → Ptr → Ptr → Ptr → Int → Heap → Prop)  (Q : Bool → Heap → Prop) (h : Heap), palisadelaw20_VintcOnce.j31 I7  Q h = pts (palisadelaw20_VintcOnce.E Q []) 3000 true (atPos (posC palisadelaw20_VintcOnce.code []) 31) (frAt [] []) h := by
  intros; kernel_rfl

theorem palisadelaw20_VintcOnce.s31 {W0 : World} (Q : Bool → Heap → Prop) (I7 : Int → Sl → (Option Ptr) → Ptr → Ptr → Ptr → Int → Heap → Prop) (h7 : CutOK sg W0 159 (entered 3) (Post sg W0 (palisadelaw20_VintcOnce.ret Q)) (posC palisadelaw20_VintcOnce.code []) 7 [0, 1, 5, 7, 8, 9, 10] (palisadelaw20_VintcOnce.k7 I7)) : CutOK sg W0 159 (entered 3) (Post sg W0 (palisadelaw20_VintcOnce.ret Q)) (posC palisadelaw20_VintcOnce.code []) 31 [] (palisadelaw20_VintcOnce.k31 (fun  h => palisadelaw20_VintcOnce.j31 I7  Q h)) := by
  refine cutOK_head (fun vs h hk => ?_)
  unfold palisadelaw20_VintcOnce.k31 at hk
  split at hk
  · skip
    intro todo hm ρ a w s f hp
    exact piece (E := palisadelaw20_VintcOnce.E Q []) (vs := []) (envOK seatOK palisadelaw20_VintcOnce.callsOK noIfc_ok) (fnOK seatOK palisadelaw20_VintcOnce.fun) trivial palisadelaw20_VintcOnce.p31 (fuel := 3000) (by rw [← palisadelaw20_VintcOnce.e31]; exact hk) hm s f hp
  · exact hk.elim

theorem palisadelaw20_VintcOnce.p7 : (posC palisadelaw20_VintcOnce.code []).filter (fun p => Nat.beq p.1 7) = [(7, atPos (posC palisadelaw20_VintcOnce.code []) 7)] := by kernel_rfl

theorem palisadelaw20_VintcOnce.e7 : ∀  (I7 : Int → Sl → (Option Ptr) → Ptr → Ptr → Ptr → Int → Heap → Prop) (a1 : Int) (a2 : Sl) (a3 : Option Ptr) (a4 : Ptr) (a5 : Ptr) (a6 : Ptr) (a7 : Int) (Q : Bool → Heap → Prop) (h : Heap), palisadelaw20_VintcOnce.b7  I7 a1 a2 a3 a4 a5 a6 a7 Q h = pts (palisadelaw20_VintcOnce.E Q [(8, ([0, 1, 5, 7, 8, 9, 10], palisadelaw20_VintcOnce.k8 (fun a1 a2 a3 a4 a5 a6 a7 h => palisadelaw20_VintcOnce.j8 I7 a1 a2 a3 a4 a5 a6 a7 Q h))), (27, ([], palisadelaw20_VintcOnce.k27 (fun  h => palisadelaw20_VintcOnce.j27 I7  Q h))), (31, ([], palisadelaw20_VintcOnce.k31 (fun  h => palisadelaw20_VintcOnce.j31 I7  Q h)))]) 3000 true (atPos (posC palisadelaw20_VintcOnce.code []) 7) (frAt [0, 1, 5, 7, 8, 9, 10] [.int .i64 a1, .sl a2, .ptr a3, .ptr (some a4), .ptr (some a5), .ptr (some a6), .int .i64 a7]) h := by
  intros; kernel_rfl

theorem palisadelaw20_VintcOnce.s7 {W0 : World} (Q : Bool → Heap → Prop)   : CutOK sg W0 159 (entered 3) (Post sg W0 (palisadelaw20_VintcOnce.ret Q)) (posC palisadelaw20_VintcOnce.code []) 7 [0, 1, 5, 7, 8, 9, 10] (palisadelaw20_VintcOnce.k7 (fun a1 a2 a3 a4 a5 a6 a7 h => palisadelaw20_VintcOnce.j7  a1 a2 a3 a4 a5 a6 a7 Q h)) := by
  refine cutOK_head (fun vs h hk => ?_)
  unfold palisadelaw20_VintcOnce.k7 at hk
  split at hk
  · rename_i a1 a2 a3 a4 a5 a6 a7
    refine hk (fun a1 a2 a3 a4 a5 a6 a7 h => Head sg W0 159 (entered 3) (Post sg W0 (palisadelaw20_VintcOnce.ret Q)) (posC palisadelaw20_VintcOnce.code []) 7 [0, 1, 5, 7, 8, 9, 10] [.int .i64 a1, .sl a2, .ptr a3, .ptr (some a4), .ptr (some a5), .ptr (some a6), .int .i64 a7] h) ?_
    intro a1 a2 a3 a4 a5 a6 a7 h hb todo hm ρ a w s f hp
    have hself : CutOK sg W0 159 (entered 3) (Post sg W0 (palisadelaw20_VintcOnce.ret Q)) (posC palisadelaw20_VintcOnce.code []) 7 [0, 1, 5, 7, 8, 9, 10] (palisadelaw20_VintcOnce.k7 (fun a1 a2 a3 a4 a5 a6 a7 h => Head sg W0 159 (entered 3) (Post sg W0 (palisadelaw20_VintcOnce.ret Q)) (posC palisadelaw20_VintcOnce.code []) 7 [0, 1, 5, 7, 8, 9, 10] [.int .i64 a1, .sl a2, .ptr a3, .ptr (some a4), .ptr (some a5), .ptr (some a6), .int .i64 a7] h)) := cutOK_head (fun vs h hk => by unfold palisadelaw20_VintcOnce.k7 at hk; split at hk; exact hk; exact hk.elim)
    exact piece (E := palisadelaw20_VintcOnce.E Q [(8, ([0, 1, 5, 7, 8, 9, 10], palisadelaw20_VintcOnce.k8 (fun a1 a2 a3 a4 a5 a6 a7 h => palisadelaw20_VintcOnce.j8 (fun a1 a2 a3 a4 a5 a6 a7 h => Head sg W0 159 (entered 3) (Post sg W0 (palisadelaw20_VintcOnce.ret Q)) (posC palisadelaw20_VintcOnce.code []) 7 [0, 1, 5, 7, 8, 9, 10] [.int .i64 a1, .sl a2, .ptr a3, .ptr (some a4), .ptr (some a5), .ptr (some a6), .int .i64 a7] h) a1 a2 a3 a4 a5 a6 a7 Q h))), (27, ([], palisadelaw20_VintcOnce.k27 (fun  h => palisadelaw20_VintcOnce.j27 (fun a1 a2 a3 a4 a5 a6 a7 h => Head sg W0 159 (entered 3) (Post sg W0 (palisadelaw20_VintcOnce.ret Q)) (posC palisadelaw20_VintcOnce.code []) 7 [0, 1, 5, 7, 8, 9, 10] [.int .i64 a1, .sl a2, .ptr a3, .ptr (some a4), .ptr (some a5), .ptr (some a6), .int .i64 a7] h)  Q h))), (31, ([], palisadelaw20_VintcOnce.k31 (fun  h => palisadelaw20_VintcOnce.j31 (fun a1 a2 a3 a4 a5 a6 a7 h => Head sg W0 159 (entered 3) (Post sg W0 (palisadelaw20_VintcOnce.ret Q)) (posC palisadelaw20_VintcOnce.code []) 7 [0, 1, 5, 7, 8, 9, 10] [.int .i64 a1, .sl a2, .ptr a3, .ptr (some a4), .ptr (some a5), .ptr (some a6), .int .i64 a7] h)  Q h)))]) (vs := [.int .i64 a1, .sl a2, .ptr a3, .ptr (some a4), .ptr (some a5), .ptr (some a6), .int .i64 a7]) (envOK seatOK palisadelaw20_VintcOnce.callsOK noIfc_ok) (fnOK seatOK palisadelaw20_VintcOnce.fun) ⟨(palisadelaw20_VintcOnce.s8 Q (fun a1 a2 a3 a4 a5 a6 a7 h => Head sg W0 159 (entered 3) (Post sg W0 (palisadelaw20_VintcOnce.ret Q)) (posC palisadelaw20_VintcOnce.code []) 7 [0, 1, 5, 7, 8, 9, 10] [.int .i64 a1, .sl a2, .ptr a3, .ptr (some a4), .ptr (some a5), .ptr (some a6), .int .i64 a7] h) hself), (palisadelaw20_VintcOnce.s27 Q (fun a1 a2 a3 a4 a5 a6 a7 h => Head sg W0 159 (entered 3) (Post sg W0 (palisadelaw20_VintcOnce.ret Q)) (posC palisadelaw20_VintcOnce.code []) 7 [0, 1, 5, 7, 8, 9, 10] [.int .i64 a1, .sl a2, .ptr a3, .ptr (some a4), .ptr (some a5), .ptr (some a6), .int .i64 a7] h) hself), (palisadelaw20_VintcOnce.s31 Q (fun a1 a2 a3 a4 a5 a6 a7 h => Head sg W0 159 (entered 3) (Post sg W0 (palisadelaw20_VintcOnce.ret Q)) (posC palisadelaw20_VintcOnce.code []) 7 [0, 1, 5, 7, 8, 9, 10] [.int .i64 a1, .sl a2, .ptr a3, .ptr (some a4), .ptr (some a5), .ptr (some a6), .int .i64 a7] h) hself), trivial⟩ palisadelaw20_VintcOnce.p7 (fuel := 3000) (by rw [← palisadelaw20_VintcOnce.e7]; exact hb) hm s f hp
  · exact hk.elim

theorem palisadelaw20_VintcOnce.e : ∀ (a1 : Int) (a2 : Sl) (Q : Bool → Heap → Prop) (h : Heap), palisadelaw20_VintcOnce a1 a2 Q h = pts (palisadelaw20_VintcOnce.E Q [(4, ([], palisadelaw20_VintcOnce.k4 (fun  h => palisadelaw20_VintcOnce.j4   Q h))), (7, ([0, 1, 5, 7, 8, 9, 10], palisadelaw20_VintcOnce.k7 (fun a1 a2 a3 a4 a5 a6 a7 h => palisadelaw20_VintcOnce.j7  a1 a2 a3 a4 a5 a6 a7 Q h)))]) 3000 true [.code palisadelaw20_VintcOnce.code] (frOf 0 [.int .i64 a1, .sl a2]) h := by
  intros; kernel_rfl

theorem palisadelaw20_VintcOnce.S {W0 : World} : FnS sg W0 18 palisadelaw20_VintcOnce.C := by
  intro vs κ h wv hx w s
  unfold palisadelaw20_VintcOnce.C at hx
  split at hx
  · rename_i a1 a2
    refine postImp (ret := palisadelaw20_VintcOnce.ret (fun r1 h => κ (.bool r1) h)) (fun v h hr => by unfold palisadelaw20_VintcOnce.ret at hr; split at hr; exact hr; exact hr.elim) ?_
    exact calls_of_pts (E := palisadelaw20_VintcOnce.E (fun r1 h => κ (.bool r1) h) [(4, ([], palisadelaw20_VintcOnce.k4 (fun  h => palisadelaw20_VintcOnce.j4   (fun r1 h => κ (.bool r1) h) h))), (7, ([0, 1, 5, 7, 8, 9, 10], palisadelaw20_VintcOnce.k7 (fun a1 a2 a3 a4 a5 a6 a7 h => palisadelaw20_VintcOnce.j7  a1 a2 a3 a4 a5 a6 a7 (fun r1 h => κ (.bool r1) h) h)))]) (envOK seatOK palisadelaw20_VintcOnce.callsOK noIfc_ok) seatOK.mixed palisadelaw20_VintcOnce.fun (Nat.le_of_ble_eq_true rfl) wv (cutL_ok ⟨(palisadelaw20_VintcOnce.s4 (fun r1 h => κ (.bool r1) h)), (palisadelaw20_VintcOnce.s7 (fun r1 h => κ (.bool r1) h)), trivial⟩) s (fuel := 3000) (by rw [← palisadelaw20_VintcOnce.e]; exact hx)
  · exact hx.elim

noncomputable def vintc_Intc_Told.code : Code := Go.Proofs.Try.f21.body.getD .skip

theorem vintc_Intc_Told.fun : Fun sg.P 21 25 [.tmp 4, .tmp 5] vintc_Intc_Told.code := mkFun Go.Proofs.Try.func21 (by kernel_rfl) (by kernel_rfl) (by kernel_rfl) (by kernel_rfl)

def vintc_Intc_Told.ret (Q : Bool → Int → Heap → Prop) (v : V) (h : Heap) : Prop :=
  match v with
  | .tup [.bool r1, .int .i64 r2] => Q r1 r2 h
  | _ => False

def vintc_Intc_Told.C (vs : List V) (κ : V → Heap → Prop) (h : Heap) : Prop :=
  match vs with
  | [.ptr a1, .int .i64 a2] => vintc_Intc_Told a1 a2 (fun r1 r2 h => κ (.tup [.bool r1, .int .i64 r2]) h) h
  | _ => False

noncomputable def vintc_Intc_Told.calls : List (Nat × (List V → (V → Heap → Prop) → Heap → Prop)) := [(5, vintc_isSource.C), (6, vintc_Intc_none.C)]

noncomputable def vintc_Intc_Told.E (Q : Bool → Int → Heap → Prop) (cuts : List (Nat × (List Nat × (List V → Heap → Prop)))) : Env := { tis := tisT, fns := fnsT, tys := tysT, calls := vintc_Intc_Told.calls, ifc := noIfc, cuts := cuts, ret := vintc_Intc_Told.ret Q, rets := [.tmp 4, .tmp 5], n := 25 }

theorem vintc_Intc_Told.callsOK {W0 : World} : CallsOK sg W0 vintc_Intc_Told.calls := ⟨vintc_isSource.S, vintc_Intc_none.S, trivial⟩

def vintc_Intc_Told.k2 (I : Heap → Prop) (vs : List V) (h : Heap) : Prop :=
  match vs with
  | [] => I  h
  | _ => False

theorem vintc_Intc_Told.p2 : (posC vintc_Intc_Told.code []).filter (fun p => Nat.beq p.1 2) = [(2, atPos (posC vintc_Intc_Told.code []) 2)] := by kernel_rfl

theorem vintc_Intc_Told.e2 : ∀   (Q : Bool → Int → Heap → Prop) (h : Heap), vintc_Intc_Told.j2   Q h = pts (vintc_Intc_Told.E Q []) 3000 true (atPos (posC vintc_Intc_Told.code []) 2) (frAt [] []) h := by
  intros; kernel_rfl

theorem vintc_Intc_Told.s2 {W0 : World} (Q : Bool → Int → Heap → Prop)   : CutOK sg W0 25 (entered 21) (Post sg W0 (vintc_Intc_Told.ret Q)) (posC vintc_Intc_Told.code []) 2 [] (vintc_Intc_Told.k2 (fun  h => vintc_Intc_Told.j2   Q h)) := by
  refine cutOK_head (fun vs h hk => ?_)
  unfold vintc_Intc_Told.k2 at hk
  split at hk
  · skip
    intro todo hm ρ a w s f hp
    exact piece (E := vintc_Intc_Told.E Q []) (vs := []) (envOK seatOK vintc_Intc_Told.callsOK noIfc_ok) (fnOK seatOK vintc_Intc_Told.fun) trivial vintc_Intc_Told.p2 (fuel := 3000) (by rw [← vintc_Intc_Told.e2]; exact hk) hm s f hp
  · exact hk.elim

theorem vintc_Intc_Told.e : ∀ (a1 : Option Ptr) (a2 : Int) (Q : Bool → Int → Heap → Prop) (h : Heap), vintc_Intc_Told a1 a2 Q h = pts (vintc_Intc_Told.E Q [(2, ([], vintc_Intc_Told.k2 (fun  h => vintc_Intc_Told.j2   Q h)))]) 3000 true [.code vintc_Intc_Told.code] (frOf 0 [.ptr a1, .int .i64 a2]) h := by
  intros; kernel_rfl

theorem vintc_Intc_Told.S {W0 : World} : FnS sg W0 19 vintc_Intc_Told.C := by
  intro vs κ h wv hx w s
  unfold vintc_Intc_Told.C at hx
  split at hx
  · rename_i a1 a2
    refine postImp (ret := vintc_Intc_Told.ret (fun r1 r2 h => κ (.tup [.bool r1, .int .i64 r2]) h)) (fun v h hr => by unfold vintc_Intc_Told.ret at hr; split at hr; exact hr; exact hr.elim) ?_
    exact calls_of_pts (E := vintc_Intc_Told.E (fun r1 r2 h => κ (.tup [.bool r1, .int .i64 r2]) h) [(2, ([], vintc_Intc_Told.k2 (fun  h => vintc_Intc_Told.j2   (fun r1 r2 h => κ (.tup [.bool r1, .int .i64 r2]) h) h)))]) (envOK seatOK vintc_Intc_Told.callsOK noIfc_ok) seatOK.mixed vintc_Intc_Told.fun (Nat.le_of_ble_eq_true rfl) wv (cutL_ok ⟨(vintc_Intc_Told.s2 (fun r1 r2 h => κ (.tup [.bool r1, .int .i64 r2]) h)), trivial⟩) s (fuel := 3000) (by rw [← vintc_Intc_Told.e]; exact hx)
  · exact hx.elim

noncomputable def palisadelaw20_VintcGreatest.code : Code := Go.Proofs.Try.f4.body.getD .skip

theorem palisadelaw20_VintcGreatest.fun : Fun sg.P 4 112 [.tmp 6] palisadelaw20_VintcGreatest.code := mkFun Go.Proofs.Try.func4 (by kernel_rfl) (by kernel_rfl) (by kernel_rfl) (by kernel_rfl)

def palisadelaw20_VintcGreatest.ret (Q : Bool → Heap → Prop) (v : V) (h : Heap) : Prop :=
  match v with
  | .bool r1 => Q r1 h
  | _ => False

def palisadelaw20_VintcGreatest.C (vs : List V) (κ : V → Heap → Prop) (h : Heap) : Prop :=
  match vs with
  | [.agg [.int .i64 a1, .int .i64 a2, .int .i64 a3, .int .i64 a4, .int .i64 a5, .int .i64 a6, .int .i64 a7, .int .i64 a8, .int .i64 a9, .int .i64 a10, .int .i64 a11, .int .i64 a12, .int .i64 a13, .int .i64 a14, .int .i64 a15, .int .i64 a16], .int .i64 a17, .int .i64 a18] => palisadelaw20_VintcGreatest a1 a2 a3 a4 a5 a6 a7 a8 a9 a10 a11 a12 a13 a14 a15 a16 a17 a18 (fun r1 h => κ (.bool r1) h) h
  | _ => False

noncomputable def palisadelaw20_VintcGreatest.calls : List (Nat × (List V → (V → Heap → Prop) → Heap → Prop)) := [(4, vintc_New.C), (8, vintc_Intc_Raise.C), (10, vintc_Intc_Enable.C), (12, vintc_Intc_Weigh.C), (13, vintc_Intc_Bar.C), (16, vintc_Intc_Claim.C), (17, vintc_Intc_Complete.C), (19, vintc_Intc_Told.C)]

noncomputable def palisadelaw20_VintcGreatest.E (Q : Bool → Heap → Prop) (cuts : List (Nat × (List Nat × (List V → Heap → Prop)))) : Env := { tis := tisT, fns := fnsT, tys := tysT, calls := palisadelaw20_VintcGreatest.calls, ifc := noIfc, cuts := cuts, ret := palisadelaw20_VintcGreatest.ret Q, rets := [.tmp 6], n := 112 }

theorem palisadelaw20_VintcGreatest.callsOK {W0 : World} : CallsOK sg W0 palisadelaw20_VintcGreatest.calls := ⟨vintc_New.S, vintc_Intc_Raise.S, vintc_Intc_Enable.S, vintc_Intc_Weigh.S, vintc_Intc_Bar.S, vintc_Intc_Claim.S, vintc_Intc_Complete.S, vintc_Intc_Told.S, trivial⟩

def palisadelaw20_VintcGreatest.k3 (I : Heap → Prop) (vs : List V) (h : Heap) : Prop :=
  match vs with
  | [] => I  h
  | _ => False

def palisadelaw20_VintcGreatest.k11 (I : Heap → Prop) (vs : List V) (h : Heap) : Prop :=
  match vs with
  | [] => I  h
  | _ => False

def palisadelaw20_VintcGreatest.k8 (I : Int → Int → Ptr → (Option Ptr) → Int → Int → Heap → Prop) (vs : List V) (h : Heap) : Prop :=
  match vs with
  | [.int .i64 a1, .int .i64 a2, .ptr (some a3), .ptr a4, .int .i64 a5, .int .i64 a6] => I a1 a2 a3 a4 a5 a6 h
  | _ => False

def palisadelaw20_VintcGreatest.k15 (I : Int → Int → Ptr → (Option Ptr) → Int → Heap → Prop) (vs : List V) (h : Heap) : Prop :=
  match vs with
  | [.int .i64 a1, .int .i64 a2, .ptr (some a3), .ptr a4, .int .i64 a5] => I a1 a2 a3 a4 a5 h
  | _ => False

def palisadelaw20_VintcGreatest.k7 (I : Int → Int → Ptr → (Option Ptr) → Int → Int → Heap → Prop) (vs : List V) (h : Heap) : Prop :=
  match vs with
  | [.int .i64 a1, .int .i64 a2, .ptr (some a3), .ptr a4, .int .i64 a5, .int .i64 a6] => I a1 a2 a3 a4 a5 a6 h
  | _ => False

theorem palisadelaw20_VintcGreatest.p3 : (posC palisadelaw20_VintcGreatest.code []).filter (fun p => Nat.beq p.1 3) = [(3, atPos (posC palisadelaw20_VintcGreatest.code []) 3)] := by kernel_rfl

theorem palisadelaw20_VintcGreatest.e3 : ∀   (Q : Bool → Heap → Prop) (h : Heap), palisadelaw20_VintcGreatest.j3   Q h = pts (palisadelaw20_VintcGreatest.E Q []) 3000 true (atPos (posC palisadelaw20_VintcGreatest.code []) 3) (frAt [] []) h := by
  intros; kernel_rfl

theorem palisadelaw20_VintcGreatest.s3 {W0 : World} (Q : Bool → Heap → Prop)   : CutOK sg W0 112 (entered 4) (Post sg W0 (palisadelaw20_VintcGreatest.ret Q)) (posC palisadelaw20_VintcGreatest.code []) 3 [] (palisadelaw20_VintcGreatest.k3 (fun  h => palisadelaw20_VintcGreatest.j3   Q h)) := by
  refine cutOK_head (fun vs h hk => ?_)
  unfold palisadelaw20_VintcGreatest.k3 at hk
  split at hk
  · skip
    intro todo hm ρ a w s f hp
    exact piece (E := palisadelaw20_VintcGreatest.E Q []) (vs := []) (envOK seatOK palisadelaw20_VintcGreatest.callsOK noIfc_ok) (fnOK seatOK palisadelaw20_VintcGreatest.fun) trivial palisadelaw20_VintcGreatest.p3 (fuel := 3000) (by rw [← palisadelaw20_VintcGreatest.e3]; exact hk) hm s f hp
  · exact hk.elim

theorem palisadelaw20_VintcGreatest.p11 : (posC palisadelaw20_VintcGreatest.code []).filter (fun p => Nat.beq p.1 11) = [(11, atPos (posC palisadelaw20_VintcGreatest.code []) 11)] := by kernel_rfl

theorem palisadelaw20_VintcGreatest.e11 : ∀ (I7 : Int → Int → Ptr → (Option Ptr) → Int → Int → Heap → Prop)  (Q : Bool → Heap → Prop) (h : Heap), palisadelaw20_VintcGreatest.j11 I7  Q h = pts (palisadelaw20_VintcGreatest.E Q []) 3000 true (atPos (posC palisadelaw20_VintcGreatest.code []) 11) (frAt [] []) h := by
  intros; kernel_rfl

theorem palisadelaw20_VintcGreatest.s11 {W0 : World} (Q : Bool → Heap → Prop) (I7 : Int → Int → Ptr → (Option Ptr) → Int → Int → Heap → Prop) (h7 : CutOK sg W0 112 (entered 4) (Post sg W0 (palisadelaw20_VintcGreatest.ret Q)) (posC palisadelaw20_VintcGreatest.code []) 7 [1, 2, 3, 7, 9, 10] (palisadelaw20_VintcGreatest.k7 I7)) : CutOK sg W0 112 (entered 4) (Post sg W0 (palisadelaw20_VintcGreatest.ret Q)) (posC palisadelaw20_VintcGreatest.code []) 11 [] (palisadelaw20_VintcGreatest.k11 (fun  h => palisadelaw20_VintcGreatest.j11 I7  Q h)) := by
  refine cutOK_head (fun vs h hk => ?_)
  unfold palisadelaw20_VintcGreatest.k11 at hk
  split at hk
  · skip
    intro todo hm ρ a w s f hp
    exact piece (E := palisadelaw20_VintcGreatest.E Q []) (vs := []) (envOK seatOK palisadelaw20_VintcGreatest.callsOK noIfc_ok) (fnOK seatOK palisadelaw20_VintcGreatest.fun) trivial palisadelaw20_VintcGreatest.p11 (fuel := 3000) (by rw [← palisadelaw20_VintcGreatest.e11]; exact hk) hm s f hp
  · exact hk.elim

theorem palisadelaw20_VintcGreatest.p8 : (posC palisadelaw20_VintcGreatest.code []).filter (fun p => Nat.beq p.1 8) = [(8, atPos (posC palisadelaw20_VintcGreatest.code []) 8)] := by kernel_rfl

theorem palisadelaw20_VintcGreatest.e8 : ∀ (I7 : Int → Int → Ptr → (Option Ptr) → Int → Int → Heap → Prop) (a1 : Int) (a2 : Int) (a3 : Ptr) (a4 : Option Ptr) (a5 : Int) (a6 : Int) (Q : Bool → Heap → Prop) (h : Heap), palisadelaw20_VintcGreatest.j8 I7 a1 a2 a3 a4 a5 a6 Q h = pts (palisadelaw20_VintcGreatest.E Q [(7, ([1, 2, 3, 7, 9, 10], palisadelaw20_VintcGreatest.k7 I7))]) 3000 true (atPos (posC palisadelaw20_VintcGreatest.code []) 8) (frAt [1, 2, 3, 7, 9, 10] [.int .i64 a1, .int .i64 a2, .ptr (some a3), .ptr a4, .int .i64 a5, .int .i64 a6]) h := by
  intros; kernel_rfl

theorem palisadelaw20_VintcGreatest.s8 {W0 : World} (Q : Bool → Heap → Prop) (I7 : Int → Int → Ptr → (Option Ptr) → Int → Int → Heap → Prop) (h7 : CutOK sg W0 112 (entered 4) (Post sg W0 (palisadelaw20_VintcGreatest.ret Q)) (posC palisadelaw20_VintcGreatest.code []) 7 [1, 2, 3, 7, 9, 10] (palisadelaw20_VintcGreatest.k7 I7)) : CutOK sg W0 112 (entered 4) (Post sg W0 (palisadelaw20_VintcGreatest.ret Q)) (posC palisadelaw20_VintcGreatest.code []) 8 [1, 2, 3, 7, 9, 10] (palisadelaw20_VintcGreatest.k8 (fun a1 a2 a3 a4 a5 a6 h => palisadelaw20_VintcGreatest.j8 I7 a1 a2 a3 a4 a5 a6 Q h)) := by
  refine cutOK_head (fun vs h hk => ?_)
  unfold palisadelaw20_VintcGreatest.k8 at hk
  split at hk
  · rename_i a1 a2 a3 a4 a5 a6
    intro todo hm ρ a w s f hp
    exact piece (E := palisadelaw20_VintcGreatest.E Q [(7, ([1, 2, 3, 7, 9, 10], palisadelaw20_VintcGreatest.k7 I7))]) (vs := [.int .i64 a1, .int .i64 a2, .ptr (some a3), .ptr a4, .int .i64 a5, .int .i64 a6]) (envOK seatOK palisadelaw20_VintcGreatest.callsOK noIfc_ok) (fnOK seatOK palisadelaw20_VintcGreatest.fun) ⟨h7, trivial⟩ palisadelaw20_VintcGreatest.p8 (fuel := 3000) (by rw [← palisadelaw20_VintcGreatest.e8]; exact hk) hm s f hp
  · exact hk.elim

theorem palisadelaw20_VintcGreatest.p15 : (posC palisadelaw20_VintcGreatest.code []).filter (fun p => Nat.beq p.1 15) = [(15, atPos (posC palisadelaw20_VintcGreatest.code []) 15)] := by kernel_rfl

theorem palisadelaw20_VintcGreatest.e15 : ∀ (I7 : Int → Int → Ptr → (Option Ptr) → Int → Int → Heap → Prop) (a1 : Int) (a2 : Int) (a3 : Ptr) (a4 : Option Ptr) (a5 : Int) (Q : Bool → Heap → Prop) (h : Heap), palisadelaw20_VintcGreatest.j15 I7 a1 a2 a3 a4 a5 Q h = pts (palisadelaw20_VintcGreatest.E Q [(8, ([1, 2, 3, 7, 9, 10], palisadelaw20_VintcGreatest.k8 (fun a1 a2 a3 a4 a5 a6 h => palisadelaw20_VintcGreatest.j8 I7 a1 a2 a3 a4 a5 a6 Q h)))]) 3000 true (atPos (posC palisadelaw20_VintcGreatest.code []) 15) (frAt [1, 2, 3, 7, 10] [.int .i64 a1, .int .i64 a2, .ptr (some a3), .ptr a4, .int .i64 a5]) h := by
  intros; kernel_rfl

theorem palisadelaw20_VintcGreatest.s15 {W0 : World} (Q : Bool → Heap → Prop) (I7 : Int → Int → Ptr → (Option Ptr) → Int → Int → Heap → Prop) (h7 : CutOK sg W0 112 (entered 4) (Post sg W0 (palisadelaw20_VintcGreatest.ret Q)) (posC palisadelaw20_VintcGreatest.code []) 7 [1, 2, 3, 7, 9, 10] (palisadelaw20_VintcGreatest.k7 I7)) : CutOK sg W0 112 (entered 4) (Post sg W0 (palisadelaw20_VintcGreatest.ret Q)) (posC palisadelaw20_VintcGreatest.code []) 15 [1, 2, 3, 7, 10] (palisadelaw20_VintcGreatest.k15 (fun a1 a2 a3 a4 a5 h => palisadelaw20_VintcGreatest.j15 I7 a1 a2 a3 a4 a5 Q h)) := by
  refine cutOK_head (fun vs h hk => ?_)
  unfold palisadelaw20_VintcGreatest.k15 at hk
  split at hk
  · rename_i a1 a2 a3 a4 a5
    intro todo hm ρ a w s f hp
    exact piece (E := palisadelaw20_VintcGreatest.E Q [(8, ([1, 2, 3, 7, 9, 10], palisadelaw20_VintcGreatest.k8 (fun a1 a2 a3 a4 a5 a6 h => palisadelaw20_VintcGreatest.j8 I7 a1 a2 a3 a4 a5 a6 Q h)))]) (vs := [.int .i64 a1, .int .i64 a2, .ptr (some a3), .ptr a4, .int .i64 a5]) (envOK seatOK palisadelaw20_VintcGreatest.callsOK noIfc_ok) (fnOK seatOK palisadelaw20_VintcGreatest.fun) ⟨(palisadelaw20_VintcGreatest.s8 Q I7 h7), trivial⟩ palisadelaw20_VintcGreatest.p15 (fuel := 3000) (by rw [← palisadelaw20_VintcGreatest.e15]; exact hk) hm s f hp
  · exact hk.elim

theorem palisadelaw20_VintcGreatest.p7 : (posC palisadelaw20_VintcGreatest.code []).filter (fun p => Nat.beq p.1 7) = [(7, atPos (posC palisadelaw20_VintcGreatest.code []) 7)] := by kernel_rfl

theorem palisadelaw20_VintcGreatest.e7 : ∀  (I7 : Int → Int → Ptr → (Option Ptr) → Int → Int → Heap → Prop) (a1 : Int) (a2 : Int) (a3 : Ptr) (a4 : Option Ptr) (a5 : Int) (a6 : Int) (Q : Bool → Heap → Prop) (h : Heap), palisadelaw20_VintcGreatest.b7  I7 a1 a2 a3 a4 a5 a6 Q h = pts (palisadelaw20_VintcGreatest.E Q [(11, ([], palisadelaw20_VintcGreatest.k11 (fun  h => palisadelaw20_VintcGreatest.j11 I7  Q h))), (15, ([1, 2, 3, 7, 10], palisadelaw20_VintcGreatest.k15 (fun a1 a2 a3 a4 a5 h => palisadelaw20_VintcGreatest.j15 I7 a1 a2 a3 a4 a5 Q h))), (8, ([1, 2, 3, 7, 9, 10], palisadelaw20_VintcGreatest.k8 (fun a1 a2 a3 a4 a5 a6 h => palisadelaw20_VintcGreatest.j8 I7 a1 a2 a3 a4 a5 a6 Q h)))]) 3000 true (atPos (posC palisadelaw20_VintcGreatest.code []) 7) (frAt [1, 2, 3, 7, 9, 10] [.int .i64 a1, .int .i64 a2, .ptr (some a3), .ptr a4, .int .i64 a5, .int .i64 a6]) h := by
  intros; kernel_rfl

theorem palisadelaw20_VintcGreatest.s7 {W0 : World} (Q : Bool → Heap → Prop)   : CutOK sg W0 112 (entered 4) (Post sg W0 (palisadelaw20_VintcGreatest.ret Q)) (posC palisadelaw20_VintcGreatest.code []) 7 [1, 2, 3, 7, 9, 10] (palisadelaw20_VintcGreatest.k7 (fun a1 a2 a3 a4 a5 a6 h => palisadelaw20_VintcGreatest.j7  a1 a2 a3 a4 a5 a6 Q h)) := by
  refine cutOK_head (fun vs h hk => ?_)
  unfold palisadelaw20_VintcGreatest.k7 at hk
  split at hk
  · rename_i a1 a2 a3 a4 a5 a6
    refine hk (fun a1 a2 a3 a4 a5 a6 h => Head sg W0 112 (entered 4) (Post sg W0 (palisadelaw20_VintcGreatest.ret Q)) (posC palisadelaw20_VintcGreatest.code []) 7 [1, 2, 3, 7, 9, 10] [.int .i64 a1, .int .i64 a2, .ptr (some a3), .ptr a4, .int .i64 a5, .int .i64 a6] h) ?_
    intro a1 a2 a3 a4 a5 a6 h hb todo hm ρ a w s f hp
    have hself : CutOK sg W0 112 (entered 4) (Post sg W0 (palisadelaw20_VintcGreatest.ret Q)) (posC palisadelaw20_VintcGreatest.code []) 7 [1, 2, 3, 7, 9, 10] (palisadelaw20_VintcGreatest.k7 (fun a1 a2 a3 a4 a5 a6 h => Head sg W0 112 (entered 4) (Post sg W0 (palisadelaw20_VintcGreatest.ret Q)) (posC palisadelaw20_VintcGreatest.code []) 7 [1, 2, 3, 7, 9, 10] [.int .i64 a1, .int .i64 a2, .ptr (some a3), .ptr a4, .int .i64 a5, .int .i64 a6] h)) := cutOK_head (fun vs h hk => by unfold palisadelaw20_VintcGreatest.k7 at hk; split at hk; exact hk; exact hk.elim)
    exact piece (E := palisadelaw20_VintcGreatest.E Q [(11, ([], palisadelaw20_VintcGreatest.k11 (fun  h => palisadelaw20_VintcGreatest.j11 (fun a1 a2 a3 a4 a5 a6 h => Head sg W0 112 (entered 4) (Post sg W0 (palisadelaw20_VintcGreatest.ret Q)) (posC palisadelaw20_VintcGreatest.code []) 7 [1, 2, 3, 7, 9, 10] [.int .i64 a1, .int .i64 a2, .ptr (some a3), .ptr a4, .int .i64 a5, .int .i64 a6] h)  Q h))), (15, ([1, 2, 3, 7, 10], palisadelaw20_VintcGreatest.k15 (fun a1 a2 a3 a4 a5 h => palisadelaw20_VintcGreatest.j15 (fun a1 a2 a3 a4 a5 a6 h => Head sg W0 112 (entered 4) (Post sg W0 (palisadelaw20_VintcGreatest.ret Q)) (posC palisadelaw20_VintcGreatest.code []) 7 [1, 2, 3, 7, 9, 10] [.int .i64 a1, .int .i64 a2, .ptr (some a3), .ptr a4, .int .i64 a5, .int .i64 a6] h) a1 a2 a3 a4 a5 Q h))), (8, ([1, 2, 3, 7, 9, 10], palisadelaw20_VintcGreatest.k8 (fun a1 a2 a3 a4 a5 a6 h => palisadelaw20_VintcGreatest.j8 (fun a1 a2 a3 a4 a5 a6 h => Head sg W0 112 (entered 4) (Post sg W0 (palisadelaw20_VintcGreatest.ret Q)) (posC palisadelaw20_VintcGreatest.code []) 7 [1, 2, 3, 7, 9, 10] [.int .i64 a1, .int .i64 a2, .ptr (some a3), .ptr a4, .int .i64 a5, .int .i64 a6] h) a1 a2 a3 a4 a5 a6 Q h)))]) (vs := [.int .i64 a1, .int .i64 a2, .ptr (some a3), .ptr a4, .int .i64 a5, .int .i64 a6]) (envOK seatOK palisadelaw20_VintcGreatest.callsOK noIfc_ok) (fnOK seatOK palisadelaw20_VintcGreatest.fun) ⟨(palisadelaw20_VintcGreatest.s11 Q (fun a1 a2 a3 a4 a5 a6 h => Head sg W0 112 (entered 4) (Post sg W0 (palisadelaw20_VintcGreatest.ret Q)) (posC palisadelaw20_VintcGreatest.code []) 7 [1, 2, 3, 7, 9, 10] [.int .i64 a1, .int .i64 a2, .ptr (some a3), .ptr a4, .int .i64 a5, .int .i64 a6] h) hself), (palisadelaw20_VintcGreatest.s15 Q (fun a1 a2 a3 a4 a5 a6 h => Head sg W0 112 (entered 4) (Post sg W0 (palisadelaw20_VintcGreatest.ret Q)) (posC palisadelaw20_VintcGreatest.code []) 7 [1, 2, 3, 7, 9, 10] [.int .i64 a1, .int .i64 a2, .ptr (some a3), .ptr a4, .int .i64 a5, .int .i64 a6] h) hself), (palisadelaw20_VintcGreatest.s8 Q (fun a1 a2 a3 a4 a5 a6 h => Head sg W0 112 (entered 4) (Post sg W0 (palisadelaw20_VintcGreatest.ret Q)) (posC palisadelaw20_VintcGreatest.code []) 7 [1, 2, 3, 7, 9, 10] [.int .i64 a1, .int .i64 a2, .ptr (some a3), .ptr a4, .int .i64 a5, .int .i64 a6] h) hself), trivial⟩ palisadelaw20_VintcGreatest.p7 (fuel := 3000) (by rw [← palisadelaw20_VintcGreatest.e7]; exact hb) hm s f hp
  · exact hk.elim

theorem palisadelaw20_VintcGreatest.e : ∀ (a1 : Int) (a2 : Int) (a3 : Int) (a4 : Int) (a5 : Int) (a6 : Int) (a7 : Int) (a8 : Int) (a9 : Int) (a10 : Int) (a11 : Int) (a12 : Int) (a13 : Int) (a14 : Int) (a15 : Int) (a16 : Int) (a17 : Int) (a18 : Int) (Q : Bool → Heap → Prop) (h : Heap), palisadelaw20_VintcGreatest a1 a2 a3 a4 a5 a6 a7 a8 a9 a10 a11 a12 a13 a14 a15 a16 a17 a18 Q h = pts (palisadelaw20_VintcGreatest.E Q [(3, ([], palisadelaw20_VintcGreatest.k3 (fun  h => palisadelaw20_VintcGreatest.j3   Q h))), (7, ([1, 2, 3, 7, 9, 10], palisadelaw20_VintcGreatest.k7 (fun a1 a2 a3 a4 a5 a6 h => palisadelaw20_VintcGreatest.j7  a1 a2 a3 a4 a5 a6 Q h)))]) 3000 true [.code palisadelaw20_VintcGreatest.code] (frOf 0 [.agg [.int .i64 a1, .int .i64 a2, .int .i64 a3, .int .i64 a4, .int .i64 a5, .int .i64 a6, .int .i64 a7, .int .i64 a8, .int .i64 a9, .int .i64 a10, .int .i64 a11, .int .i64 a12, .int .i64 a13, .int .i64 a14, .int .i64 a15, .int .i64 a16], .int .i64 a17, .int .i64 a18]) h := by
  intros; kernel_rfl

theorem palisadelaw20_VintcGreatest.S {W0 : World} : FnS sg W0 65 palisadelaw20_VintcGreatest.C := by
  intro vs κ h wv hx w s
  unfold palisadelaw20_VintcGreatest.C at hx
  split at hx
  · rename_i a1 a2 a3 a4 a5 a6 a7 a8 a9 a10 a11 a12 a13 a14 a15 a16 a17 a18
    refine postImp (ret := palisadelaw20_VintcGreatest.ret (fun r1 h => κ (.bool r1) h)) (fun v h hr => by unfold palisadelaw20_VintcGreatest.ret at hr; split at hr; exact hr; exact hr.elim) ?_
    exact calls_of_pts (E := palisadelaw20_VintcGreatest.E (fun r1 h => κ (.bool r1) h) [(3, ([], palisadelaw20_VintcGreatest.k3 (fun  h => palisadelaw20_VintcGreatest.j3   (fun r1 h => κ (.bool r1) h) h))), (7, ([1, 2, 3, 7, 9, 10], palisadelaw20_VintcGreatest.k7 (fun a1 a2 a3 a4 a5 a6 h => palisadelaw20_VintcGreatest.j7  a1 a2 a3 a4 a5 a6 (fun r1 h => κ (.bool r1) h) h)))]) (envOK seatOK palisadelaw20_VintcGreatest.callsOK noIfc_ok) seatOK.mixed palisadelaw20_VintcGreatest.fun (Nat.le_of_ble_eq_true rfl) wv (cutL_ok ⟨(palisadelaw20_VintcGreatest.s3 (fun r1 h => κ (.bool r1) h)), (palisadelaw20_VintcGreatest.s7 (fun r1 h => κ (.bool r1) h)), trivial⟩) s (fuel := 3000) (by rw [← palisadelaw20_VintcGreatest.e]; exact hx)
  · exact hx.elim

noncomputable def vintc_Intc_Poke.code : Code := Go.Proofs.Try.f22.body.getD .skip

theorem vintc_Intc_Poke.fun : Fun sg.P 22 19 [.tmp 4] vintc_Intc_Poke.code := mkFun Go.Proofs.Try.func22 (by kernel_rfl) (by kernel_rfl) (by kernel_rfl) (by kernel_rfl)

def vintc_Intc_Poke.ret (Q : Int → Heap → Prop) (v : V) (h : Heap) : Prop :=
  match v with
  | .int .i64 r1 => Q r1 h
  | _ => False

def vintc_Intc_Poke.C (vs : List V) (κ : V → Heap → Prop) (h : Heap) : Prop :=
  match vs with
  | [.ptr a1, .int .i64 a2] => vintc_Intc_Poke a1 a2 (fun r1 h => κ (.int .i64 r1) h) h
  | _ => False

noncomputable def vintc_Intc_Poke.calls : List (Nat × (List V → (V → Heap → Prop) → Heap → Prop)) := [(7, vintc_Intc_wrong.C), (9, vintc_Intc_has.C)]

noncomputable def vintc_Intc_Poke.E (Q : Int → Heap → Prop) (cuts : List (Nat × (List Nat × (List V → Heap → Prop)))) : Env := { tis := tisT, fns := fnsT, tys := tysT, calls := vintc_Intc_Poke.calls, ifc := noIfc, cuts := cuts, ret := vintc_Intc_Poke.ret Q, rets := [.tmp 4], n := 19 }

theorem vintc_Intc_Poke.callsOK {W0 : World} : CallsOK sg W0 vintc_Intc_Poke.calls := ⟨vintc_Intc_wrong.S, vintc_Intc_has.S, trivial⟩

theorem vintc_Intc_Poke.e : ∀ (a1 : Option Ptr) (a2 : Int) (Q : Int → Heap → Prop) (h : Heap), vintc_Intc_Poke a1 a2 Q h = pts (vintc_Intc_Poke.E Q []) 3000 true [.code vintc_Intc_Poke.code] (frOf 0 [.ptr a1, .int .i64 a2]) h := by
  intros; kernel_rfl

theorem vintc_Intc_Poke.S {W0 : World} : FnS sg W0 20 vintc_Intc_Poke.C := by
  intro vs κ h wv hx w s
  unfold vintc_Intc_Poke.C at hx
  split at hx
  · rename_i a1 a2
    refine postImp (ret := vintc_Intc_Poke.ret (fun r1 h => κ (.int .i64 r1) h)) (fun v h hr => by unfold vintc_Intc_Poke.ret at hr; split at hr; exact hr; exact hr.elim) ?_
    exact calls_of_pts (E := vintc_Intc_Poke.E (fun r1 h => κ (.int .i64 r1) h) []) (envOK seatOK vintc_Intc_Poke.callsOK noIfc_ok) seatOK.mixed vintc_Intc_Poke.fun (Nat.le_of_ble_eq_true rfl) wv (cutL_ok trivial) s (fuel := 3000) (by rw [← vintc_Intc_Poke.e]; exact hx)
  · exact hx.elim

noncomputable def vintc_Intc_Soft.code : Code := Go.Proofs.Try.f23.body.getD .skip

theorem vintc_Intc_Soft.fun : Fun sg.P 23 22 [.tmp 4] vintc_Intc_Soft.code := mkFun Go.Proofs.Try.func23 (by kernel_rfl) (by kernel_rfl) (by kernel_rfl) (by kernel_rfl)

def vintc_Intc_Soft.ret (Q : Bool → Heap → Prop) (v : V) (h : Heap) : Prop :=
  match v with
  | .bool r1 => Q r1 h
  | _ => False

def vintc_Intc_Soft.C (vs : List V) (κ : V → Heap → Prop) (h : Heap) : Prop :=
  match vs with
  | [.ptr a1, .int .i64 a2] => vintc_Intc_Soft a1 a2 (fun r1 h => κ (.bool r1) h) h
  | _ => False

noncomputable def vintc_Intc_Soft.calls : List (Nat × (List V → (V → Heap → Prop) → Heap → Prop)) := [(9, vintc_Intc_has.C)]

noncomputable def vintc_Intc_Soft.E (Q : Bool → Heap → Prop) (cuts : List (Nat × (List Nat × (List V → Heap → Prop)))) : Env := { tis := tisT, fns := fnsT, tys := tysT, calls := vintc_Intc_Soft.calls, ifc := noIfc, cuts := cuts, ret := vintc_Intc_Soft.ret Q, rets := [.tmp 4], n := 22 }

theorem vintc_Intc_Soft.callsOK {W0 : World} : CallsOK sg W0 vintc_Intc_Soft.calls := ⟨vintc_Intc_has.S, trivial⟩

theorem vintc_Intc_Soft.e : ∀ (a1 : Option Ptr) (a2 : Int) (Q : Bool → Heap → Prop) (h : Heap), vintc_Intc_Soft a1 a2 Q h = pts (vintc_Intc_Soft.E Q []) 3000 true [.code vintc_Intc_Soft.code] (frOf 0 [.ptr a1, .int .i64 a2]) h := by
  intros; kernel_rfl

theorem vintc_Intc_Soft.S {W0 : World} : FnS sg W0 21 vintc_Intc_Soft.C := by
  intro vs κ h wv hx w s
  unfold vintc_Intc_Soft.C at hx
  split at hx
  · rename_i a1 a2
    refine postImp (ret := vintc_Intc_Soft.ret (fun r1 h => κ (.bool r1) h)) (fun v h hr => by unfold vintc_Intc_Soft.ret at hr; split at hr; exact hr; exact hr.elim) ?_
    exact calls_of_pts (E := vintc_Intc_Soft.E (fun r1 h => κ (.bool r1) h) []) (envOK seatOK vintc_Intc_Soft.callsOK noIfc_ok) seatOK.mixed vintc_Intc_Soft.fun (Nat.le_of_ble_eq_true rfl) wv (cutL_ok trivial) s (fuel := 3000) (by rw [← vintc_Intc_Soft.e]; exact hx)
  · exact hx.elim

noncomputable def palisadelaw20_VintcNobody.code : Code := Go.Proofs.Try.f5.body.getD .skip

theorem palisadelaw20_VintcNobody.fun : Fun sg.P 5 109 [.tmp 2] palisadelaw20_VintcNobody.code := mkFun Go.Proofs.Try.func5 (by kernel_rfl) (by kernel_rfl) (by kernel_rfl) (by kernel_rfl)

def palisadelaw20_VintcNobody.ret (Q : Bool → Heap → Prop) (v : V) (h : Heap) : Prop :=
  match v with
  | .bool r1 => Q r1 h
  | _ => False

def palisadelaw20_VintcNobody.C (vs : List V) (κ : V → Heap → Prop) (h : Heap) : Prop :=
  match vs with
  | [.agg [.int .i64 a1, .int .i64 a2, .int .i64 a3, .int .i64 a4, .bool a5]] => palisadelaw20_VintcNobody a1 a2 a3 a4 a5 (fun r1 h => κ (.bool r1) h) h
  | _ => False

noncomputable def palisadelaw20_VintcNobody.calls : List (Nat × (List V → (V → Heap → Prop) → Heap → Prop)) := [(8, vintc_Intc_Raise.C), (10, vintc_Intc_Enable.C), (12, vintc_Intc_Weigh.C), (13, vintc_Intc_Bar.C), (15, vintc_Intc_Line.C), (16, vintc_Intc_Claim.C), (17, vintc_Intc_Complete.C), (19, vintc_Intc_Told.C), (20, vintc_Intc_Poke.C), (21, vintc_Intc_Soft.C)]

noncomputable def palisadelaw20_VintcNobody.E (Q : Bool → Heap → Prop) (cuts : List (Nat × (List Nat × (List V → Heap → Prop)))) : Env := { tis := tisT, fns := fnsT, tys := tysT, calls := palisadelaw20_VintcNobody.calls, ifc := noIfc, cuts := cuts, ret := palisadelaw20_VintcNobody.ret Q, rets := [.tmp 2], n := 109 }

theorem palisadelaw20_VintcNobody.callsOK {W0 : World} : CallsOK sg W0 palisadelaw20_VintcNobody.calls := ⟨vintc_Intc_Raise.S, vintc_Intc_Enable.S, vintc_Intc_Weigh.S, vintc_Intc_Bar.S, vintc_Intc_Line.S, vintc_Intc_Claim.S, vintc_Intc_Complete.S, vintc_Intc_Told.S, vintc_Intc_Poke.S, vintc_Intc_Soft.S, trivial⟩

def palisadelaw20_VintcNobody.k7 (I : Heap → Prop) (vs : List V) (h : Heap) : Prop :=
  match vs with
  | [] => I  h
  | _ => False

def palisadelaw20_VintcNobody.k2 (I : Ptr → Sl → Int → Int → Heap → Prop) (vs : List V) (h : Heap) : Prop :=
  match vs with
  | [.ptr (some a1), .sl a2, .int .i64 a3, .int .i64 a4] => I a1 a2 a3 a4 h
  | _ => False

theorem palisadelaw20_VintcNobody.p7 : (posC palisadelaw20_VintcNobody.code []).filter (fun p => Nat.beq p.1 7) = [(7, atPos (posC palisadelaw20_VintcNobody.code []) 7)] := by kernel_rfl

theorem palisadelaw20_VintcNobody.e7 : ∀ (I2 : Ptr → Sl → Int → Int → Heap → Prop)  (Q : Bool → Heap → Prop) (h : Heap), palisadelaw20_VintcNobody.j7 I2  Q h = pts (palisadelaw20_VintcNobody.E Q []) 3000 true (atPos (posC palisadelaw20_VintcNobody.code []) 7) (frAt [] []) h := by
  intros; kernel_rfl

theorem palisadelaw20_VintcNobody.s7 {W0 : World} (Q : Bool → Heap → Prop) (I2 : Ptr → Sl → Int → Int → Heap → Prop) (h2 : CutOK sg W0 109 (entered 5) (Post sg W0 (palisadelaw20_VintcNobody.ret Q)) (posC palisadelaw20_VintcNobody.code []) 2 [1, 11, 12, 13] (palisadelaw20_VintcNobody.k2 I2)) : CutOK sg W0 109 (entered 5) (Post sg W0 (palisadelaw20_VintcNobody.ret Q)) (posC palisadelaw20_VintcNobody.code []) 7 [] (palisadelaw20_VintcNobody.k7 (fun  h => palisadelaw20_VintcNobody.j7 I2  Q h)) := by
  refine cutOK_head (fun vs h hk => ?_)
  unfold palisadelaw20_VintcNobody.k7 at hk
  split at hk
  · skip
    intro todo hm ρ a w s f hp
    exact piece (E := palisadelaw20_VintcNobody.E Q []) (vs := []) (envOK seatOK palisadelaw20_VintcNobody.callsOK noIfc_ok) (fnOK seatOK palisadelaw20_VintcNobody.fun) trivial palisadelaw20_VintcNobody.p7 (fuel := 3000) (by rw [← palisadelaw20_VintcNobody.e7]; exact hk) hm s f hp
  · exact hk.elim

theorem palisadelaw20_VintcNobody.p2 : (posC palisadelaw20_VintcNobody.code []).filter (fun p => Nat.beq p.1 2) = [(2, atPos (posC palisadelaw20_VintcNobody.code []) 2)] := by kernel_rfl

theorem palisadelaw20_VintcNobody.e2 : ∀  (I2 : Ptr → Sl → Int → Int → Heap → Prop) (a1 : Ptr) (a2 : Sl) (a3 : Int) (a4 : Int) (Q : Bool → Heap → Prop) (h : Heap), palisadelaw20_VintcNobody.b2  I2 a1 a2 a3 a4 Q h = pts (palisadelaw20_VintcNobody.E Q [(7, ([], palisadelaw20_VintcNobody.k7 (fun  h => palisadelaw20_VintcNobody.j7 I2  Q h))), (2, ([1, 11, 12, 13], palisadelaw20_VintcNobody.k2 I2))]) 3000 true (atPos (posC palisadelaw20_VintcNobody.code []) 2) (frAt [1, 11, 12, 13] [.ptr (some a1), .sl a2, .int .i64 a3, .int .i64 a4]) h := by
  intros; kernel_rfl

theorem palisadelaw20_VintcNobody.s2 {W0 : World} (Q : Bool → Heap → Prop)   : CutOK sg W0 109 (entered 5) (Post sg W0 (palisadelaw20_VintcNobody.ret Q)) (posC palisadelaw20_VintcNobody.code []) 2 [1, 11, 12, 13] (palisadelaw20_VintcNobody.k2 (fun a1 a2 a3 a4 h => palisadelaw20_VintcNobody.j2  a1 a2 a3 a4 Q h)) := by
  refine cutOK_head (fun vs h hk => ?_)
  unfold palisadelaw20_VintcNobody.k2 at hk
  split at hk
  · rename_i a1 a2 a3 a4
    refine hk (fun a1 a2 a3 a4 h => Head sg W0 109 (entered 5) (Post sg W0 (palisadelaw20_VintcNobody.ret Q)) (posC palisadelaw20_VintcNobody.code []) 2 [1, 11, 12, 13] [.ptr (some a1), .sl a2, .int .i64 a3, .int .i64 a4] h) ?_
    intro a1 a2 a3 a4 h hb todo hm ρ a w s f hp
    have hself : CutOK sg W0 109 (entered 5) (Post sg W0 (palisadelaw20_VintcNobody.ret Q)) (posC palisadelaw20_VintcNobody.code []) 2 [1, 11, 12, 13] (palisadelaw20_VintcNobody.k2 (fun a1 a2 a3 a4 h => Head sg W0 109 (entered 5) (Post sg W0 (palisadelaw20_VintcNobody.ret Q)) (posC palisadelaw20_VintcNobody.code []) 2 [1, 11, 12, 13] [.ptr (some a1), .sl a2, .int .i64 a3, .int .i64 a4] h)) := cutOK_head (fun vs h hk => by unfold palisadelaw20_VintcNobody.k2 at hk; split at hk; exact hk; exact hk.elim)
    exact piece (E := palisadelaw20_VintcNobody.E Q [(7, ([], palisadelaw20_VintcNobody.k7 (fun  h => palisadelaw20_VintcNobody.j7 (fun a1 a2 a3 a4 h => Head sg W0 109 (entered 5) (Post sg W0 (palisadelaw20_VintcNobody.ret Q)) (posC palisadelaw20_VintcNobody.code []) 2 [1, 11, 12, 13] [.ptr (some a1), .sl a2, .int .i64 a3, .int .i64 a4] h)  Q h))), (2, ([1, 11, 12, 13], palisadelaw20_VintcNobody.k2 (fun a1 a2 a3 a4 h => Head sg W0 109 (entered 5) (Post sg W0 (palisadelaw20_VintcNobody.ret Q)) (posC palisadelaw20_VintcNobody.code []) 2 [1, 11, 12, 13] [.ptr (some a1), .sl a2, .int .i64 a3, .int .i64 a4] h)))]) (vs := [.ptr (some a1), .sl a2, .int .i64 a3, .int .i64 a4]) (envOK seatOK palisadelaw20_VintcNobody.callsOK noIfc_ok) (fnOK seatOK palisadelaw20_VintcNobody.fun) ⟨(palisadelaw20_VintcNobody.s7 Q (fun a1 a2 a3 a4 h => Head sg W0 109 (entered 5) (Post sg W0 (palisadelaw20_VintcNobody.ret Q)) (posC palisadelaw20_VintcNobody.code []) 2 [1, 11, 12, 13] [.ptr (some a1), .sl a2, .int .i64 a3, .int .i64 a4] h) hself), hself, trivial⟩ palisadelaw20_VintcNobody.p2 (fuel := 3000) (by rw [← palisadelaw20_VintcNobody.e2]; exact hb) hm s f hp
  · exact hk.elim

theorem palisadelaw20_VintcNobody.e : ∀ (a1 : Int) (a2 : Int) (a3 : Int) (a4 : Int) (a5 : Bool) (Q : Bool → Heap → Prop) (h : Heap), palisadelaw20_VintcNobody a1 a2 a3 a4 a5 Q h = pts (palisadelaw20_VintcNobody.E Q [(2, ([1, 11, 12, 13], palisadelaw20_VintcNobody.k2 (fun a1 a2 a3 a4 h => palisadelaw20_VintcNobody.j2  a1 a2 a3 a4 Q h)))]) 3000 true [.code palisadelaw20_VintcNobody.code] (frOf 0 [.agg [.int .i64 a1, .int .i64 a2, .int .i64 a3, .int .i64 a4, .bool a5]]) h := by
  intros; kernel_rfl

theorem palisadelaw20_VintcNobody.S {W0 : World} : FnS sg W0 22 palisadelaw20_VintcNobody.C := by
  intro vs κ h wv hx w s
  unfold palisadelaw20_VintcNobody.C at hx
  split at hx
  · rename_i a1 a2 a3 a4 a5
    refine postImp (ret := palisadelaw20_VintcNobody.ret (fun r1 h => κ (.bool r1) h)) (fun v h hr => by unfold palisadelaw20_VintcNobody.ret at hr; split at hr; exact hr; exact hr.elim) ?_
    exact calls_of_pts (E := palisadelaw20_VintcNobody.E (fun r1 h => κ (.bool r1) h) [(2, ([1, 11, 12, 13], palisadelaw20_VintcNobody.k2 (fun a1 a2 a3 a4 h => palisadelaw20_VintcNobody.j2  a1 a2 a3 a4 (fun r1 h => κ (.bool r1) h) h)))]) (envOK seatOK palisadelaw20_VintcNobody.callsOK noIfc_ok) seatOK.mixed palisadelaw20_VintcNobody.fun (Nat.le_of_ble_eq_true rfl) wv (cutL_ok ⟨(palisadelaw20_VintcNobody.s2 (fun r1 h => κ (.bool r1) h)), trivial⟩) s (fuel := 3000) (by rw [← palisadelaw20_VintcNobody.e]; exact hx)
  · exact hx.elim

noncomputable def palisaderef20_New.code : Code := Go.Proofs.Try.f24.body.getD .skip

theorem palisaderef20_New.fun : Fun sg.P 24 32 [.tmp 2, .tmp 3] palisaderef20_New.code := mkFun Go.Proofs.Try.func24 (by kernel_rfl) (by kernel_rfl) (by kernel_rfl) (by kernel_rfl)

def palisaderef20_New.ret (Q : (Option Ptr) → Int → Heap → Prop) (v : V) (h : Heap) : Prop :=
  match v with
  | .tup [.ptr r1, .int .i64 r2] => Q r1 r2 h
  | _ => False

def palisaderef20_New.C (vs : List V) (κ : V → Heap → Prop) (h : Heap) : Prop :=
  match vs with
  | [.int .i64 a1] => palisaderef20_New a1 (fun r1 r2 h => κ (.tup [.ptr r1, .int .i64 r2]) h) h
  | _ => False

noncomputable def palisaderef20_New.calls : List (Nat × (List V → (V → Heap → Prop) → Heap → Prop)) := []

noncomputable def palisaderef20_New.E (Q : (Option Ptr) → Int → Heap → Prop) (cuts : List (Nat × (List Nat × (List V → Heap → Prop)))) : Env := { tis := tisT, fns := fnsT, tys := tysT, calls := palisaderef20_New.calls, ifc := noIfc, cuts := cuts, ret := palisaderef20_New.ret Q, rets := [.tmp 2, .tmp 3], n := 32 }

theorem palisaderef20_New.callsOK {W0 : World} : CallsOK sg W0 palisaderef20_New.calls := trivial

def palisaderef20_New.k2 (I : Heap → Prop) (vs : List V) (h : Heap) : Prop :=
  match vs with
  | [] => I  h
  | _ => False

def palisaderef20_New.k5 (I : Ptr → Int → Heap → Prop) (vs : List V) (h : Heap) : Prop :=
  match vs with
  | [.ptr (some a1), .int .i64 a2] => I a1 a2 h
  | _ => False

theorem palisaderef20_New.p2 : (posC palisaderef20_New.code []).filter (fun p => Nat.beq p.1 2) = [(2, atPos (posC palisaderef20_New.code []) 2)] := by kernel_rfl

theorem palisaderef20_New.e2 : ∀   (Q : (Option Ptr) → Int → Heap → Prop) (h : Heap), palisaderef20_New.j2   Q h = pts (palisaderef20_New.E Q []) 3000 true (atPos (posC palisaderef20_New.code []) 2) (frAt [] []) h := by
  intros; kernel_rfl

theorem palisaderef20_New.s2 {W0 : World} (Q : (Option Ptr) → Int → Heap → Prop)   : CutOK sg W0 32 (entered 24) (Post sg W0 (palisaderef20_New.ret Q)) (posC palisaderef20_New.code []) 2 [] (palisaderef20_New.k2 (fun  h => palisaderef20_New.j2   Q h)) := by
  refine cutOK_head (fun vs h hk => ?_)
  unfold palisaderef20_New.k2 at hk
  split at hk
  · skip
    intro todo hm ρ a w s f hp
    exact piece (E := palisaderef20_New.E Q []) (vs := []) (envOK seatOK palisaderef20_New.callsOK noIfc_ok) (fnOK seatOK palisaderef20_New.fun) trivial palisaderef20_New.p2 (fuel := 3000) (by rw [← palisaderef20_New.e2]; exact hk) hm s f hp
  · exact hk.elim

theorem palisaderef20_New.p5 : (posC palisaderef20_New.code []).filter (fun p => Nat.beq p.1 5) = [(5, atPos (posC palisaderef20_New.code []) 5)] := by kernel_rfl

theorem palisaderef20_New.e5 : ∀  (I5 : Ptr → Int → Heap → Prop) (a1 : Ptr) (a2 : Int) (Q : (Option Ptr) → Int → Heap → Prop) (h : Heap), palisaderef20_New.b5  I5 a1 a2 Q h = pts (palisaderef20_New.E Q [(5, ([4, 5], palisaderef20_New.k5 I5))]) 3000 true (atPos (posC palisaderef20_New.code []) 5) (frAt [4, 5] [.ptr (some a1), .int .i64 a2]) h := by
  intros; kernel_rfl

theorem palisaderef20_New.s5 {W0 : World} (Q : (Option Ptr) → Int → Heap → Prop)   : CutOK sg W0 32 (entered 24) (Post sg W0 (palisaderef20_New.ret Q)) (posC palisaderef20_New.code []) 5 [4, 5] (palisaderef20_New.k5 (fun a1 a2 h => palisaderef20_New.j5  a1 a2 Q h)) := by
  refine cutOK_head (fun vs h hk => ?_)
  unfold palisaderef20_New.k5 at hk
  split at hk
  · rename_i a1 a2
    refine hk (fun a1 a2 h => Head sg W0 32 (entered 24) (Post sg W0 (palisaderef20_New.ret Q)) (posC palisaderef20_New.code []) 5 [4, 5] [.ptr (some a1), .int .i64 a2] h) ?_
    intro a1 a2 h hb todo hm ρ a w s f hp
    have hself : CutOK sg W0 32 (entered 24) (Post sg W0 (palisaderef20_New.ret Q)) (posC palisaderef20_New.code []) 5 [4, 5] (palisaderef20_New.k5 (fun a1 a2 h => Head sg W0 32 (entered 24) (Post sg W0 (palisaderef20_New.ret Q)) (posC palisaderef20_New.code []) 5 [4, 5] [.ptr (some a1), .int .i64 a2] h)) := cutOK_head (fun vs h hk => by unfold palisaderef20_New.k5 at hk; split at hk; exact hk; exact hk.elim)
    exact piece (E := palisaderef20_New.E Q [(5, ([4, 5], palisaderef20_New.k5 (fun a1 a2 h => Head sg W0 32 (entered 24) (Post sg W0 (palisaderef20_New.ret Q)) (posC palisaderef20_New.code []) 5 [4, 5] [.ptr (some a1), .int .i64 a2] h)))]) (vs := [.ptr (some a1), .int .i64 a2]) (envOK seatOK palisaderef20_New.callsOK noIfc_ok) (fnOK seatOK palisaderef20_New.fun) ⟨hself, trivial⟩ palisaderef20_New.p5 (fuel := 3000) (by rw [← palisaderef20_New.e5]; exact hb) hm s f hp
  · exact hk.elim

theorem palisaderef20_New.e : ∀ (a1 : Int) (Q : (Option Ptr) → Int → Heap → Prop) (h : Heap), palisaderef20_New a1 Q h = pts (palisaderef20_New.E Q [(2, ([], palisaderef20_New.k2 (fun  h => palisaderef20_New.j2   Q h))), (5, ([4, 5], palisaderef20_New.k5 (fun a1 a2 h => palisaderef20_New.j5  a1 a2 Q h)))]) 3000 true [.code palisaderef20_New.code] (frOf 0 [.int .i64 a1]) h := by
  intros; kernel_rfl

theorem palisaderef20_New.S {W0 : World} : FnS sg W0 23 palisaderef20_New.C := by
  intro vs κ h wv hx w s
  unfold palisaderef20_New.C at hx
  split at hx
  · rename_i a1
    refine postImp (ret := palisaderef20_New.ret (fun r1 r2 h => κ (.tup [.ptr r1, .int .i64 r2]) h)) (fun v h hr => by unfold palisaderef20_New.ret at hr; split at hr; exact hr; exact hr.elim) ?_
    exact calls_of_pts (E := palisaderef20_New.E (fun r1 r2 h => κ (.tup [.ptr r1, .int .i64 r2]) h) [(2, ([], palisaderef20_New.k2 (fun  h => palisaderef20_New.j2   (fun r1 r2 h => κ (.tup [.ptr r1, .int .i64 r2]) h) h))), (5, ([4, 5], palisaderef20_New.k5 (fun a1 a2 h => palisaderef20_New.j5  a1 a2 (fun r1 r2 h => κ (.tup [.ptr r1, .int .i64 r2]) h) h)))]) (envOK seatOK palisaderef20_New.callsOK noIfc_ok) seatOK.mixed palisaderef20_New.fun (Nat.le_of_ble_eq_true rfl) wv (cutL_ok ⟨(palisaderef20_New.s2 (fun r1 r2 h => κ (.tup [.ptr r1, .int .i64 r2]) h)), (palisaderef20_New.s5 (fun r1 r2 h => κ (.tup [.ptr r1, .int .i64 r2]) h)), trivial⟩) s (fuel := 3000) (by rw [← palisaderef20_New.e]; exact hx)
  · exact hx.elim

noncomputable def palisadelaw20_names.code : Code := Go.Proofs.Try.f25.body.getD .skip

theorem palisadelaw20_names.fun : Fun sg.P 25 1 [.tmp 0] palisadelaw20_names.code := mkFun Go.Proofs.Try.func25 (by kernel_rfl) (by kernel_rfl) (by kernel_rfl) (by kernel_rfl)

def palisadelaw20_names.ret (Q : Bool → Heap → Prop) (v : V) (h : Heap) : Prop :=
  match v with
  | .bool r1 => Q r1 h
  | _ => False

def palisadelaw20_names.C (vs : List V) (κ : V → Heap → Prop) (h : Heap) : Prop :=
  match vs with
  | [] => palisadelaw20_names  (fun r1 h => κ (.bool r1) h) h
  | _ => False

noncomputable def palisadelaw20_names.calls : List (Nat × (List V → (V → Heap → Prop) → Heap → Prop)) := []

noncomputable def palisadelaw20_names.E (Q : Bool → Heap → Prop) (cuts : List (Nat × (List Nat × (List V → Heap → Prop)))) : Env := { tis := tisT, fns := fnsT, tys := tysT, calls := palisadelaw20_names.calls, ifc := noIfc, cuts := cuts, ret := palisadelaw20_names.ret Q, rets := [.tmp 0], n := 1 }

theorem palisadelaw20_names.callsOK {W0 : World} : CallsOK sg W0 palisadelaw20_names.calls := trivial

theorem palisadelaw20_names.e : ∀  (Q : Bool → Heap → Prop) (h : Heap), palisadelaw20_names  Q h = pts (palisadelaw20_names.E Q []) 3000 true [.code palisadelaw20_names.code] (frOf 0 []) h := by
  intros; kernel_rfl

theorem palisadelaw20_names.S {W0 : World} : FnS sg W0 24 palisadelaw20_names.C := by
  intro vs κ h wv hx w s
  unfold palisadelaw20_names.C at hx
  split at hx
  · skip
    refine postImp (ret := palisadelaw20_names.ret (fun r1 h => κ (.bool r1) h)) (fun v h hr => by unfold palisadelaw20_names.ret at hr; split at hr; exact hr; exact hr.elim) ?_
    exact calls_of_pts (E := palisadelaw20_names.E (fun r1 h => κ (.bool r1) h) []) (envOK seatOK palisadelaw20_names.callsOK noIfc_ok) seatOK.mixed palisadelaw20_names.fun (Nat.le_of_ble_eq_true rfl) wv (cutL_ok trivial) s (fuel := 3000) (by rw [← palisadelaw20_names.e]; exact hx)
  · exact hx.elim

noncomputable def palisaderef20_Is.code : Code := Go.Proofs.Try.f29.body.getD .skip

theorem palisaderef20_Is.fun : Fun sg.P 29 9 [.tmp 2] palisaderef20_Is.code := mkFun Go.Proofs.Try.func29 (by kernel_rfl) (by kernel_rfl) (by kernel_rfl) (by kernel_rfl)

def palisaderef20_Is.ret (Q : Bool → Heap → Prop) (v : V) (h : Heap) : Prop :=
  match v with
  | .bool r1 => Q r1 h
  | _ => False

def palisaderef20_Is.C (vs : List V) (κ : V → Heap → Prop) (h : Heap) : Prop :=
  match vs with
  | [.int .i64 a1] => palisaderef20_Is a1 (fun r1 h => κ (.bool r1) h) h
  | _ => False

noncomputable def palisaderef20_Is.calls : List (Nat × (List V → (V → Heap → Prop) → Heap → Prop)) := []

noncomputable def palisaderef20_Is.E (Q : Bool → Heap → Prop) (cuts : List (Nat × (List Nat × (List V → Heap → Prop)))) : Env := { tis := tisT, fns := fnsT, tys := tysT, calls := palisaderef20_Is.calls, ifc := noIfc, cuts := cuts, ret := palisaderef20_Is.ret Q, rets := [.tmp 2], n := 9 }

theorem palisaderef20_Is.callsOK {W0 : World} : CallsOK sg W0 palisaderef20_Is.calls := trivial

theorem palisaderef20_Is.e : ∀ (a1 : Int) (Q : Bool → Heap → Prop) (h : Heap), palisaderef20_Is a1 Q h = pts (palisaderef20_Is.E Q []) 3000 true [.code palisaderef20_Is.code] (frOf 0 [.int .i64 a1]) h := by
  intros; kernel_rfl

theorem palisaderef20_Is.S {W0 : World} : FnS sg W0 25 palisaderef20_Is.C := by
  intro vs κ h wv hx w s
  unfold palisaderef20_Is.C at hx
  split at hx
  · rename_i a1
    refine postImp (ret := palisaderef20_Is.ret (fun r1 h => κ (.bool r1) h)) (fun v h hr => by unfold palisaderef20_Is.ret at hr; split at hr; exact hr; exact hr.elim) ?_
    exact calls_of_pts (E := palisaderef20_Is.E (fun r1 h => κ (.bool r1) h) []) (envOK seatOK palisaderef20_Is.callsOK noIfc_ok) seatOK.mixed palisaderef20_Is.fun (Nat.le_of_ble_eq_true rfl) wv (cutL_ok trivial) s (fuel := 3000) (by rw [← palisaderef20_Is.e]; exact hx)
  · exact hx.elim

noncomputable def palisaderef20_Intc_Has.code : Code := Go.Proofs.Try.f27.body.getD .skip

theorem palisaderef20_Intc_Has.fun : Fun sg.P 27 15 [.tmp 4] palisaderef20_Intc_Has.code := mkFun Go.Proofs.Try.func27 (by kernel_rfl) (by kernel_rfl) (by kernel_rfl) (by kernel_rfl)

def palisaderef20_Intc_Has.ret (Q : Bool → Heap → Prop) (v : V) (h : Heap) : Prop :=
  match v with
  | .bool r1 => Q r1 h
  | _ => False

def palisaderef20_Intc_Has.C (vs : List V) (κ : V → Heap → Prop) (h : Heap) : Prop :=
  match vs with
  | [.ptr a1, .int .i64 a2] => palisaderef20_Intc_Has a1 a2 (fun r1 h => κ (.bool r1) h) h
  | _ => False

noncomputable def palisaderef20_Intc_Has.calls : List (Nat × (List V → (V → Heap → Prop) → Heap → Prop)) := []

noncomputable def palisaderef20_Intc_Has.E (Q : Bool → Heap → Prop) (cuts : List (Nat × (List Nat × (List V → Heap → Prop)))) : Env := { tis := tisT, fns := fnsT, tys := tysT, calls := palisaderef20_Intc_Has.calls, ifc := noIfc, cuts := cuts, ret := palisaderef20_Intc_Has.ret Q, rets := [.tmp 4], n := 15 }

theorem palisaderef20_Intc_Has.callsOK {W0 : World} : CallsOK sg W0 palisaderef20_Intc_Has.calls := trivial

theorem palisaderef20_Intc_Has.e : ∀ (a1 : Option Ptr) (a2 : Int) (Q : Bool → Heap → Prop) (h : Heap), palisaderef20_Intc_Has a1 a2 Q h = pts (palisaderef20_Intc_Has.E Q []) 3000 true [.code palisaderef20_Intc_Has.code] (frOf 0 [.ptr a1, .int .i64 a2]) h := by
  intros; kernel_rfl

theorem palisaderef20_Intc_Has.S {W0 : World} : FnS sg W0 26 palisaderef20_Intc_Has.C := by
  intro vs κ h wv hx w s
  unfold palisaderef20_Intc_Has.C at hx
  split at hx
  · rename_i a1 a2
    refine postImp (ret := palisaderef20_Intc_Has.ret (fun r1 h => κ (.bool r1) h)) (fun v h hr => by unfold palisaderef20_Intc_Has.ret at hr; split at hr; exact hr; exact hr.elim) ?_
    exact calls_of_pts (E := palisaderef20_Intc_Has.E (fun r1 h => κ (.bool r1) h) []) (envOK seatOK palisaderef20_Intc_Has.callsOK noIfc_ok) seatOK.mixed palisaderef20_Intc_Has.fun (Nat.le_of_ble_eq_true rfl) wv (cutL_ok trivial) s (fuel := 3000) (by rw [← palisaderef20_Intc_Has.e]; exact hx)
  · exact hx.elim

noncomputable def palisaderef20_Intc_Enable.code : Code := Go.Proofs.Try.f60.body.getD .skip

theorem palisaderef20_Intc_Enable.fun : Fun sg.P 60 27 [.tmp 8] palisaderef20_Intc_Enable.code := mkFun Go.Proofs.Try.func60 (by kernel_rfl) (by kernel_rfl) (by kernel_rfl) (by kernel_rfl)

def palisaderef20_Intc_Enable.ret (Q : Int → Heap → Prop) (v : V) (h : Heap) : Prop :=
  match v with
  | .int .i64 r1 => Q r1 h
  | _ => False

def palisaderef20_Intc_Enable.C (vs : List V) (κ : V → Heap → Prop) (h : Heap) : Prop :=
  match vs with
  | [.ptr a1, .int .i64 a2, .int .i64 a3, .bool a4] => palisaderef20_Intc_Enable a1 a2 a3 a4 (fun r1 h => κ (.int .i64 r1) h) h
  | _ => False

noncomputable def palisaderef20_Intc_Enable.calls : List (Nat × (List V → (V → Heap → Prop) → Heap → Prop)) := [(26, palisaderef20_Intc_Has.C), (25, palisaderef20_Is.C)]

noncomputable def palisaderef20_Intc_Enable.E (Q : Int → Heap → Prop) (cuts : List (Nat × (List Nat × (List V → Heap → Prop)))) : Env := { tis := tisT, fns := fnsT, tys := tysT, calls := palisaderef20_Intc_Enable.calls, ifc := noIfc, cuts := cuts, ret := palisaderef20_Intc_Enable.ret Q, rets := [.tmp 8], n := 27 }

theorem palisaderef20_Intc_Enable.callsOK {W0 : World} : CallsOK sg W0 palisaderef20_Intc_Enable.calls := ⟨palisaderef20_Intc_Has.S, palisaderef20_Is.S, trivial⟩

theorem palisaderef20_Intc_Enable.e : ∀ (a1 : Option Ptr) (a2 : Int) (a3 : Int) (a4 : Bool) (Q : Int → Heap → Prop) (h : Heap), palisaderef20_Intc_Enable a1 a2 a3 a4 Q h = pts (palisaderef20_Intc_Enable.E Q []) 3000 true [.code palisaderef20_Intc_Enable.code] (frOf 0 [.ptr a1, .int .i64 a2, .int .i64 a3, .bool a4]) h := by
  intros; kernel_rfl

theorem palisaderef20_Intc_Enable.S {W0 : World} : FnS sg W0 27 palisaderef20_Intc_Enable.C := by
  intro vs κ h wv hx w s
  unfold palisaderef20_Intc_Enable.C at hx
  split at hx
  · rename_i a1 a2 a3 a4
    refine postImp (ret := palisaderef20_Intc_Enable.ret (fun r1 h => κ (.int .i64 r1) h)) (fun v h hr => by unfold palisaderef20_Intc_Enable.ret at hr; split at hr; exact hr; exact hr.elim) ?_
    exact calls_of_pts (E := palisaderef20_Intc_Enable.E (fun r1 h => κ (.int .i64 r1) h) []) (envOK seatOK palisaderef20_Intc_Enable.callsOK noIfc_ok) seatOK.mixed palisaderef20_Intc_Enable.fun (Nat.le_of_ble_eq_true rfl) wv (cutL_ok trivial) s (fuel := 3000) (by rw [← palisaderef20_Intc_Enable.e]; exact hx)
  · exact hx.elim

noncomputable def palisaderef20_Intc_First.code : Code := Go.Proofs.Try.f28.body.getD .skip

theorem palisaderef20_Intc_First.fun : Fun sg.P 28 60 [.tmp 4] palisaderef20_Intc_First.code := mkFun Go.Proofs.Try.func28 (by kernel_rfl) (by kernel_rfl) (by kernel_rfl) (by kernel_rfl)

def palisaderef20_Intc_First.ret (Q : Int → Heap → Prop) (v : V) (h : Heap) : Prop :=
  match v with
  | .int .i64 r1 => Q r1 h
  | _ => False

def palisaderef20_Intc_First.C (vs : List V) (κ : V → Heap → Prop) (h : Heap) : Prop :=
  match vs with
  | [.ptr a1, .int .i64 a2] => palisaderef20_Intc_First a1 a2 (fun r1 h => κ (.int .i64 r1) h) h
  | _ => False

noncomputable def palisaderef20_Intc_First.calls : List (Nat × (List V → (V → Heap → Prop) → Heap → Prop)) := []

noncomputable def palisaderef20_Intc_First.E (Q : Int → Heap → Prop) (cuts : List (Nat × (List Nat × (List V → Heap → Prop)))) : Env := { tis := tisT, fns := fnsT, tys := tysT, calls := palisaderef20_Intc_First.calls, ifc := noIfc, cuts := cuts, ret := palisaderef20_Intc_First.ret Q, rets := [.tmp 4], n := 60 }

theorem palisaderef20_Intc_First.callsOK {W0 : World} : CallsOK sg W0 palisaderef20_Intc_First.calls := trivial

def palisaderef20_Intc_First.k4 (I : (Option Ptr) → Int → Int → Int → Heap → Prop) (vs : List V) (h : Heap) : Prop :=
  match vs with
  | [.ptr a1, .int .i64 a2, .int .i64 a3, .int .i64 a4] => I a1 a2 a3 a4 h
  | _ => False

def palisaderef20_Intc_First.k7 (I : (Option Ptr) → Int → Int → Heap → Prop) (vs : List V) (h : Heap) : Prop :=
  match vs with
  | [.ptr a1, .int .i64 a2, .int .i64 a3] => I a1 a2 a3 h
  | _ => False

def palisaderef20_Intc_First.k3 (I : (Option Ptr) → Int → Int → Int → Heap → Prop) (vs : List V) (h : Heap) : Prop :=
  match vs with
  | [.ptr a1, .int .i64 a2, .int .i64 a3, .int .i64 a4] => I a1 a2 a3 a4 h
  | _ => False

theorem palisaderef20_Intc_First.p4 : (posC palisaderef20_Intc_First.code []).filter (fun p => Nat.beq p.1 4) = [(4, atPos (posC palisaderef20_Intc_First.code []) 4)] := by kernel_rfl

theorem palisaderef20_Intc_First.e4 : ∀ (I3 : (Option Ptr) → Int → Int → Int → Heap → Prop) (a1 : Option Ptr) (a2 : Int) (a3 : Int) (a4 : Int) (Q : Int → Heap → Prop) (h : Heap), palisaderef20_Intc_First.j4 I3 a1 a2 a3 a4 Q h = pts (palisaderef20_Intc_First.E Q [(3, ([0, 1, 5, 6], palisaderef20_Intc_First.k3 I3))]) 3000 true (atPos (posC palisaderef20_Intc_First.code []) 4) (frAt [0, 1, 5, 6] [.ptr a1, .int .i64 a2, .int .i64 a3, .int .i64 a4]) h := by
  intros; kernel_rfl

theorem palisaderef20_Intc_First.s4 {W0 : World} (Q : Int → Heap → Prop) (I3 : (Option Ptr) → Int → Int → Int → Heap → Prop) (h3 : CutOK sg W0 60 (entered 28) (Post sg W0 (palisaderef20_Intc_First.ret Q)) (posC palisaderef20_Intc_First.code []) 3 [0, 1, 5, 6] (palisaderef20_Intc_First.k3 I3)) : CutOK sg W0 60 (entered 28) (Post sg W0 (palisaderef20_Intc_First.ret Q)) (posC palisaderef20_Intc_First.code []) 4 [0, 1, 5, 6] (palisaderef20_Intc_First.k4 (fun a1 a2 a3 a4 h => palisaderef20_Intc_First.j4 I3 a1 a2 a3 a4 Q h)) := by
  refine cutOK_head (fun vs h hk => ?_)
  unfold palisaderef20_Intc_First.k4 at hk
  split at hk
  · rename_i a1 a2 a3 a4
    intro todo hm ρ a w s f hp
    exact piece (E := palisaderef20_Intc_First.E Q [(3, ([0, 1, 5, 6], palisaderef20_Intc_First.k3 I3))]) (vs := [.ptr a1, .int .i64 a2, .int .i64 a3, .int .i64 a4]) (envOK seatOK palisaderef20_Intc_First.callsOK noIfc_ok) (fnOK seatOK palisaderef20_Intc_First.fun) ⟨h3, trivial⟩ palisaderef20_Intc_First.p4 (fuel := 3000) (by rw [← palisaderef20_Intc_First.e4]; exact hk) hm s f hp
  · exact hk.elim

theorem palisaderef20_Intc_First.p7 : (posC palisaderef20_Intc_First.code []).filter (fun p => Nat.beq p.1 7) = [(7, atPos (posC palisaderef20_Intc_First.code []) 7)] := by kernel_rfl

theorem palisaderef20_Intc_First.e7 : ∀ (I3 : (Option Ptr) → Int → Int → Int → Heap → Prop) (a1 : Option Ptr) (a2 : Int) (a3 : Int) (Q : Int → Heap → Prop) (h : Heap), palisaderef20_Intc_First.j7 I3 a1 a2 a3 Q h = pts (palisaderef20_Intc_First.E Q [(4, ([0, 1, 5, 6], palisaderef20_Intc_First.k4 (fun a1 a2 a3 a4 h => palisaderef20_Intc_First.j4 I3 a1 a2 a3 a4 Q h)))]) 3000 true (atPos (posC palisaderef20_Intc_First.code []) 7) (frAt [0, 1, 6] [.ptr a1, .int .i64 a2, .int .i64 a3]) h := by
  intros; kernel_rfl

theorem palisaderef20_Intc_First.s7 {W0 : World} (Q : Int → Heap → Prop) (I3 : (Option Ptr) → Int → Int → Int → Heap → Prop) (h3 : CutOK sg W0 60 (entered 28) (Post sg W0 (palisaderef20_Intc_First.ret Q)) (posC palisaderef20_Intc_First.code []) 3 [0, 1, 5, 6] (palisaderef20_Intc_First.k3 I3)) : CutOK sg W0 60 (entered 28) (Post sg W0 (palisaderef20_Intc_First.ret Q)) (posC palisaderef20_Intc_First.code []) 7 [0, 1, 6] (palisaderef20_Intc_First.k7 (fun a1 a2 a3 h => palisaderef20_Intc_First.j7 I3 a1 a2 a3 Q h)) := by
  refine cutOK_head (fun vs h hk => ?_)
  unfold palisaderef20_Intc_First.k7 at hk
  split at hk
  · rename_i a1 a2 a3
    intro todo hm ρ a w s f hp
    exact piece (E := palisaderef20_Intc_First.E Q [(4, ([0, 1, 5, 6], palisaderef20_Intc_First.k4 (fun a1 a2 a3 a4 h => palisaderef20_Intc_First.j4 I3 a1 a2 a3 a4 Q h)))]) (vs := [.ptr a1, .int .i64 a2, .int .i64 a3]) (envOK seatOK palisaderef20_Intc_First.callsOK noIfc_ok) (fnOK seatOK palisaderef20_Intc_First.fun) ⟨(palisaderef20_Intc_First.s4 Q I3 h3), trivial⟩ palisaderef20_Intc_First.p7 (fuel := 3000) (by rw [← palisaderef20_Intc_First.e7]; exact hk) hm s f hp
  · exact hk.elim

theorem palisaderef20_Intc_First.p3 : (posC palisaderef20_Intc_First.code []).filter (fun p => Nat.beq p.1 3) = [(3, atPos (posC palisaderef20_Intc_First.code []) 3)] := by kernel_rfl

theorem palisaderef20_Intc_First.e3 : ∀  (I3 : (Option Ptr) → Int → Int → Int → Heap → Prop) (a1 : Option Ptr) (a2 : Int) (a3 : Int) (a4 : Int) (Q : Int → Heap → Prop) (h : Heap), palisaderef20_Intc_First.b3  I3 a1 a2 a3 a4 Q h = pts (palisaderef20_Intc_First.E Q [(7, ([0, 1, 6], palisaderef20_Intc_First.k7 (fun a1 a2 a3 h => palisaderef20_Intc_First.j7 I3 a1 a2 a3 Q h))), (4, ([0, 1, 5, 6], palisaderef20_Intc_First.k4 (fun a1 a2 a3 a4 h => palisaderef20_Intc_First.j4 I3 a1 a2 a3 a4 Q h)))]) 3000 true (atPos (posC palisaderef20_Intc_First.code []) 3) (frAt [0, 1, 5, 6] [.ptr a1, .int .i64 a2, .int .i64 a3, .int .i64 a4]) h := by
  intros; kernel_rfl

theorem palisaderef20_Intc_First.s3 {W0 : World} (Q : Int → Heap → Prop)   : CutOK sg W0 60 (entered 28) (Post sg W0 (palisaderef20_Intc_First.ret Q)) (posC palisaderef20_Intc_First.code []) 3 [0, 1, 5, 6] (palisaderef20_Intc_First.k3 (fun a1 a2 a3 a4 h => palisaderef20_Intc_First.j3  a1 a2 a3 a4 Q h)) := by
  refine cutOK_head (fun vs h hk => ?_)
  unfold palisaderef20_Intc_First.k3 at hk
  split at hk
  · rename_i a1 a2 a3 a4
    refine hk (fun a1 a2 a3 a4 h => Head sg W0 60 (entered 28) (Post sg W0 (palisaderef20_Intc_First.ret Q)) (posC palisaderef20_Intc_First.code []) 3 [0, 1, 5, 6] [.ptr a1, .int .i64 a2, .int .i64 a3, .int .i64 a4] h) ?_
    intro a1 a2 a3 a4 h hb todo hm ρ a w s f hp
    have hself : CutOK sg W0 60 (entered 28) (Post sg W0 (palisaderef20_Intc_First.ret Q)) (posC palisaderef20_Intc_First.code []) 3 [0, 1, 5, 6] (palisaderef20_Intc_First.k3 (fun a1 a2 a3 a4 h => Head sg W0 60 (entered 28) (Post sg W0 (palisaderef20_Intc_First.ret Q)) (posC palisaderef20_Intc_First.code []) 3 [0, 1, 5, 6] [.ptr a1, .int .i64 a2, .int .i64 a3, .int .i64 a4] h)) := cutOK_head (fun vs h hk => by unfold palisaderef20_Intc_First.k3 at hk; split at hk; exact hk; exact hk.elim)
    exact piece (E := palisaderef20_Intc_First.E Q [(7, ([0, 1, 6], palisaderef20_Intc_First.k7 (fun a1 a2 a3 h => palisaderef20_Intc_First.j7 (fun a1 a2 a3 a4 h => Head sg W0 60 (entered 28) (Post sg W0 (palisaderef20_Intc_First.ret Q)) (posC palisaderef20_Intc_First.code []) 3 [0, 1, 5, 6] [.ptr a1, .int .i64 a2, .int .i64 a3, .int .i64 a4] h) a1 a2 a3 Q h))), (4, ([0, 1, 5, 6], palisaderef20_Intc_First.k4 (fun a1 a2 a3 a4 h => palisaderef20_Intc_First.j4 (fun a1 a2 a3 a4 h => Head sg W0 60 (entered 28) (Post sg W0 (palisaderef20_Intc_First.ret Q)) (posC palisaderef20_Intc_First.code []) 3 [0, 1, 5, 6] [.ptr a1, .int .i64 a2, .int .i64 a3, .int .i64 a4] h) a1 a2 a3 a4 Q h)))]) (vs := [.ptr a1, .int .i64 a2, .int .i64 a3, .int .i64 a4]) (envOK seatOK palisaderef20_Intc_First.callsOK noIfc_ok) (fnOK seatOK palisaderef20_Intc_First.fun) ⟨(palisaderef20_Intc_First.s7 Q (fun a1 a2 a3 a4 h => Head sg W0 60 (entered 28) (Post sg W0 (palisaderef20_Intc_First.ret Q)) (posC palisaderef20_Intc_First.code []) 3 [0, 1, 5, 6] [.ptr a1, .int .i64 a2, .int .i64 a3, .int .i64 a4] h) hself), (palisaderef20_Intc_First.s4 Q (fun a1 a2 a3 a4 h => Head sg W0 60 (entered 28) (Post sg W0 (palisaderef20_Intc_First.ret Q)) (posC palisaderef20_Intc_First.code []) 3 [0, 1, 5, 6] [.ptr a1, .int .i64 a2, .int .i64 a3, .int .i64 a4] h) hself), trivial⟩ palisaderef20_Intc_First.p3 (fuel := 3000) (by rw [← palisaderef20_Intc_First.e3]; exact hb) hm s f hp
  · exact hk.elim

theorem palisaderef20_Intc_First.e : ∀ (a1 : Option Ptr) (a2 : Int) (Q : Int → Heap → Prop) (h : Heap), palisaderef20_Intc_First a1 a2 Q h = pts (palisaderef20_Intc_First.E Q [(3, ([0, 1, 5, 6], palisaderef20_Intc_First.k3 (fun a1 a2 a3 a4 h => palisaderef20_Intc_First.j3  a1 a2 a3 a4 Q h)))]) 3000 true [.code palisaderef20_Intc_First.code] (frOf 0 [.ptr a1, .int .i64 a2]) h := by
  intros; kernel_rfl

theorem palisaderef20_Intc_First.S {W0 : World} : FnS sg W0 66 palisaderef20_Intc_First.C := by
  intro vs κ h wv hx w s
  unfold palisaderef20_Intc_First.C at hx
  split at hx
  · rename_i a1 a2
    refine postImp (ret := palisaderef20_Intc_First.ret (fun r1 h => κ (.int .i64 r1) h)) (fun v h hr => by unfold palisaderef20_Intc_First.ret at hr; split at hr; exact hr; exact hr.elim) ?_
    exact calls_of_pts (E := palisaderef20_Intc_First.E (fun r1 h => κ (.int .i64 r1) h) [(3, ([0, 1, 5, 6], palisaderef20_Intc_First.k3 (fun a1 a2 a3 a4 h => palisaderef20_Intc_First.j3  a1 a2 a3 a4 (fun r1 h => κ (.int .i64 r1) h) h)))]) (envOK seatOK palisaderef20_Intc_First.callsOK noIfc_ok) seatOK.mixed palisaderef20_Intc_First.fun (Nat.le_of_ble_eq_true rfl) wv (cutL_ok ⟨(palisaderef20_Intc_First.s3 (fun r1 h => κ (.int .i64 r1) h)), trivial⟩) s (fuel := 3000) (by rw [← palisaderef20_Intc_First.e]; exact hx)
  · exact hx.elim

noncomputable def palisaderef20_Intc_Claim.code : Code := Go.Proofs.Try.f61.body.getD .skip

theorem palisaderef20_Intc_Claim.fun : Fun sg.P 61 30 [.tmp 4, .tmp 5] palisaderef20_Intc_Claim.code := mkFun Go.Proofs.Try.func61 (by kernel_rfl) (by kernel_rfl) (by kernel_rfl) (by kernel_rfl)

def palisaderef20_Intc_Claim.ret (Q : Int → Int → Heap → Prop) (v : V) (h : Heap) : Prop :=
  match v with
  | .tup [.int .i64 r1, .int .i64 r2] => Q r1 r2 h
  | _ => False

def palisaderef20_Intc_Claim.C (vs : List V) (κ : V → Heap → Prop) (h : Heap) : Prop :=
  match vs with
  | [.ptr a1, .int .i64 a2] => palisaderef20_Intc_Claim a1 a2 (fun r1 r2 h => κ (.tup [.int .i64 r1, .int .i64 r2]) h) h
  | _ => False

noncomputable def palisaderef20_Intc_Claim.calls : List (Nat × (List V → (V → Heap → Prop) → Heap → Prop)) := [(26, palisaderef20_Intc_Has.C), (66, palisaderef20_Intc_First.C)]

noncomputable def palisaderef20_Intc_Claim.E (Q : Int → Int → Heap → Prop) (cuts : List (Nat × (List Nat × (List V → Heap → Prop)))) : Env := { tis := tisT, fns := fnsT, tys := tysT, calls := palisaderef20_Intc_Claim.calls, ifc := noIfc, cuts := cuts, ret := palisaderef20_Intc_Claim.ret Q, rets := [.tmp 4, .tmp 5], n := 30 }

theorem palisaderef20_Intc_Claim.callsOK {W0 : World} : CallsOK sg W0 palisaderef20_Intc_Claim.calls := ⟨palisaderef20_Intc_Has.S, palisaderef20_Intc_First.S, trivial⟩

theorem palisaderef20_Intc_Claim.e : ∀ (a1 : Option Ptr) (a2 : Int) (Q : Int → Int → Heap → Prop) (h : Heap), palisaderef20_Intc_Claim a1 a2 Q h = pts (palisaderef20_Intc_Claim.E Q []) 3000 true [.code palisaderef20_Intc_Claim.code] (frOf 0 [.ptr a1, .int .i64 a2]) h := by
  intros; kernel_rfl

theorem palisaderef20_Intc_Claim.S {W0 : World} : FnS sg W0 67 palisaderef20_Intc_Claim.C := by
  intro vs κ h wv hx w s
  unfold palisaderef20_Intc_Claim.C at hx
  split at hx
  · rename_i a1 a2
    refine postImp (ret := palisaderef20_Intc_Claim.ret (fun r1 r2 h => κ (.tup [.int .i64 r1, .int .i64 r2]) h)) (fun v h hr => by unfold palisaderef20_Intc_Claim.ret at hr; split at hr; exact hr; exact hr.elim) ?_
    exact calls_of_pts (E := palisaderef20_Intc_Claim.E (fun r1 r2 h => κ (.tup [.int .i64 r1, .int .i64 r2]) h) []) (envOK seatOK palisaderef20_Intc_Claim.callsOK noIfc_ok) seatOK.mixed palisaderef20_Intc_Claim.fun (Nat.le_of_ble_eq_true rfl) wv (cutL_ok trivial) s (fuel := 3000) (by rw [← palisaderef20_Intc_Claim.e]; exact hx)
  · exact hx.elim

noncomputable def palisaderef20_Intc_Complete.code : Code := Go.Proofs.Try.f62.body.getD .skip

theorem palisaderef20_Intc_Complete.fun : Fun sg.P 62 31 [.tmp 6] palisaderef20_Intc_Complete.code := mkFun Go.Proofs.Try.func62 (by kernel_rfl) (by kernel_rfl) (by kernel_rfl) (by kernel_rfl)

def palisaderef20_Intc_Complete.ret (Q : Int → Heap → Prop) (v : V) (h : Heap) : Prop :=
  match v with
  | .int .i64 r1 => Q r1 h
  | _ => False

def palisaderef20_Intc_Complete.C (vs : List V) (κ : V → Heap → Prop) (h : Heap) : Prop :=
  match vs with
  | [.ptr a1, .int .i64 a2, .int .i64 a3] => palisaderef20_Intc_Complete a1 a2 a3 (fun r1 h => κ (.int .i64 r1) h) h
  | _ => False

noncomputable def palisaderef20_Intc_Complete.calls : List (Nat × (List V → (V → Heap → Prop) → Heap → Prop)) := [(26, palisaderef20_Intc_Has.C), (25, palisaderef20_Is.C)]

noncomputable def palisaderef20_Intc_Complete.E (Q : Int → Heap → Prop) (cuts : List (Nat × (List Nat × (List V → Heap → Prop)))) : Env := { tis := tisT, fns := fnsT, tys := tysT, calls := palisaderef20_Intc_Complete.calls, ifc := noIfc, cuts := cuts, ret := palisaderef20_Intc_Complete.ret Q, rets := [.tmp 6], n := 31 }

theorem palisaderef20_Intc_Complete.callsOK {W0 : World} : CallsOK sg W0 palisaderef20_Intc_Complete.calls := ⟨palisaderef20_Intc_Has.S, palisaderef20_Is.S, trivial⟩

def palisaderef20_Intc_Complete.k2 (I : Heap → Prop) (vs : List V) (h : Heap) : Prop :=
  match vs with
  | [] => I  h
  | _ => False

theorem palisaderef20_Intc_Complete.p2 : (posC palisaderef20_Intc_Complete.code []).filter (fun p => Nat.beq p.1 2) = [(2, atPos (posC palisaderef20_Intc_Complete.code []) 2)] := by kernel_rfl

theorem palisaderef20_Intc_Complete.e2 : ∀   (Q : Int → Heap → Prop) (h : Heap), palisaderef20_Intc_Complete.j2   Q h = pts (palisaderef20_Intc_Complete.E Q []) 3000 true (atPos (posC palisaderef20_Intc_Complete.code []) 2) (frAt [] []) h := by
  intros; kernel_rfl

theorem palisaderef20_Intc_Complete.s2 {W0 : World} (Q : Int → Heap → Prop)   : CutOK sg W0 31 (entered 62) (Post sg W0 (palisaderef20_Intc_Complete.ret Q)) (posC palisaderef20_Intc_Complete.code []) 2 [] (palisaderef20_Intc_Complete.k2 (fun  h => palisaderef20_Intc_Complete.j2   Q h)) := by
  refine cutOK_head (fun vs h hk => ?_)
  unfold palisaderef20_Intc_Complete.k2 at hk
  split at hk
  · skip
    intro todo hm ρ a w s f hp
    exact piece (E := palisaderef20_Intc_Complete.E Q []) (vs := []) (envOK seatOK palisaderef20_Intc_Complete.callsOK noIfc_ok) (fnOK seatOK palisaderef20_Intc_Complete.fun) trivial palisaderef20_Intc_Complete.p2 (fuel := 3000) (by rw [← palisaderef20_Intc_Complete.e2]; exact hk) hm s f hp
  · exact hk.elim

theorem palisaderef20_Intc_Complete.e : ∀ (a1 : Option Ptr) (a2 : Int) (a3 : Int) (Q : Int → Heap → Prop) (h : Heap), palisaderef20_Intc_Complete a1 a2 a3 Q h = pts (palisaderef20_Intc_Complete.E Q [(2, ([], palisaderef20_Intc_Complete.k2 (fun  h => palisaderef20_Intc_Complete.j2   Q h)))]) 3000 true [.code palisaderef20_Intc_Complete.code] (frOf 0 [.ptr a1, .int .i64 a2, .int .i64 a3]) h := by
  intros; kernel_rfl

theorem palisaderef20_Intc_Complete.S {W0 : World} : FnS sg W0 54 palisaderef20_Intc_Complete.C := by
  intro vs κ h wv hx w s
  unfold palisaderef20_Intc_Complete.C at hx
  split at hx
  · rename_i a1 a2 a3
    refine postImp (ret := palisaderef20_Intc_Complete.ret (fun r1 h => κ (.int .i64 r1) h)) (fun v h hr => by unfold palisaderef20_Intc_Complete.ret at hr; split at hr; exact hr; exact hr.elim) ?_
    exact calls_of_pts (E := palisaderef20_Intc_Complete.E (fun r1 h => κ (.int .i64 r1) h) [(2, ([], palisaderef20_Intc_Complete.k2 (fun  h => palisaderef20_Intc_Complete.j2   (fun r1 h => κ (.int .i64 r1) h) h)))]) (envOK seatOK palisaderef20_Intc_Complete.callsOK noIfc_ok) seatOK.mixed palisaderef20_Intc_Complete.fun (Nat.le_of_ble_eq_true rfl) wv (cutL_ok ⟨(palisaderef20_Intc_Complete.s2 (fun r1 h => κ (.int .i64 r1) h)), trivial⟩) s (fuel := 3000) (by rw [← palisaderef20_Intc_Complete.e]; exact hx)
  · exact hx.elim

noncomputable def palisadelaw20_does.code : Code := Go.Proofs.Try.f26.body.getD .skip

theorem palisadelaw20_does.fun : Fun sg.P 26 202 [.tmp 6] palisadelaw20_does.code := mkFun Go.Proofs.Try.func26 (by kernel_rfl) (by kernel_rfl) (by kernel_rfl) (by kernel_rfl)

def palisadelaw20_does.ret (Q : Bool → Heap → Prop) (v : V) (h : Heap) : Prop :=
  match v with
  | .bool r1 => Q r1 h
  | _ => False

def palisadelaw20_does.C (vs : List V) (κ : V → Heap → Prop) (h : Heap) : Prop :=
  match vs with
  | [.ptr a1, .ptr a2, .agg [.int .i64 a3, .int .i64 a4, .int .i64 a5, .int .i64 a6, .bool a7]] => palisadelaw20_does a1 a2 a3 a4 a5 a6 a7 (fun r1 h => κ (.bool r1) h) h
  | _ => False

noncomputable def palisadelaw20_does.calls : List (Nat × (List V → (V → Heap → Prop) → Heap → Prop)) := [(8, vintc_Intc_Raise.C), (10, vintc_Intc_Enable.C), (12, vintc_Intc_Weigh.C), (13, vintc_Intc_Bar.C), (16, vintc_Intc_Claim.C), (17, vintc_Intc_Complete.C), (20, vintc_Intc_Poke.C), (21, vintc_Intc_Soft.C), (26, palisaderef20_Intc_Has.C), (25, palisaderef20_Is.C), (27, palisaderef20_Intc_Enable.C), (67, palisaderef20_Intc_Claim.C), (54, palisaderef20_Intc_Complete.C)]

noncomputable def palisadelaw20_does.E (Q : Bool → Heap → Prop) (cuts : List (Nat × (List Nat × (List V → Heap → Prop)))) : Env := { tis := tisT, fns := fnsT, tys := tysT, calls := palisadelaw20_does.calls, ifc := noIfc, cuts := cuts, ret := palisadelaw20_does.ret Q, rets := [.tmp 6], n := 202 }

theorem palisadelaw20_does.callsOK {W0 : World} : CallsOK sg W0 palisadelaw20_does.calls := ⟨vintc_Intc_Raise.S, vintc_Intc_Enable.S, vintc_Intc_Weigh.S, vintc_Intc_Bar.S, vintc_Intc_Claim.S, vintc_Intc_Complete.S, vintc_Intc_Poke.S, vintc_Intc_Soft.S, palisaderef20_Intc_Has.S, palisaderef20_Is.S, palisaderef20_Intc_Enable.S, palisaderef20_Intc_Claim.S, palisaderef20_Intc_Complete.S, trivial⟩

theorem palisadelaw20_does.e : ∀ (a1 : Option Ptr) (a2 : Option Ptr) (a3 : Int) (a4 : Int) (a5 : Int) (a6 : Int) (a7 : Bool) (Q : Bool → Heap → Prop) (h : Heap), palisadelaw20_does a1 a2 a3 a4 a5 a6 a7 Q h = pts (palisadelaw20_does.E Q []) 3000 true [.code palisadelaw20_does.code] (frOf 0 [.ptr a1, .ptr a2, .agg [.int .i64 a3, .int .i64 a4, .int .i64 a5, .int .i64 a6, .bool a7]]) h := by
  intros; kernel_rfl

theorem palisadelaw20_does.S {W0 : World} : FnS sg W0 68 palisadelaw20_does.C := by
  intro vs κ h wv hx w s
  unfold palisadelaw20_does.C at hx
  split at hx
  · rename_i a1 a2 a3 a4 a5 a6 a7
    refine postImp (ret := palisadelaw20_does.ret (fun r1 h => κ (.bool r1) h)) (fun v h hr => by unfold palisadelaw20_does.ret at hr; split at hr; exact hr; exact hr.elim) ?_
    exact calls_of_pts (E := palisadelaw20_does.E (fun r1 h => κ (.bool r1) h) []) (envOK seatOK palisadelaw20_does.callsOK noIfc_ok) seatOK.mixed palisadelaw20_does.fun (Nat.le_of_ble_eq_true rfl) wv (cutL_ok trivial) s (fuel := 3000) (by rw [← palisadelaw20_does.e]; exact hx)
  · exact hx.elim

noncomputable def palisadelaw20_VintcPlays.code : Code := Go.Proofs.Try.f6.body.getD .skip

theorem palisadelaw20_VintcPlays.fun : Fun sg.P 6 119 [.tmp 4] palisadelaw20_VintcPlays.code := mkFun Go.Proofs.Try.func6 (by kernel_rfl) (by kernel_rfl) (by kernel_rfl) (by kernel_rfl)

def palisadelaw20_VintcPlays.ret (Q : Bool → Heap → Prop) (v : V) (h : Heap) : Prop :=
  match v with
  | .bool r1 => Q r1 h
  | _ => False

def palisadelaw20_VintcPlays.C (vs : List V) (κ : V → Heap → Prop) (h : Heap) : Prop :=
  match vs with
  | [.int .i64 a1, .sl a2] => palisadelaw20_VintcPlays a1 a2 (fun r1 h => κ (.bool r1) h) h
  | _ => False

noncomputable def palisadelaw20_VintcPlays.calls : List (Nat × (List V → (V → Heap → Prop) → Heap → Prop)) := [(4, vintc_New.C), (15, vintc_Intc_Line.C), (19, vintc_Intc_Told.C), (23, palisaderef20_New.C), (24, palisadelaw20_names.C), (68, palisadelaw20_does.C), (26, palisaderef20_Intc_Has.C), (66, palisaderef20_Intc_First.C), (25, palisaderef20_Is.C)]

noncomputable def palisadelaw20_VintcPlays.E (Q : Bool → Heap → Prop) (cuts : List (Nat × (List Nat × (List V → Heap → Prop)))) : Env := { tis := tisT, fns := fnsT, tys := tysT, calls := palisadelaw20_VintcPlays.calls, ifc := noIfc, cuts := cuts, ret := palisadelaw20_VintcPlays.ret Q, rets := [.tmp 4], n := 119 }

theorem palisadelaw20_VintcPlays.callsOK {W0 : World} : CallsOK sg W0 palisadelaw20_VintcPlays.calls := ⟨vintc_New.S, vintc_Intc_Line.S, vintc_Intc_Told.S, palisaderef20_New.S, palisadelaw20_names.S, palisadelaw20_does.S, palisaderef20_Intc_Has.S, palisaderef20_Intc_First.S, palisaderef20_Is.S, trivial⟩

def palisadelaw20_VintcPlays.k4 (I : Heap → Prop) (vs : List V) (h : Heap) : Prop :=
  match vs with
  | [] => I  h
  | _ => False

def palisadelaw20_VintcPlays.k14 (I : Heap → Prop) (vs : List V) (h : Heap) : Prop :=
  match vs with
  | [] => I  h
  | _ => False

def palisadelaw20_VintcPlays.k12 (I : Sl → (Option Ptr) → (Option Ptr) → Int → Int → Heap → Prop) (vs : List V) (h : Heap) : Prop :=
  match vs with
  | [.sl a1, .ptr a2, .ptr a3, .int .i64 a4, .int .i64 a5] => I a1 a2 a3 a4 a5 h
  | _ => False

def palisadelaw20_VintcPlays.k20 (I : Heap → Prop) (vs : List V) (h : Heap) : Prop :=
  match vs with
  | [] => I  h
  | _ => False

def palisadelaw20_VintcPlays.k17 (I : Sl → (Option Ptr) → (Option Ptr) → Int → Int → Heap → Prop) (vs : List V) (h : Heap) : Prop :=
  match vs with
  | [.sl a1, .ptr a2, .ptr a3, .int .i64 a4, .int .i64 a5] => I a1 a2 a3 a4 a5 h
  | _ => False

def palisadelaw20_VintcPlays.k16 (I : Sl → (Option Ptr) → (Option Ptr) → Int → Int → Heap → Prop) (vs : List V) (h : Heap) : Prop :=
  match vs with
  | [.sl a1, .ptr a2, .ptr a3, .int .i64 a4, .int .i64 a5] => I a1 a2 a3 a4 a5 h
  | _ => False

def palisadelaw20_VintcPlays.k11 (I : Sl → (Option Ptr) → (Option Ptr) → Int → Int → Heap → Prop) (vs : List V) (h : Heap) : Prop :=
  match vs with
  | [.sl a1, .ptr a2, .ptr a3, .int .i64 a4, .int .i64 a5] => I a1 a2 a3 a4 a5 h
  | _ => False

def palisadelaw20_VintcPlays.k6 (I : Sl → (Option Ptr) → (Option Ptr) → Int → Heap → Prop) (vs : List V) (h : Heap) : Prop :=
  match vs with
  | [.sl a1, .ptr a2, .ptr a3, .int .i64 a4] => I a1 a2 a3 a4 h
  | _ => False

theorem palisadelaw20_VintcPlays.p4 : (posC palisadelaw20_VintcPlays.code []).filter (fun p => Nat.beq p.1 4) = [(4, atPos (posC palisadelaw20_VintcPlays.code []) 4)] := by kernel_rfl

theorem palisadelaw20_VintcPlays.e4 : ∀   (Q : Bool → Heap → Prop) (h : Heap), palisadelaw20_VintcPlays.j4   Q h = pts (palisadelaw20_VintcPlays.E Q []) 3000 true (atPos (posC palisadelaw20_VintcPlays.code []) 4) (frAt [] []) h := by
  intros; kernel_rfl

theorem palisadelaw20_VintcPlays.s4 {W0 : World} (Q : Bool → Heap → Prop)   : CutOK sg W0 119 (entered 6) (Post sg W0 (palisadelaw20_VintcPlays.ret Q)) (posC palisadelaw20_VintcPlays.code []) 4 [] (palisadelaw20_VintcPlays.k4 (fun  h => palisadelaw20_VintcPlays.j4   Q h)) := by
  refine cutOK_head (fun vs h hk => ?_)
  unfold palisadelaw20_VintcPlays.k4 at hk
  split at hk
  · skip
    intro todo hm ρ a w s f hp
    exact piece (E := palisadelaw20_VintcPlays.E Q []) (vs := []) (envOK seatOK palisadelaw20_VintcPlays.callsOK noIfc_ok) (fnOK seatOK palisadelaw20_VintcPlays.fun) trivial palisadelaw20_VintcPlays.p4 (fuel := 3000) (by rw [← palisadelaw20_VintcPlays.e4]; exact hk) hm s f hp
  · exact hk.elim

theorem palisadelaw20_VintcPlays.p14 : (posC palisadelaw20_VintcPlays.code []).filter (fun p => Nat.beq p.1 14) = [(14, atPos (posC palisadelaw20_VintcPlays.code []) 14)] := by kernel_rfl

theorem palisadelaw20_VintcPlays.e14 : ∀ (I6 : Sl → (Option Ptr) → (Option Ptr) → Int → Heap → Prop) (I11 : Sl → (Option Ptr) → (Option Ptr) → Int → Int → Heap → Prop)  (Q : Bool → Heap → Prop) (h : Heap), palisadelaw20_VintcPlays.j14 I6 I11  Q h = pts (palisadelaw20_VintcPlays.E Q []) 3000 true (atPos (posC palisadelaw20_VintcPlays.code []) 14) (frAt [] []) h := by
  intros; kernel_rfl

theorem palisadelaw20_VintcPlays.s14 {W0 : World} (Q : Bool → Heap → Prop) (I6 : Sl → (Option Ptr) → (Option Ptr) → Int → Heap → Prop) (I11 : Sl → (Option Ptr) → (Option Ptr) → Int → Int → Heap → Prop) (h6 : CutOK sg W0 119 (entered 6) (Post sg W0 (palisadelaw20_VintcPlays.ret Q)) (posC palisadelaw20_VintcPlays.code []) 6 [1, 5, 7, 9] (palisadelaw20_VintcPlays.k6 I6)) (h11 : CutOK sg W0 119 (entered 6) (Post sg W0 (palisadelaw20_VintcPlays.ret Q)) (posC palisadelaw20_VintcPlays.code []) 11 [1, 5, 7, 9, 10] (palisadelaw20_VintcPlays.k11 I11)) : CutOK sg W0 119 (entered 6) (Post sg W0 (palisadelaw20_VintcPlays.ret Q)) (posC palisadelaw20_VintcPlays.code []) 14 [] (palisadelaw20_VintcPlays.k14 (fun  h => palisadelaw20_VintcPlays.j14 I6 I11  Q h)) := by
  refine cutOK_head (fun vs h hk => ?_)
  unfold palisadelaw20_VintcPlays.k14 at hk
  split at hk
  · skip
    intro todo hm ρ a w s f hp
    exact piece (E := palisadelaw20_VintcPlays.E Q []) (vs := []) (envOK seatOK palisadelaw20_VintcPlays.callsOK noIfc_ok) (fnOK seatOK palisadelaw20_VintcPlays.fun) trivial palisadelaw20_VintcPlays.p14 (fuel := 3000) (by rw [← palisadelaw20_VintcPlays.e14]; exact hk) hm s f hp
  · exact hk.elim

theorem palisadelaw20_VintcPlays.p12 : (posC palisadelaw20_VintcPlays.code []).filter (fun p => Nat.beq p.1 12) = [(12, atPos (posC palisadelaw20_VintcPlays.code []) 12)] := by kernel_rfl

theorem palisadelaw20_VintcPlays.e12 : ∀ (I6 : Sl → (Option Ptr) → (Option Ptr) → Int → Heap → Prop) (I11 : Sl → (Option Ptr) → (Option Ptr) → Int → Int → Heap → Prop) (a1 : Sl) (a2 : Option Ptr) (a3 : Option Ptr) (a4 : Int) (a5 : Int) (Q : Bool → Heap → Prop) (h : Heap), palisadelaw20_VintcPlays.j12 I6 I11 a1 a2 a3 a4 a5 Q h = pts (palisadelaw20_VintcPlays.E Q [(11, ([1, 5, 7, 9, 10], palisadelaw20_VintcPlays.k11 I11))]) 3000 true (atPos (posC palisadelaw20_VintcPlays.code []) 12) (frAt [1, 5, 7, 9, 10] [.sl a1, .ptr a2, .ptr a3, .int .i64 a4, .int .i64 a5]) h := by
  intros; kernel_rfl

theorem palisadelaw20_VintcPlays.s12 {W0 : World} (Q : Bool → Heap → Prop) (I6 : Sl → (Option Ptr) → (Option Ptr) → Int → Heap → Prop) (I11 : Sl → (Option Ptr) → (Option Ptr) → Int → Int → Heap → Prop) (h6 : CutOK sg W0 119 (entered 6) (Post sg W0 (palisadelaw20_VintcPlays.ret Q)) (posC palisadelaw20_VintcPlays.code []) 6 [1, 5, 7, 9] (palisadelaw20_VintcPlays.k6 I6)) (h11 : CutOK sg W0 119 (entered 6) (Post sg W0 (palisadelaw20_VintcPlays.ret Q)) (posC palisadelaw20_VintcPlays.code []) 11 [1, 5, 7, 9, 10] (palisadelaw20_VintcPlays.k11 I11)) : CutOK sg W0 119 (entered 6) (Post sg W0 (palisadelaw20_VintcPlays.ret Q)) (posC palisadelaw20_VintcPlays.code []) 12 [1, 5, 7, 9, 10] (palisadelaw20_VintcPlays.k12 (fun a1 a2 a3 a4 a5 h => palisadelaw20_VintcPlays.j12 I6 I11 a1 a2 a3 a4 a5 Q h)) := by
  refine cutOK_head (fun vs h hk => ?_)
  unfold palisadelaw20_VintcPlays.k12 at hk
  split at hk
  · rename_i a1 a2 a3 a4 a5
    intro todo hm ρ a w s f hp
    exact piece (E := palisadelaw20_VintcPlays.E Q [(11, ([1, 5, 7, 9, 10], palisadelaw20_VintcPlays.k11 I11))]) (vs := [.sl a1, .ptr a2, .ptr a3, .int .i64 a4, .int .i64 a5]) (envOK seatOK palisadelaw20_VintcPlays.callsOK noIfc_ok) (fnOK seatOK palisadelaw20_VintcPlays.fun) ⟨h11, trivial⟩ palisadelaw20_VintcPlays.p12 (fuel := 3000) (by rw [← palisadelaw20_VintcPlays.e12]; exact hk) hm s f hp
  · exact hk.elim

theorem palisadelaw20_VintcPlays.p20 : (posC palisadelaw20_VintcPlays.code []).filter (fun p => Nat.beq p.1 20) = [(20, atPos (posC palisadelaw20_VintcPlays.code []) 20)] := by kernel_rfl

theorem palisadelaw20_VintcPlays.e20 : ∀ (I6 : Sl → (Option Ptr) → (Option Ptr) → Int → Heap → Prop) (I16 : Sl → (Option Ptr) → (Option Ptr) → Int → Int → Heap → Prop)  (Q : Bool → Heap → Prop) (h : Heap), palisadelaw20_VintcPlays.j20 I6 I16  Q h = pts (palisadelaw20_VintcPlays.E Q []) 3000 true (atPos (posC palisadelaw20_VintcPlays.code []) 20) (frAt [] []) h := by
  intros; kernel_rfl

theorem palisadelaw20_VintcPlays.s20 {W0 : World} (Q : Bool → Heap → Prop) (I6 : Sl → (Option Ptr) → (Option Ptr) → Int → Heap → Prop) (I16 : Sl → (Option Ptr) → (Option Ptr) → Int → Int → Heap → Prop) (h6 : CutOK sg W0 119 (entered 6) (Post sg W0 (palisadelaw20_VintcPlays.ret Q)) (posC palisadelaw20_VintcPlays.code []) 6 [1, 5, 7, 9] (palisadelaw20_VintcPlays.k6 I6)) (h16 : CutOK sg W0 119 (entered 6) (Post sg W0 (palisadelaw20_VintcPlays.ret Q)) (posC palisadelaw20_VintcPlays.code []) 16 [1, 5, 7, 9, 11] (palisadelaw20_VintcPlays.k16 I16)) : CutOK sg W0 119 (entered 6) (Post sg W0 (palisadelaw20_VintcPlays.ret Q)) (posC palisadelaw20_VintcPlays.code []) 20 [] (palisadelaw20_VintcPlays.k20 (fun  h => palisadelaw20_VintcPlays.j20 I6 I16  Q h)) := by
  refine cutOK_head (fun vs h hk => ?_)
  unfold palisadelaw20_VintcPlays.k20 at hk
  split at hk
  · skip
    intro todo hm ρ a w s f hp
    exact piece (E := palisadelaw20_VintcPlays.E Q []) (vs := []) (envOK seatOK palisadelaw20_VintcPlays.callsOK noIfc_ok) (fnOK seatOK palisadelaw20_VintcPlays.fun) trivial palisadelaw20_VintcPlays.p20 (fuel := 3000) (by rw [← palisadelaw20_VintcPlays.e20]; exact hk) hm s f hp
  · exact hk.elim

theorem palisadelaw20_VintcPlays.p17 : (posC palisadelaw20_VintcPlays.code []).filter (fun p => Nat.beq p.1 17) = [(17, atPos (posC palisadelaw20_VintcPlays.code []) 17)] := by kernel_rfl

theorem palisadelaw20_VintcPlays.e17 : ∀ (I6 : Sl → (Option Ptr) → (Option Ptr) → Int → Heap → Prop) (I16 : Sl → (Option Ptr) → (Option Ptr) → Int → Int → Heap → Prop) (a1 : Sl) (a2 : Option Ptr) (a3 : Option Ptr) (a4 : Int) (a5 : Int) (Q : Bool → Heap → Prop) (h : Heap), palisadelaw20_VintcPlays.j17 I6 I16 a1 a2 a3 a4 a5 Q h = pts (palisadelaw20_VintcPlays.E Q [(16, ([1, 5, 7, 9, 11], palisadelaw20_VintcPlays.k16 I16))]) 3000 true (atPos (posC palisadelaw20_VintcPlays.code []) 17) (frAt [1, 5, 7, 9, 11] [.sl a1, .ptr a2, .ptr a3, .int .i64 a4, .int .i64 a5]) h := by
  intros; kernel_rfl

theorem palisadelaw20_VintcPlays.s17 {W0 : World} (Q : Bool → Heap → Prop) (I6 : Sl → (Option Ptr) → (Option Ptr) → Int → Heap → Prop) (I16 : Sl → (Option Ptr) → (Option Ptr) → Int → Int → Heap → Prop) (h6 : CutOK sg W0 119 (entered 6) (Post sg W0 (palisadelaw20_VintcPlays.ret Q)) (posC palisadelaw20_VintcPlays.code []) 6 [1, 5, 7, 9] (palisadelaw20_VintcPlays.k6 I6)) (h16 : CutOK sg W0 119 (entered 6) (Post sg W0 (palisadelaw20_VintcPlays.ret Q)) (posC palisadelaw20_VintcPlays.code []) 16 [1, 5, 7, 9, 11] (palisadelaw20_VintcPlays.k16 I16)) : CutOK sg W0 119 (entered 6) (Post sg W0 (palisadelaw20_VintcPlays.ret Q)) (posC palisadelaw20_VintcPlays.code []) 17 [1, 5, 7, 9, 11] (palisadelaw20_VintcPlays.k17 (fun a1 a2 a3 a4 a5 h => palisadelaw20_VintcPlays.j17 I6 I16 a1 a2 a3 a4 a5 Q h)) := by
  refine cutOK_head (fun vs h hk => ?_)
  unfold palisadelaw20_VintcPlays.k17 at hk
  split at hk
  · rename_i a1 a2 a3 a4 a5
    intro todo hm ρ a w s f hp
    exact piece (E := palisadelaw20_VintcPlays.E Q [(16, ([1, 5, 7, 9, 11], palisadelaw20_VintcPlays.k16 I16))]) (vs := [.sl a1, .ptr a2, .ptr a3, .int .i64 a4, .int .i64 a5]) (envOK seatOK palisadelaw20_VintcPlays.callsOK noIfc_ok) (fnOK seatOK palisadelaw20_VintcPlays.fun) ⟨h16, trivial⟩ palisadelaw20_VintcPlays.p17 (fuel := 3000) (by rw [← palisadelaw20_VintcPlays.e17]; exact hk) hm s f hp
  · exact hk.elim

theorem palisadelaw20_VintcPlays.p16 : (posC palisadelaw20_VintcPlays.code []).filter (fun p => Nat.beq p.1 16) = [(16, atPos (posC palisadelaw20_VintcPlays.code []) 16)] := by kernel_rfl

theorem palisadelaw20_VintcPlays.e16 : ∀ (I6 : Sl → (Option Ptr) → (Option Ptr) → Int → Heap → Prop) (I16 : Sl → (Option Ptr) → (Option Ptr) → Int → Int → Heap → Prop) (a1 : Sl) (a2 : Option Ptr) (a3 : Option Ptr) (a4 : Int) (a5 : Int) (Q : Bool → Heap → Prop) (h : Heap), palisadelaw20_VintcPlays.b16 I6 I16 a1 a2 a3 a4 a5 Q h = pts (palisadelaw20_VintcPlays.E Q [(20, ([], palisadelaw20_VintcPlays.k20 (fun  h => palisadelaw20_VintcPlays.j20 I6 I16  Q h))), (17, ([1, 5, 7, 9, 11], palisadelaw20_VintcPlays.k17 (fun a1 a2 a3 a4 a5 h => palisadelaw20_VintcPlays.j17 I6 I16 a1 a2 a3 a4 a5 Q h))), (6, ([1, 5, 7, 9], palisadelaw20_VintcPlays.k6 I6))]) 3000 true (atPos (posC palisadelaw20_VintcPlays.code []) 16) (frAt [1, 5, 7, 9, 11] [.sl a1, .ptr a2, .ptr a3, .int .i64 a4, .int .i64 a5]) h := by
  intros; kernel_rfl

theorem palisadelaw20_VintcPlays.s16 {W0 : World} (Q : Bool → Heap → Prop) (I6 : Sl → (Option Ptr) → (Option Ptr) → Int → Heap → Prop) (h6 : CutOK sg W0 119 (entered 6) (Post sg W0 (palisadelaw20_VintcPlays.ret Q)) (posC palisadelaw20_VintcPlays.code []) 6 [1, 5, 7, 9] (palisadelaw20_VintcPlays.k6 I6)) : CutOK sg W0 119 (entered 6) (Post sg W0 (palisadelaw20_VintcPlays.ret Q)) (posC palisadelaw20_VintcPlays.code []) 16 [1, 5, 7, 9, 11] (palisadelaw20_VintcPlays.k16 (fun a1 a2 a3 a4 a5 h => palisadelaw20_VintcPlays.j16 I6 a1 a2 a3 a4 a5 Q h)) := by
  refine cutOK_head (fun vs h hk => ?_)
  unfold palisadelaw20_VintcPlays.k16 at hk
  split at hk
  · rename_i a1 a2 a3 a4 a5
    refine hk (fun a1 a2 a3 a4 a5 h => Head sg W0 119 (entered 6) (Post sg W0 (palisadelaw20_VintcPlays.ret Q)) (posC palisadelaw20_VintcPlays.code []) 16 [1, 5, 7, 9, 11] [.sl a1, .ptr a2, .ptr a3, .int .i64 a4, .int .i64 a5] h) ?_
    intro a1 a2 a3 a4 a5 h hb todo hm ρ a w s f hp
    have hself : CutOK sg W0 119 (entered 6) (Post sg W0 (palisadelaw20_VintcPlays.ret Q)) (posC palisadelaw20_VintcPlays.code []) 16 [1, 5, 7, 9, 11] (palisadelaw20_VintcPlays.k16 (fun a1 a2 a3 a4 a5 h => Head sg W0 119 (entered 6) (Post sg W0 (palisadelaw20_VintcPlays.ret Q)) (posC palisadelaw20_VintcPlays.code []) 16 [1, 5, 7, 9, 11] [.sl a1, .ptr a2, .ptr a3, .int .i64 a4, .int .i64 a5] h)) := cutOK_head (fun vs h hk => by unfold palisadelaw20_VintcPlays.k16 at hk; split at hk; exact hk; exact hk.elim)
    exact piece (E := palisadelaw20_VintcPlays.E Q [(20, ([], palisadelaw20_VintcPlays.k20 (fun  h => palisadelaw20_VintcPlays.j20 I6 (fun a1 a2 a3 a4 a5 h => Head sg W0 119 (entered 6) (Post sg W0 (palisadelaw20_VintcPlays.ret Q)) (posC palisadelaw20_VintcPlays.code []) 16 [1, 5, 7, 9, 11] [.sl a1, .ptr a2, .ptr a3, .int .i64 a4, .int .i64 a5] h)  Q h))), (17, ([1, 5, 7, 9, 11], palisadelaw20_VintcPlays.k17 (fun a1 a2 a3 a4 a5 h => palisadelaw20_VintcPlays.j17 I6 (fun a1 a2 a3 a4 a5 h => Head sg W0 119 (entered 6) (Post sg W0 (palisadelaw20_VintcPlays.ret Q)) (posC palisadelaw20_VintcPlays.code []) 16 [1, 5, 7, 9, 11] [.sl a1, .ptr a2, .ptr a3, .int .i64 a4, .int .i64 a5] h) a1 a2 a3 a4 a5 Q h))), (6, ([1, 5, 7, 9], palisadelaw20_VintcPlays.k6 I6))]) (vs := [.sl a1, .ptr a2, .ptr a3, .int .i64 a4, .int .i64 a5]) (envOK seatOK palisadelaw20_VintcPlays.callsOK noIfc_ok) (fnOK seatOK palisadelaw20_VintcPlays.fun) ⟨(palisadelaw20_VintcPlays.s20 Q I6 (fun a1 a2 a3 a4 a5 h => Head sg W0 119 (entered 6) (Post sg W0 (palisadelaw20_VintcPlays.ret Q)) (posC palisadelaw20_VintcPlays.code []) 16 [1, 5, 7, 9, 11] [.sl a1, .ptr a2, .ptr a3, .int .i64 a4, .int .i64 a5] h) h6 hself), (palisadelaw20_VintcPlays.s17 Q I6 (fun a1 a2 a3 a4 a5 h => Head sg W0 119 (entered 6) (Post sg W0 (palisadelaw20_VintcPlays.ret Q)) (posC palisadelaw20_VintcPlays.code []) 16 [1, 5, 7, 9, 11] [.sl a1, .ptr a2, .ptr a3, .int .i64 a4, .int .i64 a5] h) h6 hself), h6, trivial⟩ palisadelaw20_VintcPlays.p16 (fuel := 3000) (by rw [← palisadelaw20_VintcPlays.e16]; exact hb) hm s f hp
  · exact hk.elim

theorem palisadelaw20_VintcPlays.p11 : (posC palisadelaw20_VintcPlays.code []).filter (fun p => Nat.beq p.1 11) = [(11, atPos (posC palisadelaw20_VintcPlays.code []) 11)] := by kernel_rfl

theorem palisadelaw20_VintcPlays.e11 : ∀ (I6 : Sl → (Option Ptr) → (Option Ptr) → Int → Heap → Prop) (I11 : Sl → (Option Ptr) → (Option Ptr) → Int → Int → Heap → Prop) (a1 : Sl) (a2 : Option Ptr) (a3 : Option Ptr) (a4 : Int) (a5 : Int) (Q : Bool → Heap → Prop) (h : Heap), palisadelaw20_VintcPlays.b11 I6 I11 a1 a2 a3 a4 a5 Q h = pts (palisadelaw20_VintcPlays.E Q [(14, ([], palisadelaw20_VintcPlays.k14 (fun  h => palisadelaw20_VintcPlays.j14 I6 I11  Q h))), (12, ([1, 5, 7, 9, 10], palisadelaw20_VintcPlays.k12 (fun a1 a2 a3 a4 a5 h => palisadelaw20_VintcPlays.j12 I6 I11 a1 a2 a3 a4 a5 Q h))), (16, ([1, 5, 7, 9, 11], palisadelaw20_VintcPlays.k16 (fun a1 a2 a3 a4 a5 h => palisadelaw20_VintcPlays.j16 I6 a1 a2 a3 a4 a5 Q h)))]) 3000 true (atPos (posC palisadelaw20_VintcPlays.code []) 11) (frAt [1, 5, 7, 9, 10] [.sl a1, .ptr a2, .ptr a3, .int .i64 a4, .int .i64 a5]) h := by
  intros; kernel_rfl

theorem palisadelaw20_VintcPlays.s11 {W0 : World} (Q : Bool → Heap → Prop) (I6 : Sl → (Option Ptr) → (Option Ptr) → Int → Heap → Prop) (h6 : CutOK sg W0 119 (entered 6) (Post sg W0 (palisadelaw20_VintcPlays.ret Q)) (posC palisadelaw20_VintcPlays.code []) 6 [1, 5, 7, 9] (palisadelaw20_VintcPlays.k6 I6)) : CutOK sg W0 119 (entered 6) (Post sg W0 (palisadelaw20_VintcPlays.ret Q)) (posC palisadelaw20_VintcPlays.code []) 11 [1, 5, 7, 9, 10] (palisadelaw20_VintcPlays.k11 (fun a1 a2 a3 a4 a5 h => palisadelaw20_VintcPlays.j11 I6 a1 a2 a3 a4 a5 Q h)) := by
  refine cutOK_head (fun vs h hk => ?_)
  unfold palisadelaw20_VintcPlays.k11 at hk
  split at hk
  · rename_i a1 a2 a3 a4 a5
    refine hk (fun a1 a2 a3 a4 a5 h => Head sg W0 119 (entered 6) (Post sg W0 (palisadelaw20_VintcPlays.ret Q)) (posC palisadelaw20_VintcPlays.code []) 11 [1, 5, 7, 9, 10] [.sl a1, .ptr a2, .ptr a3, .int .i64 a4, .int .i64 a5] h) ?_
    intro a1 a2 a3 a4 a5 h hb todo hm ρ a w s f hp
    have hself : CutOK sg W0 119 (entered 6) (Post sg W0 (palisadelaw20_VintcPlays.ret Q)) (posC palisadelaw20_VintcPlays.code []) 11 [1, 5, 7, 9, 10] (palisadelaw20_VintcPlays.k11 (fun a1 a2 a3 a4 a5 h => Head sg W0 119 (entered 6) (Post sg W0 (palisadelaw20_VintcPlays.ret Q)) (posC palisadelaw20_VintcPlays.code []) 11 [1, 5, 7, 9, 10] [.sl a1, .ptr a2, .ptr a3, .int .i64 a4, .int .i64 a5] h)) := cutOK_head (fun vs h hk => by unfold palisadelaw20_VintcPlays.k11 at hk; split at hk; exact hk; exact hk.elim)
    exact piece (E := palisadelaw20_VintcPlays.E Q [(14, ([], palisadelaw20_VintcPlays.k14 (fun  h => palisadelaw20_VintcPlays.j14 I6 (fun a1 a2 a3 a4 a5 h => Head sg W0 119 (entered 6) (Post sg W0 (palisadelaw20_VintcPlays.ret Q)) (posC palisadelaw20_VintcPlays.code []) 11 [1, 5, 7, 9, 10] [.sl a1, .ptr a2, .ptr a3, .int .i64 a4, .int .i64 a5] h)  Q h))), (12, ([1, 5, 7, 9, 10], palisadelaw20_VintcPlays.k12 (fun a1 a2 a3 a4 a5 h => palisadelaw20_VintcPlays.j12 I6 (fun a1 a2 a3 a4 a5 h => Head sg W0 119 (entered 6) (Post sg W0 (palisadelaw20_VintcPlays.ret Q)) (posC palisadelaw20_VintcPlays.code []) 11 [1, 5, 7, 9, 10] [.sl a1, .ptr a2, .ptr a3, .int .i64 a4, .int .i64 a5] h) a1 a2 a3 a4 a5 Q h))), (16, ([1, 5, 7, 9, 11], palisadelaw20_VintcPlays.k16 (fun a1 a2 a3 a4 a5 h => palisadelaw20_VintcPlays.j16 I6 a1 a2 a3 a4 a5 Q h)))]) (vs := [.sl a1, .ptr a2, .ptr a3, .int .i64 a4, .int .i64 a5]) (envOK seatOK palisadelaw20_VintcPlays.callsOK noIfc_ok) (fnOK seatOK palisadelaw20_VintcPlays.fun) ⟨(palisadelaw20_VintcPlays.s14 Q I6 (fun a1 a2 a3 a4 a5 h => Head sg W0 119 (entered 6) (Post sg W0 (palisadelaw20_VintcPlays.ret Q)) (posC palisadelaw20_VintcPlays.code []) 11 [1, 5, 7, 9, 10] [.sl a1, .ptr a2, .ptr a3, .int .i64 a4, .int .i64 a5] h) h6 hself), (palisadelaw20_VintcPlays.s12 Q I6 (fun a1 a2 a3 a4 a5 h => Head sg W0 119 (entered 6) (Post sg W0 (palisadelaw20_VintcPlays.ret Q)) (posC palisadelaw20_VintcPlays.code []) 11 [1, 5, 7, 9, 10] [.sl a1, .ptr a2, .ptr a3, .int .i64 a4, .int .i64 a5] h) h6 hself), (palisadelaw20_VintcPlays.s16 Q I6 h6), trivial⟩ palisadelaw20_VintcPlays.p11 (fuel := 3000) (by rw [← palisadelaw20_VintcPlays.e11]; exact hb) hm s f hp
  · exact hk.elim

theorem palisadelaw20_VintcPlays.p6 : (posC palisadelaw20_VintcPlays.code []).filter (fun p => Nat.beq p.1 6) = [(6, atPos (posC palisadelaw20_VintcPlays.code []) 6)] := by kernel_rfl

theorem palisadelaw20_VintcPlays.e6 : ∀  (I6 : Sl → (Option Ptr) → (Option Ptr) → Int → Heap → Prop) (a1 : Sl) (a2 : Option Ptr) (a3 : Option Ptr) (a4 : Int) (Q : Bool → Heap → Prop) (h : Heap), palisadelaw20_VintcPlays.b6  I6 a1 a2 a3 a4 Q h = pts (palisadelaw20_VintcPlays.E Q [(11, ([1, 5, 7, 9, 10], palisadelaw20_VintcPlays.k11 (fun a1 a2 a3 a4 a5 h => palisadelaw20_VintcPlays.j11 I6 a1 a2 a3 a4 a5 Q h)))]) 3000 true (atPos (posC palisadelaw20_VintcPlays.code []) 6) (frAt [1, 5, 7, 9] [.sl a1, .ptr a2, .ptr a3, .int .i64 a4]) h := by
  intros; kernel_rfl

theorem palisadelaw20_VintcPlays.s6 {W0 : World} (Q : Bool → Heap → Prop)   : CutOK sg W0 119 (entered 6) (Post sg W0 (palisadelaw20_VintcPlays.ret Q)) (posC palisadelaw20_VintcPlays.code []) 6 [1, 5, 7, 9] (palisadelaw20_VintcPlays.k6 (fun a1 a2 a3 a4 h => palisadelaw20_VintcPlays.j6  a1 a2 a3 a4 Q h)) := by
  refine cutOK_head (fun vs h hk => ?_)
  unfold palisadelaw20_VintcPlays.k6 at hk
  split at hk
  · rename_i a1 a2 a3 a4
    refine hk (fun a1 a2 a3 a4 h => Head sg W0 119 (entered 6) (Post sg W0 (palisadelaw20_VintcPlays.ret Q)) (posC palisadelaw20_VintcPlays.code []) 6 [1, 5, 7, 9] [.sl a1, .ptr a2, .ptr a3, .int .i64 a4] h) ?_
    intro a1 a2 a3 a4 h hb todo hm ρ a w s f hp
    have hself : CutOK sg W0 119 (entered 6) (Post sg W0 (palisadelaw20_VintcPlays.ret Q)) (posC palisadelaw20_VintcPlays.code []) 6 [1, 5, 7, 9] (palisadelaw20_VintcPlays.k6 (fun a1 a2 a3 a4 h => Head sg W0 119 (entered 6) (Post sg W0 (palisadelaw20_VintcPlays.ret Q)) (posC palisadelaw20_VintcPlays.code []) 6 [1, 5, 7, 9] [.sl a1, .ptr a2, .ptr a3, .int .i64 a4] h)) := cutOK_head (fun vs h hk => by unfold palisadelaw20_VintcPlays.k6 at hk; split at hk; exact hk; exact hk.elim)
    exact piece (E := palisadelaw20_VintcPlays.E Q [(11, ([1, 5, 7, 9, 10], palisadelaw20_VintcPlays.k11 (fun a1 a2 a3 a4 a5 h => palisadelaw20_VintcPlays.j11 (fun a1 a2 a3 a4 h => Head sg W0 119 (entered 6) (Post sg W0 (palisadelaw20_VintcPlays.ret Q)) (posC palisadelaw20_VintcPlays.code []) 6 [1, 5, 7, 9] [.sl a1, .ptr a2, .ptr a3, .int .i64 a4] h) a1 a2 a3 a4 a5 Q h)))]) (vs := [.sl a1, .ptr a2, .ptr a3, .int .i64 a4]) (envOK seatOK palisadelaw20_VintcPlays.callsOK noIfc_ok) (fnOK seatOK palisadelaw20_VintcPlays.fun) ⟨(palisadelaw20_VintcPlays.s11 Q (fun a1 a2 a3 a4 h => Head sg W0 119 (entered 6) (Post sg W0 (palisadelaw20_VintcPlays.ret Q)) (posC palisadelaw20_VintcPlays.code []) 6 [1, 5, 7, 9] [.sl a1, .ptr a2, .ptr a3, .int .i64 a4] h) hself), trivial⟩ palisadelaw20_VintcPlays.p6 (fuel := 3000) (by rw [← palisadelaw20_VintcPlays.e6]; exact hb) hm s f hp
  · exact hk.elim

theorem palisadelaw20_VintcPlays.e : ∀ (a1 : Int) (a2 : Sl) (Q : Bool → Heap → Prop) (h : Heap), palisadelaw20_VintcPlays a1 a2 Q h = pts (palisadelaw20_VintcPlays.E Q [(4, ([], palisadelaw20_VintcPlays.k4 (fun  h => palisadelaw20_VintcPlays.j4   Q h))), (6, ([1, 5, 7, 9], palisadelaw20_VintcPlays.k6 (fun a1 a2 a3 a4 h => palisadelaw20_VintcPlays.j6  a1 a2 a3 a4 Q h)))]) 3000 true [.code palisadelaw20_VintcPlays.code] (frOf 0 [.int .i64 a1, .sl a2]) h := by
  intros; kernel_rfl

theorem palisadelaw20_VintcPlays.S {W0 : World} : FnS sg W0 69 palisadelaw20_VintcPlays.C := by
  intro vs κ h wv hx w s
  unfold palisadelaw20_VintcPlays.C at hx
  split at hx
  · rename_i a1 a2
    refine postImp (ret := palisadelaw20_VintcPlays.ret (fun r1 h => κ (.bool r1) h)) (fun v h hr => by unfold palisadelaw20_VintcPlays.ret at hr; split at hr; exact hr; exact hr.elim) ?_
    exact calls_of_pts (E := palisadelaw20_VintcPlays.E (fun r1 h => κ (.bool r1) h) [(4, ([], palisadelaw20_VintcPlays.k4 (fun  h => palisadelaw20_VintcPlays.j4   (fun r1 h => κ (.bool r1) h) h))), (6, ([1, 5, 7, 9], palisadelaw20_VintcPlays.k6 (fun a1 a2 a3 a4 h => palisadelaw20_VintcPlays.j6  a1 a2 a3 a4 (fun r1 h => κ (.bool r1) h) h)))]) (envOK seatOK palisadelaw20_VintcPlays.callsOK noIfc_ok) seatOK.mixed palisadelaw20_VintcPlays.fun (Nat.le_of_ble_eq_true rfl) wv (cutL_ok ⟨(palisadelaw20_VintcPlays.s4 (fun r1 h => κ (.bool r1) h)), (palisadelaw20_VintcPlays.s6 (fun r1 h => κ (.bool r1) h)), trivial⟩) s (fuel := 3000) (by rw [← palisadelaw20_VintcPlays.e]; exact hx)
  · exact hx.elim

end Go.Fn
