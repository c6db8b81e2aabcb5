/- The links of the shallow functions to the machine. PRINTED by lift.py. -/
import Derived.Test.YtgigbjieppllgaaDoorGb0
set_option linter.unusedVariables false
set_option maxRecDepth 100000
namespace Go.Fn
open Go.Lift

noncomputable def palisaderef01_Fits.code : Code := Go.Proofs.Tryd.f61.body.getD .skip

theorem palisaderef01_Fits.fun : Fun sg.P 61 29 [.tmp 4] palisaderef01_Fits.code := mkFun Go.Proofs.Tryd.func61 (by kernel_rfl) (by kernel_rfl) (by kernel_rfl) (by kernel_rfl)

def palisaderef01_Fits.ret (Q : Bool → Heap → Prop) (v : V) (h : Heap) : Prop :=
  match v with
  | .bool r1 => Q r1 h
  | _ => False

def palisaderef01_Fits.C (vs : List V) (κ : V → Heap → Prop) (h : Heap) : Prop :=
  match vs with
  | [.int .i64 a1, .int .i64 a2] => palisaderef01_Fits a1 a2 (fun r1 h => κ (.bool r1) h) h
  | _ => False

noncomputable def palisaderef01_Fits.calls : List (Nat × (List V → (V → Heap → Prop) → Heap → Prop)) := []

noncomputable def palisaderef01_Fits.E (Q : Bool → Heap → Prop) (cuts : List (Nat × (List Nat × (List V → Heap → Prop)))) : Env := { tis := tisT, fns := fnsT, tys := tysT, gls := [], rts := rtsT, unk := [], nxt := [], calls := palisaderef01_Fits.calls, ifc := noIfc, cuts := cuts, ret := palisaderef01_Fits.ret Q, rets := [.tmp 4], n := 29 }

theorem palisaderef01_Fits.callsOK {W0 : World} : CallsOK sg W0 palisaderef01_Fits.calls := trivial

theorem palisaderef01_Fits.e : ∀ (a1 : Int) (a2 : Int) (Q : Bool → Heap → Prop) (h : Heap), palisaderef01_Fits a1 a2 Q h = pts (palisaderef01_Fits.E Q []) 3000 true [.code palisaderef01_Fits.code] (frOf 0 [.int .i64 a1, .int .i64 a2]) h := by
  intros; kernel_rfl

theorem palisaderef01_Fits.S {W0 : World} : FnS sg W0 224 palisaderef01_Fits.C := by
  intro vs κ h wv hx w s
  unfold palisaderef01_Fits.C at hx
  split at hx
  · rename_i a1 a2
    refine postImp (ret := palisaderef01_Fits.ret (fun r1 h => κ (.bool r1) h)) (fun v h hr => by unfold palisaderef01_Fits.ret at hr; split at hr; exact hr; exact hr.elim) ?_
    exact calls_of_pts (E := palisaderef01_Fits.E (fun r1 h => κ (.bool r1) h) []) (envOK seatOK palisaderef01_Fits.callsOK noIfc_ok) seatOK.mixed palisaderef01_Fits.fun (Nat.le_of_ble_eq_true rfl) wv (cutL_ok trivial) s (fuel := 3000) (by rw [← palisaderef01_Fits.e]; exact hx)
  · exact hx.elim

noncomputable def palisaderef02_imm.code : Code := Go.Proofs.Tryd.f54.body.getD .skip

theorem palisaderef02_imm.fun : Fun sg.P 54 45 [.tmp 4] palisaderef02_imm.code := mkFun Go.Proofs.Tryd.func54 (by kernel_rfl) (by kernel_rfl) (by kernel_rfl) (by kernel_rfl)

def palisaderef02_imm.ret (Q : Bool → Heap → Prop) (v : V) (h : Heap) : Prop :=
  match v with
  | .bool r1 => Q r1 h
  | _ => False

def palisaderef02_imm.C (vs : List V) (κ : V → Heap → Prop) (h : Heap) : Prop :=
  match vs with
  | [.int .i64 a1, .int .i64 a2] => palisaderef02_imm a1 a2 (fun r1 h => κ (.bool r1) h) h
  | _ => False

noncomputable def palisaderef02_imm.calls : List (Nat × (List V → (V → Heap → Prop) → Heap → Prop)) := [(222, palisaderef02_Shape.C), (224, palisaderef01_Fits.C)]

noncomputable def palisaderef02_imm.E (Q : Bool → Heap → Prop) (cuts : List (Nat × (List Nat × (List V → Heap → Prop)))) : Env := { tis := tisT, fns := fnsT, tys := tysT, gls := [], rts := rtsT, unk := [], nxt := [], calls := palisaderef02_imm.calls, ifc := noIfc, cuts := cuts, ret := palisaderef02_imm.ret Q, rets := [.tmp 4], n := 45 }

theorem palisaderef02_imm.callsOK {W0 : World} : CallsOK sg W0 palisaderef02_imm.calls := ⟨palisaderef02_Shape.S, palisaderef01_Fits.S, trivial⟩

def palisaderef02_imm.k5 (I : Int → Int → Heap → Prop) (vs : List V) (h : Heap) : Prop :=
  match vs with
  | [.int .i64 a1, .int .i64 a2] => I a1 a2 h
  | _ => False

def palisaderef02_imm.k3 (I : Int → Int → Heap → Prop) (vs : List V) (h : Heap) : Prop :=
  match vs with
  | [.int .i64 a1, .int .i64 a2] => I a1 a2 h
  | _ => False

theorem palisaderef02_imm.p5 : (posC palisaderef02_imm.code []).filter (fun p => Nat.beq p.1 5) = [(5, atPos (posC palisaderef02_imm.code []) 5)] := by kernel_rfl

theorem palisaderef02_imm.e5 : ∀  (a1 : Int) (a2 : Int) (Q : Bool → Heap → Prop) (h : Heap), palisaderef02_imm.j5  a1 a2 Q h = pts (palisaderef02_imm.E Q []) 3000 true (atPos (posC palisaderef02_imm.code []) 5) (frAt [0, 1] [.int .i64 a1, .int .i64 a2]) h := by
  intros; kernel_rfl

theorem palisaderef02_imm.s5 {W0 : World} (Q : Bool → Heap → Prop)   : CutOK sg W0 45 (entered 54) (Post sg W0 (palisaderef02_imm.ret Q)) (posC palisaderef02_imm.code []) 5 [0, 1] (palisaderef02_imm.k5 (fun a1 a2 h => palisaderef02_imm.j5  a1 a2 Q h)) := by
  refine cutOK_head (fun vs h hk => ?_)
  unfold palisaderef02_imm.k5 at hk
  split at hk
  · rename_i a1 a2
    intro todo hm ρ a w s f hp
    exact piece (E := palisaderef02_imm.E Q []) (vs := [.int .i64 a1, .int .i64 a2]) (envOK seatOK palisaderef02_imm.callsOK noIfc_ok) (fnOK seatOK palisaderef02_imm.fun) trivial palisaderef02_imm.p5 (fuel := 3000) (by rw [← palisaderef02_imm.e5]; exact hk) hm s f hp
  · exact hk.elim

theorem palisaderef02_imm.p3 : (posC palisaderef02_imm.code []).filter (fun p => Nat.beq p.1 3) = [(3, atPos (posC palisaderef02_imm.code []) 3)] := by kernel_rfl

theorem palisaderef02_imm.e3 : ∀  (a1 : Int) (a2 : Int) (Q : Bool → Heap → Prop) (h : Heap), palisaderef02_imm.j3  a1 a2 Q h = pts (palisaderef02_imm.E Q [(5, ([0, 1], palisaderef02_imm.k5 (fun a1 a2 h => palisaderef02_imm.j5  a1 a2 Q h)))]) 3000 true (atPos (posC palisaderef02_imm.code []) 3) (frAt [0, 1] [.int .i64 a1, .int .i64 a2]) h := by
  intros; kernel_rfl

theorem palisaderef02_imm.s3 {W0 : World} (Q : Bool → Heap → Prop)   : CutOK sg W0 45 (entered 54) (Post sg W0 (palisaderef02_imm.ret Q)) (posC palisaderef02_imm.code []) 3 [0, 1] (palisaderef02_imm.k3 (fun a1 a2 h => palisaderef02_imm.j3  a1 a2 Q h)) := by
  refine cutOK_head (fun vs h hk => ?_)
  unfold palisaderef02_imm.k3 at hk
  split at hk
  · rename_i a1 a2
    intro todo hm ρ a w s f hp
    exact piece (E := palisaderef02_imm.E Q [(5, ([0, 1], palisaderef02_imm.k5 (fun a1 a2 h => palisaderef02_imm.j5  a1 a2 Q h)))]) (vs := [.int .i64 a1, .int .i64 a2]) (envOK seatOK palisaderef02_imm.callsOK noIfc_ok) (fnOK seatOK palisaderef02_imm.fun) ⟨(palisaderef02_imm.s5 Q  ), trivial⟩ palisaderef02_imm.p3 (fuel := 3000) (by rw [← palisaderef02_imm.e3]; exact hk) hm s f hp
  · exact hk.elim

theorem palisaderef02_imm.e : ∀ (a1 : Int) (a2 : Int) (Q : Bool → Heap → Prop) (h : Heap), palisaderef02_imm a1 a2 Q h = pts (palisaderef02_imm.E Q [(3, ([0, 1], palisaderef02_imm.k3 (fun a1 a2 h => palisaderef02_imm.j3  a1 a2 Q h)))]) 3000 true [.code palisaderef02_imm.code] (frOf 0 [.int .i64 a1, .int .i64 a2]) h := by
  intros; kernel_rfl

theorem palisaderef02_imm.S {W0 : World} : FnS sg W0 225 palisaderef02_imm.C := by
  intro vs κ h wv hx w s
  unfold palisaderef02_imm.C at hx
  split at hx
  · rename_i a1 a2
    refine postImp (ret := palisaderef02_imm.ret (fun r1 h => κ (.bool r1) h)) (fun v h hr => by unfold palisaderef02_imm.ret at hr; split at hr; exact hr; exact hr.elim) ?_
    exact calls_of_pts (E := palisaderef02_imm.E (fun r1 h => κ (.bool r1) h) [(3, ([0, 1], palisaderef02_imm.k3 (fun a1 a2 h => palisaderef02_imm.j3  a1 a2 (fun r1 h => κ (.bool r1) h) h)))]) (envOK seatOK palisaderef02_imm.callsOK noIfc_ok) seatOK.mixed palisaderef02_imm.fun (Nat.le_of_ble_eq_true rfl) wv (cutL_ok ⟨(palisaderef02_imm.s3 (fun r1 h => κ (.bool r1) h)), trivial⟩) s (fuel := 3000) (by rw [← palisaderef02_imm.e]; exact hx)
  · exact hx.elim

noncomputable def palisaderef02_Valid.code : Code := Go.Proofs.Tryd.f41.body.getD .skip

theorem palisaderef02_Valid.fun : Fun sg.P 41 91 [.tmp 2] palisaderef02_Valid.code := mkFun Go.Proofs.Tryd.func41 (by kernel_rfl) (by kernel_rfl) (by kernel_rfl) (by kernel_rfl)

def palisaderef02_Valid.ret (Q : Bool → Heap → Prop) (v : V) (h : Heap) : Prop :=
  match v with
  | .bool r1 => Q r1 h
  | _ => False

def palisaderef02_Valid.C (vs : List V) (κ : V → Heap → Prop) (h : Heap) : Prop :=
  match vs with
  | [.agg [.int .i64 a1, .int .i64 a2, .int .i64 a3, .int .i64 a4, .int .i64 a5]] => palisaderef02_Valid a1 a2 a3 a4 a5 (fun r1 h => κ (.bool r1) h) h
  | _ => False

noncomputable def palisaderef02_Valid.calls : List (Nat × (List V → (V → Heap → Prop) → Heap → Prop)) := [(222, palisaderef02_Shape.C), (223, palisaderef02_reg.C), (225, palisaderef02_imm.C)]

noncomputable def palisaderef02_Valid.E (Q : Bool → Heap → Prop) (cuts : List (Nat × (List Nat × (List V → Heap → Prop)))) : Env := { tis := tisT, fns := fnsT, tys := tysT, gls := [], rts := rtsT, unk := [], nxt := [], calls := palisaderef02_Valid.calls, ifc := noIfc, cuts := cuts, ret := palisaderef02_Valid.ret Q, rets := [.tmp 2], n := 91 }

theorem palisaderef02_Valid.callsOK {W0 : World} : CallsOK sg W0 palisaderef02_Valid.calls := ⟨palisaderef02_Shape.S, palisaderef02_reg.S, palisaderef02_imm.S, trivial⟩

def palisaderef02_Valid.k3 (I : Heap → Prop) (vs : List V) (h : Heap) : Prop :=
  match vs with
  | [] => I  h
  | _ => False

def palisaderef02_Valid.k7 (I : Ptr → Bool → Bool → Bool → Heap → Prop) (vs : List V) (h : Heap) : Prop :=
  match vs with
  | [.ptr (some a1), .bool a2, .bool a3, .bool a4] => I a1 a2 a3 a4 h
  | _ => False

def palisaderef02_Valid.k6 (I : Ptr → Int → Bool → Bool → Heap → Prop) (vs : List V) (h : Heap) : Prop :=
  match vs with
  | [.ptr (some a1), .int .i64 a2, .bool a3, .bool a4] => I a1 a2 a3 a4 h
  | _ => False

def palisaderef02_Valid.k5 (I : Ptr → Int → Bool → Heap → Prop) (vs : List V) (h : Heap) : Prop :=
  match vs with
  | [.ptr (some a1), .int .i64 a2, .bool a3] => I a1 a2 a3 h
  | _ => False

def palisaderef02_Valid.k4 (I : Ptr → Int → Heap → Prop) (vs : List V) (h : Heap) : Prop :=
  match vs with
  | [.ptr (some a1), .int .i64 a2] => I a1 a2 h
  | _ => False

theorem palisaderef02_Valid.p3 : (posC palisaderef02_Valid.code []).filter (fun p => Nat.beq p.1 3) = [(3, atPos (posC palisaderef02_Valid.code []) 3)] := by kernel_rfl

theorem palisaderef02_Valid.e3 : ∀   (Q : Bool → Heap → Prop) (h : Heap), palisaderef02_Valid.j3   Q h = pts (palisaderef02_Valid.E Q []) 3000 true (atPos (posC palisaderef02_Valid.code []) 3) (frAt [] []) h := by
  intros; kernel_rfl

theorem palisaderef02_Valid.s3 {W0 : World} (Q : Bool → Heap → Prop)   : CutOK sg W0 91 (entered 41) (Post sg W0 (palisaderef02_Valid.ret Q)) (posC palisaderef02_Valid.code []) 3 [] (palisaderef02_Valid.k3 (fun  h => palisaderef02_Valid.j3   Q h)) := by
  refine cutOK_head (fun vs h hk => ?_)
  unfold palisaderef02_Valid.k3 at hk
  split at hk
  · skip
    intro todo hm ρ a w s f hp
    exact piece (E := palisaderef02_Valid.E Q []) (vs := []) (envOK seatOK palisaderef02_Valid.callsOK noIfc_ok) (fnOK seatOK palisaderef02_Valid.fun) trivial palisaderef02_Valid.p3 (fuel := 3000) (by rw [← palisaderef02_Valid.e3]; exact hk) hm s f hp
  · exact hk.elim

theorem palisaderef02_Valid.p7 : (posC palisaderef02_Valid.code []).filter (fun p => Nat.beq p.1 7) = [(7, atPos (posC palisaderef02_Valid.code []) 7)] := by kernel_rfl

theorem palisaderef02_Valid.e7 : ∀  (a1 : Ptr) (a2 : Bool) (a3 : Bool) (a4 : Bool) (Q : Bool → Heap → Prop) (h : Heap), palisaderef02_Valid.j7  a1 a2 a3 a4 Q h = pts (palisaderef02_Valid.E Q []) 3000 true (atPos (posC palisaderef02_Valid.code []) 7) (frAt [1, 4, 5, 6] [.ptr (some a1), .bool a2, .bool a3, .bool a4]) h := by
  intros; kernel_rfl

theorem palisaderef02_Valid.s7 {W0 : World} (Q : Bool → Heap → Prop)   : CutOK sg W0 91 (entered 41) (Post sg W0 (palisaderef02_Valid.ret Q)) (posC palisaderef02_Valid.code []) 7 [1, 4, 5, 6] (palisaderef02_Valid.k7 (fun a1 a2 a3 a4 h => palisaderef02_Valid.j7  a1 a2 a3 a4 Q h)) := by
  refine cutOK_head (fun vs h hk => ?_)
  unfold palisaderef02_Valid.k7 at hk
  split at hk
  · rename_i a1 a2 a3 a4
    intro todo hm ρ a w s f hp
    exact piece (E := palisaderef02_Valid.E Q []) (vs := [.ptr (some a1), .bool a2, .bool a3, .bool a4]) (envOK seatOK palisaderef02_Valid.callsOK noIfc_ok) (fnOK seatOK palisaderef02_Valid.fun) trivial palisaderef02_Valid.p7 (fuel := 3000) (by rw [← palisaderef02_Valid.e7]; exact hk) hm s f hp
  · exact hk.elim

theorem palisaderef02_Valid.p6 : (posC palisaderef02_Valid.code []).filter (fun p => Nat.beq p.1 6) = [(6, atPos (posC palisaderef02_Valid.code []) 6)] := by kernel_rfl

theorem palisaderef02_Valid.e6 : ∀  (a1 : Ptr) (a2 : Int) (a3 : Bool) (a4 : Bool) (Q : Bool → Heap → Prop) (h : Heap), palisaderef02_Valid.j6  a1 a2 a3 a4 Q h = pts (palisaderef02_Valid.E Q [(7, ([1, 4, 5, 6], palisaderef02_Valid.k7 (fun a1 a2 a3 a4 h => palisaderef02_Valid.j7  a1 a2 a3 a4 Q h)))]) 3000 true (atPos (posC palisaderef02_Valid.code []) 6) (frAt [1, 3, 4, 5] [.ptr (some a1), .int .i64 a2, .bool a3, .bool a4]) h := by
  intros; kernel_rfl

theorem palisaderef02_Valid.s6 {W0 : World} (Q : Bool → Heap → Prop)   : CutOK sg W0 91 (entered 41) (Post sg W0 (palisaderef02_Valid.ret Q)) (posC palisaderef02_Valid.code []) 6 [1, 3, 4, 5] (palisaderef02_Valid.k6 (fun a1 a2 a3 a4 h => palisaderef02_Valid.j6  a1 a2 a3 a4 Q h)) := by
  refine cutOK_head (fun vs h hk => ?_)
  unfold palisaderef02_Valid.k6 at hk
  split at hk
  · rename_i a1 a2 a3 a4
    intro todo hm ρ a w s f hp
    exact piece (E := palisaderef02_Valid.E Q [(7, ([1, 4, 5, 6], palisaderef02_Valid.k7 (fun a1 a2 a3 a4 h => palisaderef02_Valid.j7  a1 a2 a3 a4 Q h)))]) (vs := [.ptr (some a1), .int .i64 a2, .bool a3, .bool a4]) (envOK seatOK palisaderef02_Valid.callsOK noIfc_ok) (fnOK seatOK palisaderef02_Valid.fun) ⟨(palisaderef02_Valid.s7 Q  ), trivial⟩ palisaderef02_Valid.p6 (fuel := 3000) (by rw [← palisaderef02_Valid.e6]; exact hk) hm s f hp
  · exact hk.elim

theorem palisaderef02_Valid.p5 : (posC palisaderef02_Valid.code []).filter (fun p => Nat.beq p.1 5) = [(5, atPos (posC palisaderef02_Valid.code []) 5)] := by kernel_rfl

theorem palisaderef02_Valid.e5 : ∀  (a1 : Ptr) (a2 : Int) (a3 : Bool) (Q : Bool → Heap → Prop) (h : Heap), palisaderef02_Valid.j5  a1 a2 a3 Q h = pts (palisaderef02_Valid.E Q [(6, ([1, 3, 4, 5], palisaderef02_Valid.k6 (fun a1 a2 a3 a4 h => palisaderef02_Valid.j6  a1 a2 a3 a4 Q h)))]) 3000 true (atPos (posC palisaderef02_Valid.code []) 5) (frAt [1, 3, 4] [.ptr (some a1), .int .i64 a2, .bool a3]) h := by
  intros; kernel_rfl

theorem palisaderef02_Valid.s5 {W0 : World} (Q : Bool → Heap → Prop)   : CutOK sg W0 91 (entered 41) (Post sg W0 (palisaderef02_Valid.ret Q)) (posC palisaderef02_Valid.code []) 5 [1, 3, 4] (palisaderef02_Valid.k5 (fun a1 a2 a3 h => palisaderef02_Valid.j5  a1 a2 a3 Q h)) := by
  refine cutOK_head (fun vs h hk => ?_)
  unfold palisaderef02_Valid.k5 at hk
  split at hk
  · rename_i a1 a2 a3
    intro todo hm ρ a w s f hp
    exact piece (E := palisaderef02_Valid.E Q [(6, ([1, 3, 4, 5], palisaderef02_Valid.k6 (fun a1 a2 a3 a4 h => palisaderef02_Valid.j6  a1 a2 a3 a4 Q h)))]) (vs := [.ptr (some a1), .int .i64 a2, .bool a3]) (envOK seatOK palisaderef02_Valid.callsOK noIfc_ok) (fnOK seatOK palisaderef02_Valid.fun) ⟨(palisaderef02_Valid.s6 Q  ), trivial⟩ palisaderef02_Valid.p5 (fuel := 3000) (by rw [← palisaderef02_Valid.e5]; exact hk) hm s f hp
  · exact hk.elim

theorem palisaderef02_Valid.p4 : (posC palisaderef02_Valid.code []).filter (fun p => Nat.beq p.1 4) = [(4, atPos (posC palisaderef02_Valid.code []) 4)] := by kernel_rfl

theorem palisaderef02_Valid.e4 : ∀  (a1 : Ptr) (a2 : Int) (Q : Bool → Heap → Prop) (h : Heap), palisaderef02_Valid.j4  a1 a2 Q h = pts (palisaderef02_Valid.E Q [(5, ([1, 3, 4], palisaderef02_Valid.k5 (fun a1 a2 a3 h => palisaderef02_Valid.j5  a1 a2 a3 Q h)))]) 3000 true (atPos (posC palisaderef02_Valid.code []) 4) (frAt [1, 3] [.ptr (some a1), .int .i64 a2]) h := by
  intros; kernel_rfl

theorem palisaderef02_Valid.s4 {W0 : World} (Q : Bool → Heap → Prop)   : CutOK sg W0 91 (entered 41) (Post sg W0 (palisaderef02_Valid.ret Q)) (posC palisaderef02_Valid.code []) 4 [1, 3] (palisaderef02_Valid.k4 (fun a1 a2 h => palisaderef02_Valid.j4  a1 a2 Q h)) := by
  refine cutOK_head (fun vs h hk => ?_)
  unfold palisaderef02_Valid.k4 at hk
  split at hk
  · rename_i a1 a2
    intro todo hm ρ a w s f hp
    exact piece (E := palisaderef02_Valid.E Q [(5, ([1, 3, 4], palisaderef02_Valid.k5 (fun a1 a2 a3 h => palisaderef02_Valid.j5  a1 a2 a3 Q h)))]) (vs := [.ptr (some a1), .int .i64 a2]) (envOK seatOK palisaderef02_Valid.callsOK noIfc_ok) (fnOK seatOK palisaderef02_Valid.fun) ⟨(palisaderef02_Valid.s5 Q  ), trivial⟩ palisaderef02_Valid.p4 (fuel := 3000) (by rw [← palisaderef02_Valid.e4]; exact hk) hm s f hp
  · exact hk.elim

theorem palisaderef02_Valid.e : ∀ (a1 : Int) (a2 : Int) (a3 : Int) (a4 : Int) (a5 : Int) (Q : Bool → Heap → Prop) (h : Heap), palisaderef02_Valid a1 a2 a3 a4 a5 Q h = pts (palisaderef02_Valid.E Q [(3, ([], palisaderef02_Valid.k3 (fun  h => palisaderef02_Valid.j3   Q h))), (4, ([1, 3], palisaderef02_Valid.k4 (fun a1 a2 h => palisaderef02_Valid.j4  a1 a2 Q h)))]) 3000 true [.code palisaderef02_Valid.code] (frOf 0 [.agg [.int .i64 a1, .int .i64 a2, .int .i64 a3, .int .i64 a4, .int .i64 a5]]) h := by
  intros; kernel_rfl

theorem palisaderef02_Valid.S {W0 : World} : FnS sg W0 226 palisaderef02_Valid.C := by
  intro vs κ h wv hx w s
  unfold palisaderef02_Valid.C at hx
  split at hx
  · rename_i a1 a2 a3 a4 a5
    refine postImp (ret := palisaderef02_Valid.ret (fun r1 h => κ (.bool r1) h)) (fun v h hr => by unfold palisaderef02_Valid.ret at hr; split at hr; exact hr; exact hr.elim) ?_
    exact calls_of_pts (E := palisaderef02_Valid.E (fun r1 h => κ (.bool r1) h) [(3, ([], palisaderef02_Valid.k3 (fun  h => palisaderef02_Valid.j3   (fun r1 h => κ (.bool r1) h) h))), (4, ([1, 3], palisaderef02_Valid.k4 (fun a1 a2 h => palisaderef02_Valid.j4  a1 a2 (fun r1 h => κ (.bool r1) h) h)))]) (envOK seatOK palisaderef02_Valid.callsOK noIfc_ok) seatOK.mixed palisaderef02_Valid.fun (Nat.le_of_ble_eq_true rfl) wv (cutL_ok ⟨(palisaderef02_Valid.s3 (fun r1 h => κ (.bool r1) h)), (palisaderef02_Valid.s4 (fun r1 h => κ (.bool r1) h)), trivial⟩) s (fuel := 3000) (by rw [← palisaderef02_Valid.e]; exact hx)
  · exact hx.elim

noncomputable def palisaderef01_Place.code : Code := Go.Proofs.Tryd.f42.body.getD .skip

theorem palisaderef01_Place.fun : Fun sg.P 42 55 [.tmp 8] palisaderef01_Place.code := mkFun Go.Proofs.Tryd.func42 (by kernel_rfl) (by kernel_rfl) (by kernel_rfl) (by kernel_rfl)

def palisaderef01_Place.ret (Q : Int → Heap → Prop) (v : V) (h : Heap) : Prop :=
  match v with
  | .int .u32 r1 => Q r1 h
  | _ => False

def palisaderef01_Place.C (vs : List V) (κ : V → Heap → Prop) (h : Heap) : Prop :=
  match vs with
  | [.int .u32 a1, .int .i64 a2, .int .i64 a3, .int .i64 a4] => palisaderef01_Place a1 a2 a3 a4 (fun r1 h => κ (.int .u32 r1) h) h
  | _ => False

noncomputable def palisaderef01_Place.calls : List (Nat × (List V → (V → Heap → Prop) → Heap → Prop)) := []

noncomputable def palisaderef01_Place.E (Q : Int → Heap → Prop) (cuts : List (Nat × (List Nat × (List V → Heap → Prop)))) : Env := { tis := tisT, fns := fnsT, tys := tysT, gls := [], rts := rtsT, unk := [], nxt := [], calls := palisaderef01_Place.calls, ifc := noIfc, cuts := cuts, ret := palisaderef01_Place.ret Q, rets := [.tmp 8], n := 55 }

theorem palisaderef01_Place.callsOK {W0 : World} : CallsOK sg W0 palisaderef01_Place.calls := trivial

def palisaderef01_Place.k2 (I : Int → Heap → Prop) (vs : List V) (h : Heap) : Prop :=
  match vs with
  | [.int .u32 a1] => I a1 h
  | _ => False

def palisaderef01_Place.k5 (I : Int → Int → Int → Int → Int → Heap → Prop) (vs : List V) (h : Heap) : Prop :=
  match vs with
  | [.int .u32 a1, .int .i64 a2, .int .i64 a3, .int .i64 a4, .int .i64 a5] => I a1 a2 a3 a4 a5 h
  | _ => False

def palisaderef01_Place.k4 (I : Int → Int → Int → Int → Int → Heap → Prop) (vs : List V) (h : Heap) : Prop :=
  match vs with
  | [.int .u32 a1, .int .i64 a2, .int .i64 a3, .int .i64 a4, .int .i64 a5] => I a1 a2 a3 a4 a5 h
  | _ => False

theorem palisaderef01_Place.p2 : (posC palisaderef01_Place.code []).filter (fun p => Nat.beq p.1 2) = [(2, atPos (posC palisaderef01_Place.code []) 2)] := by kernel_rfl

theorem palisaderef01_Place.e2 : ∀  (a1 : Int) (Q : Int → Heap → Prop) (h : Heap), palisaderef01_Place.j2  a1 Q h = pts (palisaderef01_Place.E Q []) 3000 true (atPos (posC palisaderef01_Place.code []) 2) (frAt [0] [.int .u32 a1]) h := by
  intros; kernel_rfl

theorem palisaderef01_Place.s2 {W0 : World} (Q : Int → Heap → Prop)   : CutOK sg W0 55 (entered 42) (Post sg W0 (palisaderef01_Place.ret Q)) (posC palisaderef01_Place.code []) 2 [0] (palisaderef01_Place.k2 (fun a1 h => palisaderef01_Place.j2  a1 Q h)) := by
  refine cutOK_head (fun vs h hk => ?_)
  unfold palisaderef01_Place.k2 at hk
  split at hk
  · rename_i a1
    intro todo hm ρ a w s f hp
    exact piece (E := palisaderef01_Place.E Q []) (vs := [.int .u32 a1]) (envOK seatOK palisaderef01_Place.callsOK noIfc_ok) (fnOK seatOK palisaderef01_Place.fun) trivial palisaderef01_Place.p2 (fuel := 3000) (by rw [← palisaderef01_Place.e2]; exact hk) hm s f hp
  · exact hk.elim

theorem palisaderef01_Place.p5 : (posC palisaderef01_Place.code []).filter (fun p => Nat.beq p.1 5) = [(5, atPos (posC palisaderef01_Place.code []) 5)] := by kernel_rfl

theorem palisaderef01_Place.e5 : ∀ (I4 : Int → Int → Int → Int → Int → Heap → Prop) (a1 : Int) (a2 : Int) (a3 : Int) (a4 : Int) (a5 : Int) (Q : Int → Heap → Prop) (h : Heap), palisaderef01_Place.j5 I4 a1 a2 a3 a4 a5 Q h = pts (palisaderef01_Place.E Q [(4, ([0, 1, 2, 3, 9], palisaderef01_Place.k4 I4))]) 3000 true (atPos (posC palisaderef01_Place.code []) 5) (frAt [0, 1, 2, 3, 9] [.int .u32 a1, .int .i64 a2, .int .i64 a3, .int .i64 a4, .int .i64 a5]) h := by
  intros; kernel_rfl

theorem palisaderef01_Place.s5 {W0 : World} (Q : Int → Heap → Prop) (I4 : Int → Int → Int → Int → Int → Heap → Prop) (h4 : CutOK sg W0 55 (entered 42) (Post sg W0 (palisaderef01_Place.ret Q)) (posC palisaderef01_Place.code []) 4 [0, 1, 2, 3, 9] (palisaderef01_Place.k4 I4)) : CutOK sg W0 55 (entered 42) (Post sg W0 (palisaderef01_Place.ret Q)) (posC palisaderef01_Place.code []) 5 [0, 1, 2, 3, 9] (palisaderef01_Place.k5 (fun a1 a2 a3 a4 a5 h => palisaderef01_Place.j5 I4 a1 a2 a3 a4 a5 Q h)) := by
  refine cutOK_head (fun vs h hk => ?_)
  unfold palisaderef01_Place.k5 at hk
  split at hk
  · rename_i a1 a2 a3 a4 a5
    intro todo hm ρ a w s f hp
    exact piece (E := palisaderef01_Place.E Q [(4, ([0, 1, 2, 3, 9], palisaderef01_Place.k4 I4))]) (vs := [.int .u32 a1, .int .i64 a2, .int .i64 a3, .int .i64 a4, .int .i64 a5]) (envOK seatOK palisaderef01_Place.callsOK noIfc_ok) (fnOK seatOK palisaderef01_Place.fun) ⟨h4, trivial⟩ palisaderef01_Place.p5 (fuel := 3000) (by rw [← palisaderef01_Place.e5]; exact hk) hm s f hp
  · exact hk.elim

theorem palisaderef01_Place.p4 : (posC palisaderef01_Place.code []).filter (fun p => Nat.beq p.1 4) = [(4, atPos (posC palisaderef01_Place.code []) 4)] := by kernel_rfl

theorem palisaderef01_Place.e4 : ∀  (I4 : Int → Int → Int → Int → Int → Heap → Prop) (a1 : Int) (a2 : Int) (a3 : Int) (a4 : Int) (a5 : Int) (Q : Int → Heap → Prop) (h : Heap), palisaderef01_Place.b4  I4 a1 a2 a3 a4 a5 Q h = pts (palisaderef01_Place.E Q [(5, ([0, 1, 2, 3, 9], palisaderef01_Place.k5 (fun a1 a2 a3 a4 a5 h => palisaderef01_Place.j5 I4 a1 a2 a3 a4 a5 Q h)))]) 3000 true (atPos (posC palisaderef01_Place.code []) 4) (frAt [0, 1, 2, 3, 9] [.int .u32 a1, .int .i64 a2, .int .i64 a3, .int .i64 a4, .int .i64 a5]) h := by
  intros; kernel_rfl

theorem palisaderef01_Place.s4 {W0 : World} (Q : Int → Heap → Prop)   : CutOK sg W0 55 (entered 42) (Post sg W0 (palisaderef01_Place.ret Q)) (posC palisaderef01_Place.code []) 4 [0, 1, 2, 3, 9] (palisaderef01_Place.k4 (fun a1 a2 a3 a4 a5 h => palisaderef01_Place.j4  a1 a2 a3 a4 a5 Q h)) := by
  refine cutOK_head (fun vs h hk => ?_)
  unfold palisaderef01_Place.k4 at hk
  split at hk
  · rename_i a1 a2 a3 a4 a5
    refine hk (fun a1 a2 a3 a4 a5 h => Head sg W0 55 (entered 42) (Post sg W0 (palisaderef01_Place.ret Q)) (posC palisaderef01_Place.code []) 4 [0, 1, 2, 3, 9] [.int .u32 a1, .int .i64 a2, .int .i64 a3, .int .i64 a4, .int .i64 a5] h) ?_
    intro a1 a2 a3 a4 a5 h hb todo hm ρ a w s f hp
    have hself : CutOK sg W0 55 (entered 42) (Post sg W0 (palisaderef01_Place.ret Q)) (posC palisaderef01_Place.code []) 4 [0, 1, 2, 3, 9] (palisaderef01_Place.k4 (fun a1 a2 a3 a4 a5 h => Head sg W0 55 (entered 42) (Post sg W0 (palisaderef01_Place.ret Q)) (posC palisaderef01_Place.code []) 4 [0, 1, 2, 3, 9] [.int .u32 a1, .int .i64 a2, .int .i64 a3, .int .i64 a4, .int .i64 a5] h)) := cutOK_head (fun vs h hk => by unfold palisaderef01_Place.k4 at hk; split at hk; exact hk; exact hk.elim)
    exact piece (E := palisaderef01_Place.E Q [(5, ([0, 1, 2, 3, 9], palisaderef01_Place.k5 (fun a1 a2 a3 a4 a5 h => palisaderef01_Place.j5 (fun a1 a2 a3 a4 a5 h => Head sg W0 55 (entered 42) (Post sg W0 (palisaderef01_Place.ret Q)) (posC palisaderef01_Place.code []) 4 [0, 1, 2, 3, 9] [.int .u32 a1, .int .i64 a2, .int .i64 a3, .int .i64 a4, .int .i64 a5] h) a1 a2 a3 a4 a5 Q h)))]) (vs := [.int .u32 a1, .int .i64 a2, .int .i64 a3, .int .i64 a4, .int .i64 a5]) (envOK seatOK palisaderef01_Place.callsOK noIfc_ok) (fnOK seatOK palisaderef01_Place.fun) ⟨(palisaderef01_Place.s5 Q (fun a1 a2 a3 a4 a5 h => Head sg W0 55 (entered 42) (Post sg W0 (palisaderef01_Place.ret Q)) (posC palisaderef01_Place.code []) 4 [0, 1, 2, 3, 9] [.int .u32 a1, .int .i64 a2, .int .i64 a3, .int .i64 a4, .int .i64 a5] h) hself), trivial⟩ palisaderef01_Place.p4 (fuel := 3000) (by rw [← palisaderef01_Place.e4]; exact hb) hm s f hp
  · exact hk.elim

theorem palisaderef01_Place.e : ∀ (a1 : Int) (a2 : Int) (a3 : Int) (a4 : Int) (Q : Int → Heap → Prop) (h : Heap), palisaderef01_Place a1 a2 a3 a4 Q h = pts (palisaderef01_Place.E Q [(2, ([0], palisaderef01_Place.k2 (fun a1 h => palisaderef01_Place.j2  a1 Q h))), (4, ([0, 1, 2, 3, 9], palisaderef01_Place.k4 (fun a1 a2 a3 a4 a5 h => palisaderef01_Place.j4  a1 a2 a3 a4 a5 Q h)))]) 3000 true [.code palisaderef01_Place.code] (frOf 0 [.int .u32 a1, .int .i64 a2, .int .i64 a3, .int .i64 a4]) h := by
  intros; kernel_rfl

theorem palisaderef01_Place.S {W0 : World} : FnS sg W0 227 palisaderef01_Place.C := by
  intro vs κ h wv hx w s
  unfold palisaderef01_Place.C at hx
  split at hx
  · rename_i a1 a2 a3 a4
    refine postImp (ret := palisaderef01_Place.ret (fun r1 h => κ (.int .u32 r1) h)) (fun v h hr => by unfold palisaderef01_Place.ret at hr; split at hr; exact hr; exact hr.elim) ?_
    exact calls_of_pts (E := palisaderef01_Place.E (fun r1 h => κ (.int .u32 r1) h) [(2, ([0], palisaderef01_Place.k2 (fun a1 h => palisaderef01_Place.j2  a1 (fun r1 h => κ (.int .u32 r1) h) h))), (4, ([0, 1, 2, 3, 9], palisaderef01_Place.k4 (fun a1 a2 a3 a4 a5 h => palisaderef01_Place.j4  a1 a2 a3 a4 a5 (fun r1 h => κ (.int .u32 r1) h) h)))]) (envOK seatOK palisaderef01_Place.callsOK noIfc_ok) seatOK.mixed palisaderef01_Place.fun (Nat.le_of_ble_eq_true rfl) wv (cutL_ok ⟨(palisaderef01_Place.s2 (fun r1 h => κ (.int .u32 r1) h)), (palisaderef01_Place.s4 (fun r1 h => κ (.int .u32 r1) h)), trivial⟩) s (fuel := 3000) (by rw [← palisaderef01_Place.e]; exact hx)
  · exact hx.elim

noncomputable def palisaderef02_Encode.code : Code := Go.Proofs.Tryd.f29.body.getD .skip

theorem palisaderef02_Encode.fun : Fun sg.P 29 35 [.tmp 2, .tmp 3] palisaderef02_Encode.code := mkFun Go.Proofs.Tryd.func29 (by kernel_rfl) (by kernel_rfl) (by kernel_rfl) (by kernel_rfl)

def palisaderef02_Encode.ret (Q : Int → Int → Heap → Prop) (v : V) (h : Heap) : Prop :=
  match v with
  | .tup [.int .u32 r1, .int .i64 r2] => Q r1 r2 h
  | _ => False

def palisaderef02_Encode.C (vs : List V) (κ : V → Heap → Prop) (h : Heap) : Prop :=
  match vs with
  | [.agg [.int .i64 a1, .int .i64 a2, .int .i64 a3, .int .i64 a4, .int .i64 a5]] => palisaderef02_Encode a1 a2 a3 a4 a5 (fun r1 r2 h => κ (.tup [.int .u32 r1, .int .i64 r2]) h) h
  | _ => False

noncomputable def palisaderef02_Encode.calls : List (Nat × (List V → (V → Heap → Prop) → Heap → Prop)) := [(222, palisaderef02_Shape.C), (226, palisaderef02_Valid.C), (227, palisaderef01_Place.C)]

noncomputable def palisaderef02_Encode.E (Q : Int → Int → Heap → Prop) (cuts : List (Nat × (List Nat × (List V → Heap → Prop)))) : Env := { tis := tisT, fns := fnsT, tys := tysT, gls := [], rts := rtsT, unk := [], nxt := [], calls := palisaderef02_Encode.calls, ifc := noIfc, cuts := cuts, ret := palisaderef02_Encode.ret Q, rets := [.tmp 2, .tmp 3], n := 35 }

theorem palisaderef02_Encode.callsOK {W0 : World} : CallsOK sg W0 palisaderef02_Encode.calls := ⟨palisaderef02_Shape.S, palisaderef02_Valid.S, palisaderef01_Place.S, trivial⟩

def palisaderef02_Encode.k9 (I : Ptr → Int → Heap → Prop) (vs : List V) (h : Heap) : Prop :=
  match vs with
  | [.ptr (some a1), .int .u32 a2] => I a1 a2 h
  | _ => False

theorem palisaderef02_Encode.p9 : (posC palisaderef02_Encode.code []).filter (fun p => Nat.beq p.1 9) = [(9, atPos (posC palisaderef02_Encode.code []) 9)] := by kernel_rfl

theorem palisaderef02_Encode.e9 : ∀  (a1 : Ptr) (a2 : Int) (Q : Int → Int → Heap → Prop) (h : Heap), palisaderef02_Encode.j9  a1 a2 Q h = pts (palisaderef02_Encode.E Q []) 3000 true (atPos (posC palisaderef02_Encode.code []) 9) (frAt [1, 4] [.ptr (some a1), .int .u32 a2]) h := by
  intros; kernel_rfl

theorem palisaderef02_Encode.s9 {W0 : World} (Q : Int → Int → Heap → Prop)   : CutOK sg W0 35 (entered 29) (Post sg W0 (palisaderef02_Encode.ret Q)) (posC palisaderef02_Encode.code []) 9 [1, 4] (palisaderef02_Encode.k9 (fun a1 a2 h => palisaderef02_Encode.j9  a1 a2 Q h)) := by
  refine cutOK_head (fun vs h hk => ?_)
  unfold palisaderef02_Encode.k9 at hk
  split at hk
  · rename_i a1 a2
    intro todo hm ρ a w s f hp
    exact piece (E := palisaderef02_Encode.E Q []) (vs := [.ptr (some a1), .int .u32 a2]) (envOK seatOK palisaderef02_Encode.callsOK noIfc_ok) (fnOK seatOK palisaderef02_Encode.fun) trivial palisaderef02_Encode.p9 (fuel := 3000) (by rw [← palisaderef02_Encode.e9]; exact hk) hm s f hp
  · exact hk.elim

theorem palisaderef02_Encode.e : ∀ (a1 : Int) (a2 : Int) (a3 : Int) (a4 : Int) (a5 : Int) (Q : Int → Int → Heap → Prop) (h : Heap), palisaderef02_Encode a1 a2 a3 a4 a5 Q h = pts (palisaderef02_Encode.E Q [(9, ([1, 4], palisaderef02_Encode.k9 (fun a1 a2 h => palisaderef02_Encode.j9  a1 a2 Q h)))]) 3000 true [.code palisaderef02_Encode.code] (frOf 0 [.agg [.int .i64 a1, .int .i64 a2, .int .i64 a3, .int .i64 a4, .int .i64 a5]]) h := by
  intros; kernel_rfl

theorem palisaderef02_Encode.S {W0 : World} : FnS sg W0 228 palisaderef02_Encode.C := by
  intro vs κ h wv hx w s
  unfold palisaderef02_Encode.C at hx
  split at hx
  · rename_i a1 a2 a3 a4 a5
    refine postImp (ret := palisaderef02_Encode.ret (fun r1 r2 h => κ (.tup [.int .u32 r1, .int .i64 r2]) h)) (fun v h hr => by unfold palisaderef02_Encode.ret at hr; split at hr; exact hr; exact hr.elim) ?_
    exact calls_of_pts (E := palisaderef02_Encode.E (fun r1 r2 h => κ (.tup [.int .u32 r1, .int .i64 r2]) h) [(9, ([1, 4], palisaderef02_Encode.k9 (fun a1 a2 h => palisaderef02_Encode.j9  a1 a2 (fun r1 r2 h => κ (.tup [.int .u32 r1, .int .i64 r2]) h) h)))]) (envOK seatOK palisaderef02_Encode.callsOK noIfc_ok) seatOK.mixed palisaderef02_Encode.fun (Nat.le_of_ble_eq_true rfl) wv (cutL_ok ⟨(palisaderef02_Encode.s9 (fun r1 r2 h => κ (.tup [.int .u32 r1, .int .i64 r2]) h)), trivial⟩) s (fuel := 3000) (by rw [← palisaderef02_Encode.e]; exact hx)
  · exact hx.elim

noncomputable def palisaderef02_Decode.code : Code := Go.Proofs.Tryd.f11.body.getD .skip

theorem palisaderef02_Decode.fun : Fun sg.P 11 44 [.cell 2 26, .tmp 3] palisaderef02_Decode.code := mkFun Go.Proofs.Tryd.func11 (by kernel_rfl) (by kernel_rfl) (by kernel_rfl) (by kernel_rfl)

def palisaderef02_Decode.ret (Q : Int → Int → Int → Int → Int → Int → Heap → Prop) (v : V) (h : Heap) : Prop :=
  match v with
  | .tup [.agg [.int .i64 r1, .int .i64 r2, .int .i64 r3, .int .i64 r4, .int .i64 r5], .int .i64 r6] => Q r1 r2 r3 r4 r5 r6 h
  | _ => False

def palisaderef02_Decode.C (vs : List V) (κ : V → Heap → Prop) (h : Heap) : Prop :=
  match vs with
  | [.int .u32 a1] => palisaderef02_Decode a1 (fun r1 r2 r3 r4 r5 r6 h => κ (.tup [.agg [.int .i64 r1, .int .i64 r2, .int .i64 r3, .int .i64 r4, .int .i64 r5], .int .i64 r6]) h) h
  | _ => False

noncomputable def palisaderef02_Decode.calls : List (Nat × (List V → (V → Heap → Prop) → Heap → Prop)) := [(342, palisaderef01_Field.C), (222, palisaderef02_Shape.C), (343, palisaderef01_Sign.C), (228, palisaderef02_Encode.C)]

noncomputable def palisaderef02_Decode.E (Q : Int → Int → Int → Int → Int → Int → Heap → Prop) (cuts : List (Nat × (List Nat × (List V → Heap → Prop)))) : Env := { tis := tisT, fns := fnsT, tys := tysT, gls := [], rts := rtsT, unk := [], nxt := [], calls := palisaderef02_Decode.calls, ifc := noIfc, cuts := cuts, ret := palisaderef02_Decode.ret Q, rets := [.cell 2 26, .tmp 3], n := 44 }

theorem palisaderef02_Decode.callsOK {W0 : World} : CallsOK sg W0 palisaderef02_Decode.calls := ⟨palisaderef01_Field.S, palisaderef02_Shape.S, palisaderef01_Sign.S, palisaderef02_Encode.S, trivial⟩

def palisaderef02_Decode.k7 (I : Int → Ptr → Ptr → Heap → Prop) (vs : List V) (h : Heap) : Prop :=
  match vs with
  | [.int .u32 a1, .ptr (some a2), .ptr (some a3)] => I a1 a2 a3 h
  | _ => False

theorem palisaderef02_Decode.p7 : (posC palisaderef02_Decode.code []).filter (fun p => Nat.beq p.1 7) = [(7, atPos (posC palisaderef02_Decode.code []) 7)] := by kernel_rfl

theorem palisaderef02_Decode.e7 : ∀  (a1 : Int) (a2 : Ptr) (a3 : Ptr) (Q : Int → Int → Int → Int → Int → Int → Heap → Prop) (h : Heap), palisaderef02_Decode.j7  a1 a2 a3 Q h = pts (palisaderef02_Decode.E Q []) 3000 true (atPos (posC palisaderef02_Decode.code []) 7) (frAt [0, 2, 4] [.int .u32 a1, .ptr (some a2), .ptr (some a3)]) h := by
  intros; kernel_rfl

theorem palisaderef02_Decode.s7 {W0 : World} (Q : Int → Int → Int → Int → Int → Int → Heap → Prop)   : CutOK sg W0 44 (entered 11) (Post sg W0 (palisaderef02_Decode.ret Q)) (posC palisaderef02_Decode.code []) 7 [0, 2, 4] (palisaderef02_Decode.k7 (fun a1 a2 a3 h => palisaderef02_Decode.j7  a1 a2 a3 Q h)) := by
  refine cutOK_head (fun vs h hk => ?_)
  unfold palisaderef02_Decode.k7 at hk
  split at hk
  · rename_i a1 a2 a3
    intro todo hm ρ a w s f hp
    exact piece (E := palisaderef02_Decode.E Q []) (vs := [.int .u32 a1, .ptr (some a2), .ptr (some a3)]) (envOK seatOK palisaderef02_Decode.callsOK noIfc_ok) (fnOK seatOK palisaderef02_Decode.fun) trivial palisaderef02_Decode.p7 (fuel := 3000) (by rw [← palisaderef02_Decode.e7]; exact hk) hm s f hp
  · exact hk.elim

theorem palisaderef02_Decode.e : ∀ (a1 : Int) (Q : Int → Int → Int → Int → Int → Int → Heap → Prop) (h : Heap), palisaderef02_Decode a1 Q h = pts (palisaderef02_Decode.E Q [(7, ([0, 2, 4], palisaderef02_Decode.k7 (fun a1 a2 a3 h => palisaderef02_Decode.j7  a1 a2 a3 Q h)))]) 3000 true [.code palisaderef02_Decode.code] (frOf 0 [.int .u32 a1]) h := by
  intros; kernel_rfl

theorem palisaderef02_Decode.S {W0 : World} : FnS sg W0 344 palisaderef02_Decode.C := by
  intro vs κ h wv hx w s
  unfold palisaderef02_Decode.C at hx
  split at hx
  · rename_i a1
    refine postImp (ret := palisaderef02_Decode.ret (fun r1 r2 r3 r4 r5 r6 h => κ (.tup [.agg [.int .i64 r1, .int .i64 r2, .int .i64 r3, .int .i64 r4, .int .i64 r5], .int .i64 r6]) h)) (fun v h hr => by unfold palisaderef02_Decode.ret at hr; split at hr; exact hr; exact hr.elim) ?_
    exact calls_of_pts (E := palisaderef02_Decode.E (fun r1 r2 r3 r4 r5 r6 h => κ (.tup [.agg [.int .i64 r1, .int .i64 r2, .int .i64 r3, .int .i64 r4, .int .i64 r5], .int .i64 r6]) h) [(7, ([0, 2, 4], palisaderef02_Decode.k7 (fun a1 a2 a3 h => palisaderef02_Decode.j7  a1 a2 a3 (fun r1 r2 r3 r4 r5 r6 h => κ (.tup [.agg [.int .i64 r1, .int .i64 r2, .int .i64 r3, .int .i64 r4, .int .i64 r5], .int .i64 r6]) h) h)))]) (envOK seatOK palisaderef02_Decode.callsOK noIfc_ok) seatOK.mixed palisaderef02_Decode.fun (Nat.le_of_ble_eq_true rfl) wv (cutL_ok ⟨(palisaderef02_Decode.s7 (fun r1 r2 r3 r4 r5 r6 h => κ (.tup [.agg [.int .i64 r1, .int .i64 r2, .int .i64 r3, .int .i64 r4, .int .i64 r5], .int .i64 r6]) h)), trivial⟩) s (fuel := 3000) (by rw [← palisaderef02_Decode.e]; exact hx)
  · exact hx.elim

noncomputable def palisaderef03_Decimal.code : Code := Go.Proofs.Tryd.f12.body.getD .skip

theorem palisaderef03_Decimal.fun : Fun sg.P 12 23 [.tmp 2] palisaderef03_Decimal.code := mkFun Go.Proofs.Tryd.func12 (by kernel_rfl) (by kernel_rfl) (by kernel_rfl) (by kernel_rfl)

def palisaderef03_Decimal.ret (Q : (List UInt8) → Heap → Prop) (v : V) (h : Heap) : Prop :=
  match v with
  | .str r1 => Q r1 h
  | _ => False

def palisaderef03_Decimal.C (U : Ifc) (vs : List V) (κ : V → Heap → Prop) (h : Heap) : Prop :=
  match vs with
  | [.int .i64 a1] => palisaderef03_Decimal U a1 (fun r1 h => κ (.str r1) h) h
  | _ => False

def palisaderef03_Decimal.R334 (U : Ifc) (vs : List V) (κ : V → Heap → Prop) (h : Heap) : Prop := U.callV (.fn 334 []) vs (fun r h => asStr r (fun x => κ (.str x) h)) h

theorem palisaderef03_Decimal.R334_S {W0 : World} {U : Ifc} (hU : IfcOK sg W0 glsT U) : FnS sg W0 334 (palisaderef03_Decimal.R334 U) := by
  intro vs κ h wv hx w s
  refine callsVal_mono (hU.callV _ _ _ _ (V.wf_one rfl) wv hx w s) (fun e w2 hp => ?_)
  obtain ⟨r, h2, he, wr, hs, hk⟩ := hp
  cases r <;> try exact hk.elim
  all_goals first | exact ⟨_, h2, he, wr, hs, hk⟩ | (obtain ⟨hc, hk⟩ := chk_true hk; obtain rfl := of_decide_eq_true hc; exact ⟨_, h2, he, wr, hs, hk⟩)

noncomputable def palisaderef03_Decimal.calls (U : Ifc) : List (Nat × (List V → (V → Heap → Prop) → Heap → Prop)) := [(334, palisaderef03_Decimal.R334 U)]

noncomputable def palisaderef03_Decimal.E (U : Ifc) (Q : (List UInt8) → Heap → Prop) (cuts : List (Nat × (List Nat × (List V → Heap → Prop)))) : Env := { tis := tisT, fns := fnsT, tys := tysT, gls := glsT, rts := rtsT, unk := [], nxt := [], calls := palisaderef03_Decimal.calls U, ifc := U, cuts := cuts, ret := palisaderef03_Decimal.ret Q, rets := [.tmp 2], n := 23 }

theorem palisaderef03_Decimal.callsOK {W0 : World} {U : Ifc} (hU : IfcOK sg W0 glsT U) : CallsOK sg W0 (palisaderef03_Decimal.calls U) := ⟨(palisaderef03_Decimal.R334_S hU), trivial⟩

theorem palisaderef03_Decimal.e : ∀ (U : Ifc) (a1 : Int) (Q : (List UInt8) → Heap → Prop) (h : Heap), palisaderef03_Decimal U a1 Q h = pts (palisaderef03_Decimal.E U Q []) 3000 true [.code palisaderef03_Decimal.code] (frOf 0 [.int .i64 a1]) h := by
  intros; kernel_rfl

theorem palisaderef03_Decimal.S {W0 : World} {U : Ifc} (hU : IfcOK sg W0 glsT U) : FnS sg W0 334 (palisaderef03_Decimal.C U) := by
  intro vs κ h wv hx w s
  unfold palisaderef03_Decimal.C at hx
  split at hx
  · rename_i a1
    refine postImp (ret := palisaderef03_Decimal.ret (fun r1 h => κ (.str r1) h)) (fun v h hr => by unfold palisaderef03_Decimal.ret at hr; split at hr; exact hr; exact hr.elim) ?_
    exact calls_of_pts (E := palisaderef03_Decimal.E U (fun r1 h => κ (.str r1) h) []) (envOK seatOK (palisaderef03_Decimal.callsOK hU) hU) seatOK.mixed palisaderef03_Decimal.fun (Nat.le_of_ble_eq_true rfl) wv (cutL_ok trivial) s (fuel := 3000) (by rw [← palisaderef03_Decimal.e]; exact hx)
  · exact hx.elim

noncomputable def palisaderef03_Names.code : Code := Go.Proofs.Tryd.f14.body.getD .skip

theorem palisaderef03_Names.fun : Fun sg.P 14 2 [.tmp 0] palisaderef03_Names.code := mkFun Go.Proofs.Tryd.func14 (by kernel_rfl) (by kernel_rfl) (by kernel_rfl) (by kernel_rfl)

def palisaderef03_Names.ret (Q : Sl → Heap → Prop) (v : V) (h : Heap) : Prop :=
  match v with
  | .sl r1 => Q r1 h
  | _ => False

def palisaderef03_Names.C (vs : List V) (κ : V → Heap → Prop) (h : Heap) : Prop :=
  match vs with
  | [] => palisaderef03_Names  (fun r1 h => κ (.sl r1) h) h
  | _ => False

noncomputable def palisaderef03_Names.calls : List (Nat × (List V → (V → Heap → Prop) → Heap → Prop)) := []

noncomputable def palisaderef03_Names.E (Q : Sl → Heap → Prop) (cuts : List (Nat × (List Nat × (List V → Heap → Prop)))) : Env := { tis := tisT, fns := fnsT, tys := tysT, gls := [], rts := rtsT, unk := [], nxt := [], calls := palisaderef03_Names.calls, ifc := noIfc, cuts := cuts, ret := palisaderef03_Names.ret Q, rets := [.tmp 0], n := 2 }

theorem palisaderef03_Names.callsOK {W0 : World} : CallsOK sg W0 palisaderef03_Names.calls := trivial

theorem palisaderef03_Names.e : ∀  (Q : Sl → Heap → Prop) (h : Heap), palisaderef03_Names  Q h = pts (palisaderef03_Names.E Q []) 3000 true [.code palisaderef03_Names.code] (frOf 0 []) h := by
  intros; kernel_rfl

theorem palisaderef03_Names.S {W0 : World} : FnS sg W0 345 palisaderef03_Names.C := by
  intro vs κ h wv hx w s
  unfold palisaderef03_Names.C at hx
  split at hx
  · skip
    refine postImp (ret := palisaderef03_Names.ret (fun r1 h => κ (.sl r1) h)) (fun v h hr => by unfold palisaderef03_Names.ret at hr; split at hr; exact hr; exact hr.elim) ?_
    exact calls_of_pts (E := palisaderef03_Names.E (fun r1 h => κ (.sl r1) h) []) (envOK seatOK palisaderef03_Names.callsOK noIfc_ok) seatOK.mixed palisaderef03_Names.fun (Nat.le_of_ble_eq_true rfl) wv (cutL_ok trivial) s (fuel := 3000) (by rw [← palisaderef03_Names.e]; exact hx)
  · exact hx.elim

noncomputable def palisaderef03_Order.code : Code := Go.Proofs.Tryd.f15.body.getD .skip

theorem palisaderef03_Order.fun : Fun sg.P 15 35 [.tmp 2] palisaderef03_Order.code := mkFun Go.Proofs.Tryd.func15 (by kernel_rfl) (by kernel_rfl) (by kernel_rfl) (by kernel_rfl)

def palisaderef03_Order.ret (Q : (List UInt8) → Heap → Prop) (v : V) (h : Heap) : Prop :=
  match v with
  | .str r1 => Q r1 h
  | _ => False

def palisaderef03_Order.C (vs : List V) (κ : V → Heap → Prop) (h : Heap) : Prop :=
  match vs with
  | [.int .i64 a1] => palisaderef03_Order a1 (fun r1 h => κ (.str r1) h) h
  | _ => False

noncomputable def palisaderef03_Order.calls : List (Nat × (List V → (V → Heap → Prop) → Heap → Prop)) := [(222, palisaderef02_Shape.C)]

noncomputable def palisaderef03_Order.E (Q : (List UInt8) → Heap → Prop) (cuts : List (Nat × (List Nat × (List V → Heap → Prop)))) : Env := { tis := tisT, fns := fnsT, tys := tysT, gls := [], rts := rtsT, unk := [], nxt := [], calls := palisaderef03_Order.calls, ifc := noIfc, cuts := cuts, ret := palisaderef03_Order.ret Q, rets := [.tmp 2], n := 35 }

theorem palisaderef03_Order.callsOK {W0 : World} : CallsOK sg W0 palisaderef03_Order.calls := ⟨palisaderef02_Shape.S, trivial⟩

theorem palisaderef03_Order.e : ∀ (a1 : Int) (Q : (List UInt8) → Heap → Prop) (h : Heap), palisaderef03_Order a1 Q h = pts (palisaderef03_Order.E Q []) 3000 true [.code palisaderef03_Order.code] (frOf 0 [.int .i64 a1]) h := by
  intros; kernel_rfl

theorem palisaderef03_Order.S {W0 : World} : FnS sg W0 346 palisaderef03_Order.C := by
  intro vs κ h wv hx w s
  unfold palisaderef03_Order.C at hx
  split at hx
  · rename_i a1
    refine postImp (ret := palisaderef03_Order.ret (fun r1 h => κ (.str r1) h)) (fun v h hr => by unfold palisaderef03_Order.ret at hr; split at hr; exact hr; exact hr.elim) ?_
    exact calls_of_pts (E := palisaderef03_Order.E (fun r1 h => κ (.str r1) h) []) (envOK seatOK palisaderef03_Order.callsOK noIfc_ok) seatOK.mixed palisaderef03_Order.fun (Nat.le_of_ble_eq_true rfl) wv (cutL_ok trivial) s (fuel := 3000) (by rw [← palisaderef03_Order.e]; exact hx)
  · exact hx.elim

noncomputable def palisaderef03_Show.code : Code := Go.Proofs.Tryd.f5.body.getD .skip

theorem palisaderef03_Show.fun : Fun sg.P 5 64 [.tmp 2] palisaderef03_Show.code := mkFun Go.Proofs.Tryd.func5 (by kernel_rfl) (by kernel_rfl) (by kernel_rfl) (by kernel_rfl)

def palisaderef03_Show.ret (Q : (List UInt8) → Heap → Prop) (v : V) (h : Heap) : Prop :=
  match v with
  | .str r1 => Q r1 h
  | _ => False

def palisaderef03_Show.C (U : Ifc) (vs : List V) (κ : V → Heap → Prop) (h : Heap) : Prop :=
  match vs with
  | [.int .u32 a1] => palisaderef03_Show U a1 (fun r1 h => κ (.str r1) h) h
  | _ => False

noncomputable def palisaderef03_Show.calls (U : Ifc) : List (Nat × (List V → (V → Heap → Prop) → Heap → Prop)) := [(344, palisaderef02_Decode.C), (334, palisaderef03_Decimal.C U), (342, palisaderef01_Field.C), (345, palisaderef03_Names.C), (346, palisaderef03_Order.C)]

noncomputable def palisaderef03_Show.E (U : Ifc) (Q : (List UInt8) → Heap → Prop) (cuts : List (Nat × (List Nat × (List V → Heap → Prop)))) : Env := { tis := tisT, fns := fnsT, tys := tysT, gls := glsT, rts := rtsT, unk := [], nxt := [], calls := palisaderef03_Show.calls U, ifc := U, cuts := cuts, ret := palisaderef03_Show.ret Q, rets := [.tmp 2], n := 64 }

theorem palisaderef03_Show.callsOK {W0 : World} {U : Ifc} (hU : IfcOK sg W0 glsT U) : CallsOK sg W0 (palisaderef03_Show.calls U) := ⟨palisaderef02_Decode.S, (palisaderef03_Decimal.S hU), palisaderef01_Field.S, palisaderef03_Names.S, palisaderef03_Order.S, trivial⟩

def palisaderef03_Show.k8 (I : Ptr → (List UInt8) → (List UInt8) → Int → Heap → Prop) (vs : List V) (h : Heap) : Prop :=
  match vs with
  | [.ptr (some a1), .str a2, .str a3, .int .i64 a4] => I a1 a2 a3 a4 h
  | _ => False

def palisaderef03_Show.k17 (I : Ptr → (List UInt8) → (List UInt8) → Int → (List UInt8) → Heap → Prop) (vs : List V) (h : Heap) : Prop :=
  match vs with
  | [.ptr (some a1), .str a2, .str a3, .int .i64 a4, .str a5] => I a1 a2 a3 a4 a5 h
  | _ => False

def palisaderef03_Show.k7 (I : Ptr → (List UInt8) → (List UInt8) → Int → Heap → Prop) (vs : List V) (h : Heap) : Prop :=
  match vs with
  | [.ptr (some a1), .str a2, .str a3, .int .i64 a4] => I a1 a2 a3 a4 h
  | _ => False

theorem palisaderef03_Show.p8 : (posC palisaderef03_Show.code []).filter (fun p => Nat.beq p.1 8) = [(8, atPos (posC palisaderef03_Show.code []) 8)] := by kernel_rfl

theorem palisaderef03_Show.e8 : ∀ (U : Ifc) (I7 : Ptr → (List UInt8) → (List UInt8) → Int → Heap → Prop) (a1 : Ptr) (a2 : List UInt8) (a3 : List UInt8) (a4 : Int) (Q : (List UInt8) → Heap → Prop) (h : Heap), palisaderef03_Show.j8 U I7 a1 a2 a3 a4 Q h = pts (palisaderef03_Show.E U Q [(7, ([3, 5, 6, 7], palisaderef03_Show.k7 I7))]) 3000 true (atPos (posC palisaderef03_Show.code []) 8) (frAt [3, 5, 6, 7] [.ptr (some a1), .str a2, .str a3, .int .i64 a4]) h := by
  intros; kernel_rfl

theorem palisaderef03_Show.s8 {W0 : World} {U : Ifc} (hU : IfcOK sg W0 glsT U) (Q : (List UInt8) → Heap → Prop) (I7 : Ptr → (List UInt8) → (List UInt8) → Int → Heap → Prop) (h7 : CutOK sg W0 64 (entered 5) (Post sg W0 (palisaderef03_Show.ret Q)) (posC palisaderef03_Show.code []) 7 [3, 5, 6, 7] (palisaderef03_Show.k7 I7)) : CutOK sg W0 64 (entered 5) (Post sg W0 (palisaderef03_Show.ret Q)) (posC palisaderef03_Show.code []) 8 [3, 5, 6, 7] (palisaderef03_Show.k8 (fun a1 a2 a3 a4 h => palisaderef03_Show.j8 U I7 a1 a2 a3 a4 Q h)) := by
  refine cutOK_head (fun vs h hk => ?_)
  unfold palisaderef03_Show.k8 at hk
  split at hk
  · rename_i a1 a2 a3 a4
    intro todo hm ρ a w s f hp
    exact piece (E := palisaderef03_Show.E U Q [(7, ([3, 5, 6, 7], palisaderef03_Show.k7 I7))]) (vs := [.ptr (some a1), .str a2, .str a3, .int .i64 a4]) (envOK seatOK (palisaderef03_Show.callsOK hU) hU) (fnOK seatOK palisaderef03_Show.fun) ⟨h7, trivial⟩ palisaderef03_Show.p8 (fuel := 3000) (by rw [← palisaderef03_Show.e8]; exact hk) hm s f hp
  · exact hk.elim

theorem palisaderef03_Show.p17 : (posC palisaderef03_Show.code []).filter (fun p => Nat.beq p.1 17) = [(17, atPos (posC palisaderef03_Show.code []) 17)] := by kernel_rfl

theorem palisaderef03_Show.e17 : ∀ (U : Ifc) (I7 : Ptr → (List UInt8) → (List UInt8) → Int → Heap → Prop) (a1 : Ptr) (a2 : List UInt8) (a3 : List UInt8) (a4 : Int) (a5 : List UInt8) (Q : (List UInt8) → Heap → Prop) (h : Heap), palisaderef03_Show.j17 U I7 a1 a2 a3 a4 a5 Q h = pts (palisaderef03_Show.E U Q [(8, ([3, 5, 6, 7], palisaderef03_Show.k8 (fun a1 a2 a3 a4 h => palisaderef03_Show.j8 U I7 a1 a2 a3 a4 Q h)))]) 3000 true (atPos (posC palisaderef03_Show.code []) 17) (frAt [3, 5, 6, 7, 8] [.ptr (some a1), .str a2, .str a3, .int .i64 a4, .str a5]) h := by
  intros; kernel_rfl

theorem palisaderef03_Show.s17 {W0 : World} {U : Ifc} (hU : IfcOK sg W0 glsT U) (Q : (List UInt8) → Heap → Prop) (I7 : Ptr → (List UInt8) → (List UInt8) → Int → Heap → Prop) (h7 : CutOK sg W0 64 (entered 5) (Post sg W0 (palisaderef03_Show.ret Q)) (posC palisaderef03_Show.code []) 7 [3, 5, 6, 7] (palisaderef03_Show.k7 I7)) : CutOK sg W0 64 (entered 5) (Post sg W0 (palisaderef03_Show.ret Q)) (posC palisaderef03_Show.code []) 17 [3, 5, 6, 7, 8] (palisaderef03_Show.k17 (fun a1 a2 a3 a4 a5 h => palisaderef03_Show.j17 U I7 a1 a2 a3 a4 a5 Q h)) := by
  refine cutOK_head (fun vs h hk => ?_)
  unfold palisaderef03_Show.k17 at hk
  split at hk
  · rename_i a1 a2 a3 a4 a5
    intro todo hm ρ a w s f hp
    exact piece (E := palisaderef03_Show.E U Q [(8, ([3, 5, 6, 7], palisaderef03_Show.k8 (fun a1 a2 a3 a4 h => palisaderef03_Show.j8 U I7 a1 a2 a3 a4 Q h)))]) (vs := [.ptr (some a1), .str a2, .str a3, .int .i64 a4, .str a5]) (envOK seatOK (palisaderef03_Show.callsOK hU) hU) (fnOK seatOK palisaderef03_Show.fun) ⟨(palisaderef03_Show.s8 hU Q I7 h7), trivial⟩ palisaderef03_Show.p17 (fuel := 3000) (by rw [← palisaderef03_Show.e17]; exact hk) hm s f hp
  · exact hk.elim

theorem palisaderef03_Show.p7 : (posC palisaderef03_Show.code []).filter (fun p => Nat.beq p.1 7) = [(7, atPos (posC palisaderef03_Show.code []) 7)] := by kernel_rfl

theorem palisaderef03_Show.e7 : ∀ (U : Ifc)  (I7 : Ptr → (List UInt8) → (List UInt8) → Int → Heap → Prop) (a1 : Ptr) (a2 : List UInt8) (a3 : List UInt8) (a4 : Int) (Q : (List UInt8) → Heap → Prop) (h : Heap), palisaderef03_Show.b7 U  I7 a1 a2 a3 a4 Q h = pts (palisaderef03_Show.E U Q [(17, ([3, 5, 6, 7, 8], palisaderef03_Show.k17 (fun a1 a2 a3 a4 a5 h => palisaderef03_Show.j17 U I7 a1 a2 a3 a4 a5 Q h)))]) 3000 true (atPos (posC palisaderef03_Show.code []) 7) (frAt [3, 5, 6, 7] [.ptr (some a1), .str a2, .str a3, .int .i64 a4]) h := by
  intros; kernel_rfl

theorem palisaderef03_Show.s7 {W0 : World} {U : Ifc} (hU : IfcOK sg W0 glsT U) (Q : (List UInt8) → Heap → Prop)   : CutOK sg W0 64 (entered 5) (Post sg W0 (palisaderef03_Show.ret Q)) (posC palisaderef03_Show.code []) 7 [3, 5, 6, 7] (palisaderef03_Show.k7 (fun a1 a2 a3 a4 h => palisaderef03_Show.j7 U  a1 a2 a3 a4 Q h)) := by
  refine cutOK_head (fun vs h hk => ?_)
  unfold palisaderef03_Show.k7 at hk
  split at hk
  · rename_i a1 a2 a3 a4
    refine hk (fun a1 a2 a3 a4 h => Head sg W0 64 (entered 5) (Post sg W0 (palisaderef03_Show.ret Q)) (posC palisaderef03_Show.code []) 7 [3, 5, 6, 7] [.ptr (some a1), .str a2, .str a3, .int .i64 a4] h) ?_
    intro a1 a2 a3 a4 h hb todo hm ρ a w s f hp
    have hself : CutOK sg W0 64 (entered 5) (Post sg W0 (palisaderef03_Show.ret Q)) (posC palisaderef03_Show.code []) 7 [3, 5, 6, 7] (palisaderef03_Show.k7 (fun a1 a2 a3 a4 h => Head sg W0 64 (entered 5) (Post sg W0 (palisaderef03_Show.ret Q)) (posC palisaderef03_Show.code []) 7 [3, 5, 6, 7] [.ptr (some a1), .str a2, .str a3, .int .i64 a4] h)) := cutOK_head (fun vs h hk => by unfold palisaderef03_Show.k7 at hk; split at hk; exact hk; exact hk.elim)
    exact piece (E := palisaderef03_Show.E U Q [(17, ([3, 5, 6, 7, 8], palisaderef03_Show.k17 (fun a1 a2 a3 a4 a5 h => palisaderef03_Show.j17 U (fun a1 a2 a3 a4 h => Head sg W0 64 (entered 5) (Post sg W0 (palisaderef03_Show.ret Q)) (posC palisaderef03_Show.code []) 7 [3, 5, 6, 7] [.ptr (some a1), .str a2, .str a3, .int .i64 a4] h) a1 a2 a3 a4 a5 Q h)))]) (vs := [.ptr (some a1), .str a2, .str a3, .int .i64 a4]) (envOK seatOK (palisaderef03_Show.callsOK hU) hU) (fnOK seatOK palisaderef03_Show.fun) ⟨(palisaderef03_Show.s17 hU Q (fun a1 a2 a3 a4 h => Head sg W0 64 (entered 5) (Post sg W0 (palisaderef03_Show.ret Q)) (posC palisaderef03_Show.code []) 7 [3, 5, 6, 7] [.ptr (some a1), .str a2, .str a3, .int .i64 a4] h) hself), trivial⟩ palisaderef03_Show.p7 (fuel := 3000) (by rw [← palisaderef03_Show.e7]; exact hb) hm s f hp
  · exact hk.elim

theorem palisaderef03_Show.e : ∀ (U : Ifc) (a1 : Int) (Q : (List UInt8) → Heap → Prop) (h : Heap), palisaderef03_Show U a1 Q h = pts (palisaderef03_Show.E U Q [(7, ([3, 5, 6, 7], palisaderef03_Show.k7 (fun a1 a2 a3 a4 h => palisaderef03_Show.j7 U  a1 a2 a3 a4 Q h)))]) 3000 true [.code palisaderef03_Show.code] (frOf 0 [.int .u32 a1]) h := by
  intros; kernel_rfl

theorem palisaderef03_Show.S {W0 : World} {U : Ifc} (hU : IfcOK sg W0 glsT U) : FnS sg W0 347 (palisaderef03_Show.C U) := by
  intro vs κ h wv hx w s
  unfold palisaderef03_Show.C at hx
  split at hx
  · rename_i a1
    refine postImp (ret := palisaderef03_Show.ret (fun r1 h => κ (.str r1) h)) (fun v h hr => by unfold palisaderef03_Show.ret at hr; split at hr; exact hr; exact hr.elim) ?_
    exact calls_of_pts (E := palisaderef03_Show.E U (fun r1 h => κ (.str r1) h) [(7, ([3, 5, 6, 7], palisaderef03_Show.k7 (fun a1 a2 a3 a4 h => palisaderef03_Show.j7 U  a1 a2 a3 a4 (fun r1 h => κ (.str r1) h) h)))]) (envOK seatOK (palisaderef03_Show.callsOK hU) hU) seatOK.mixed palisaderef03_Show.fun (Nat.le_of_ble_eq_true rfl) wv (cutL_ok ⟨(palisaderef03_Show.s7 hU (fun r1 h => κ (.str r1) h)), trivial⟩) s (fuel := 3000) (by rw [← palisaderef03_Show.e]; exact hx)
  · exact hx.elim

noncomputable def palisadelaw03_AsmShows.code : Code := Go.Proofs.Tryd.f3.body.getD .skip

theorem palisadelaw03_AsmShows.fun : Fun sg.P 3 8 [.tmp 2] palisadelaw03_AsmShows.code := mkFun Go.Proofs.Tryd.func3 (by kernel_rfl) (by kernel_rfl) (by kernel_rfl) (by kernel_rfl)

def palisadelaw03_AsmShows.ret (Q : Bool → Heap → Prop) (v : V) (h : Heap) : Prop :=
  match v with
  | .bool r1 => Q r1 h
  | _ => False

def palisadelaw03_AsmShows.C (U : Ifc) (vs : List V) (κ : V → Heap → Prop) (h : Heap) : Prop :=
  match vs with
  | [.int .u32 a1] => palisadelaw03_AsmShows U a1 (fun r1 h => κ (.bool r1) h) h
  | _ => False

noncomputable def palisadelaw03_AsmShows.calls (U : Ifc) : List (Nat × (List V → (V → Heap → Prop) → Heap → Prop)) := [(341, asm_Show.C U), (347, palisaderef03_Show.C U)]

noncomputable def palisadelaw03_AsmShows.E (U : Ifc) (Q : Bool → Heap → Prop) (cuts : List (Nat × (List Nat × (List V → Heap → Prop)))) : Env := { tis := tisT, fns := fnsT, tys := tysT, gls := glsT, rts := rtsT, unk := [], nxt := [], calls := palisadelaw03_AsmShows.calls U, ifc := U, cuts := cuts, ret := palisadelaw03_AsmShows.ret Q, rets := [.tmp 2], n := 8 }

theorem palisadelaw03_AsmShows.callsOK {W0 : World} {U : Ifc} (hU : IfcOK sg W0 glsT U) : CallsOK sg W0 (palisadelaw03_AsmShows.calls U) := ⟨(asm_Show.S hU), (palisaderef03_Show.S hU), trivial⟩

theorem palisadelaw03_AsmShows.e : ∀ (U : Ifc) (a1 : Int) (Q : Bool → Heap → Prop) (h : Heap), palisadelaw03_AsmShows U a1 Q h = pts (palisadelaw03_AsmShows.E U Q []) 3000 true [.code palisadelaw03_AsmShows.code] (frOf 0 [.int .u32 a1]) h := by
  intros; kernel_rfl

theorem palisadelaw03_AsmShows.S {W0 : World} {U : Ifc} (hU : IfcOK sg W0 glsT U) : FnS sg W0 348 (palisadelaw03_AsmShows.C U) := by
  intro vs κ h wv hx w s
  unfold palisadelaw03_AsmShows.C at hx
  split at hx
  · rename_i a1
    refine postImp (ret := palisadelaw03_AsmShows.ret (fun r1 h => κ (.bool r1) h)) (fun v h hr => by unfold palisadelaw03_AsmShows.ret at hr; split at hr; exact hr; exact hr.elim) ?_
    exact calls_of_pts (E := palisadelaw03_AsmShows.E U (fun r1 h => κ (.bool r1) h) []) (envOK seatOK (palisadelaw03_AsmShows.callsOK hU) hU) seatOK.mixed palisadelaw03_AsmShows.fun (Nat.le_of_ble_eq_true rfl) wv (cutL_ok trivial) s (fuel := 3000) (by rw [← palisadelaw03_AsmShows.e]; exact hx)
  · exact hx.elim

end Go.Fn
