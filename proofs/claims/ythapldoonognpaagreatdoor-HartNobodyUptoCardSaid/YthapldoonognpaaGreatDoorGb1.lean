/- The links of the shallow functions to the machine. PRINTED by lift.py. -/
import Derived.Test.YthapldoonognpaaGreatDoorGb0
set_option linter.unusedVariables false
set_option maxRecDepth 100000
namespace Go.Fn
open Go.Lift

noncomputable def palisaderef02_Encode.code : Code := Go.Proofs.Tryz.f12.body.getD .skip

theorem palisaderef02_Encode.fun : Fun sg.P 12 35 [.tmp 2, .tmp 3] palisaderef02_Encode.code := mkFun Go.Proofs.Tryz.func12 (by kernel_rfl) (by kernel_rfl) (by kernel_rfl) (by kernel_rfl)

def palisaderef02_Encode.ret (Q : Int → Int → Heap → Prop) (v : V) (h : Heap) : Prop :=
  match v with
  | .tup [.int .u32 r1, .int .i64 r2] => Q r1 r2 h
  | _ => False

def palisaderef02_Encode.C (vs : List V) (κ : V → Heap → Prop) (h : Heap) : Prop :=
  match vs with
  | [.agg [.int .i64 a1, .int .i64 a2, .int .i64 a3, .int .i64 a4, .int .i64 a5]] => palisaderef02_Encode a1 a2 a3 a4 a5 (fun r1 r2 h => κ (.tup [.int .u32 r1, .int .i64 r2]) h) h
  | _ => False

noncomputable def palisaderef02_Encode.calls : List (Nat × (List V → (V → Heap → Prop) → Heap → Prop)) := [(226, palisaderef02_Valid.C), (227, palisaderef01_Place.C), (222, palisaderef02_Shape.C)]

noncomputable def palisaderef02_Encode.E (Q : Int → Int → Heap → Prop) (cuts : List (Nat × (List Nat × (List V → Heap → Prop)))) : Env := { tis := tisT, fns := fnsT, tys := tysT, gls := [], rts := rtsT, unk := [], nxt := [], calls := palisaderef02_Encode.calls, ifc := noIfc, cuts := cuts, ret := palisaderef02_Encode.ret Q, rets := [.tmp 2, .tmp 3], n := 35 }

theorem palisaderef02_Encode.callsOK {W0 : World} : CallsOK sg W0 palisaderef02_Encode.calls := ⟨palisaderef02_Valid.S, palisaderef01_Place.S, palisaderef02_Shape.S, trivial⟩

def palisaderef02_Encode.k9 (I : Ptr → Int → Heap → Prop) (vs : List V) (h : Heap) : Prop :=
  match vs with
  | [.ptr (some a1), .int .u32 a2] => I a1 a2 h
  | _ => False

theorem palisaderef02_Encode.p9 : (posC palisaderef02_Encode.code []).filter (fun p => Nat.beq p.1 9) = [(9, atPos (posC palisaderef02_Encode.code []) 9)] := by kernel_rfl

theorem palisaderef02_Encode.e9 : ∀  (a1 : Ptr) (a2 : Int) (Q : Int → Int → Heap → Prop) (h : Heap), palisaderef02_Encode.j9  a1 a2 Q h = pts (palisaderef02_Encode.E Q []) 3000 true (atPos (posC palisaderef02_Encode.code []) 9) (frAt [1, 4] [.ptr (some a1), .int .u32 a2]) h := by
  intros; kernel_rfl

theorem palisaderef02_Encode.s9 {W0 : World} (Q : Int → Int → Heap → Prop)   : CutOK sg W0 35 (entered 12) (Post sg W0 (palisaderef02_Encode.ret Q)) (posC palisaderef02_Encode.code []) 9 [1, 4] (palisaderef02_Encode.k9 (fun a1 a2 h => palisaderef02_Encode.j9  a1 a2 Q h)) := by
  refine cutOK_head (fun vs h hk => ?_)
  unfold palisaderef02_Encode.k9 at hk
  split at hk
  · rename_i a1 a2
    intro todo hm ρ a w s f hp
    exact piece (E := palisaderef02_Encode.E Q []) (vs := [.ptr (some a1), .int .u32 a2]) (envOK seatOK palisaderef02_Encode.callsOK noIfc_ok) (fnOK seatOK palisaderef02_Encode.fun) trivial palisaderef02_Encode.p9 (fuel := 3000) (by rw [← palisaderef02_Encode.e9]; exact hk) hm s f hp
  · exact hk.elim

theorem palisaderef02_Encode.e : ∀ (a1 : Int) (a2 : Int) (a3 : Int) (a4 : Int) (a5 : Int) (Q : Int → Int → Heap → Prop) (h : Heap), palisaderef02_Encode a1 a2 a3 a4 a5 Q h = pts (palisaderef02_Encode.E Q [(9, ([1, 4], palisaderef02_Encode.k9 (fun a1 a2 h => palisaderef02_Encode.j9  a1 a2 Q h)))]) 3000 true [.code palisaderef02_Encode.code] (frOf 0 [.agg [.int .i64 a1, .int .i64 a2, .int .i64 a3, .int .i64 a4, .int .i64 a5]]) h := by
  intros; kernel_rfl

theorem palisaderef02_Encode.S {W0 : World} : FnS sg W0 228 palisaderef02_Encode.C := by
  intro vs κ h wv hx w s
  unfold palisaderef02_Encode.C at hx
  split at hx
  · rename_i a1 a2 a3 a4 a5
    refine postImp (ret := palisaderef02_Encode.ret (fun r1 r2 h => κ (.tup [.int .u32 r1, .int .i64 r2]) h)) (fun v h hr => by unfold palisaderef02_Encode.ret at hr; split at hr; exact hr; exact hr.elim) ?_
    exact calls_of_pts (E := palisaderef02_Encode.E (fun r1 r2 h => κ (.tup [.int .u32 r1, .int .i64 r2]) h) [(9, ([1, 4], palisaderef02_Encode.k9 (fun a1 a2 h => palisaderef02_Encode.j9  a1 a2 (fun r1 r2 h => κ (.tup [.int .u32 r1, .int .i64 r2]) h) h)))]) (envOK seatOK palisaderef02_Encode.callsOK noIfc_ok) seatOK.mixed palisaderef02_Encode.fun (Nat.le_of_ble_eq_true rfl) wv (cutL_ok ⟨(palisaderef02_Encode.s9 (fun r1 r2 h => κ (.tup [.int .u32 r1, .int .i64 r2]) h)), trivial⟩) s (fuel := 3000) (by rw [← palisaderef02_Encode.e]; exact hx)
  · exact hx.elim

noncomputable def csr_File_none.code : Code := Go.Proofs.Tryz.f27.body.getD .skip

theorem csr_File_none.fun : Fun sg.P 27 12 [.tmp 2] csr_File_none.code := mkFun Go.Proofs.Tryz.func27 (by kernel_rfl) (by kernel_rfl) (by kernel_rfl) (by kernel_rfl)

def csr_File_none.ret (Q : Bool → Heap → Prop) (v : V) (h : Heap) : Prop :=
  match v with
  | .bool r1 => Q r1 h
  | _ => False

def csr_File_none.C (vs : List V) (κ : V → Heap → Prop) (h : Heap) : Prop :=
  match vs with
  | [.ptr a1] => csr_File_none a1 (fun r1 h => κ (.bool r1) h) h
  | _ => False

noncomputable def csr_File_none.calls : List (Nat × (List V → (V → Heap → Prop) → Heap → Prop)) := []

noncomputable def csr_File_none.E (Q : Bool → Heap → Prop) (cuts : List (Nat × (List Nat × (List V → Heap → Prop)))) : Env := { tis := tisT, fns := fnsT, tys := tysT, gls := [], rts := rtsT, unk := [], nxt := [], calls := csr_File_none.calls, ifc := noIfc, cuts := cuts, ret := csr_File_none.ret Q, rets := [.tmp 2], n := 12 }

theorem csr_File_none.callsOK {W0 : World} : CallsOK sg W0 csr_File_none.calls := trivial

theorem csr_File_none.e : ∀ (a1 : Option Ptr) (Q : Bool → Heap → Prop) (h : Heap), csr_File_none a1 Q h = pts (csr_File_none.E Q []) 3000 true [.code csr_File_none.code] (frOf 0 [.ptr a1]) h := by
  intros; kernel_rfl

theorem csr_File_none.S {W0 : World} : FnS sg W0 162 csr_File_none.C := by
  intro vs κ h wv hx w s
  unfold csr_File_none.C at hx
  split at hx
  · rename_i a1
    refine postImp (ret := csr_File_none.ret (fun r1 h => κ (.bool r1) h)) (fun v h hr => by unfold csr_File_none.ret at hr; split at hr; exact hr; exact hr.elim) ?_
    exact calls_of_pts (E := csr_File_none.E (fun r1 h => κ (.bool r1) h) []) (envOK seatOK csr_File_none.callsOK noIfc_ok) seatOK.mixed csr_File_none.fun (Nat.le_of_ble_eq_true rfl) wv (cutL_ok trivial) s (fuel := 3000) (by rw [← csr_File_none.e]; exact hx)
  · exact hx.elim

noncomputable def csr_known.code : Code := Go.Proofs.Tryz.f28.body.getD .skip

theorem csr_known.fun : Fun sg.P 28 9 [.tmp 2] csr_known.code := mkFun Go.Proofs.Tryz.func28 (by kernel_rfl) (by kernel_rfl) (by kernel_rfl) (by kernel_rfl)

def csr_known.ret (Q : Bool → Heap → Prop) (v : V) (h : Heap) : Prop :=
  match v with
  | .bool r1 => Q r1 h
  | _ => False

def csr_known.C (vs : List V) (κ : V → Heap → Prop) (h : Heap) : Prop :=
  match vs with
  | [.int .i64 a1] => csr_known a1 (fun r1 h => κ (.bool r1) h) h
  | _ => False

noncomputable def csr_known.calls : List (Nat × (List V → (V → Heap → Prop) → Heap → Prop)) := []

noncomputable def csr_known.E (Q : Bool → Heap → Prop) (cuts : List (Nat × (List Nat × (List V → Heap → Prop)))) : Env := { tis := tisT, fns := fnsT, tys := tysT, gls := [], rts := rtsT, unk := [], nxt := [], calls := csr_known.calls, ifc := noIfc, cuts := cuts, ret := csr_known.ret Q, rets := [.tmp 2], n := 9 }

theorem csr_known.callsOK {W0 : World} : CallsOK sg W0 csr_known.calls := trivial

theorem csr_known.e : ∀ (a1 : Int) (Q : Bool → Heap → Prop) (h : Heap), csr_known a1 Q h = pts (csr_known.E Q []) 3000 true [.code csr_known.code] (frOf 0 [.int .i64 a1]) h := by
  intros; kernel_rfl

theorem csr_known.S {W0 : World} : FnS sg W0 213 csr_known.C := by
  intro vs κ h wv hx w s
  unfold csr_known.C at hx
  split at hx
  · rename_i a1
    refine postImp (ret := csr_known.ret (fun r1 h => κ (.bool r1) h)) (fun v h hr => by unfold csr_known.ret at hr; split at hr; exact hr; exact hr.elim) ?_
    exact calls_of_pts (E := csr_known.E (fun r1 h => κ (.bool r1) h) []) (envOK seatOK csr_known.callsOK noIfc_ok) seatOK.mixed csr_known.fun (Nat.le_of_ble_eq_true rfl) wv (cutL_ok trivial) s (fuel := 3000) (by rw [← csr_known.e]; exact hx)
  · exact hx.elim

noncomputable def csr_File_Set.code : Code := Go.Proofs.Tryz.f13.body.getD .skip

theorem csr_File_Set.fun : Fun sg.P 13 20 [.tmp 6] csr_File_Set.code := mkFun Go.Proofs.Tryz.func13 (by kernel_rfl) (by kernel_rfl) (by kernel_rfl) (by kernel_rfl)

def csr_File_Set.ret (Q : Int → Heap → Prop) (v : V) (h : Heap) : Prop :=
  match v with
  | .int .i64 r1 => Q r1 h
  | _ => False

def csr_File_Set.C (vs : List V) (κ : V → Heap → Prop) (h : Heap) : Prop :=
  match vs with
  | [.ptr a1, .int .i64 a2, .int .u64 a3] => csr_File_Set a1 a2 a3 (fun r1 h => κ (.int .i64 r1) h) h
  | _ => False

noncomputable def csr_File_Set.calls : List (Nat × (List V → (V → Heap → Prop) → Heap → Prop)) := [(162, csr_File_none.C), (213, csr_known.C)]

noncomputable def csr_File_Set.E (Q : Int → Heap → Prop) (cuts : List (Nat × (List Nat × (List V → Heap → Prop)))) : Env := { tis := tisT, fns := fnsT, tys := tysT, gls := [], rts := rtsT, unk := [], nxt := [], calls := csr_File_Set.calls, ifc := noIfc, cuts := cuts, ret := csr_File_Set.ret Q, rets := [.tmp 6], n := 20 }

theorem csr_File_Set.callsOK {W0 : World} : CallsOK sg W0 csr_File_Set.calls := ⟨csr_File_none.S, csr_known.S, trivial⟩

theorem csr_File_Set.e : ∀ (a1 : Option Ptr) (a2 : Int) (a3 : Int) (Q : Int → Heap → Prop) (h : Heap), csr_File_Set a1 a2 a3 Q h = pts (csr_File_Set.E Q []) 3000 true [.code csr_File_Set.code] (frOf 0 [.ptr a1, .int .i64 a2, .int .u64 a3]) h := by
  intros; kernel_rfl

theorem csr_File_Set.S {W0 : World} : FnS sg W0 217 csr_File_Set.C := by
  intro vs κ h wv hx w s
  unfold csr_File_Set.C at hx
  split at hx
  · rename_i a1 a2 a3
    refine postImp (ret := csr_File_Set.ret (fun r1 h => κ (.int .i64 r1) h)) (fun v h hr => by unfold csr_File_Set.ret at hr; split at hr; exact hr; exact hr.elim) ?_
    exact calls_of_pts (E := csr_File_Set.E (fun r1 h => κ (.int .i64 r1) h) []) (envOK seatOK csr_File_Set.callsOK noIfc_ok) seatOK.mixed csr_File_Set.fun (Nat.le_of_ble_eq_true rfl) wv (cutL_ok trivial) s (fuel := 3000) (by rw [← csr_File_Set.e]; exact hx)
  · exact hx.elim

noncomputable def palisaderef08_File_Set.code : Code := Go.Proofs.Tryz.f14.body.getD .skip

theorem palisaderef08_File_Set.fun : Fun sg.P 14 19 [.tmp 6] palisaderef08_File_Set.code := mkFun Go.Proofs.Tryz.func14 (by kernel_rfl) (by kernel_rfl) (by kernel_rfl) (by kernel_rfl)

def palisaderef08_File_Set.ret (Q : Int → Heap → Prop) (v : V) (h : Heap) : Prop :=
  match v with
  | .int .i64 r1 => Q r1 h
  | _ => False

def palisaderef08_File_Set.C (vs : List V) (κ : V → Heap → Prop) (h : Heap) : Prop :=
  match vs with
  | [.ptr a1, .int .i64 a2, .int .u64 a3] => palisaderef08_File_Set a1 a2 a3 (fun r1 h => κ (.int .i64 r1) h) h
  | _ => False

noncomputable def palisaderef08_File_Set.calls : List (Nat × (List V → (V → Heap → Prop) → Heap → Prop)) := []

noncomputable def palisaderef08_File_Set.E (Q : Int → Heap → Prop) (cuts : List (Nat × (List Nat × (List V → Heap → Prop)))) : Env := { tis := tisT, fns := fnsT, tys := tysT, gls := [], rts := rtsT, unk := [], nxt := [], calls := palisaderef08_File_Set.calls, ifc := noIfc, cuts := cuts, ret := palisaderef08_File_Set.ret Q, rets := [.tmp 6], n := 19 }

theorem palisaderef08_File_Set.callsOK {W0 : World} : CallsOK sg W0 palisaderef08_File_Set.calls := trivial

theorem palisaderef08_File_Set.e : ∀ (a1 : Option Ptr) (a2 : Int) (a3 : Int) (Q : Int → Heap → Prop) (h : Heap), palisaderef08_File_Set a1 a2 a3 Q h = pts (palisaderef08_File_Set.E Q []) 3000 true [.code palisaderef08_File_Set.code] (frOf 0 [.ptr a1, .int .i64 a2, .int .u64 a3]) h := by
  intros; kernel_rfl

theorem palisaderef08_File_Set.S {W0 : World} : FnS sg W0 229 palisaderef08_File_Set.C := by
  intro vs κ h wv hx w s
  unfold palisaderef08_File_Set.C at hx
  split at hx
  · rename_i a1 a2 a3
    refine postImp (ret := palisaderef08_File_Set.ret (fun r1 h => κ (.int .i64 r1) h)) (fun v h hr => by unfold palisaderef08_File_Set.ret at hr; split at hr; exact hr; exact hr.elim) ?_
    exact calls_of_pts (E := palisaderef08_File_Set.E (fun r1 h => κ (.int .i64 r1) h) []) (envOK seatOK palisaderef08_File_Set.callsOK noIfc_ok) seatOK.mixed palisaderef08_File_Set.fun (Nat.le_of_ble_eq_true rfl) wv (cutL_ok trivial) s (fuel := 3000) (by rw [← palisaderef08_File_Set.e]; exact hx)
  · exact hx.elim

noncomputable def palisadelaw09_bus.code : Code := Go.Proofs.Tryz.f15.body.getD .skip

theorem palisadelaw09_bus.fun : Fun sg.P 15 13 [.tmp 4] palisadelaw09_bus.code := mkFun Go.Proofs.Tryz.func15 (by kernel_rfl) (by kernel_rfl) (by kernel_rfl) (by kernel_rfl)

def palisadelaw09_bus.ret (Q : (Option Ptr) → Heap → Prop) (v : V) (h : Heap) : Prop :=
  match v with
  | .ptr r1 => Q r1 h
  | _ => False

def palisadelaw09_bus.C (vs : List V) (κ : V → Heap → Prop) (h : Heap) : Prop :=
  match vs with
  | [.ptr a1, .int .i64 a2] => palisadelaw09_bus a1 a2 (fun r1 h => κ (.ptr r1) h) h
  | _ => False

noncomputable def palisadelaw09_bus.calls : List (Nat × (List V → (V → Heap → Prop) → Heap → Prop)) := []

noncomputable def palisadelaw09_bus.E (Q : (Option Ptr) → Heap → Prop) (cuts : List (Nat × (List Nat × (List V → Heap → Prop)))) : Env := { tis := tisT, fns := fnsT, tys := tysT, gls := [], rts := rtsT, unk := [], nxt := [], calls := palisadelaw09_bus.calls, ifc := noIfc, cuts := cuts, ret := palisadelaw09_bus.ret Q, rets := [.tmp 4], n := 13 }

theorem palisadelaw09_bus.callsOK {W0 : World} : CallsOK sg W0 palisadelaw09_bus.calls := trivial

theorem palisadelaw09_bus.e : ∀ (a1 : Option Ptr) (a2 : Int) (Q : (Option Ptr) → Heap → Prop) (h : Heap), palisadelaw09_bus a1 a2 Q h = pts (palisadelaw09_bus.E Q []) 3000 true [.code palisadelaw09_bus.code] (frOf 0 [.ptr a1, .int .i64 a2]) h := by
  intros; kernel_rfl

theorem palisadelaw09_bus.S {W0 : World} : FnS sg W0 230 palisadelaw09_bus.C := by
  intro vs κ h wv hx w s
  unfold palisadelaw09_bus.C at hx
  split at hx
  · rename_i a1 a2
    refine postImp (ret := palisadelaw09_bus.ret (fun r1 h => κ (.ptr r1) h)) (fun v h hr => by unfold palisadelaw09_bus.ret at hr; split at hr; exact hr; exact hr.elim) ?_
    exact calls_of_pts (E := palisadelaw09_bus.E (fun r1 h => κ (.ptr r1) h) []) (envOK seatOK palisadelaw09_bus.callsOK noIfc_ok) seatOK.mixed palisadelaw09_bus.fun (Nat.le_of_ble_eq_true rfl) wv (cutL_ok trivial) s (fuel := 3000) (by rw [← palisadelaw09_bus.e]; exact hx)
  · exact hx.elim

noncomputable def palisadelaw09_both.code : Code := Go.Proofs.Tryz.f4.body.getD .skip

theorem palisadelaw09_both.fun : Fun sg.P 4 164 [.tmp 2, .tmp 3, .tmp 4, .tmp 5, .tmp 6] palisadelaw09_both.code := mkFun Go.Proofs.Tryz.func4 (by kernel_rfl) (by kernel_rfl) (by kernel_rfl) (by kernel_rfl)

def palisadelaw09_both.ret (Q : (Option Ptr) → (Option Ptr) → (Option Ptr) → (Option Ptr) → Bool → Heap → Prop) (v : V) (h : Heap) : Prop :=
  match v with
  | .tup [.ptr r1, .ptr r2, .ptr r3, .ptr r4, .bool r5] => Q r1 r2 r3 r4 r5 h
  | _ => False

def palisadelaw09_both.C (U : Ifc) (vs : List V) (κ : V → Heap → Prop) (h : Heap) : Prop :=
  match vs with
  | [.ago a1] => palisadelaw09_both U a1 (fun r1 r2 r3 r4 r5 h => κ (.tup [.ptr r1, .ptr r2, .ptr r3, .ptr r4, .bool r5]) h) h
  | _ => False

noncomputable def palisadelaw09_both.calls (U : Ifc) : List (Nat × (List V → (V → Heap → Prop) → Heap → Prop)) := [(28, mem_New.C), (42, palisaderef04_New.C), (141, csr_New.C), (221, palisaderef08_New.C), (97, mem_Memory_Store.C U), (64, palisaderef04_Memory_Store.C), (228, palisaderef02_Encode.C), (217, csr_File_Set.C), (229, palisaderef08_File_Set.C), (230, palisadelaw09_bus.C)]

noncomputable def palisadelaw09_both.E (U : Ifc) (Q : (Option Ptr) → (Option Ptr) → (Option Ptr) → (Option Ptr) → Bool → Heap → Prop) (cuts : List (Nat × (List Nat × (List V → Heap → Prop)))) : Env := { tis := tisT, fns := fnsT, tys := tysT, gls := glsT, rts := rtsT, unk := [], nxt := [], calls := palisadelaw09_both.calls U, ifc := U, cuts := cuts, ret := palisadelaw09_both.ret Q, rets := [.tmp 2, .tmp 3, .tmp 4, .tmp 5, .tmp 6], n := 164 }

theorem palisadelaw09_both.callsOK {W0 : World} {U : Ifc} (hU : IfcOK sg W0 glsT U) : CallsOK sg W0 (palisadelaw09_both.calls U) := ⟨mem_New.S, palisaderef04_New.S, csr_New.S, palisaderef08_New.S, (mem_Memory_Store.S hU), palisaderef04_Memory_Store.S, palisaderef02_Encode.S, csr_File_Set.S, palisaderef08_File_Set.S, palisadelaw09_bus.S, trivial⟩

def palisadelaw09_both.k5 (I : Heap → Prop) (vs : List V) (h : Heap) : Prop :=
  match vs with
  | [] => I  h
  | _ => False

def palisadelaw09_both.k8 (I : Ptr → (Option Ptr) → (Option Ptr) → (Option Ptr) → (Option Ptr) → Int → Heap → Prop) (vs : List V) (h : Heap) : Prop :=
  match vs with
  | [.ptr (some a1), .ptr a2, .ptr a3, .ptr a4, .ptr a5, .int .i64 a6] => I a1 a2 a3 a4 a5 a6 h
  | _ => False

def palisadelaw09_both.k15 (I : Ptr → (Option Ptr) → (Option Ptr) → (Option Ptr) → (Option Ptr) → Sl → Int → Heap → Prop) (vs : List V) (h : Heap) : Prop :=
  match vs with
  | [.ptr (some a1), .ptr a2, .ptr a3, .ptr a4, .ptr a5, .sl a6, .int .i64 a7] => I a1 a2 a3 a4 a5 a6 a7 h
  | _ => False

def palisadelaw09_both.k20 (I : Ptr → (Option Ptr) → (Option Ptr) → (Option Ptr) → (Option Ptr) → Sl → Int → Heap → Prop) (vs : List V) (h : Heap) : Prop :=
  match vs with
  | [.ptr (some a1), .ptr a2, .ptr a3, .ptr a4, .ptr a5, .sl a6, .int .i64 a7] => I a1 a2 a3 a4 a5 a6 a7 h
  | _ => False

def palisadelaw09_both.k25 (I : Ptr → (Option Ptr) → (Option Ptr) → (Option Ptr) → (Option Ptr) → Int → Heap → Prop) (vs : List V) (h : Heap) : Prop :=
  match vs with
  | [.ptr (some a1), .ptr a2, .ptr a3, .ptr a4, .ptr a5, .int .i64 a6] => I a1 a2 a3 a4 a5 a6 h
  | _ => False

def palisadelaw09_both.k19 (I : Ptr → (Option Ptr) → (Option Ptr) → (Option Ptr) → (Option Ptr) → Sl → Int → Heap → Prop) (vs : List V) (h : Heap) : Prop :=
  match vs with
  | [.ptr (some a1), .ptr a2, .ptr a3, .ptr a4, .ptr a5, .sl a6, .int .i64 a7] => I a1 a2 a3 a4 a5 a6 a7 h
  | _ => False

def palisadelaw09_both.k14 (I : Ptr → (Option Ptr) → (Option Ptr) → (Option Ptr) → (Option Ptr) → Sl → Int → Heap → Prop) (vs : List V) (h : Heap) : Prop :=
  match vs with
  | [.ptr (some a1), .ptr a2, .ptr a3, .ptr a4, .ptr a5, .sl a6, .int .i64 a7] => I a1 a2 a3 a4 a5 a6 a7 h
  | _ => False

def palisadelaw09_both.k7 (I : Ptr → (Option Ptr) → (Option Ptr) → (Option Ptr) → (Option Ptr) → Int → Heap → Prop) (vs : List V) (h : Heap) : Prop :=
  match vs with
  | [.ptr (some a1), .ptr a2, .ptr a3, .ptr a4, .ptr a5, .int .i64 a6] => I a1 a2 a3 a4 a5 a6 h
  | _ => False

def palisadelaw09_both.k6 (I : Ptr → (Option Ptr) → (Option Ptr) → (Option Ptr) → (Option Ptr) → Heap → Prop) (vs : List V) (h : Heap) : Prop :=
  match vs with
  | [.ptr (some a1), .ptr a2, .ptr a3, .ptr a4, .ptr a5] => I a1 a2 a3 a4 a5 h
  | _ => False

theorem palisadelaw09_both.p5 : (posC palisadelaw09_both.code []).filter (fun p => Nat.beq p.1 5) = [(5, atPos (posC palisadelaw09_both.code []) 5)] := by kernel_rfl

theorem palisadelaw09_both.e5 : ∀ (U : Ifc)   (Q : (Option Ptr) → (Option Ptr) → (Option Ptr) → (Option Ptr) → Bool → Heap → Prop) (h : Heap), palisadelaw09_both.j5 U   Q h = pts (palisadelaw09_both.E U Q []) 3000 true (atPos (posC palisadelaw09_both.code []) 5) (frAt [] []) h := by
  intros; kernel_rfl

theorem palisadelaw09_both.s5 {W0 : World} {U : Ifc} (hU : IfcOK sg W0 glsT U) (Q : (Option Ptr) → (Option Ptr) → (Option Ptr) → (Option Ptr) → Bool → Heap → Prop)   : CutOK sg W0 164 (entered 4) (Post sg W0 (palisadelaw09_both.ret Q)) (posC palisadelaw09_both.code []) 5 [] (palisadelaw09_both.k5 (fun  h => palisadelaw09_both.j5 U   Q h)) := by
  refine cutOK_head (fun vs h hk => ?_)
  unfold palisadelaw09_both.k5 at hk
  split at hk
  · skip
    intro todo hm ρ a w s f hp
    exact piece (E := palisadelaw09_both.E U Q []) (vs := []) (envOK seatOK (palisadelaw09_both.callsOK hU) hU) (fnOK seatOK palisadelaw09_both.fun) trivial palisadelaw09_both.p5 (fuel := 3000) (by rw [← palisadelaw09_both.e5]; exact hk) hm s f hp
  · exact hk.elim

theorem palisadelaw09_both.p8 : (posC palisadelaw09_both.code []).filter (fun p => Nat.beq p.1 8) = [(8, atPos (posC palisadelaw09_both.code []) 8)] := by kernel_rfl

theorem palisadelaw09_both.e8 : ∀ (U : Ifc) (I7 : Ptr → (Option Ptr) → (Option Ptr) → (Option Ptr) → (Option Ptr) → Int → Heap → Prop) (a1 : Ptr) (a2 : Option Ptr) (a3 : Option Ptr) (a4 : Option Ptr) (a5 : Option Ptr) (a6 : Int) (Q : (Option Ptr) → (Option Ptr) → (Option Ptr) → (Option Ptr) → Bool → Heap → Prop) (h : Heap), palisadelaw09_both.j8 U I7 a1 a2 a3 a4 a5 a6 Q h = pts (palisadelaw09_both.E U Q [(7, ([1, 7, 9, 11, 12, 13], palisadelaw09_both.k7 I7))]) 3000 true (atPos (posC palisadelaw09_both.code []) 8) (frAt [1, 7, 9, 11, 12, 13] [.ptr (some a1), .ptr a2, .ptr a3, .ptr a4, .ptr a5, .int .i64 a6]) h := by
  intros; kernel_rfl

theorem palisadelaw09_both.s8 {W0 : World} {U : Ifc} (hU : IfcOK sg W0 glsT U) (Q : (Option Ptr) → (Option Ptr) → (Option Ptr) → (Option Ptr) → Bool → Heap → Prop) (I7 : Ptr → (Option Ptr) → (Option Ptr) → (Option Ptr) → (Option Ptr) → Int → Heap → Prop) (h7 : CutOK sg W0 164 (entered 4) (Post sg W0 (palisadelaw09_both.ret Q)) (posC palisadelaw09_both.code []) 7 [1, 7, 9, 11, 12, 13] (palisadelaw09_both.k7 I7)) : CutOK sg W0 164 (entered 4) (Post sg W0 (palisadelaw09_both.ret Q)) (posC palisadelaw09_both.code []) 8 [1, 7, 9, 11, 12, 13] (palisadelaw09_both.k8 (fun a1 a2 a3 a4 a5 a6 h => palisadelaw09_both.j8 U I7 a1 a2 a3 a4 a5 a6 Q h)) := by
  refine cutOK_head (fun vs h hk => ?_)
  unfold palisadelaw09_both.k8 at hk
  split at hk
  · rename_i a1 a2 a3 a4 a5 a6
    intro todo hm ρ a w s f hp
    exact piece (E := palisadelaw09_both.E U Q [(7, ([1, 7, 9, 11, 12, 13], palisadelaw09_both.k7 I7))]) (vs := [.ptr (some a1), .ptr a2, .ptr a3, .ptr a4, .ptr a5, .int .i64 a6]) (envOK seatOK (palisadelaw09_both.callsOK hU) hU) (fnOK seatOK palisadelaw09_both.fun) ⟨h7, trivial⟩ palisadelaw09_both.p8 (fuel := 3000) (by rw [← palisadelaw09_both.e8]; exact hk) hm s f hp
  · exact hk.elim

theorem palisadelaw09_both.p15 : (posC palisadelaw09_both.code []).filter (fun p => Nat.beq p.1 15) = [(15, atPos (posC palisadelaw09_both.code []) 15)] := by kernel_rfl

theorem palisadelaw09_both.e15 : ∀ (U : Ifc) (I14 : Ptr → (Option Ptr) → (Option Ptr) → (Option Ptr) → (Option Ptr) → Sl → Int → Heap → Prop) (a1 : Ptr) (a2 : Option Ptr) (a3 : Option Ptr) (a4 : Option Ptr) (a5 : Option Ptr) (a6 : Sl) (a7 : Int) (Q : (Option Ptr) → (Option Ptr) → (Option Ptr) → (Option Ptr) → Bool → Heap → Prop) (h : Heap), palisadelaw09_both.j15 U I14 a1 a2 a3 a4 a5 a6 a7 Q h = pts (palisadelaw09_both.E U Q [(14, ([1, 7, 9, 11, 12, 15, 16], palisadelaw09_both.k14 I14))]) 3000 true (atPos (posC palisadelaw09_both.code []) 15) (frAt [1, 7, 9, 11, 12, 15, 16] [.ptr (some a1), .ptr a2, .ptr a3, .ptr a4, .ptr a5, .sl a6, .int .i64 a7]) h := by
  intros; kernel_rfl

theorem palisadelaw09_both.s15 {W0 : World} {U : Ifc} (hU : IfcOK sg W0 glsT U) (Q : (Option Ptr) → (Option Ptr) → (Option Ptr) → (Option Ptr) → Bool → Heap → Prop) (I14 : Ptr → (Option Ptr) → (Option Ptr) → (Option Ptr) → (Option Ptr) → Sl → Int → Heap → Prop) (h14 : CutOK sg W0 164 (entered 4) (Post sg W0 (palisadelaw09_both.ret Q)) (posC palisadelaw09_both.code []) 14 [1, 7, 9, 11, 12, 15, 16] (palisadelaw09_both.k14 I14)) : CutOK sg W0 164 (entered 4) (Post sg W0 (palisadelaw09_both.ret Q)) (posC palisadelaw09_both.code []) 15 [1, 7, 9, 11, 12, 15, 16] (palisadelaw09_both.k15 (fun a1 a2 a3 a4 a5 a6 a7 h => palisadelaw09_both.j15 U I14 a1 a2 a3 a4 a5 a6 a7 Q h)) := by
  refine cutOK_head (fun vs h hk => ?_)
  unfold palisadelaw09_both.k15 at hk
  split at hk
  · rename_i a1 a2 a3 a4 a5 a6 a7
    intro todo hm ρ a w s f hp
    exact piece (E := palisadelaw09_both.E U Q [(14, ([1, 7, 9, 11, 12, 15, 16], palisadelaw09_both.k14 I14))]) (vs := [.ptr (some a1), .ptr a2, .ptr a3, .ptr a4, .ptr a5, .sl a6, .int .i64 a7]) (envOK seatOK (palisadelaw09_both.callsOK hU) hU) (fnOK seatOK palisadelaw09_both.fun) ⟨h14, trivial⟩ palisadelaw09_both.p15 (fuel := 3000) (by rw [← palisadelaw09_both.e15]; exact hk) hm s f hp
  · exact hk.elim

theorem palisadelaw09_both.p20 : (posC palisadelaw09_both.code []).filter (fun p => Nat.beq p.1 20) = [(20, atPos (posC palisadelaw09_both.code []) 20)] := by kernel_rfl

theorem palisadelaw09_both.e20 : ∀ (U : Ifc) (I19 : Ptr → (Option Ptr) → (Option Ptr) → (Option Ptr) → (Option Ptr) → Sl → Int → Heap → Prop) (a1 : Ptr) (a2 : Option Ptr) (a3 : Option Ptr) (a4 : Option Ptr) (a5 : Option Ptr) (a6 : Sl) (a7 : Int) (Q : (Option Ptr) → (Option Ptr) → (Option Ptr) → (Option Ptr) → Bool → Heap → Prop) (h : Heap), palisadelaw09_both.j20 U I19 a1 a2 a3 a4 a5 a6 a7 Q h = pts (palisadelaw09_both.E U Q [(19, ([1, 7, 9, 11, 12, 15, 19], palisadelaw09_both.k19 I19))]) 3000 true (atPos (posC palisadelaw09_both.code []) 20) (frAt [1, 7, 9, 11, 12, 15, 19] [.ptr (some a1), .ptr a2, .ptr a3, .ptr a4, .ptr a5, .sl a6, .int .i64 a7]) h := by
  intros; kernel_rfl

theorem palisadelaw09_both.s20 {W0 : World} {U : Ifc} (hU : IfcOK sg W0 glsT U) (Q : (Option Ptr) → (Option Ptr) → (Option Ptr) → (Option Ptr) → Bool → Heap → Prop) (I19 : Ptr → (Option Ptr) → (Option Ptr) → (Option Ptr) → (Option Ptr) → Sl → Int → Heap → Prop) (h19 : CutOK sg W0 164 (entered 4) (Post sg W0 (palisadelaw09_both.ret Q)) (posC palisadelaw09_both.code []) 19 [1, 7, 9, 11, 12, 15, 19] (palisadelaw09_both.k19 I19)) : CutOK sg W0 164 (entered 4) (Post sg W0 (palisadelaw09_both.ret Q)) (posC palisadelaw09_both.code []) 20 [1, 7, 9, 11, 12, 15, 19] (palisadelaw09_both.k20 (fun a1 a2 a3 a4 a5 a6 a7 h => palisadelaw09_both.j20 U I19 a1 a2 a3 a4 a5 a6 a7 Q h)) := by
  refine cutOK_head (fun vs h hk => ?_)
  unfold palisadelaw09_both.k20 at hk
  split at hk
  · rename_i a1 a2 a3 a4 a5 a6 a7
    intro todo hm ρ a w s f hp
    exact piece (E := palisadelaw09_both.E U Q [(19, ([1, 7, 9, 11, 12, 15, 19], palisadelaw09_both.k19 I19))]) (vs := [.ptr (some a1), .ptr a2, .ptr a3, .ptr a4, .ptr a5, .sl a6, .int .i64 a7]) (envOK seatOK (palisadelaw09_both.callsOK hU) hU) (fnOK seatOK palisadelaw09_both.fun) ⟨h19, trivial⟩ palisadelaw09_both.p20 (fuel := 3000) (by rw [← palisadelaw09_both.e20]; exact hk) hm s f hp
  · exact hk.elim

theorem palisadelaw09_both.p25 : (posC palisadelaw09_both.code []).filter (fun p => Nat.beq p.1 25) = [(25, atPos (posC palisadelaw09_both.code []) 25)] := by kernel_rfl

theorem palisadelaw09_both.e25 : ∀ (U : Ifc)  (I25 : Ptr → (Option Ptr) → (Option Ptr) → (Option Ptr) → (Option Ptr) → Int → Heap → Prop) (a1 : Ptr) (a2 : Option Ptr) (a3 : Option Ptr) (a4 : Option Ptr) (a5 : Option Ptr) (a6 : Int) (Q : (Option Ptr) → (Option Ptr) → (Option Ptr) → (Option Ptr) → Bool → Heap → Prop) (h : Heap), palisadelaw09_both.b25 U  I25 a1 a2 a3 a4 a5 a6 Q h = pts (palisadelaw09_both.E U Q [(25, ([1, 7, 9, 11, 12, 21], palisadelaw09_both.k25 I25))]) 3000 true (atPos (posC palisadelaw09_both.code []) 25) (frAt [1, 7, 9, 11, 12, 21] [.ptr (some a1), .ptr a2, .ptr a3, .ptr a4, .ptr a5, .int .i64 a6]) h := by
  intros; kernel_rfl

theorem palisadelaw09_both.s25 {W0 : World} {U : Ifc} (hU : IfcOK sg W0 glsT U) (Q : (Option Ptr) → (Option Ptr) → (Option Ptr) → (Option Ptr) → Bool → Heap → Prop)   : CutOK sg W0 164 (entered 4) (Post sg W0 (palisadelaw09_both.ret Q)) (posC palisadelaw09_both.code []) 25 [1, 7, 9, 11, 12, 21] (palisadelaw09_both.k25 (fun a1 a2 a3 a4 a5 a6 h => palisadelaw09_both.j25 U  a1 a2 a3 a4 a5 a6 Q h)) := by
  refine cutOK_head (fun vs h hk => ?_)
  unfold palisadelaw09_both.k25 at hk
  split at hk
  · rename_i a1 a2 a3 a4 a5 a6
    refine hk (fun a1 a2 a3 a4 a5 a6 h => Head sg W0 164 (entered 4) (Post sg W0 (palisadelaw09_both.ret Q)) (posC palisadelaw09_both.code []) 25 [1, 7, 9, 11, 12, 21] [.ptr (some a1), .ptr a2, .ptr a3, .ptr a4, .ptr a5, .int .i64 a6] h) ?_
    intro a1 a2 a3 a4 a5 a6 h hb todo hm ρ a w s f hp
    have hself : CutOK sg W0 164 (entered 4) (Post sg W0 (palisadelaw09_both.ret Q)) (posC palisadelaw09_both.code []) 25 [1, 7, 9, 11, 12, 21] (palisadelaw09_both.k25 (fun a1 a2 a3 a4 a5 a6 h => Head sg W0 164 (entered 4) (Post sg W0 (palisadelaw09_both.ret Q)) (posC palisadelaw09_both.code []) 25 [1, 7, 9, 11, 12, 21] [.ptr (some a1), .ptr a2, .ptr a3, .ptr a4, .ptr a5, .int .i64 a6] h)) := cutOK_head (fun vs h hk => by unfold palisadelaw09_both.k25 at hk; split at hk; exact hk; exact hk.elim)
    exact piece (E := palisadelaw09_both.E U Q [(25, ([1, 7, 9, 11, 12, 21], palisadelaw09_both.k25 (fun a1 a2 a3 a4 a5 a6 h => Head sg W0 164 (entered 4) (Post sg W0 (palisadelaw09_both.ret Q)) (posC palisadelaw09_both.code []) 25 [1, 7, 9, 11, 12, 21] [.ptr (some a1), .ptr a2, .ptr a3, .ptr a4, .ptr a5, .int .i64 a6] h)))]) (vs := [.ptr (some a1), .ptr a2, .ptr a3, .ptr a4, .ptr a5, .int .i64 a6]) (envOK seatOK (palisadelaw09_both.callsOK hU) hU) (fnOK seatOK palisadelaw09_both.fun) ⟨hself, trivial⟩ palisadelaw09_both.p25 (fuel := 3000) (by rw [← palisadelaw09_both.e25]; exact hb) hm s f hp
  · exact hk.elim

theorem palisadelaw09_both.p19 : (posC palisadelaw09_both.code []).filter (fun p => Nat.beq p.1 19) = [(19, atPos (posC palisadelaw09_both.code []) 19)] := by kernel_rfl

theorem palisadelaw09_both.e19 : ∀ (U : Ifc)  (I19 : Ptr → (Option Ptr) → (Option Ptr) → (Option Ptr) → (Option Ptr) → Sl → Int → Heap → Prop) (a1 : Ptr) (a2 : Option Ptr) (a3 : Option Ptr) (a4 : Option Ptr) (a5 : Option Ptr) (a6 : Sl) (a7 : Int) (Q : (Option Ptr) → (Option Ptr) → (Option Ptr) → (Option Ptr) → Bool → Heap → Prop) (h : Heap), palisadelaw09_both.b19 U  I19 a1 a2 a3 a4 a5 a6 a7 Q h = pts (palisadelaw09_both.E U Q [(20, ([1, 7, 9, 11, 12, 15, 19], palisadelaw09_both.k20 (fun a1 a2 a3 a4 a5 a6 a7 h => palisadelaw09_both.j20 U I19 a1 a2 a3 a4 a5 a6 a7 Q h))), (25, ([1, 7, 9, 11, 12, 21], palisadelaw09_both.k25 (fun a1 a2 a3 a4 a5 a6 h => palisadelaw09_both.j25 U  a1 a2 a3 a4 a5 a6 Q h)))]) 3000 true (atPos (posC palisadelaw09_both.code []) 19) (frAt [1, 7, 9, 11, 12, 15, 19] [.ptr (some a1), .ptr a2, .ptr a3, .ptr a4, .ptr a5, .sl a6, .int .i64 a7]) h := by
  intros; kernel_rfl

theorem palisadelaw09_both.s19 {W0 : World} {U : Ifc} (hU : IfcOK sg W0 glsT U) (Q : (Option Ptr) → (Option Ptr) → (Option Ptr) → (Option Ptr) → Bool → Heap → Prop)   : CutOK sg W0 164 (entered 4) (Post sg W0 (palisadelaw09_both.ret Q)) (posC palisadelaw09_both.code []) 19 [1, 7, 9, 11, 12, 15, 19] (palisadelaw09_both.k19 (fun a1 a2 a3 a4 a5 a6 a7 h => palisadelaw09_both.j19 U  a1 a2 a3 a4 a5 a6 a7 Q h)) := by
  refine cutOK_head (fun vs h hk => ?_)
  unfold palisadelaw09_both.k19 at hk
  split at hk
  · rename_i a1 a2 a3 a4 a5 a6 a7
    refine hk (fun a1 a2 a3 a4 a5 a6 a7 h => Head sg W0 164 (entered 4) (Post sg W0 (palisadelaw09_both.ret Q)) (posC palisadelaw09_both.code []) 19 [1, 7, 9, 11, 12, 15, 19] [.ptr (some a1), .ptr a2, .ptr a3, .ptr a4, .ptr a5, .sl a6, .int .i64 a7] h) ?_
    intro a1 a2 a3 a4 a5 a6 a7 h hb todo hm ρ a w s f hp
    have hself : CutOK sg W0 164 (entered 4) (Post sg W0 (palisadelaw09_both.ret Q)) (posC palisadelaw09_both.code []) 19 [1, 7, 9, 11, 12, 15, 19] (palisadelaw09_both.k19 (fun a1 a2 a3 a4 a5 a6 a7 h => Head sg W0 164 (entered 4) (Post sg W0 (palisadelaw09_both.ret Q)) (posC palisadelaw09_both.code []) 19 [1, 7, 9, 11, 12, 15, 19] [.ptr (some a1), .ptr a2, .ptr a3, .ptr a4, .ptr a5, .sl a6, .int .i64 a7] h)) := cutOK_head (fun vs h hk => by unfold palisadelaw09_both.k19 at hk; split at hk; exact hk; exact hk.elim)
    exact piece (E := palisadelaw09_both.E U Q [(20, ([1, 7, 9, 11, 12, 15, 19], palisadelaw09_both.k20 (fun a1 a2 a3 a4 a5 a6 a7 h => palisadelaw09_both.j20 U (fun a1 a2 a3 a4 a5 a6 a7 h => Head sg W0 164 (entered 4) (Post sg W0 (palisadelaw09_both.ret Q)) (posC palisadelaw09_both.code []) 19 [1, 7, 9, 11, 12, 15, 19] [.ptr (some a1), .ptr a2, .ptr a3, .ptr a4, .ptr a5, .sl a6, .int .i64 a7] h) a1 a2 a3 a4 a5 a6 a7 Q h))), (25, ([1, 7, 9, 11, 12, 21], palisadelaw09_both.k25 (fun a1 a2 a3 a4 a5 a6 h => palisadelaw09_both.j25 U  a1 a2 a3 a4 a5 a6 Q h)))]) (vs := [.ptr (some a1), .ptr a2, .ptr a3, .ptr a4, .ptr a5, .sl a6, .int .i64 a7]) (envOK seatOK (palisadelaw09_both.callsOK hU) hU) (fnOK seatOK palisadelaw09_both.fun) ⟨(palisadelaw09_both.s20 hU Q (fun a1 a2 a3 a4 a5 a6 a7 h => Head sg W0 164 (entered 4) (Post sg W0 (palisadelaw09_both.ret Q)) (posC palisadelaw09_both.code []) 19 [1, 7, 9, 11, 12, 15, 19] [.ptr (some a1), .ptr a2, .ptr a3, .ptr a4, .ptr a5, .sl a6, .int .i64 a7] h) hself), (palisadelaw09_both.s25 hU Q  ), trivial⟩ palisadelaw09_both.p19 (fuel := 3000) (by rw [← palisadelaw09_both.e19]; exact hb) hm s f hp
  · exact hk.elim

theorem palisadelaw09_both.p14 : (posC palisadelaw09_both.code []).filter (fun p => Nat.beq p.1 14) = [(14, atPos (posC palisadelaw09_both.code []) 14)] := by kernel_rfl

theorem palisadelaw09_both.e14 : ∀ (U : Ifc)  (I14 : Ptr → (Option Ptr) → (Option Ptr) → (Option Ptr) → (Option Ptr) → Sl → Int → Heap → Prop) (a1 : Ptr) (a2 : Option Ptr) (a3 : Option Ptr) (a4 : Option Ptr) (a5 : Option Ptr) (a6 : Sl) (a7 : Int) (Q : (Option Ptr) → (Option Ptr) → (Option Ptr) → (Option Ptr) → Bool → Heap → Prop) (h : Heap), palisadelaw09_both.b14 U  I14 a1 a2 a3 a4 a5 a6 a7 Q h = pts (palisadelaw09_both.E U Q [(15, ([1, 7, 9, 11, 12, 15, 16], palisadelaw09_both.k15 (fun a1 a2 a3 a4 a5 a6 a7 h => palisadelaw09_both.j15 U I14 a1 a2 a3 a4 a5 a6 a7 Q h))), (19, ([1, 7, 9, 11, 12, 15, 19], palisadelaw09_both.k19 (fun a1 a2 a3 a4 a5 a6 a7 h => palisadelaw09_both.j19 U  a1 a2 a3 a4 a5 a6 a7 Q h)))]) 3000 true (atPos (posC palisadelaw09_both.code []) 14) (frAt [1, 7, 9, 11, 12, 15, 16] [.ptr (some a1), .ptr a2, .ptr a3, .ptr a4, .ptr a5, .sl a6, .int .i64 a7]) h := by
  intros; kernel_rfl

theorem palisadelaw09_both.s14 {W0 : World} {U : Ifc} (hU : IfcOK sg W0 glsT U) (Q : (Option Ptr) → (Option Ptr) → (Option Ptr) → (Option Ptr) → Bool → Heap → Prop)   : CutOK sg W0 164 (entered 4) (Post sg W0 (palisadelaw09_both.ret Q)) (posC palisadelaw09_both.code []) 14 [1, 7, 9, 11, 12, 15, 16] (palisadelaw09_both.k14 (fun a1 a2 a3 a4 a5 a6 a7 h => palisadelaw09_both.j14 U  a1 a2 a3 a4 a5 a6 a7 Q h)) := by
  refine cutOK_head (fun vs h hk => ?_)
  unfold palisadelaw09_both.k14 at hk
  split at hk
  · rename_i a1 a2 a3 a4 a5 a6 a7
    refine hk (fun a1 a2 a3 a4 a5 a6 a7 h => Head sg W0 164 (entered 4) (Post sg W0 (palisadelaw09_both.ret Q)) (posC palisadelaw09_both.code []) 14 [1, 7, 9, 11, 12, 15, 16] [.ptr (some a1), .ptr a2, .ptr a3, .ptr a4, .ptr a5, .sl a6, .int .i64 a7] h) ?_
    intro a1 a2 a3 a4 a5 a6 a7 h hb todo hm ρ a w s f hp
    have hself : CutOK sg W0 164 (entered 4) (Post sg W0 (palisadelaw09_both.ret Q)) (posC palisadelaw09_both.code []) 14 [1, 7, 9, 11, 12, 15, 16] (palisadelaw09_both.k14 (fun a1 a2 a3 a4 a5 a6 a7 h => Head sg W0 164 (entered 4) (Post sg W0 (palisadelaw09_both.ret Q)) (posC palisadelaw09_both.code []) 14 [1, 7, 9, 11, 12, 15, 16] [.ptr (some a1), .ptr a2, .ptr a3, .ptr a4, .ptr a5, .sl a6, .int .i64 a7] h)) := cutOK_head (fun vs h hk => by unfold palisadelaw09_both.k14 at hk; split at hk; exact hk; exact hk.elim)
    exact piece (E := palisadelaw09_both.E U Q [(15, ([1, 7, 9, 11, 12, 15, 16], palisadelaw09_both.k15 (fun a1 a2 a3 a4 a5 a6 a7 h => palisadelaw09_both.j15 U (fun a1 a2 a3 a4 a5 a6 a7 h => Head sg W0 164 (entered 4) (Post sg W0 (palisadelaw09_both.ret Q)) (posC palisadelaw09_both.code []) 14 [1, 7, 9, 11, 12, 15, 16] [.ptr (some a1), .ptr a2, .ptr a3, .ptr a4, .ptr a5, .sl a6, .int .i64 a7] h) a1 a2 a3 a4 a5 a6 a7 Q h))), (19, ([1, 7, 9, 11, 12, 15, 19], palisadelaw09_both.k19 (fun a1 a2 a3 a4 a5 a6 a7 h => palisadelaw09_both.j19 U  a1 a2 a3 a4 a5 a6 a7 Q h)))]) (vs := [.ptr (some a1), .ptr a2, .ptr a3, .ptr a4, .ptr a5, .sl a6, .int .i64 a7]) (envOK seatOK (palisadelaw09_both.callsOK hU) hU) (fnOK seatOK palisadelaw09_both.fun) ⟨(palisadelaw09_both.s15 hU Q (fun a1 a2 a3 a4 a5 a6 a7 h => Head sg W0 164 (entered 4) (Post sg W0 (palisadelaw09_both.ret Q)) (posC palisadelaw09_both.code []) 14 [1, 7, 9, 11, 12, 15, 16] [.ptr (some a1), .ptr a2, .ptr a3, .ptr a4, .ptr a5, .sl a6, .int .i64 a7] h) hself), (palisadelaw09_both.s19 hU Q  ), trivial⟩ palisadelaw09_both.p14 (fuel := 3000) (by rw [← palisadelaw09_both.e14]; exact hb) hm s f hp
  · exact hk.elim

theorem palisadelaw09_both.p7 : (posC palisadelaw09_both.code []).filter (fun p => Nat.beq p.1 7) = [(7, atPos (posC palisadelaw09_both.code []) 7)] := by kernel_rfl

theorem palisadelaw09_both.e7 : ∀ (U : Ifc)  (I7 : Ptr → (Option Ptr) → (Option Ptr) → (Option Ptr) → (Option Ptr) → Int → Heap → Prop) (a1 : Ptr) (a2 : Option Ptr) (a3 : Option Ptr) (a4 : Option Ptr) (a5 : Option Ptr) (a6 : Int) (Q : (Option Ptr) → (Option Ptr) → (Option Ptr) → (Option Ptr) → Bool → Heap → Prop) (h : Heap), palisadelaw09_both.b7 U  I7 a1 a2 a3 a4 a5 a6 Q h = pts (palisadelaw09_both.E U Q [(8, ([1, 7, 9, 11, 12, 13], palisadelaw09_both.k8 (fun a1 a2 a3 a4 a5 a6 h => palisadelaw09_both.j8 U I7 a1 a2 a3 a4 a5 a6 Q h))), (14, ([1, 7, 9, 11, 12, 15, 16], palisadelaw09_both.k14 (fun a1 a2 a3 a4 a5 a6 a7 h => palisadelaw09_both.j14 U  a1 a2 a3 a4 a5 a6 a7 Q h)))]) 3000 true (atPos (posC palisadelaw09_both.code []) 7) (frAt [1, 7, 9, 11, 12, 13] [.ptr (some a1), .ptr a2, .ptr a3, .ptr a4, .ptr a5, .int .i64 a6]) h := by
  intros; kernel_rfl

theorem palisadelaw09_both.s7 {W0 : World} {U : Ifc} (hU : IfcOK sg W0 glsT U) (Q : (Option Ptr) → (Option Ptr) → (Option Ptr) → (Option Ptr) → Bool → Heap → Prop)   : CutOK sg W0 164 (entered 4) (Post sg W0 (palisadelaw09_both.ret Q)) (posC palisadelaw09_both.code []) 7 [1, 7, 9, 11, 12, 13] (palisadelaw09_both.k7 (fun a1 a2 a3 a4 a5 a6 h => palisadelaw09_both.j7 U  a1 a2 a3 a4 a5 a6 Q h)) := by
  refine cutOK_head (fun vs h hk => ?_)
  unfold palisadelaw09_both.k7 at hk
  split at hk
  · rename_i a1 a2 a3 a4 a5 a6
    refine hk (fun a1 a2 a3 a4 a5 a6 h => Head sg W0 164 (entered 4) (Post sg W0 (palisadelaw09_both.ret Q)) (posC palisadelaw09_both.code []) 7 [1, 7, 9, 11, 12, 13] [.ptr (some a1), .ptr a2, .ptr a3, .ptr a4, .ptr a5, .int .i64 a6] h) ?_
    intro a1 a2 a3 a4 a5 a6 h hb todo hm ρ a w s f hp
    have hself : CutOK sg W0 164 (entered 4) (Post sg W0 (palisadelaw09_both.ret Q)) (posC palisadelaw09_both.code []) 7 [1, 7, 9, 11, 12, 13] (palisadelaw09_both.k7 (fun a1 a2 a3 a4 a5 a6 h => Head sg W0 164 (entered 4) (Post sg W0 (palisadelaw09_both.ret Q)) (posC palisadelaw09_both.code []) 7 [1, 7, 9, 11, 12, 13] [.ptr (some a1), .ptr a2, .ptr a3, .ptr a4, .ptr a5, .int .i64 a6] h)) := cutOK_head (fun vs h hk => by unfold palisadelaw09_both.k7 at hk; split at hk; exact hk; exact hk.elim)
    exact piece (E := palisadelaw09_both.E U Q [(8, ([1, 7, 9, 11, 12, 13], palisadelaw09_both.k8 (fun a1 a2 a3 a4 a5 a6 h => palisadelaw09_both.j8 U (fun a1 a2 a3 a4 a5 a6 h => Head sg W0 164 (entered 4) (Post sg W0 (palisadelaw09_both.ret Q)) (posC palisadelaw09_both.code []) 7 [1, 7, 9, 11, 12, 13] [.ptr (some a1), .ptr a2, .ptr a3, .ptr a4, .ptr a5, .int .i64 a6] h) a1 a2 a3 a4 a5 a6 Q h))), (14, ([1, 7, 9, 11, 12, 15, 16], palisadelaw09_both.k14 (fun a1 a2 a3 a4 a5 a6 a7 h => palisadelaw09_both.j14 U  a1 a2 a3 a4 a5 a6 a7 Q h)))]) (vs := [.ptr (some a1), .ptr a2, .ptr a3, .ptr a4, .ptr a5, .int .i64 a6]) (envOK seatOK (palisadelaw09_both.callsOK hU) hU) (fnOK seatOK palisadelaw09_both.fun) ⟨(palisadelaw09_both.s8 hU Q (fun a1 a2 a3 a4 a5 a6 h => Head sg W0 164 (entered 4) (Post sg W0 (palisadelaw09_both.ret Q)) (posC palisadelaw09_both.code []) 7 [1, 7, 9, 11, 12, 13] [.ptr (some a1), .ptr a2, .ptr a3, .ptr a4, .ptr a5, .int .i64 a6] h) hself), (palisadelaw09_both.s14 hU Q  ), trivial⟩ palisadelaw09_both.p7 (fuel := 3000) (by rw [← palisadelaw09_both.e7]; exact hb) hm s f hp
  · exact hk.elim

theorem palisadelaw09_both.p6 : (posC palisadelaw09_both.code []).filter (fun p => Nat.beq p.1 6) = [(6, atPos (posC palisadelaw09_both.code []) 6)] := by kernel_rfl

theorem palisadelaw09_both.e6 : ∀ (U : Ifc)  (a1 : Ptr) (a2 : Option Ptr) (a3 : Option Ptr) (a4 : Option Ptr) (a5 : Option Ptr) (Q : (Option Ptr) → (Option Ptr) → (Option Ptr) → (Option Ptr) → Bool → Heap → Prop) (h : Heap), palisadelaw09_both.j6 U  a1 a2 a3 a4 a5 Q h = pts (palisadelaw09_both.E U Q [(7, ([1, 7, 9, 11, 12, 13], palisadelaw09_both.k7 (fun a1 a2 a3 a4 a5 a6 h => palisadelaw09_both.j7 U  a1 a2 a3 a4 a5 a6 Q h)))]) 3000 true (atPos (posC palisadelaw09_both.code []) 6) (frAt [1, 7, 9, 11, 12] [.ptr (some a1), .ptr a2, .ptr a3, .ptr a4, .ptr a5]) h := by
  intros; kernel_rfl

theorem palisadelaw09_both.s6 {W0 : World} {U : Ifc} (hU : IfcOK sg W0 glsT U) (Q : (Option Ptr) → (Option Ptr) → (Option Ptr) → (Option Ptr) → Bool → Heap → Prop)   : CutOK sg W0 164 (entered 4) (Post sg W0 (palisadelaw09_both.ret Q)) (posC palisadelaw09_both.code []) 6 [1, 7, 9, 11, 12] (palisadelaw09_both.k6 (fun a1 a2 a3 a4 a5 h => palisadelaw09_both.j6 U  a1 a2 a3 a4 a5 Q h)) := by
  refine cutOK_head (fun vs h hk => ?_)
  unfold palisadelaw09_both.k6 at hk
  split at hk
  · rename_i a1 a2 a3 a4 a5
    intro todo hm ρ a w s f hp
    exact piece (E := palisadelaw09_both.E U Q [(7, ([1, 7, 9, 11, 12, 13], palisadelaw09_both.k7 (fun a1 a2 a3 a4 a5 a6 h => palisadelaw09_both.j7 U  a1 a2 a3 a4 a5 a6 Q h)))]) (vs := [.ptr (some a1), .ptr a2, .ptr a3, .ptr a4, .ptr a5]) (envOK seatOK (palisadelaw09_both.callsOK hU) hU) (fnOK seatOK palisadelaw09_both.fun) ⟨(palisadelaw09_both.s7 hU Q  ), trivial⟩ palisadelaw09_both.p6 (fuel := 3000) (by rw [← palisadelaw09_both.e6]; exact hk) hm s f hp
  · exact hk.elim

theorem palisadelaw09_both.e : ∀ (U : Ifc) (a1 : List V) (Q : (Option Ptr) → (Option Ptr) → (Option Ptr) → (Option Ptr) → Bool → Heap → Prop) (h : Heap), palisadelaw09_both U a1 Q h = pts (palisadelaw09_both.E U Q [(5, ([], palisadelaw09_both.k5 (fun  h => palisadelaw09_both.j5 U   Q h))), (6, ([1, 7, 9, 11, 12], palisadelaw09_both.k6 (fun a1 a2 a3 a4 a5 h => palisadelaw09_both.j6 U  a1 a2 a3 a4 a5 Q h)))]) 3000 true [.code palisadelaw09_both.code] (frOf 0 [.ago a1]) h := by
  intros; kernel_rfl

theorem palisadelaw09_both.S {W0 : World} {U : Ifc} (hU : IfcOK sg W0 glsT U) : FnS sg W0 231 (palisadelaw09_both.C U) := by
  intro vs κ h wv hx w s
  unfold palisadelaw09_both.C at hx
  split at hx
  · rename_i a1
    refine postImp (ret := palisadelaw09_both.ret (fun r1 r2 r3 r4 r5 h => κ (.tup [.ptr r1, .ptr r2, .ptr r3, .ptr r4, .bool r5]) h)) (fun v h hr => by unfold palisadelaw09_both.ret at hr; split at hr; exact hr; exact hr.elim) ?_
    exact calls_of_pts (E := palisadelaw09_both.E U (fun r1 r2 r3 r4 r5 h => κ (.tup [.ptr r1, .ptr r2, .ptr r3, .ptr r4, .bool r5]) h) [(5, ([], palisadelaw09_both.k5 (fun  h => palisadelaw09_both.j5 U   (fun r1 r2 r3 r4 r5 h => κ (.tup [.ptr r1, .ptr r2, .ptr r3, .ptr r4, .bool r5]) h) h))), (6, ([1, 7, 9, 11, 12], palisadelaw09_both.k6 (fun a1 a2 a3 a4 a5 h => palisadelaw09_both.j6 U  a1 a2 a3 a4 a5 (fun r1 r2 r3 r4 r5 h => κ (.tup [.ptr r1, .ptr r2, .ptr r3, .ptr r4, .bool r5]) h) h)))]) (envOK seatOK (palisadelaw09_both.callsOK hU) hU) seatOK.mixed palisadelaw09_both.fun (Nat.le_of_ble_eq_true rfl) wv (cutL_ok ⟨(palisadelaw09_both.s5 hU (fun r1 r2 r3 r4 r5 h => κ (.tup [.ptr r1, .ptr r2, .ptr r3, .ptr r4, .bool r5]) h)), (palisadelaw09_both.s6 hU (fun r1 r2 r3 r4 r5 h => κ (.tup [.ptr r1, .ptr r2, .ptr r3, .ptr r4, .bool r5]) h)), trivial⟩) s (fuel := 3000) (by rw [← palisadelaw09_both.e]; exact hx)
  · exact hx.elim

noncomputable def csr_File_Clone.code : Code := Go.Proofs.Tryz.f16.body.getD .skip

theorem csr_File_Clone.fun : Fun sg.P 16 9 [.tmp 2] csr_File_Clone.code := mkFun Go.Proofs.Tryz.func16 (by kernel_rfl) (by kernel_rfl) (by kernel_rfl) (by kernel_rfl)

def csr_File_Clone.ret (Q : (Option Ptr) → Heap → Prop) (v : V) (h : Heap) : Prop :=
  match v with
  | .ptr r1 => Q r1 h
  | _ => False

def csr_File_Clone.C (vs : List V) (κ : V → Heap → Prop) (h : Heap) : Prop :=
  match vs with
  | [.ptr a1] => csr_File_Clone a1 (fun r1 h => κ (.ptr r1) h) h
  | _ => False

noncomputable def csr_File_Clone.calls : List (Nat × (List V → (V → Heap → Prop) → Heap → Prop)) := [(162, csr_File_none.C)]

noncomputable def csr_File_Clone.E (Q : (Option Ptr) → Heap → Prop) (cuts : List (Nat × (List Nat × (List V → Heap → Prop)))) : Env := { tis := tisT, fns := fnsT, tys := tysT, gls := [], rts := rtsT, unk := [], nxt := [], calls := csr_File_Clone.calls, ifc := noIfc, cuts := cuts, ret := csr_File_Clone.ret Q, rets := [.tmp 2], n := 9 }

theorem csr_File_Clone.callsOK {W0 : World} : CallsOK sg W0 csr_File_Clone.calls := ⟨csr_File_none.S, trivial⟩

theorem csr_File_Clone.e : ∀ (a1 : Option Ptr) (Q : (Option Ptr) → Heap → Prop) (h : Heap), csr_File_Clone a1 Q h = pts (csr_File_Clone.E Q []) 3000 true [.code csr_File_Clone.code] (frOf 0 [.ptr a1]) h := by
  intros; kernel_rfl

theorem csr_File_Clone.S {W0 : World} : FnS sg W0 163 csr_File_Clone.C := by
  intro vs κ h wv hx w s
  unfold csr_File_Clone.C at hx
  split at hx
  · rename_i a1
    refine postImp (ret := csr_File_Clone.ret (fun r1 h => κ (.ptr r1) h)) (fun v h hr => by unfold csr_File_Clone.ret at hr; split at hr; exact hr; exact hr.elim) ?_
    exact calls_of_pts (E := csr_File_Clone.E (fun r1 h => κ (.ptr r1) h) []) (envOK seatOK csr_File_Clone.callsOK noIfc_ok) seatOK.mixed csr_File_Clone.fun (Nat.le_of_ble_eq_true rfl) wv (cutL_ok trivial) s (fuel := 3000) (by rw [← csr_File_Clone.e]; exact hx)
  · exact hx.elim

noncomputable def hart_Step.code : Code := Go.Proofs.Tryz.f5.body.getD .skip

theorem hart_Step.fun : Fun sg.P 5 61 [.cell 6 41, .tmp 7] hart_Step.code := mkFun Go.Proofs.Tryz.func5 (by kernel_rfl) (by kernel_rfl) (by kernel_rfl) (by kernel_rfl)

def hart_Step.ret (Q : Int → Int → Int → Int → Bool → Bool → Int → Heap → Prop) (v : V) (h : Heap) : Prop :=
  match v with
  | .tup [.agg [.int .i64 r1, .int .i64 r2, .int .u64 r3, .int .u64 r4, .bool r5, .bool r6], .int .i64 r7] => Q r1 r2 r3 r4 r5 r6 r7 h
  | _ => False

def hart_Step.C (vs : List V) (κ : V → Heap → Prop) (h : Heap) : Prop :=
  match vs with
  | [.ptr a1, .ptr a2, a3] => hart_Step a1 a2 a3 (fun r1 r2 r3 r4 r5 r6 r7 h => κ (.tup [.agg [.int .i64 r1, .int .i64 r2, .int .u64 r3, .int .u64 r4, .bool r5, .bool r6], .int .i64 r7]) h) h
  | _ => False

noncomputable def hart_Step.calls : List (Nat × (List V → (V → Heap → Prop) → Heap → Prop)) := [(163, csr_File_Clone.C)]

noncomputable def hart_Step.E (Q : Int → Int → Int → Int → Bool → Bool → Int → Heap → Prop) (cuts : List (Nat × (List Nat × (List V → Heap → Prop)))) : Env := { tis := tisT, fns := fnsT, tys := tysT, gls := [], rts := rtsT, unk := [], nxt := [], calls := hart_Step.calls, ifc := noIfc, cuts := cuts, ret := hart_Step.ret Q, rets := [.cell 6 41, .tmp 7], n := 61 }

theorem hart_Step.callsOK {W0 : World} : CallsOK sg W0 hart_Step.calls := ⟨csr_File_Clone.S, trivial⟩

def hart_Step.k2 (I : Ptr → Heap → Prop) (vs : List V) (h : Heap) : Prop :=
  match vs with
  | [.ptr (some a1)] => I a1 h
  | _ => False

theorem hart_Step.p2 : (posC hart_Step.code []).filter (fun p => Nat.beq p.1 2) = [(2, atPos (posC hart_Step.code []) 2)] := by kernel_rfl

theorem hart_Step.e2 : ∀  (a1 : Ptr) (Q : Int → Int → Int → Int → Bool → Bool → Int → Heap → Prop) (h : Heap), hart_Step.j2  a1 Q h = pts (hart_Step.E Q []) 3000 true (atPos (posC hart_Step.code []) 2) (frAt [6] [.ptr (some a1)]) h := by
  intros; kernel_rfl

theorem hart_Step.s2 {W0 : World} (Q : Int → Int → Int → Int → Bool → Bool → Int → Heap → Prop)   : CutOK sg W0 61 (entered 5) (Post sg W0 (hart_Step.ret Q)) (posC hart_Step.code []) 2 [6] (hart_Step.k2 (fun a1 h => hart_Step.j2  a1 Q h)) := by
  refine cutOK_head (fun vs h hk => ?_)
  unfold hart_Step.k2 at hk
  split at hk
  · rename_i a1
    intro todo hm ρ a w s f hp
    exact piece (E := hart_Step.E Q []) (vs := [.ptr (some a1)]) (envOK seatOK hart_Step.callsOK noIfc_ok) (fnOK seatOK hart_Step.fun) trivial hart_Step.p2 (fuel := 3000) (by rw [← hart_Step.e2]; exact hk) hm s f hp
  · exact hk.elim

theorem hart_Step.e : ∀ (a1 : Option Ptr) (a2 : Option Ptr) (a3 : V) (Q : Int → Int → Int → Int → Bool → Bool → Int → Heap → Prop) (h : Heap), hart_Step a1 a2 a3 Q h = pts (hart_Step.E Q [(2, ([6], hart_Step.k2 (fun a1 h => hart_Step.j2  a1 Q h)))]) 3000 true [.code hart_Step.code] (frOf 0 [.ptr a1, .ptr a2, a3]) h := by
  intros; kernel_rfl

theorem hart_Step.S {W0 : World} : FnS sg W0 188 hart_Step.C := by
  intro vs κ h wv hx w s
  unfold hart_Step.C at hx
  split at hx
  · rename_i a1 a2 a3
    refine postImp (ret := hart_Step.ret (fun r1 r2 r3 r4 r5 r6 r7 h => κ (.tup [.agg [.int .i64 r1, .int .i64 r2, .int .u64 r3, .int .u64 r4, .bool r5, .bool r6], .int .i64 r7]) h)) (fun v h hr => by unfold hart_Step.ret at hr; split at hr; exact hr; exact hr.elim) ?_
    exact calls_of_pts (E := hart_Step.E (fun r1 r2 r3 r4 r5 r6 r7 h => κ (.tup [.agg [.int .i64 r1, .int .i64 r2, .int .u64 r3, .int .u64 r4, .bool r5, .bool r6], .int .i64 r7]) h) [(2, ([6], hart_Step.k2 (fun a1 h => hart_Step.j2  a1 (fun r1 r2 r3 r4 r5 r6 r7 h => κ (.tup [.agg [.int .i64 r1, .int .i64 r2, .int .u64 r3, .int .u64 r4, .bool r5, .bool r6], .int .i64 r7]) h) h)))]) (envOK seatOK hart_Step.callsOK noIfc_ok) seatOK.mixed hart_Step.fun (Nat.le_of_ble_eq_true rfl) wv (cutL_ok ⟨(hart_Step.s2 (fun r1 r2 r3 r4 r5 r6 r7 h => κ (.tup [.agg [.int .i64 r1, .int .i64 r2, .int .u64 r3, .int .u64 r4, .bool r5, .bool r6], .int .i64 r7]) h)), trivial⟩) s (fuel := 3000) (by rw [← hart_Step.e]; exact hx)
  · exact hx.elim

noncomputable def palisadelaw09_HartNobody.code : Code := Go.Proofs.Tryz.f3.body.getD .skip

theorem palisadelaw09_HartNobody.fun : Fun sg.P 3 97 [.tmp 2] palisadelaw09_HartNobody.code := mkFun Go.Proofs.Tryz.func3 (by kernel_rfl) (by kernel_rfl) (by kernel_rfl) (by kernel_rfl)

def palisadelaw09_HartNobody.ret (Q : Bool → Heap → Prop) (v : V) (h : Heap) : Prop :=
  match v with
  | .bool r1 => Q r1 h
  | _ => False

def palisadelaw09_HartNobody.C (U : Ifc) (vs : List V) (κ : V → Heap → Prop) (h : Heap) : Prop :=
  match vs with
  | [.ago a1] => palisadelaw09_HartNobody U a1 (fun r1 h => κ (.bool r1) h) h
  | _ => False

noncomputable def palisadelaw09_HartNobody.calls (U : Ifc) : List (Nat × (List V → (V → Heap → Prop) → Heap → Prop)) := [(231, palisadelaw09_both.C U), (188, hart_Step.C)]

noncomputable def palisadelaw09_HartNobody.E (U : Ifc) (Q : Bool → Heap → Prop) (cuts : List (Nat × (List Nat × (List V → Heap → Prop)))) : Env := { tis := tisT, fns := fnsT, tys := tysT, gls := glsT, rts := rtsT, unk := [], nxt := [], calls := palisadelaw09_HartNobody.calls U, ifc := U, cuts := cuts, ret := palisadelaw09_HartNobody.ret Q, rets := [.tmp 2], n := 97 }

theorem palisadelaw09_HartNobody.callsOK {W0 : World} {U : Ifc} (hU : IfcOK sg W0 glsT U) : CallsOK sg W0 (palisadelaw09_HartNobody.calls U) := ⟨(palisadelaw09_both.S hU), hart_Step.S, trivial⟩

def palisadelaw09_HartNobody.k9 (I : Ptr → Ptr → Ptr → Int → Ptr → Int → Ptr → Int → Ptr → Int → Heap → Prop) (vs : List V) (h : Heap) : Prop :=
  match vs with
  | [.ptr (some a1), .ptr (some a2), .ptr (some a3), .int .i64 a4, .ptr (some a5), .int .i64 a6, .ptr (some a7), .int .i64 a8, .ptr (some a9), .int .i64 a10] => I a1 a2 a3 a4 a5 a6 a7 a8 a9 a10 h
  | _ => False

def palisadelaw09_HartNobody.k6 (I : Ptr → (Option Ptr) → (Option Ptr) → Ptr → Ptr → Int → Heap → Prop) (vs : List V) (h : Heap) : Prop :=
  match vs with
  | [.ptr (some a1), .ptr a2, .ptr a3, .ptr (some a4), .ptr (some a5), .int .i64 a6] => I a1 a2 a3 a4 a5 a6 h
  | _ => False

theorem palisadelaw09_HartNobody.p9 : (posC palisadelaw09_HartNobody.code []).filter (fun p => Nat.beq p.1 9) = [(9, atPos (posC palisadelaw09_HartNobody.code []) 9)] := by kernel_rfl

theorem palisadelaw09_HartNobody.e9 : ∀ (U : Ifc)  (a1 : Ptr) (a2 : Ptr) (a3 : Ptr) (a4 : Int) (a5 : Ptr) (a6 : Int) (a7 : Ptr) (a8 : Int) (a9 : Ptr) (a10 : Int) (Q : Bool → Heap → Prop) (h : Heap), palisadelaw09_HartNobody.j9 U  a1 a2 a3 a4 a5 a6 a7 a8 a9 a10 Q h = pts (palisadelaw09_HartNobody.E U Q []) 3000 true (atPos (posC palisadelaw09_HartNobody.code []) 9) (frAt [1, 8, 9, 10, 11, 12, 13, 14, 15, 16] [.ptr (some a1), .ptr (some a2), .ptr (some a3), .int .i64 a4, .ptr (some a5), .int .i64 a6, .ptr (some a7), .int .i64 a8, .ptr (some a9), .int .i64 a10]) h := by
  intros; kernel_rfl

theorem palisadelaw09_HartNobody.s9 {W0 : World} {U : Ifc} (hU : IfcOK sg W0 glsT U) (Q : Bool → Heap → Prop)   : CutOK sg W0 97 (entered 3) (Post sg W0 (palisadelaw09_HartNobody.ret Q)) (posC palisadelaw09_HartNobody.code []) 9 [1, 8, 9, 10, 11, 12, 13, 14, 15, 16] (palisadelaw09_HartNobody.k9 (fun a1 a2 a3 a4 a5 a6 a7 a8 a9 a10 h => palisadelaw09_HartNobody.j9 U  a1 a2 a3 a4 a5 a6 a7 a8 a9 a10 Q h)) := by
  refine cutOK_head (fun vs h hk => ?_)
  unfold palisadelaw09_HartNobody.k9 at hk
  split at hk
  · rename_i a1 a2 a3 a4 a5 a6 a7 a8 a9 a10
    intro todo hm ρ a w s f hp
    exact piece (E := palisadelaw09_HartNobody.E U Q []) (vs := [.ptr (some a1), .ptr (some a2), .ptr (some a3), .int .i64 a4, .ptr (some a5), .int .i64 a6, .ptr (some a7), .int .i64 a8, .ptr (some a9), .int .i64 a10]) (envOK seatOK (palisadelaw09_HartNobody.callsOK hU) hU) (fnOK seatOK palisadelaw09_HartNobody.fun) trivial palisadelaw09_HartNobody.p9 (fuel := 3000) (by rw [← palisadelaw09_HartNobody.e9]; exact hk) hm s f hp
  · exact hk.elim

theorem palisadelaw09_HartNobody.p6 : (posC palisadelaw09_HartNobody.code []).filter (fun p => Nat.beq p.1 6) = [(6, atPos (posC palisadelaw09_HartNobody.code []) 6)] := by kernel_rfl

theorem palisadelaw09_HartNobody.e6 : ∀ (U : Ifc)  (a1 : Ptr) (a2 : Option Ptr) (a3 : Option Ptr) (a4 : Ptr) (a5 : Ptr) (a6 : Int) (Q : Bool → Heap → Prop) (h : Heap), palisadelaw09_HartNobody.j6 U  a1 a2 a3 a4 a5 a6 Q h = pts (palisadelaw09_HartNobody.E U Q [(9, ([1, 8, 9, 10, 11, 12, 13, 14, 15, 16], palisadelaw09_HartNobody.k9 (fun a1 a2 a3 a4 a5 a6 a7 a8 a9 a10 h => palisadelaw09_HartNobody.j9 U  a1 a2 a3 a4 a5 a6 a7 a8 a9 a10 Q h)))]) 3000 true (atPos (posC palisadelaw09_HartNobody.code []) 6) (frAt [1, 3, 5, 8, 9, 10] [.ptr (some a1), .ptr a2, .ptr a3, .ptr (some a4), .ptr (some a5), .int .i64 a6]) h := by
  intros; kernel_rfl

theorem palisadelaw09_HartNobody.s6 {W0 : World} {U : Ifc} (hU : IfcOK sg W0 glsT U) (Q : Bool → Heap → Prop)   : CutOK sg W0 97 (entered 3) (Post sg W0 (palisadelaw09_HartNobody.ret Q)) (posC palisadelaw09_HartNobody.code []) 6 [1, 3, 5, 8, 9, 10] (palisadelaw09_HartNobody.k6 (fun a1 a2 a3 a4 a5 a6 h => palisadelaw09_HartNobody.j6 U  a1 a2 a3 a4 a5 a6 Q h)) := by
  refine cutOK_head (fun vs h hk => ?_)
  unfold palisadelaw09_HartNobody.k6 at hk
  split at hk
  · rename_i a1 a2 a3 a4 a5 a6
    intro todo hm ρ a w s f hp
    exact piece (E := palisadelaw09_HartNobody.E U Q [(9, ([1, 8, 9, 10, 11, 12, 13, 14, 15, 16], palisadelaw09_HartNobody.k9 (fun a1 a2 a3 a4 a5 a6 a7 a8 a9 a10 h => palisadelaw09_HartNobody.j9 U  a1 a2 a3 a4 a5 a6 a7 a8 a9 a10 Q h)))]) (vs := [.ptr (some a1), .ptr a2, .ptr a3, .ptr (some a4), .ptr (some a5), .int .i64 a6]) (envOK seatOK (palisadelaw09_HartNobody.callsOK hU) hU) (fnOK seatOK palisadelaw09_HartNobody.fun) ⟨(palisadelaw09_HartNobody.s9 hU Q  ), trivial⟩ palisadelaw09_HartNobody.p6 (fuel := 3000) (by rw [← palisadelaw09_HartNobody.e6]; exact hk) hm s f hp
  · exact hk.elim

theorem palisadelaw09_HartNobody.e : ∀ (U : Ifc) (a1 : List V) (Q : Bool → Heap → Prop) (h : Heap), palisadelaw09_HartNobody U a1 Q h = pts (palisadelaw09_HartNobody.E U Q [(6, ([1, 3, 5, 8, 9, 10], palisadelaw09_HartNobody.k6 (fun a1 a2 a3 a4 a5 a6 h => palisadelaw09_HartNobody.j6 U  a1 a2 a3 a4 a5 a6 Q h)))]) 3000 true [.code palisadelaw09_HartNobody.code] (frOf 0 [.ago a1]) h := by
  intros; kernel_rfl

theorem palisadelaw09_HartNobody.S {W0 : World} {U : Ifc} (hU : IfcOK sg W0 glsT U) : FnS sg W0 254 (palisadelaw09_HartNobody.C U) := by
  intro vs κ h wv hx w s
  unfold palisadelaw09_HartNobody.C at hx
  split at hx
  · rename_i a1
    refine postImp (ret := palisadelaw09_HartNobody.ret (fun r1 h => κ (.bool r1) h)) (fun v h hr => by unfold palisadelaw09_HartNobody.ret at hr; split at hr; exact hr; exact hr.elim) ?_
    exact calls_of_pts (E := palisadelaw09_HartNobody.E U (fun r1 h => κ (.bool r1) h) [(6, ([1, 3, 5, 8, 9, 10], palisadelaw09_HartNobody.k6 (fun a1 a2 a3 a4 a5 a6 h => palisadelaw09_HartNobody.j6 U  a1 a2 a3 a4 a5 a6 (fun r1 h => κ (.bool r1) h) h)))]) (envOK seatOK (palisadelaw09_HartNobody.callsOK hU) hU) seatOK.mixed palisadelaw09_HartNobody.fun (Nat.le_of_ble_eq_true rfl) wv (cutL_ok ⟨(palisadelaw09_HartNobody.s6 hU (fun r1 h => κ (.bool r1) h)), trivial⟩) s (fuel := 3000) (by rw [← palisadelaw09_HartNobody.e]; exact hx)
  · exact hx.elim

noncomputable def hart_acts.code : Code := Go.Proofs.Tryz.f18.body.getD .skip

theorem hart_acts.fun : Fun sg.P 18 40 [.tmp 0] hart_acts.code := mkFun Go.Proofs.Tryz.func18 (by kernel_rfl) (by kernel_rfl) (by kernel_rfl) (by kernel_rfl)

def hart_acts.ret (Q : (Option Nat) → Heap → Prop) (v : V) (h : Heap) : Prop :=
  match v with
  | .map r1 => Q r1 h
  | _ => False

def hart_acts.C (vs : List V) (κ : V → Heap → Prop) (h : Heap) : Prop :=
  match vs with
  | [] => hart_acts  (fun r1 h => κ (.map r1) h) h
  | _ => False

noncomputable def hart_acts.calls : List (Nat × (List V → (V → Heap → Prop) → Heap → Prop)) := []

noncomputable def hart_acts.E (Q : (Option Nat) → Heap → Prop) (cuts : List (Nat × (List Nat × (List V → Heap → Prop)))) : Env := { tis := tisT, fns := fnsT, tys := tysT, gls := [], rts := rtsT, unk := [], nxt := [], calls := hart_acts.calls, ifc := noIfc, cuts := cuts, ret := hart_acts.ret Q, rets := [.tmp 0], n := 40 }

theorem hart_acts.callsOK {W0 : World} : CallsOK sg W0 hart_acts.calls := trivial

def hart_acts.k19 (I : (Option Nat) → Int → Heap → Prop) (vs : List V) (h : Heap) : Prop :=
  match vs with
  | [.map a1, .int .i64 a2] => I a1 a2 h
  | _ => False

def hart_acts.k15 (I : (Option Nat) → Int → Heap → Prop) (vs : List V) (h : Heap) : Prop :=
  match vs with
  | [.map a1, .int .i64 a2] => I a1 a2 h
  | _ => False

def hart_acts.k11 (I : (Option Nat) → Int → Heap → Prop) (vs : List V) (h : Heap) : Prop :=
  match vs with
  | [.map a1, .int .i64 a2] => I a1 a2 h
  | _ => False

def hart_acts.k7 (I : (Option Nat) → Int → Heap → Prop) (vs : List V) (h : Heap) : Prop :=
  match vs with
  | [.map a1, .int .i64 a2] => I a1 a2 h
  | _ => False

def hart_acts.k3 (I : (Option Nat) → Int → Heap → Prop) (vs : List V) (h : Heap) : Prop :=
  match vs with
  | [.map a1, .int .i64 a2] => I a1 a2 h
  | _ => False

theorem hart_acts.p19 : (posC hart_acts.code []).filter (fun p => Nat.beq p.1 19) = [(19, atPos (posC hart_acts.code []) 19)] := by kernel_rfl

theorem hart_acts.e19 : ∀  (I19 : (Option Nat) → Int → Heap → Prop) (a1 : Option Nat) (a2 : Int) (Q : (Option Nat) → Heap → Prop) (h : Heap), hart_acts.b19  I19 a1 a2 Q h = pts (hart_acts.E Q [(19, ([1, 6], hart_acts.k19 I19))]) 3000 true (atPos (posC hart_acts.code []) 19) (frAt [1, 6] [.map a1, .int .i64 a2]) h := by
  intros; kernel_rfl

theorem hart_acts.s19 {W0 : World} (Q : (Option Nat) → Heap → Prop)   : CutOK sg W0 40 (entered 18) (Post sg W0 (hart_acts.ret Q)) (posC hart_acts.code []) 19 [1, 6] (hart_acts.k19 (fun a1 a2 h => hart_acts.j19  a1 a2 Q h)) := by
  refine cutOK_head (fun vs h hk => ?_)
  unfold hart_acts.k19 at hk
  split at hk
  · rename_i a1 a2
    refine hk (fun a1 a2 h => Head sg W0 40 (entered 18) (Post sg W0 (hart_acts.ret Q)) (posC hart_acts.code []) 19 [1, 6] [.map a1, .int .i64 a2] h) ?_
    intro a1 a2 h hb todo hm ρ a w s f hp
    have hself : CutOK sg W0 40 (entered 18) (Post sg W0 (hart_acts.ret Q)) (posC hart_acts.code []) 19 [1, 6] (hart_acts.k19 (fun a1 a2 h => Head sg W0 40 (entered 18) (Post sg W0 (hart_acts.ret Q)) (posC hart_acts.code []) 19 [1, 6] [.map a1, .int .i64 a2] h)) := cutOK_head (fun vs h hk => by unfold hart_acts.k19 at hk; split at hk; exact hk; exact hk.elim)
    exact piece (E := hart_acts.E Q [(19, ([1, 6], hart_acts.k19 (fun a1 a2 h => Head sg W0 40 (entered 18) (Post sg W0 (hart_acts.ret Q)) (posC hart_acts.code []) 19 [1, 6] [.map a1, .int .i64 a2] h)))]) (vs := [.map a1, .int .i64 a2]) (envOK seatOK hart_acts.callsOK noIfc_ok) (fnOK seatOK hart_acts.fun) ⟨hself, trivial⟩ hart_acts.p19 (fuel := 3000) (by rw [← hart_acts.e19]; exact hb) hm s f hp
  · exact hk.elim

theorem hart_acts.p15 : (posC hart_acts.code []).filter (fun p => Nat.beq p.1 15) = [(15, atPos (posC hart_acts.code []) 15)] := by kernel_rfl

theorem hart_acts.e15 : ∀  (I15 : (Option Nat) → Int → Heap → Prop) (a1 : Option Nat) (a2 : Int) (Q : (Option Nat) → Heap → Prop) (h : Heap), hart_acts.b15  I15 a1 a2 Q h = pts (hart_acts.E Q [(15, ([1, 5], hart_acts.k15 I15)), (19, ([1, 6], hart_acts.k19 (fun a1 a2 h => hart_acts.j19  a1 a2 Q h)))]) 3000 true (atPos (posC hart_acts.code []) 15) (frAt [1, 5] [.map a1, .int .i64 a2]) h := by
  intros; kernel_rfl

theorem hart_acts.s15 {W0 : World} (Q : (Option Nat) → Heap → Prop)   : CutOK sg W0 40 (entered 18) (Post sg W0 (hart_acts.ret Q)) (posC hart_acts.code []) 15 [1, 5] (hart_acts.k15 (fun a1 a2 h => hart_acts.j15  a1 a2 Q h)) := by
  refine cutOK_head (fun vs h hk => ?_)
  unfold hart_acts.k15 at hk
  split at hk
  · rename_i a1 a2
    refine hk (fun a1 a2 h => Head sg W0 40 (entered 18) (Post sg W0 (hart_acts.ret Q)) (posC hart_acts.code []) 15 [1, 5] [.map a1, .int .i64 a2] h) ?_
    intro a1 a2 h hb todo hm ρ a w s f hp
    have hself : CutOK sg W0 40 (entered 18) (Post sg W0 (hart_acts.ret Q)) (posC hart_acts.code []) 15 [1, 5] (hart_acts.k15 (fun a1 a2 h => Head sg W0 40 (entered 18) (Post sg W0 (hart_acts.ret Q)) (posC hart_acts.code []) 15 [1, 5] [.map a1, .int .i64 a2] h)) := cutOK_head (fun vs h hk => by unfold hart_acts.k15 at hk; split at hk; exact hk; exact hk.elim)
    exact piece (E := hart_acts.E Q [(15, ([1, 5], hart_acts.k15 (fun a1 a2 h => Head sg W0 40 (entered 18) (Post sg W0 (hart_acts.ret Q)) (posC hart_acts.code []) 15 [1, 5] [.map a1, .int .i64 a2] h))), (19, ([1, 6], hart_acts.k19 (fun a1 a2 h => hart_acts.j19  a1 a2 Q h)))]) (vs := [.map a1, .int .i64 a2]) (envOK seatOK hart_acts.callsOK noIfc_ok) (fnOK seatOK hart_acts.fun) ⟨hself, (hart_acts.s19 Q  ), trivial⟩ hart_acts.p15 (fuel := 3000) (by rw [← hart_acts.e15]; exact hb) hm s f hp
  · exact hk.elim

theorem hart_acts.p11 : (posC hart_acts.code []).filter (fun p => Nat.beq p.1 11) = [(11, atPos (posC hart_acts.code []) 11)] := by kernel_rfl

theorem hart_acts.e11 : ∀  (I11 : (Option Nat) → Int → Heap → Prop) (a1 : Option Nat) (a2 : Int) (Q : (Option Nat) → Heap → Prop) (h : Heap), hart_acts.b11  I11 a1 a2 Q h = pts (hart_acts.E Q [(11, ([1, 4], hart_acts.k11 I11)), (15, ([1, 5], hart_acts.k15 (fun a1 a2 h => hart_acts.j15  a1 a2 Q h)))]) 3000 true (atPos (posC hart_acts.code []) 11) (frAt [1, 4] [.map a1, .int .i64 a2]) h := by
  intros; kernel_rfl

theorem hart_acts.s11 {W0 : World} (Q : (Option Nat) → Heap → Prop)   : CutOK sg W0 40 (entered 18) (Post sg W0 (hart_acts.ret Q)) (posC hart_acts.code []) 11 [1, 4] (hart_acts.k11 (fun a1 a2 h => hart_acts.j11  a1 a2 Q h)) := by
  refine cutOK_head (fun vs h hk => ?_)
  unfold hart_acts.k11 at hk
  split at hk
  · rename_i a1 a2
    refine hk (fun a1 a2 h => Head sg W0 40 (entered 18) (Post sg W0 (hart_acts.ret Q)) (posC hart_acts.code []) 11 [1, 4] [.map a1, .int .i64 a2] h) ?_
    intro a1 a2 h hb todo hm ρ a w s f hp
    have hself : CutOK sg W0 40 (entered 18) (Post sg W0 (hart_acts.ret Q)) (posC hart_acts.code []) 11 [1, 4] (hart_acts.k11 (fun a1 a2 h => Head sg W0 40 (entered 18) (Post sg W0 (hart_acts.ret Q)) (posC hart_acts.code []) 11 [1, 4] [.map a1, .int .i64 a2] h)) := cutOK_head (fun vs h hk => by unfold hart_acts.k11 at hk; split at hk; exact hk; exact hk.elim)
    exact piece (E := hart_acts.E Q [(11, ([1, 4], hart_acts.k11 (fun a1 a2 h => Head sg W0 40 (entered 18) (Post sg W0 (hart_acts.ret Q)) (posC hart_acts.code []) 11 [1, 4] [.map a1, .int .i64 a2] h))), (15, ([1, 5], hart_acts.k15 (fun a1 a2 h => hart_acts.j15  a1 a2 Q h)))]) (vs := [.map a1, .int .i64 a2]) (envOK seatOK hart_acts.callsOK noIfc_ok) (fnOK seatOK hart_acts.fun) ⟨hself, (hart_acts.s15 Q  ), trivial⟩ hart_acts.p11 (fuel := 3000) (by rw [← hart_acts.e11]; exact hb) hm s f hp
  · exact hk.elim

theorem hart_acts.p7 : (posC hart_acts.code []).filter (fun p => Nat.beq p.1 7) = [(7, atPos (posC hart_acts.code []) 7)] := by kernel_rfl

theorem hart_acts.e7 : ∀  (I7 : (Option Nat) → Int → Heap → Prop) (a1 : Option Nat) (a2 : Int) (Q : (Option Nat) → Heap → Prop) (h : Heap), hart_acts.b7  I7 a1 a2 Q h = pts (hart_acts.E Q [(7, ([1, 3], hart_acts.k7 I7)), (11, ([1, 4], hart_acts.k11 (fun a1 a2 h => hart_acts.j11  a1 a2 Q h)))]) 3000 true (atPos (posC hart_acts.code []) 7) (frAt [1, 3] [.map a1, .int .i64 a2]) h := by
  intros; kernel_rfl

theorem hart_acts.s7 {W0 : World} (Q : (Option Nat) → Heap → Prop)   : CutOK sg W0 40 (entered 18) (Post sg W0 (hart_acts.ret Q)) (posC hart_acts.code []) 7 [1, 3] (hart_acts.k7 (fun a1 a2 h => hart_acts.j7  a1 a2 Q h)) := by
  refine cutOK_head (fun vs h hk => ?_)
  unfold hart_acts.k7 at hk
  split at hk
  · rename_i a1 a2
    refine hk (fun a1 a2 h => Head sg W0 40 (entered 18) (Post sg W0 (hart_acts.ret Q)) (posC hart_acts.code []) 7 [1, 3] [.map a1, .int .i64 a2] h) ?_
    intro a1 a2 h hb todo hm ρ a w s f hp
    have hself : CutOK sg W0 40 (entered 18) (Post sg W0 (hart_acts.ret Q)) (posC hart_acts.code []) 7 [1, 3] (hart_acts.k7 (fun a1 a2 h => Head sg W0 40 (entered 18) (Post sg W0 (hart_acts.ret Q)) (posC hart_acts.code []) 7 [1, 3] [.map a1, .int .i64 a2] h)) := cutOK_head (fun vs h hk => by unfold hart_acts.k7 at hk; split at hk; exact hk; exact hk.elim)
    exact piece (E := hart_acts.E Q [(7, ([1, 3], hart_acts.k7 (fun a1 a2 h => Head sg W0 40 (entered 18) (Post sg W0 (hart_acts.ret Q)) (posC hart_acts.code []) 7 [1, 3] [.map a1, .int .i64 a2] h))), (11, ([1, 4], hart_acts.k11 (fun a1 a2 h => hart_acts.j11  a1 a2 Q h)))]) (vs := [.map a1, .int .i64 a2]) (envOK seatOK hart_acts.callsOK noIfc_ok) (fnOK seatOK hart_acts.fun) ⟨hself, (hart_acts.s11 Q  ), trivial⟩ hart_acts.p7 (fuel := 3000) (by rw [← hart_acts.e7]; exact hb) hm s f hp
  · exact hk.elim

theorem hart_acts.p3 : (posC hart_acts.code []).filter (fun p => Nat.beq p.1 3) = [(3, atPos (posC hart_acts.code []) 3)] := by kernel_rfl

theorem hart_acts.e3 : ∀  (I3 : (Option Nat) → Int → Heap → Prop) (a1 : Option Nat) (a2 : Int) (Q : (Option Nat) → Heap → Prop) (h : Heap), hart_acts.b3  I3 a1 a2 Q h = pts (hart_acts.E Q [(3, ([1, 2], hart_acts.k3 I3)), (7, ([1, 3], hart_acts.k7 (fun a1 a2 h => hart_acts.j7  a1 a2 Q h)))]) 3000 true (atPos (posC hart_acts.code []) 3) (frAt [1, 2] [.map a1, .int .i64 a2]) h := by
  intros; kernel_rfl

theorem hart_acts.s3 {W0 : World} (Q : (Option Nat) → Heap → Prop)   : CutOK sg W0 40 (entered 18) (Post sg W0 (hart_acts.ret Q)) (posC hart_acts.code []) 3 [1, 2] (hart_acts.k3 (fun a1 a2 h => hart_acts.j3  a1 a2 Q h)) := by
  refine cutOK_head (fun vs h hk => ?_)
  unfold hart_acts.k3 at hk
  split at hk
  · rename_i a1 a2
    refine hk (fun a1 a2 h => Head sg W0 40 (entered 18) (Post sg W0 (hart_acts.ret Q)) (posC hart_acts.code []) 3 [1, 2] [.map a1, .int .i64 a2] h) ?_
    intro a1 a2 h hb todo hm ρ a w s f hp
    have hself : CutOK sg W0 40 (entered 18) (Post sg W0 (hart_acts.ret Q)) (posC hart_acts.code []) 3 [1, 2] (hart_acts.k3 (fun a1 a2 h => Head sg W0 40 (entered 18) (Post sg W0 (hart_acts.ret Q)) (posC hart_acts.code []) 3 [1, 2] [.map a1, .int .i64 a2] h)) := cutOK_head (fun vs h hk => by unfold hart_acts.k3 at hk; split at hk; exact hk; exact hk.elim)
    exact piece (E := hart_acts.E Q [(3, ([1, 2], hart_acts.k3 (fun a1 a2 h => Head sg W0 40 (entered 18) (Post sg W0 (hart_acts.ret Q)) (posC hart_acts.code []) 3 [1, 2] [.map a1, .int .i64 a2] h))), (7, ([1, 3], hart_acts.k7 (fun a1 a2 h => hart_acts.j7  a1 a2 Q h)))]) (vs := [.map a1, .int .i64 a2]) (envOK seatOK hart_acts.callsOK noIfc_ok) (fnOK seatOK hart_acts.fun) ⟨hself, (hart_acts.s7 Q  ), trivial⟩ hart_acts.p3 (fuel := 3000) (by rw [← hart_acts.e3]; exact hb) hm s f hp
  · exact hk.elim

theorem hart_acts.e : ∀  (Q : (Option Nat) → Heap → Prop) (h : Heap), hart_acts  Q h = pts (hart_acts.E Q [(3, ([1, 2], hart_acts.k3 (fun a1 a2 h => hart_acts.j3  a1 a2 Q h)))]) 3000 true [.code hart_acts.code] (frOf 0 []) h := by
  intros; kernel_rfl

theorem hart_acts.S {W0 : World} : FnS sg W0 185 hart_acts.C := by
  intro vs κ h wv hx w s
  unfold hart_acts.C at hx
  split at hx
  · skip
    refine postImp (ret := hart_acts.ret (fun r1 h => κ (.map r1) h)) (fun v h hr => by unfold hart_acts.ret at hr; split at hr; exact hr; exact hr.elim) ?_
    exact calls_of_pts (E := hart_acts.E (fun r1 h => κ (.map r1) h) [(3, ([1, 2], hart_acts.k3 (fun a1 a2 h => hart_acts.j3  a1 a2 (fun r1 h => κ (.map r1) h) h)))]) (envOK seatOK hart_acts.callsOK noIfc_ok) seatOK.mixed hart_acts.fun (Nat.le_of_ble_eq_true rfl) wv (cutL_ok ⟨(hart_acts.s3 (fun r1 h => κ (.map r1) h)), trivial⟩) s (fuel := 3000) (by rw [← hart_acts.e]; exact hx)
  · exact hx.elim

noncomputable def hart_trap.code : Code := Go.Proofs.Tryz.f30.body.getD .skip

theorem hart_trap.fun : Fun sg.P 30 9 [.cell 4 78] hart_trap.code := mkFun Go.Proofs.Tryz.func30 (by kernel_rfl) (by kernel_rfl) (by kernel_rfl) (by kernel_rfl)

def hart_trap.ret (Q : Int → Int → Int → Bool → Int → Heap → Prop) (v : V) (h : Heap) : Prop :=
  match v with
  | .agg [.int .i64 r1, .int .u64 r2, .int .u64 r3, .bool r4, .int .i64 r5] => Q r1 r2 r3 r4 r5 h
  | _ => False

def hart_trap.C (vs : List V) (κ : V → Heap → Prop) (h : Heap) : Prop :=
  match vs with
  | [.int .i64 a1, .int .u64 a2] => hart_trap a1 a2 (fun r1 r2 r3 r4 r5 h => κ (.agg [.int .i64 r1, .int .u64 r2, .int .u64 r3, .bool r4, .int .i64 r5]) h) h
  | _ => False

noncomputable def hart_trap.calls : List (Nat × (List V → (V → Heap → Prop) → Heap → Prop)) := []

noncomputable def hart_trap.E (Q : Int → Int → Int → Bool → Int → Heap → Prop) (cuts : List (Nat × (List Nat × (List V → Heap → Prop)))) : Env := { tis := tisT, fns := fnsT, tys := tysT, gls := [], rts := rtsT, unk := [], nxt := [], calls := hart_trap.calls, ifc := noIfc, cuts := cuts, ret := hart_trap.ret Q, rets := [.cell 4 78], n := 9 }

theorem hart_trap.callsOK {W0 : World} : CallsOK sg W0 hart_trap.calls := trivial

theorem hart_trap.e : ∀ (a1 : Int) (a2 : Int) (Q : Int → Int → Int → Bool → Int → Heap → Prop) (h : Heap), hart_trap a1 a2 Q h = pts (hart_trap.E Q []) 3000 true [.code hart_trap.code] (frOf 0 [.int .i64 a1, .int .u64 a2]) h := by
  intros; kernel_rfl

theorem hart_trap.S {W0 : World} : FnS sg W0 165 hart_trap.C := by
  intro vs κ h wv hx w s
  unfold hart_trap.C at hx
  split at hx
  · rename_i a1 a2
    refine postImp (ret := hart_trap.ret (fun r1 r2 r3 r4 r5 h => κ (.agg [.int .i64 r1, .int .u64 r2, .int .u64 r3, .bool r4, .int .i64 r5]) h)) (fun v h hr => by unfold hart_trap.ret at hr; split at hr; exact hr; exact hr.elim) ?_
    exact calls_of_pts (E := hart_trap.E (fun r1 r2 r3 r4 r5 h => κ (.agg [.int .i64 r1, .int .u64 r2, .int .u64 r3, .bool r4, .int .i64 r5]) h) []) (envOK seatOK hart_trap.callsOK noIfc_ok) seatOK.mixed hart_trap.fun (Nat.le_of_ble_eq_true rfl) wv (cutL_ok trivial) s (fuel := 3000) (by rw [← hart_trap.e]; exact hx)
  · exact hx.elim

noncomputable def hart_of.code : Code := Go.Proofs.Tryz.f33.body.getD .skip

theorem hart_of.fun : Fun sg.P 33 21 [.cell 2 78] hart_of.code := mkFun Go.Proofs.Tryz.func33 (by kernel_rfl) (by kernel_rfl) (by kernel_rfl) (by kernel_rfl)

def hart_of.ret (Q : Int → Int → Int → Bool → Int → Heap → Prop) (v : V) (h : Heap) : Prop :=
  match v with
  | .agg [.int .i64 r1, .int .u64 r2, .int .u64 r3, .bool r4, .int .i64 r5] => Q r1 r2 r3 r4 r5 h
  | _ => False

def hart_of.C (vs : List V) (κ : V → Heap → Prop) (h : Heap) : Prop :=
  match vs with
  | [.agg [.int .i64 a1, .int .u64 a2, .int .u64 a3]] => hart_of a1 a2 a3 (fun r1 r2 r3 r4 r5 h => κ (.agg [.int .i64 r1, .int .u64 r2, .int .u64 r3, .bool r4, .int .i64 r5]) h) h
  | _ => False

noncomputable def hart_of.calls : List (Nat × (List V → (V → Heap → Prop) → Heap → Prop)) := []

noncomputable def hart_of.E (Q : Int → Int → Int → Bool → Int → Heap → Prop) (cuts : List (Nat × (List Nat × (List V → Heap → Prop)))) : Env := { tis := tisT, fns := fnsT, tys := tysT, gls := [], rts := rtsT, unk := [], nxt := [], calls := hart_of.calls, ifc := noIfc, cuts := cuts, ret := hart_of.ret Q, rets := [.cell 2 78], n := 21 }

theorem hart_of.callsOK {W0 : World} : CallsOK sg W0 hart_of.calls := trivial

theorem hart_of.e : ∀ (a1 : Int) (a2 : Int) (a3 : Int) (Q : Int → Int → Int → Bool → Int → Heap → Prop) (h : Heap), hart_of a1 a2 a3 Q h = pts (hart_of.E Q []) 3000 true [.code hart_of.code] (frOf 0 [.agg [.int .i64 a1, .int .u64 a2, .int .u64 a3]]) h := by
  intros; kernel_rfl

theorem hart_of.S {W0 : World} : FnS sg W0 168 hart_of.C := by
  intro vs κ h wv hx w s
  unfold hart_of.C at hx
  split at hx
  · rename_i a1 a2 a3
    refine postImp (ret := hart_of.ret (fun r1 r2 r3 r4 r5 h => κ (.agg [.int .i64 r1, .int .u64 r2, .int .u64 r3, .bool r4, .int .i64 r5]) h)) (fun v h hr => by unfold hart_of.ret at hr; split at hr; exact hr; exact hr.elim) ?_
    exact calls_of_pts (E := hart_of.E (fun r1 r2 r3 r4 r5 h => κ (.agg [.int .i64 r1, .int .u64 r2, .int .u64 r3, .bool r4, .int .i64 r5]) h) []) (envOK seatOK hart_of.callsOK noIfc_ok) seatOK.mixed hart_of.fun (Nat.le_of_ble_eq_true rfl) wv (cutL_ok trivial) s (fuel := 3000) (by rw [← hart_of.e]; exact hx)
  · exact hx.elim

noncomputable def word_within_int.code : Code := Go.Proofs.Tryz.f84.body.getD .skip

theorem word_within_int.fun : Fun sg.P 84 15 [.tmp 6] word_within_int.code := mkFun Go.Proofs.Tryz.func84 (by kernel_rfl) (by kernel_rfl) (by kernel_rfl) (by kernel_rfl)

def word_within_int.ret (Q : Bool → Heap → Prop) (v : V) (h : Heap) : Prop :=
  match v with
  | .bool r1 => Q r1 h
  | _ => False

def word_within_int.C (vs : List V) (κ : V → Heap → Prop) (h : Heap) : Prop :=
  match vs with
  | [.int .i64 a1, .int .i64 a2, .int .i64 a3] => word_within_int a1 a2 a3 (fun r1 h => κ (.bool r1) h) h
  | _ => False

noncomputable def word_within_int.calls : List (Nat × (List V → (V → Heap → Prop) → Heap → Prop)) := []

noncomputable def word_within_int.E (Q : Bool → Heap → Prop) (cuts : List (Nat × (List Nat × (List V → Heap → Prop)))) : Env := { tis := tisT, fns := fnsT, tys := tysT, gls := [], rts := rtsT, unk := [], nxt := [], calls := word_within_int.calls, ifc := noIfc, cuts := cuts, ret := word_within_int.ret Q, rets := [.tmp 6], n := 15 }

theorem word_within_int.callsOK {W0 : World} : CallsOK sg W0 word_within_int.calls := trivial

theorem word_within_int.e : ∀ (a1 : Int) (a2 : Int) (a3 : Int) (Q : Bool → Heap → Prop) (h : Heap), word_within_int a1 a2 a3 Q h = pts (word_within_int.E Q []) 3000 true [.code word_within_int.code] (frOf 0 [.int .i64 a1, .int .i64 a2, .int .i64 a3]) h := by
  intros; kernel_rfl

theorem word_within_int.S {W0 : World} : FnS sg W0 169 word_within_int.C := by
  intro vs κ h wv hx w s
  unfold word_within_int.C at hx
  split at hx
  · rename_i a1 a2 a3
    refine postImp (ret := word_within_int.ret (fun r1 h => κ (.bool r1) h)) (fun v h hr => by unfold word_within_int.ret at hr; split at hr; exact hr; exact hr.elim) ?_
    exact calls_of_pts (E := word_within_int.E (fun r1 h => κ (.bool r1) h) []) (envOK seatOK word_within_int.callsOK noIfc_ok) seatOK.mixed word_within_int.fun (Nat.le_of_ble_eq_true rfl) wv (cutL_ok trivial) s (fuel := 3000) (by rw [← word_within_int.e]; exact hx)
  · exact hx.elim

noncomputable def word_lies.code : Code := Go.Proofs.Tryz.f81.body.getD .skip

theorem word_lies.fun : Fun sg.P 81 17 [.tmp 4] word_lies.code := mkFun Go.Proofs.Tryz.func81 (by kernel_rfl) (by kernel_rfl) (by kernel_rfl) (by kernel_rfl)

def word_lies.ret (Q : Bool → Heap → Prop) (v : V) (h : Heap) : Prop :=
  match v with
  | .bool r1 => Q r1 h
  | _ => False

def word_lies.C (vs : List V) (κ : V → Heap → Prop) (h : Heap) : Prop :=
  match vs with
  | [.int .i64 a1, .int .i64 a2] => word_lies a1 a2 (fun r1 h => κ (.bool r1) h) h
  | _ => False

noncomputable def word_lies.calls : List (Nat × (List V → (V → Heap → Prop) → Heap → Prop)) := [(169, word_within_int.C)]

noncomputable def word_lies.E (Q : Bool → Heap → Prop) (cuts : List (Nat × (List Nat × (List V → Heap → Prop)))) : Env := { tis := tisT, fns := fnsT, tys := tysT, gls := [], rts := rtsT, unk := [], nxt := [], calls := word_lies.calls, ifc := noIfc, cuts := cuts, ret := word_lies.ret Q, rets := [.tmp 4], n := 17 }

theorem word_lies.callsOK {W0 : World} : CallsOK sg W0 word_lies.calls := ⟨word_within_int.S, trivial⟩

theorem word_lies.e : ∀ (a1 : Int) (a2 : Int) (Q : Bool → Heap → Prop) (h : Heap), word_lies a1 a2 Q h = pts (word_lies.E Q []) 3000 true [.code word_lies.code] (frOf 0 [.int .i64 a1, .int .i64 a2]) h := by
  intros; kernel_rfl

theorem word_lies.S {W0 : World} : FnS sg W0 170 word_lies.C := by
  intro vs κ h wv hx w s
  unfold word_lies.C at hx
  split at hx
  · rename_i a1 a2
    refine postImp (ret := word_lies.ret (fun r1 h => κ (.bool r1) h)) (fun v h hr => by unfold word_lies.ret at hr; split at hr; exact hr; exact hr.elim) ?_
    exact calls_of_pts (E := word_lies.E (fun r1 h => κ (.bool r1) h) []) (envOK seatOK word_lies.callsOK noIfc_ok) seatOK.mixed word_lies.fun (Nat.le_of_ble_eq_true rfl) wv (cutL_ok trivial) s (fuel := 3000) (by rw [← word_lies.e]; exact hx)
  · exact hx.elim

noncomputable def word_mask.code : Code := Go.Proofs.Tryz.f82.body.getD .skip

theorem word_mask.fun : Fun sg.P 82 6 [.tmp 2] word_mask.code := mkFun Go.Proofs.Tryz.func82 (by kernel_rfl) (by kernel_rfl) (by kernel_rfl) (by kernel_rfl)

def word_mask.ret (Q : Int → Heap → Prop) (v : V) (h : Heap) : Prop :=
  match v with
  | .int .u64 r1 => Q r1 h
  | _ => False

def word_mask.C (vs : List V) (κ : V → Heap → Prop) (h : Heap) : Prop :=
  match vs with
  | [.int .i64 a1] => word_mask a1 (fun r1 h => κ (.int .u64 r1) h) h
  | _ => False

noncomputable def word_mask.calls : List (Nat × (List V → (V → Heap → Prop) → Heap → Prop)) := []

noncomputable def word_mask.E (Q : Int → Heap → Prop) (cuts : List (Nat × (List Nat × (List V → Heap → Prop)))) : Env := { tis := tisT, fns := fnsT, tys := tysT, gls := [], rts := rtsT, unk := [], nxt := [], calls := word_mask.calls, ifc := noIfc, cuts := cuts, ret := word_mask.ret Q, rets := [.tmp 2], n := 6 }

theorem word_mask.callsOK {W0 : World} : CallsOK sg W0 word_mask.calls := trivial

theorem word_mask.e : ∀ (a1 : Int) (Q : Int → Heap → Prop) (h : Heap), word_mask a1 Q h = pts (word_mask.E Q []) 3000 true [.code word_mask.code] (frOf 0 [.int .i64 a1]) h := by
  intros; kernel_rfl

theorem word_mask.S {W0 : World} : FnS sg W0 171 word_mask.C := by
  intro vs κ h wv hx w s
  unfold word_mask.C at hx
  split at hx
  · rename_i a1
    refine postImp (ret := word_mask.ret (fun r1 h => κ (.int .u64 r1) h)) (fun v h hr => by unfold word_mask.ret at hr; split at hr; exact hr; exact hr.elim) ?_
    exact calls_of_pts (E := word_mask.E (fun r1 h => κ (.int .u64 r1) h) []) (envOK seatOK word_mask.callsOK noIfc_ok) seatOK.mixed word_mask.fun (Nat.le_of_ble_eq_true rfl) wv (cutL_ok trivial) s (fuel := 3000) (by rw [← word_mask.e]; exact hx)
  · exact hx.elim

noncomputable def word_Field.code : Code := Go.Proofs.Tryz.f60.body.getD .skip

theorem word_Field.fun : Fun sg.P 60 19 [.tmp 6] word_Field.code := mkFun Go.Proofs.Tryz.func60 (by kernel_rfl) (by kernel_rfl) (by kernel_rfl) (by kernel_rfl)

def word_Field.ret (Q : Int → Heap → Prop) (v : V) (h : Heap) : Prop :=
  match v with
  | .int .i64 r1 => Q r1 h
  | _ => False

def word_Field.C (vs : List V) (κ : V → Heap → Prop) (h : Heap) : Prop :=
  match vs with
  | [.int .u32 a1, .int .i64 a2, .int .i64 a3] => word_Field a1 a2 a3 (fun r1 h => κ (.int .i64 r1) h) h
  | _ => False

noncomputable def word_Field.calls : List (Nat × (List V → (V → Heap → Prop) → Heap → Prop)) := [(170, word_lies.C), (171, word_mask.C)]

noncomputable def word_Field.E (Q : Int → Heap → Prop) (cuts : List (Nat × (List Nat × (List V → Heap → Prop)))) : Env := { tis := tisT, fns := fnsT, tys := tysT, gls := [], rts := rtsT, unk := [], nxt := [], calls := word_Field.calls, ifc := noIfc, cuts := cuts, ret := word_Field.ret Q, rets := [.tmp 6], n := 19 }

theorem word_Field.callsOK {W0 : World} : CallsOK sg W0 word_Field.calls := ⟨word_lies.S, word_mask.S, trivial⟩

theorem word_Field.e : ∀ (a1 : Int) (a2 : Int) (a3 : Int) (Q : Int → Heap → Prop) (h : Heap), word_Field a1 a2 a3 Q h = pts (word_Field.E Q []) 3000 true [.code word_Field.code] (frOf 0 [.int .u32 a1, .int .i64 a2, .int .i64 a3]) h := by
  intros; kernel_rfl

theorem word_Field.S {W0 : World} : FnS sg W0 172 word_Field.C := by
  intro vs κ h wv hx w s
  unfold word_Field.C at hx
  split at hx
  · rename_i a1 a2 a3
    refine postImp (ret := word_Field.ret (fun r1 h => κ (.int .i64 r1) h)) (fun v h hr => by unfold word_Field.ret at hr; split at hr; exact hr; exact hr.elim) ?_
    exact calls_of_pts (E := word_Field.E (fun r1 h => κ (.int .i64 r1) h) []) (envOK seatOK word_Field.callsOK noIfc_ok) seatOK.mixed word_Field.fun (Nat.le_of_ble_eq_true rfl) wv (cutL_ok trivial) s (fuel := 3000) (by rw [← word_Field.e]; exact hx)
  · exact hx.elim

noncomputable def insn_table_int_int_fill.code : Code := Go.Proofs.Tryz.f91.body.getD .skip

theorem insn_table_int_int_fill.fun : Fun sg.P 91 18 [] insn_table_int_int_fill.code := mkFun Go.Proofs.Tryz.func91 (by kernel_rfl) (by kernel_rfl) (by kernel_rfl) (by kernel_rfl)

def insn_table_int_int_fill.ret (Q : Heap → Prop) (v : V) (h : Heap) : Prop :=
  match v with
  | .tup [] => Q  h
  | _ => False

def insn_table_int_int_fill.C (vs : List V) (κ : V → Heap → Prop) (h : Heap) : Prop :=
  match vs with
  | [.map a1, .int .i64 a2, .sl a3] => insn_table_int_int_fill a1 a2 a3 (fun  h => κ (.tup []) h) h
  | _ => False

noncomputable def insn_table_int_int_fill.calls : List (Nat × (List V → (V → Heap → Prop) → Heap → Prop)) := []

noncomputable def insn_table_int_int_fill.E (Q : Heap → Prop) (cuts : List (Nat × (List Nat × (List V → Heap → Prop)))) : Env := { tis := tisT, fns := fnsT, tys := tysT, gls := [], rts := rtsT, unk := [], nxt := [], calls := insn_table_int_int_fill.calls, ifc := noIfc, cuts := cuts, ret := insn_table_int_int_fill.ret Q, rets := [], n := 18 }

theorem insn_table_int_int_fill.callsOK {W0 : World} : CallsOK sg W0 insn_table_int_int_fill.calls := trivial

def insn_table_int_int_fill.k1 (I : (Option Nat) → Int → Sl → Int → Int → Heap → Prop) (vs : List V) (h : Heap) : Prop :=
  match vs with
  | [.map a1, .int .i64 a2, .sl a3, .int .i64 a4, .int .i64 a5] => I a1 a2 a3 a4 a5 h
  | _ => False

theorem insn_table_int_int_fill.p1 : (posC insn_table_int_int_fill.code []).filter (fun p => Nat.beq p.1 1) = [(1, atPos (posC insn_table_int_int_fill.code []) 1)] := by kernel_rfl

theorem insn_table_int_int_fill.e1 : ∀  (I1 : (Option Nat) → Int → Sl → Int → Int → Heap → Prop) (a1 : Option Nat) (a2 : Int) (a3 : Sl) (a4 : Int) (a5 : Int) (Q : Heap → Prop) (h : Heap), insn_table_int_int_fill.b1  I1 a1 a2 a3 a4 a5 Q h = pts (insn_table_int_int_fill.E Q [(1, ([0, 1, 8, 9, 10], insn_table_int_int_fill.k1 I1))]) 3000 true (atPos (posC insn_table_int_int_fill.code []) 1) (frAt [0, 1, 8, 9, 10] [.map a1, .int .i64 a2, .sl a3, .int .i64 a4, .int .i64 a5]) h := by
  intros; kernel_rfl

theorem insn_table_int_int_fill.s1 {W0 : World} (Q : Heap → Prop)   : CutOK sg W0 18 (entered 91) (Post sg W0 (insn_table_int_int_fill.ret Q)) (posC insn_table_int_int_fill.code []) 1 [0, 1, 8, 9, 10] (insn_table_int_int_fill.k1 (fun a1 a2 a3 a4 a5 h => insn_table_int_int_fill.j1  a1 a2 a3 a4 a5 Q h)) := by
  refine cutOK_head (fun vs h hk => ?_)
  unfold insn_table_int_int_fill.k1 at hk
  split at hk
  · rename_i a1 a2 a3 a4 a5
    refine hk (fun a1 a2 a3 a4 a5 h => Head sg W0 18 (entered 91) (Post sg W0 (insn_table_int_int_fill.ret Q)) (posC insn_table_int_int_fill.code []) 1 [0, 1, 8, 9, 10] [.map a1, .int .i64 a2, .sl a3, .int .i64 a4, .int .i64 a5] h) ?_
    intro a1 a2 a3 a4 a5 h hb todo hm ρ a w s f hp
    have hself : CutOK sg W0 18 (entered 91) (Post sg W0 (insn_table_int_int_fill.ret Q)) (posC insn_table_int_int_fill.code []) 1 [0, 1, 8, 9, 10] (insn_table_int_int_fill.k1 (fun a1 a2 a3 a4 a5 h => Head sg W0 18 (entered 91) (Post sg W0 (insn_table_int_int_fill.ret Q)) (posC insn_table_int_int_fill.code []) 1 [0, 1, 8, 9, 10] [.map a1, .int .i64 a2, .sl a3, .int .i64 a4, .int .i64 a5] h)) := cutOK_head (fun vs h hk => by unfold insn_table_int_int_fill.k1 at hk; split at hk; exact hk; exact hk.elim)
    exact piece (E := insn_table_int_int_fill.E Q [(1, ([0, 1, 8, 9, 10], insn_table_int_int_fill.k1 (fun a1 a2 a3 a4 a5 h => Head sg W0 18 (entered 91) (Post sg W0 (insn_table_int_int_fill.ret Q)) (posC insn_table_int_int_fill.code []) 1 [0, 1, 8, 9, 10] [.map a1, .int .i64 a2, .sl a3, .int .i64 a4, .int .i64 a5] h)))]) (vs := [.map a1, .int .i64 a2, .sl a3, .int .i64 a4, .int .i64 a5]) (envOK seatOK insn_table_int_int_fill.callsOK noIfc_ok) (fnOK seatOK insn_table_int_int_fill.fun) ⟨hself, trivial⟩ insn_table_int_int_fill.p1 (fuel := 3000) (by rw [← insn_table_int_int_fill.e1]; exact hb) hm s f hp
  · exact hk.elim

theorem insn_table_int_int_fill.e : ∀ (a1 : Option Nat) (a2 : Int) (a3 : Sl) (Q : Heap → Prop) (h : Heap), insn_table_int_int_fill a1 a2 a3 Q h = pts (insn_table_int_int_fill.E Q [(1, ([0, 1, 8, 9, 10], insn_table_int_int_fill.k1 (fun a1 a2 a3 a4 a5 h => insn_table_int_int_fill.j1  a1 a2 a3 a4 a5 Q h)))]) 3000 true [.code insn_table_int_int_fill.code] (frOf 0 [.map a1, .int .i64 a2, .sl a3]) h := by
  intros; kernel_rfl

theorem insn_table_int_int_fill.S {W0 : World} : FnS sg W0 173 insn_table_int_int_fill.C := by
  intro vs κ h wv hx w s
  unfold insn_table_int_int_fill.C at hx
  split at hx
  · rename_i a1 a2 a3
    refine postImp (ret := insn_table_int_int_fill.ret (fun  h => κ (.tup []) h)) (fun v h hr => by unfold insn_table_int_int_fill.ret at hr; split at hr; exact hr; exact hr.elim) ?_
    exact calls_of_pts (E := insn_table_int_int_fill.E (fun  h => κ (.tup []) h) [(1, ([0, 1, 8, 9, 10], insn_table_int_int_fill.k1 (fun a1 a2 a3 a4 a5 h => insn_table_int_int_fill.j1  a1 a2 a3 a4 a5 (fun  h => κ (.tup []) h) h)))]) (envOK seatOK insn_table_int_int_fill.callsOK noIfc_ok) seatOK.mixed insn_table_int_int_fill.fun (Nat.le_of_ble_eq_true rfl) wv (cutL_ok ⟨(insn_table_int_int_fill.s1 (fun  h => κ (.tup []) h)), trivial⟩) s (fuel := 3000) (by rw [← insn_table_int_int_fill.e]; exact hx)
  · exact hx.elim

noncomputable def insn_shapes.code : Code := Go.Proofs.Tryz.f83.body.getD .skip

theorem insn_shapes.fun : Fun sg.P 83 23 [.tmp 0] insn_shapes.code := mkFun Go.Proofs.Tryz.func83 (by kernel_rfl) (by kernel_rfl) (by kernel_rfl) (by kernel_rfl)

def insn_shapes.ret (Q : (Option Nat) → Heap → Prop) (v : V) (h : Heap) : Prop :=
  match v with
  | .map r1 => Q r1 h
  | _ => False

def insn_shapes.C (vs : List V) (κ : V → Heap → Prop) (h : Heap) : Prop :=
  match vs with
  | [] => insn_shapes  (fun r1 h => κ (.map r1) h) h
  | _ => False

noncomputable def insn_shapes.calls : List (Nat × (List V → (V → Heap → Prop) → Heap → Prop)) := [(173, insn_table_int_int_fill.C)]

noncomputable def insn_shapes.E (Q : (Option Nat) → Heap → Prop) (cuts : List (Nat × (List Nat × (List V → Heap → Prop)))) : Env := { tis := tisT, fns := fnsT, tys := tysT, gls := [], rts := rtsT, unk := [], nxt := [], calls := insn_shapes.calls, ifc := noIfc, cuts := cuts, ret := insn_shapes.ret Q, rets := [.tmp 0], n := 23 }

theorem insn_shapes.callsOK {W0 : World} : CallsOK sg W0 insn_shapes.calls := ⟨insn_table_int_int_fill.S, trivial⟩

theorem insn_shapes.e : ∀  (Q : (Option Nat) → Heap → Prop) (h : Heap), insn_shapes  Q h = pts (insn_shapes.E Q []) 3000 true [.code insn_shapes.code] (frOf 0 []) h := by
  intros; kernel_rfl

theorem insn_shapes.S {W0 : World} : FnS sg W0 174 insn_shapes.C := by
  intro vs κ h wv hx w s
  unfold insn_shapes.C at hx
  split at hx
  · skip
    refine postImp (ret := insn_shapes.ret (fun r1 h => κ (.map r1) h)) (fun v h hr => by unfold insn_shapes.ret at hr; split at hr; exact hr; exact hr.elim) ?_
    exact calls_of_pts (E := insn_shapes.E (fun r1 h => κ (.map r1) h) []) (envOK seatOK insn_shapes.callsOK noIfc_ok) seatOK.mixed insn_shapes.fun (Nat.le_of_ble_eq_true rfl) wv (cutL_ok trivial) s (fuel := 3000) (by rw [← insn_shapes.e]; exact hx)
  · exact hx.elim

end Go.Fn
