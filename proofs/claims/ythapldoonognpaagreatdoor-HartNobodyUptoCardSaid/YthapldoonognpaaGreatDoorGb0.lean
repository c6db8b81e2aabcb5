/- The links of the shallow functions to the machine. PRINTED by lift.py. -/
import Derived.Test.YthapldoonognpaaGreatDoorGa
set_option linter.unusedVariables false
set_option maxRecDepth 100000
namespace Go.Fn
open Go.Lift

noncomputable def mem_New.code : Code := Go.Proofs.Tryz.f6.body.getD .skip

theorem mem_New.fun : Fun sg.P 6 15 [.tmp 2, .tmp 3] mem_New.code := mkFun Go.Proofs.Tryz.func6 (by kernel_rfl) (by kernel_rfl) (by kernel_rfl) (by kernel_rfl)

def mem_New.ret (Q : (Option Ptr) → Int → Heap → Prop) (v : V) (h : Heap) : Prop :=
  match v with
  | .tup [.ptr r1, .int .i64 r2] => Q r1 r2 h
  | _ => False

def mem_New.C (vs : List V) (κ : V → Heap → Prop) (h : Heap) : Prop :=
  match vs with
  | [.int .i64 a1] => mem_New a1 (fun r1 r2 h => κ (.tup [.ptr r1, .int .i64 r2]) h) h
  | _ => False

noncomputable def mem_New.calls : List (Nat × (List V → (V → Heap → Prop) → Heap → Prop)) := []

noncomputable def mem_New.E (Q : (Option Ptr) → Int → Heap → Prop) (cuts : List (Nat × (List Nat × (List V → Heap → Prop)))) : Env := { tis := tisT, fns := fnsT, tys := tysT, gls := [], rts := rtsT, unk := [], nxt := [], calls := mem_New.calls, ifc := noIfc, cuts := cuts, ret := mem_New.ret Q, rets := [.tmp 2, .tmp 3], n := 15 }

theorem mem_New.callsOK {W0 : World} : CallsOK sg W0 mem_New.calls := trivial

theorem mem_New.e : ∀ (a1 : Int) (Q : (Option Ptr) → Int → Heap → Prop) (h : Heap), mem_New a1 Q h = pts (mem_New.E Q []) 3000 true [.code mem_New.code] (frOf 0 [.int .i64 a1]) h := by
  intros; kernel_rfl

theorem mem_New.S {W0 : World} : FnS sg W0 28 mem_New.C := by
  intro vs κ h wv hx w s
  unfold mem_New.C at hx
  split at hx
  · rename_i a1
    refine postImp (ret := mem_New.ret (fun r1 r2 h => κ (.tup [.ptr r1, .int .i64 r2]) h)) (fun v h hr => by unfold mem_New.ret at hr; split at hr; exact hr; exact hr.elim) ?_
    exact calls_of_pts (E := mem_New.E (fun r1 r2 h => κ (.tup [.ptr r1, .int .i64 r2]) h) []) (envOK seatOK mem_New.callsOK noIfc_ok) seatOK.mixed mem_New.fun (Nat.le_of_ble_eq_true rfl) wv (cutL_ok trivial) s (fuel := 3000) (by rw [← mem_New.e]; exact hx)
  · exact hx.elim

noncomputable def palisaderef04_New.code : Code := Go.Proofs.Tryz.f7.body.getD .skip

theorem palisaderef04_New.fun : Fun sg.P 7 15 [.tmp 2, .tmp 3] palisaderef04_New.code := mkFun Go.Proofs.Tryz.func7 (by kernel_rfl) (by kernel_rfl) (by kernel_rfl) (by kernel_rfl)

def palisaderef04_New.ret (Q : (Option Ptr) → Int → Heap → Prop) (v : V) (h : Heap) : Prop :=
  match v with
  | .tup [.ptr r1, .int .i64 r2] => Q r1 r2 h
  | _ => False

def palisaderef04_New.C (vs : List V) (κ : V → Heap → Prop) (h : Heap) : Prop :=
  match vs with
  | [.int .i64 a1] => palisaderef04_New a1 (fun r1 r2 h => κ (.tup [.ptr r1, .int .i64 r2]) h) h
  | _ => False

noncomputable def palisaderef04_New.calls : List (Nat × (List V → (V → Heap → Prop) → Heap → Prop)) := []

noncomputable def palisaderef04_New.E (Q : (Option Ptr) → Int → Heap → Prop) (cuts : List (Nat × (List Nat × (List V → Heap → Prop)))) : Env := { tis := tisT, fns := fnsT, tys := tysT, gls := [], rts := rtsT, unk := [], nxt := [], calls := palisaderef04_New.calls, ifc := noIfc, cuts := cuts, ret := palisaderef04_New.ret Q, rets := [.tmp 2, .tmp 3], n := 15 }

theorem palisaderef04_New.callsOK {W0 : World} : CallsOK sg W0 palisaderef04_New.calls := trivial

theorem palisaderef04_New.e : ∀ (a1 : Int) (Q : (Option Ptr) → Int → Heap → Prop) (h : Heap), palisaderef04_New a1 Q h = pts (palisaderef04_New.E Q []) 3000 true [.code palisaderef04_New.code] (frOf 0 [.int .i64 a1]) h := by
  intros; kernel_rfl

theorem palisaderef04_New.S {W0 : World} : FnS sg W0 42 palisaderef04_New.C := by
  intro vs κ h wv hx w s
  unfold palisaderef04_New.C at hx
  split at hx
  · rename_i a1
    refine postImp (ret := palisaderef04_New.ret (fun r1 r2 h => κ (.tup [.ptr r1, .int .i64 r2]) h)) (fun v h hr => by unfold palisaderef04_New.ret at hr; split at hr; exact hr; exact hr.elim) ?_
    exact calls_of_pts (E := palisaderef04_New.E (fun r1 r2 h => κ (.tup [.ptr r1, .int .i64 r2]) h) []) (envOK seatOK palisaderef04_New.callsOK noIfc_ok) seatOK.mixed palisaderef04_New.fun (Nat.le_of_ble_eq_true rfl) wv (cutL_ok trivial) s (fuel := 3000) (by rw [← palisaderef04_New.e]; exact hx)
  · exact hx.elim

noncomputable def csr_New.code : Code := Go.Proofs.Tryz.f8.body.getD .skip

theorem csr_New.fun : Fun sg.P 8 13 [.tmp 2] csr_New.code := mkFun Go.Proofs.Tryz.func8 (by kernel_rfl) (by kernel_rfl) (by kernel_rfl) (by kernel_rfl)

def csr_New.ret (Q : (Option Ptr) → Heap → Prop) (v : V) (h : Heap) : Prop :=
  match v with
  | .ptr r1 => Q r1 h
  | _ => False

def csr_New.C (vs : List V) (κ : V → Heap → Prop) (h : Heap) : Prop :=
  match vs with
  | [.int .i64 a1] => csr_New a1 (fun r1 h => κ (.ptr r1) h) h
  | _ => False

noncomputable def csr_New.calls : List (Nat × (List V → (V → Heap → Prop) → Heap → Prop)) := []

noncomputable def csr_New.E (Q : (Option Ptr) → Heap → Prop) (cuts : List (Nat × (List Nat × (List V → Heap → Prop)))) : Env := { tis := tisT, fns := fnsT, tys := tysT, gls := [], rts := rtsT, unk := [], nxt := [], calls := csr_New.calls, ifc := noIfc, cuts := cuts, ret := csr_New.ret Q, rets := [.tmp 2], n := 13 }

theorem csr_New.callsOK {W0 : World} : CallsOK sg W0 csr_New.calls := trivial

theorem csr_New.e : ∀ (a1 : Int) (Q : (Option Ptr) → Heap → Prop) (h : Heap), csr_New a1 Q h = pts (csr_New.E Q []) 3000 true [.code csr_New.code] (frOf 0 [.int .i64 a1]) h := by
  intros; kernel_rfl

theorem csr_New.S {W0 : World} : FnS sg W0 141 csr_New.C := by
  intro vs κ h wv hx w s
  unfold csr_New.C at hx
  split at hx
  · rename_i a1
    refine postImp (ret := csr_New.ret (fun r1 h => κ (.ptr r1) h)) (fun v h hr => by unfold csr_New.ret at hr; split at hr; exact hr; exact hr.elim) ?_
    exact calls_of_pts (E := csr_New.E (fun r1 h => κ (.ptr r1) h) []) (envOK seatOK csr_New.callsOK noIfc_ok) seatOK.mixed csr_New.fun (Nat.le_of_ble_eq_true rfl) wv (cutL_ok trivial) s (fuel := 3000) (by rw [← csr_New.e]; exact hx)
  · exact hx.elim

noncomputable def palisaderef08_New.code : Code := Go.Proofs.Tryz.f9.body.getD .skip

theorem palisaderef08_New.fun : Fun sg.P 9 13 [.tmp 2] palisaderef08_New.code := mkFun Go.Proofs.Tryz.func9 (by kernel_rfl) (by kernel_rfl) (by kernel_rfl) (by kernel_rfl)

def palisaderef08_New.ret (Q : (Option Ptr) → Heap → Prop) (v : V) (h : Heap) : Prop :=
  match v with
  | .ptr r1 => Q r1 h
  | _ => False

def palisaderef08_New.C (vs : List V) (κ : V → Heap → Prop) (h : Heap) : Prop :=
  match vs with
  | [.int .i64 a1] => palisaderef08_New a1 (fun r1 h => κ (.ptr r1) h) h
  | _ => False

noncomputable def palisaderef08_New.calls : List (Nat × (List V → (V → Heap → Prop) → Heap → Prop)) := []

noncomputable def palisaderef08_New.E (Q : (Option Ptr) → Heap → Prop) (cuts : List (Nat × (List Nat × (List V → Heap → Prop)))) : Env := { tis := tisT, fns := fnsT, tys := tysT, gls := [], rts := rtsT, unk := [], nxt := [], calls := palisaderef08_New.calls, ifc := noIfc, cuts := cuts, ret := palisaderef08_New.ret Q, rets := [.tmp 2], n := 13 }

theorem palisaderef08_New.callsOK {W0 : World} : CallsOK sg W0 palisaderef08_New.calls := trivial

theorem palisaderef08_New.e : ∀ (a1 : Int) (Q : (Option Ptr) → Heap → Prop) (h : Heap), palisaderef08_New a1 Q h = pts (palisaderef08_New.E Q []) 3000 true [.code palisaderef08_New.code] (frOf 0 [.int .i64 a1]) h := by
  intros; kernel_rfl

theorem palisaderef08_New.S {W0 : World} : FnS sg W0 221 palisaderef08_New.C := by
  intro vs κ h wv hx w s
  unfold palisaderef08_New.C at hx
  split at hx
  · rename_i a1
    refine postImp (ret := palisaderef08_New.ret (fun r1 h => κ (.ptr r1) h)) (fun v h hr => by unfold palisaderef08_New.ret at hr; split at hr; exact hr; exact hr.elim) ?_
    exact calls_of_pts (E := palisaderef08_New.E (fun r1 h => κ (.ptr r1) h) []) (envOK seatOK palisaderef08_New.callsOK noIfc_ok) seatOK.mixed palisaderef08_New.fun (Nat.le_of_ble_eq_true rfl) wv (cutL_ok trivial) s (fuel := 3000) (by rw [← palisaderef08_New.e]; exact hx)
  · exact hx.elim

noncomputable def mem_Memory_none.code : Code := Go.Proofs.Tryz.f53.body.getD .skip

theorem mem_Memory_none.fun : Fun sg.P 53 12 [.tmp 2] mem_Memory_none.code := mkFun Go.Proofs.Tryz.func53 (by kernel_rfl) (by kernel_rfl) (by kernel_rfl) (by kernel_rfl)

def mem_Memory_none.ret (Q : Bool → Heap → Prop) (v : V) (h : Heap) : Prop :=
  match v with
  | .bool r1 => Q r1 h
  | _ => False

def mem_Memory_none.C (vs : List V) (κ : V → Heap → Prop) (h : Heap) : Prop :=
  match vs with
  | [.ptr a1] => mem_Memory_none a1 (fun r1 h => κ (.bool r1) h) h
  | _ => False

noncomputable def mem_Memory_none.calls : List (Nat × (List V → (V → Heap → Prop) → Heap → Prop)) := []

noncomputable def mem_Memory_none.E (Q : Bool → Heap → Prop) (cuts : List (Nat × (List Nat × (List V → Heap → Prop)))) : Env := { tis := tisT, fns := fnsT, tys := tysT, gls := [], rts := rtsT, unk := [], nxt := [], calls := mem_Memory_none.calls, ifc := noIfc, cuts := cuts, ret := mem_Memory_none.ret Q, rets := [.tmp 2], n := 12 }

theorem mem_Memory_none.callsOK {W0 : World} : CallsOK sg W0 mem_Memory_none.calls := trivial

theorem mem_Memory_none.e : ∀ (a1 : Option Ptr) (Q : Bool → Heap → Prop) (h : Heap), mem_Memory_none a1 Q h = pts (mem_Memory_none.E Q []) 3000 true [.code mem_Memory_none.code] (frOf 0 [.ptr a1]) h := by
  intros; kernel_rfl

theorem mem_Memory_none.S {W0 : World} : FnS sg W0 31 mem_Memory_none.C := by
  intro vs κ h wv hx w s
  unfold mem_Memory_none.C at hx
  split at hx
  · rename_i a1
    refine postImp (ret := mem_Memory_none.ret (fun r1 h => κ (.bool r1) h)) (fun v h hr => by unfold mem_Memory_none.ret at hr; split at hr; exact hr; exact hr.elim) ?_
    exact calls_of_pts (E := mem_Memory_none.E (fun r1 h => κ (.bool r1) h) []) (envOK seatOK mem_Memory_none.callsOK noIfc_ok) seatOK.mixed mem_Memory_none.fun (Nat.le_of_ble_eq_true rfl) wv (cutL_ok trivial) s (fuel := 3000) (by rw [← mem_Memory_none.e]; exact hx)
  · exact hx.elim

noncomputable def mem_Memory_part_c1.code : Code := Go.Proofs.Tryz.f79.body.getD .skip

theorem mem_Memory_part_c1.fun : Fun sg.P 79 23 [.tmp 3] mem_Memory_part_c1.code := mkFun Go.Proofs.Tryz.func79 (by kernel_rfl) (by kernel_rfl) (by kernel_rfl) (by kernel_rfl)

def mem_Memory_part_c1.ret (Q : Bool → Heap → Prop) (v : V) (h : Heap) : Prop :=
  match v with
  | .bool r1 => Q r1 h
  | _ => False

def mem_Memory_part_c1.C (vs : List V) (κ : V → Heap → Prop) (h : Heap) : Prop :=
  match vs with
  | [.ptr (some a1), .ptr (some a2), .ptr (some a3)] => mem_Memory_part_c1 a1 a2 a3 (fun r1 h => κ (.bool r1) h) h
  | _ => False

noncomputable def mem_Memory_part_c1.calls : List (Nat × (List V → (V → Heap → Prop) → Heap → Prop)) := []

noncomputable def mem_Memory_part_c1.E (Q : Bool → Heap → Prop) (cuts : List (Nat × (List Nat × (List V → Heap → Prop)))) : Env := { tis := tisT, fns := fnsT, tys := tysT, gls := [], rts := rtsT, unk := [], nxt := [], calls := mem_Memory_part_c1.calls, ifc := noIfc, cuts := cuts, ret := mem_Memory_part_c1.ret Q, rets := [.tmp 3], n := 23 }

theorem mem_Memory_part_c1.callsOK {W0 : World} : CallsOK sg W0 mem_Memory_part_c1.calls := trivial

theorem mem_Memory_part_c1.e : ∀ (a1 : Ptr) (a2 : Ptr) (a3 : Ptr) (Q : Bool → Heap → Prop) (h : Heap), mem_Memory_part_c1 a1 a2 a3 Q h = pts (mem_Memory_part_c1.E Q []) 3000 true [.code mem_Memory_part_c1.code] (frOf 0 [.ptr (some a1), .ptr (some a2), .ptr (some a3)]) h := by
  intros; kernel_rfl

theorem mem_Memory_part_c1.S {W0 : World} : FnS sg W0 2 mem_Memory_part_c1.C := by
  intro vs κ h wv hx w s
  unfold mem_Memory_part_c1.C at hx
  split at hx
  · rename_i a1 a2 a3
    refine postImp (ret := mem_Memory_part_c1.ret (fun r1 h => κ (.bool r1) h)) (fun v h hr => by unfold mem_Memory_part_c1.ret at hr; split at hr; exact hr; exact hr.elim) ?_
    exact calls_of_pts (E := mem_Memory_part_c1.E (fun r1 h => κ (.bool r1) h) []) (envOK seatOK mem_Memory_part_c1.callsOK noIfc_ok) seatOK.mixed mem_Memory_part_c1.fun (Nat.le_of_ble_eq_true rfl) wv (cutL_ok trivial) s (fuel := 3000) (by rw [← mem_Memory_part_c1.e]; exact hx)
  · exact hx.elim

noncomputable def mem_Memory_part.code : Code := Go.Proofs.Tryz.f54.body.getD .skip

theorem mem_Memory_part.fun : Fun sg.P 54 33 [.tmp 6, .tmp 7] mem_Memory_part.code := mkFun Go.Proofs.Tryz.func54 (by kernel_rfl) (by kernel_rfl) (by kernel_rfl) (by kernel_rfl)

def mem_Memory_part.ret (Q : Sl → Int → Heap → Prop) (v : V) (h : Heap) : Prop :=
  match v with
  | .tup [.sl r1, .int .i64 r2] => Q r1 r2 h
  | _ => False

def mem_Memory_part.C (vs : List V) (κ : V → Heap → Prop) (h : Heap) : Prop :=
  match vs with
  | [.ptr a1, .int .u64 a2, .int .i64 a3] => mem_Memory_part a1 a2 a3 (fun r1 r2 h => κ (.tup [.sl r1, .int .i64 r2]) h) h
  | _ => False

noncomputable def mem_Memory_part.calls : List (Nat × (List V → (V → Heap → Prop) → Heap → Prop)) := [(31, mem_Memory_none.C), (2, mem_Memory_part_c1.C)]

noncomputable def mem_Memory_part.E (Q : Sl → Int → Heap → Prop) (cuts : List (Nat × (List Nat × (List V → Heap → Prop)))) : Env := { tis := tisT, fns := fnsT, tys := tysT, gls := [], rts := rtsT, unk := [], nxt := [], calls := mem_Memory_part.calls, ifc := noIfc, cuts := cuts, ret := mem_Memory_part.ret Q, rets := [.tmp 6, .tmp 7], n := 33 }

theorem mem_Memory_part.callsOK {W0 : World} : CallsOK sg W0 mem_Memory_part.calls := ⟨mem_Memory_none.S, mem_Memory_part_c1.S, trivial⟩

theorem mem_Memory_part.e : ∀ (a1 : Option Ptr) (a2 : Int) (a3 : Int) (Q : Sl → Int → Heap → Prop) (h : Heap), mem_Memory_part a1 a2 a3 Q h = pts (mem_Memory_part.E Q []) 3000 true [.code mem_Memory_part.code] (frOf 0 [.ptr a1, .int .u64 a2, .int .i64 a3]) h := by
  intros; kernel_rfl

theorem mem_Memory_part.S {W0 : World} : FnS sg W0 32 mem_Memory_part.C := by
  intro vs κ h wv hx w s
  unfold mem_Memory_part.C at hx
  split at hx
  · rename_i a1 a2 a3
    refine postImp (ret := mem_Memory_part.ret (fun r1 r2 h => κ (.tup [.sl r1, .int .i64 r2]) h)) (fun v h hr => by unfold mem_Memory_part.ret at hr; split at hr; exact hr; exact hr.elim) ?_
    exact calls_of_pts (E := mem_Memory_part.E (fun r1 r2 h => κ (.tup [.sl r1, .int .i64 r2]) h) []) (envOK seatOK mem_Memory_part.callsOK noIfc_ok) seatOK.mixed mem_Memory_part.fun (Nat.le_of_ble_eq_true rfl) wv (cutL_ok trivial) s (fuel := 3000) (by rw [← mem_Memory_part.e]; exact hx)
  · exact hx.elim

noncomputable def mem_Memory_number.code : Code := Go.Proofs.Tryz.f20.body.getD .skip

theorem mem_Memory_number.fun : Fun sg.P 20 34 [.tmp 6, .tmp 7] mem_Memory_number.code := mkFun Go.Proofs.Tryz.func20 (by kernel_rfl) (by kernel_rfl) (by kernel_rfl) (by kernel_rfl)

def mem_Memory_number.ret (Q : Sl → Int → Heap → Prop) (v : V) (h : Heap) : Prop :=
  match v with
  | .tup [.sl r1, .int .i64 r2] => Q r1 r2 h
  | _ => False

def mem_Memory_number.C (vs : List V) (κ : V → Heap → Prop) (h : Heap) : Prop :=
  match vs with
  | [.ptr a1, .int .u64 a2, .int .i64 a3] => mem_Memory_number a1 a2 a3 (fun r1 r2 h => κ (.tup [.sl r1, .int .i64 r2]) h) h
  | _ => False

noncomputable def mem_Memory_number.calls : List (Nat × (List V → (V → Heap → Prop) → Heap → Prop)) := [(31, mem_Memory_none.C), (32, mem_Memory_part.C)]

noncomputable def mem_Memory_number.E (Q : Sl → Int → Heap → Prop) (cuts : List (Nat × (List Nat × (List V → Heap → Prop)))) : Env := { tis := tisT, fns := fnsT, tys := tysT, gls := [], rts := rtsT, unk := [], nxt := [], calls := mem_Memory_number.calls, ifc := noIfc, cuts := cuts, ret := mem_Memory_number.ret Q, rets := [.tmp 6, .tmp 7], n := 34 }

theorem mem_Memory_number.callsOK {W0 : World} : CallsOK sg W0 mem_Memory_number.calls := ⟨mem_Memory_none.S, mem_Memory_part.S, trivial⟩

def mem_Memory_number.k5 (I : (Option Ptr) → Int → Int → Heap → Prop) (vs : List V) (h : Heap) : Prop :=
  match vs with
  | [.ptr a1, .int .u64 a2, .int .i64 a3] => I a1 a2 a3 h
  | _ => False

theorem mem_Memory_number.p5 : (posC mem_Memory_number.code []).filter (fun p => Nat.beq p.1 5) = [(5, atPos (posC mem_Memory_number.code []) 5)] := by kernel_rfl

theorem mem_Memory_number.e5 : ∀  (a1 : Option Ptr) (a2 : Int) (a3 : Int) (Q : Sl → Int → Heap → Prop) (h : Heap), mem_Memory_number.j5  a1 a2 a3 Q h = pts (mem_Memory_number.E Q []) 3000 true (atPos (posC mem_Memory_number.code []) 5) (frAt [0, 1, 2] [.ptr a1, .int .u64 a2, .int .i64 a3]) h := by
  intros; kernel_rfl

theorem mem_Memory_number.s5 {W0 : World} (Q : Sl → Int → Heap → Prop)   : CutOK sg W0 34 (entered 20) (Post sg W0 (mem_Memory_number.ret Q)) (posC mem_Memory_number.code []) 5 [0, 1, 2] (mem_Memory_number.k5 (fun a1 a2 a3 h => mem_Memory_number.j5  a1 a2 a3 Q h)) := by
  refine cutOK_head (fun vs h hk => ?_)
  unfold mem_Memory_number.k5 at hk
  split at hk
  · rename_i a1 a2 a3
    intro todo hm ρ a w s f hp
    exact piece (E := mem_Memory_number.E Q []) (vs := [.ptr a1, .int .u64 a2, .int .i64 a3]) (envOK seatOK mem_Memory_number.callsOK noIfc_ok) (fnOK seatOK mem_Memory_number.fun) trivial mem_Memory_number.p5 (fuel := 3000) (by rw [← mem_Memory_number.e5]; exact hk) hm s f hp
  · exact hk.elim

theorem mem_Memory_number.e : ∀ (a1 : Option Ptr) (a2 : Int) (a3 : Int) (Q : Sl → Int → Heap → Prop) (h : Heap), mem_Memory_number a1 a2 a3 Q h = pts (mem_Memory_number.E Q [(5, ([0, 1, 2], mem_Memory_number.k5 (fun a1 a2 a3 h => mem_Memory_number.j5  a1 a2 a3 Q h)))]) 3000 true [.code mem_Memory_number.code] (frOf 0 [.ptr a1, .int .u64 a2, .int .i64 a3]) h := by
  intros; kernel_rfl

theorem mem_Memory_number.S {W0 : World} : FnS sg W0 59 mem_Memory_number.C := by
  intro vs κ h wv hx w s
  unfold mem_Memory_number.C at hx
  split at hx
  · rename_i a1 a2 a3
    refine postImp (ret := mem_Memory_number.ret (fun r1 r2 h => κ (.tup [.sl r1, .int .i64 r2]) h)) (fun v h hr => by unfold mem_Memory_number.ret at hr; split at hr; exact hr; exact hr.elim) ?_
    exact calls_of_pts (E := mem_Memory_number.E (fun r1 r2 h => κ (.tup [.sl r1, .int .i64 r2]) h) [(5, ([0, 1, 2], mem_Memory_number.k5 (fun a1 a2 a3 h => mem_Memory_number.j5  a1 a2 a3 (fun r1 r2 h => κ (.tup [.sl r1, .int .i64 r2]) h) h)))]) (envOK seatOK mem_Memory_number.callsOK noIfc_ok) seatOK.mixed mem_Memory_number.fun (Nat.le_of_ble_eq_true rfl) wv (cutL_ok ⟨(mem_Memory_number.s5 (fun r1 r2 h => κ (.tup [.sl r1, .int .i64 r2]) h)), trivial⟩) s (fuel := 3000) (by rw [← mem_Memory_number.e]; exact hx)
  · exact hx.elim

noncomputable def word_known.code : Code := Go.Proofs.Tryz.f55.body.getD .skip

theorem word_known.fun : Fun sg.P 55 17 [.tmp 2] word_known.code := mkFun Go.Proofs.Tryz.func55 (by kernel_rfl) (by kernel_rfl) (by kernel_rfl) (by kernel_rfl)

def word_known.ret (Q : Bool → Heap → Prop) (v : V) (h : Heap) : Prop :=
  match v with
  | .bool r1 => Q r1 h
  | _ => False

def word_known.C (U : Ifc) (vs : List V) (κ : V → Heap → Prop) (h : Heap) : Prop :=
  match vs with
  | [.int .i64 a1] => word_known U a1 (fun r1 h => κ (.bool r1) h) h
  | _ => False

noncomputable def word_known.calls (U : Ifc) : List (Nat × (List V → (V → Heap → Prop) → Heap → Prop)) := []

noncomputable def word_known.E (U : Ifc) (Q : Bool → Heap → Prop) (cuts : List (Nat × (List Nat × (List V → Heap → Prop)))) : Env := { tis := tisT, fns := fnsT, tys := tysT, gls := glsT, rts := rtsT, unk := [], nxt := [], calls := word_known.calls U, ifc := U, cuts := cuts, ret := word_known.ret Q, rets := [.tmp 2], n := 17 }

theorem word_known.callsOK {W0 : World} {U : Ifc} (hU : IfcOK sg W0 glsT U) : CallsOK sg W0 (word_known.calls U) := trivial

def word_known.k6 (I : Int → Int → Int → Int → Int → Int → Heap → Prop) (vs : List V) (h : Heap) : Prop :=
  match vs with
  | [.int .i64 a1, .agg [.int .i64 a2, .int .i64 a3, .int .i64 a4, .int .i64 a5], .int .i64 a6] => I a1 a2 a3 a4 a5 a6 h
  | _ => False

def word_known.k2 (I : Int → Int → Int → Int → Int → Int → Heap → Prop) (vs : List V) (h : Heap) : Prop :=
  match vs with
  | [.int .i64 a1, .agg [.int .i64 a2, .int .i64 a3, .int .i64 a4, .int .i64 a5], .int .i64 a6] => I a1 a2 a3 a4 a5 a6 h
  | _ => False

theorem word_known.p6 : (posC word_known.code []).filter (fun p => Nat.beq p.1 6) = [(6, atPos (posC word_known.code []) 6)] := by kernel_rfl

theorem word_known.e6 : ∀ (U : Ifc) (I2 : Int → Int → Int → Int → Int → Int → Heap → Prop) (a1 : Int) (a2 : Int) (a3 : Int) (a4 : Int) (a5 : Int) (a6 : Int) (Q : Bool → Heap → Prop) (h : Heap), word_known.j6 U I2 a1 a2 a3 a4 a5 a6 Q h = pts (word_known.E U Q [(2, ([0, 5, 6], word_known.k2 I2))]) 3000 true (atPos (posC word_known.code []) 6) (frAt [0, 5, 6] [.int .i64 a1, .agg [.int .i64 a2, .int .i64 a3, .int .i64 a4, .int .i64 a5], .int .i64 a6]) h := by
  intros; kernel_rfl

theorem word_known.s6 {W0 : World} {U : Ifc} (hU : IfcOK sg W0 glsT U) (Q : Bool → Heap → Prop) (I2 : Int → Int → Int → Int → Int → Int → Heap → Prop) (h2 : CutOK sg W0 17 (entered 55) (Post sg W0 (word_known.ret Q)) (posC word_known.code []) 2 [0, 5, 6] (word_known.k2 I2)) : CutOK sg W0 17 (entered 55) (Post sg W0 (word_known.ret Q)) (posC word_known.code []) 6 [0, 5, 6] (word_known.k6 (fun a1 a2 a3 a4 a5 a6 h => word_known.j6 U I2 a1 a2 a3 a4 a5 a6 Q h)) := by
  refine cutOK_head (fun vs h hk => ?_)
  unfold word_known.k6 at hk
  split at hk
  · rename_i a1 a2 a3 a4 a5 a6
    intro todo hm ρ a w s f hp
    exact piece (E := word_known.E U Q [(2, ([0, 5, 6], word_known.k2 I2))]) (vs := [.int .i64 a1, .agg [.int .i64 a2, .int .i64 a3, .int .i64 a4, .int .i64 a5], .int .i64 a6]) (envOK seatOK (word_known.callsOK hU) hU) (fnOK seatOK word_known.fun) ⟨h2, trivial⟩ word_known.p6 (fuel := 3000) (by rw [← word_known.e6]; exact hk) hm s f hp
  · exact hk.elim

theorem word_known.p2 : (posC word_known.code []).filter (fun p => Nat.beq p.1 2) = [(2, atPos (posC word_known.code []) 2)] := by kernel_rfl

theorem word_known.e2 : ∀ (U : Ifc)  (I2 : Int → Int → Int → Int → Int → Int → Heap → Prop) (a1 : Int) (a2 : Int) (a3 : Int) (a4 : Int) (a5 : Int) (a6 : Int) (Q : Bool → Heap → Prop) (h : Heap), word_known.b2 U  I2 a1 a2 a3 a4 a5 a6 Q h = pts (word_known.E U Q [(6, ([0, 5, 6], word_known.k6 (fun a1 a2 a3 a4 a5 a6 h => word_known.j6 U I2 a1 a2 a3 a4 a5 a6 Q h)))]) 3000 true (atPos (posC word_known.code []) 2) (frAt [0, 5, 6] [.int .i64 a1, .agg [.int .i64 a2, .int .i64 a3, .int .i64 a4, .int .i64 a5], .int .i64 a6]) h := by
  intros; kernel_rfl

theorem word_known.s2 {W0 : World} {U : Ifc} (hU : IfcOK sg W0 glsT U) (Q : Bool → Heap → Prop)   : CutOK sg W0 17 (entered 55) (Post sg W0 (word_known.ret Q)) (posC word_known.code []) 2 [0, 5, 6] (word_known.k2 (fun a1 a2 a3 a4 a5 a6 h => word_known.j2 U  a1 a2 a3 a4 a5 a6 Q h)) := by
  refine cutOK_head (fun vs h hk => ?_)
  unfold word_known.k2 at hk
  split at hk
  · rename_i a1 a2 a3 a4 a5 a6
    refine hk (fun a1 a2 a3 a4 a5 a6 h => Head sg W0 17 (entered 55) (Post sg W0 (word_known.ret Q)) (posC word_known.code []) 2 [0, 5, 6] [.int .i64 a1, .agg [.int .i64 a2, .int .i64 a3, .int .i64 a4, .int .i64 a5], .int .i64 a6] h) ?_
    intro a1 a2 a3 a4 a5 a6 h hb todo hm ρ a w s f hp
    have hself : CutOK sg W0 17 (entered 55) (Post sg W0 (word_known.ret Q)) (posC word_known.code []) 2 [0, 5, 6] (word_known.k2 (fun a1 a2 a3 a4 a5 a6 h => Head sg W0 17 (entered 55) (Post sg W0 (word_known.ret Q)) (posC word_known.code []) 2 [0, 5, 6] [.int .i64 a1, .agg [.int .i64 a2, .int .i64 a3, .int .i64 a4, .int .i64 a5], .int .i64 a6] h)) := cutOK_head (fun vs h hk => by unfold word_known.k2 at hk; split at hk; exact hk; exact hk.elim)
    exact piece (E := word_known.E U Q [(6, ([0, 5, 6], word_known.k6 (fun a1 a2 a3 a4 a5 a6 h => word_known.j6 U (fun a1 a2 a3 a4 a5 a6 h => Head sg W0 17 (entered 55) (Post sg W0 (word_known.ret Q)) (posC word_known.code []) 2 [0, 5, 6] [.int .i64 a1, .agg [.int .i64 a2, .int .i64 a3, .int .i64 a4, .int .i64 a5], .int .i64 a6] h) a1 a2 a3 a4 a5 a6 Q h)))]) (vs := [.int .i64 a1, .agg [.int .i64 a2, .int .i64 a3, .int .i64 a4, .int .i64 a5], .int .i64 a6]) (envOK seatOK (word_known.callsOK hU) hU) (fnOK seatOK word_known.fun) ⟨(word_known.s6 hU Q (fun a1 a2 a3 a4 a5 a6 h => Head sg W0 17 (entered 55) (Post sg W0 (word_known.ret Q)) (posC word_known.code []) 2 [0, 5, 6] [.int .i64 a1, .agg [.int .i64 a2, .int .i64 a3, .int .i64 a4, .int .i64 a5], .int .i64 a6] h) hself), trivial⟩ word_known.p2 (fuel := 3000) (by rw [← word_known.e2]; exact hb) hm s f hp
  · exact hk.elim

theorem word_known.e : ∀ (U : Ifc) (a1 : Int) (Q : Bool → Heap → Prop) (h : Heap), word_known U a1 Q h = pts (word_known.E U Q [(2, ([0, 5, 6], word_known.k2 (fun a1 a2 a3 a4 a5 a6 h => word_known.j2 U  a1 a2 a3 a4 a5 a6 Q h)))]) 3000 true [.code word_known.code] (frOf 0 [.int .i64 a1]) h := by
  intros; kernel_rfl

theorem word_known.S {W0 : World} {U : Ifc} (hU : IfcOK sg W0 glsT U) : FnS sg W0 93 (word_known.C U) := by
  intro vs κ h wv hx w s
  unfold word_known.C at hx
  split at hx
  · rename_i a1
    refine postImp (ret := word_known.ret (fun r1 h => κ (.bool r1) h)) (fun v h hr => by unfold word_known.ret at hr; split at hr; exact hr; exact hr.elim) ?_
    exact calls_of_pts (E := word_known.E U (fun r1 h => κ (.bool r1) h) [(2, ([0, 5, 6], word_known.k2 (fun a1 a2 a3 a4 a5 a6 h => word_known.j2 U  a1 a2 a3 a4 a5 a6 (fun r1 h => κ (.bool r1) h) h)))]) (envOK seatOK (word_known.callsOK hU) hU) seatOK.mixed word_known.fun (Nat.le_of_ble_eq_true rfl) wv (cutL_ok ⟨(word_known.s2 hU (fun r1 h => κ (.bool r1) h)), trivial⟩) s (fuel := 3000) (by rw [← word_known.e]; exact hx)
  · exact hx.elim

noncomputable def word_Store.code : Code := Go.Proofs.Tryz.f21.body.getD .skip

theorem word_Store.fun : Fun sg.P 21 27 [.tmp 4] word_Store.code := mkFun Go.Proofs.Tryz.func21 (by kernel_rfl) (by kernel_rfl) (by kernel_rfl) (by kernel_rfl)

def word_Store.ret (Q : Sl → Heap → Prop) (v : V) (h : Heap) : Prop :=
  match v with
  | .sl r1 => Q r1 h
  | _ => False

def word_Store.C (U : Ifc) (vs : List V) (κ : V → Heap → Prop) (h : Heap) : Prop :=
  match vs with
  | [.int .u64 a1, .int .i64 a2] => word_Store U a1 a2 (fun r1 h => κ (.sl r1) h) h
  | _ => False

noncomputable def word_Store.calls (U : Ifc) : List (Nat × (List V → (V → Heap → Prop) → Heap → Prop)) := [(93, word_known.C U)]

noncomputable def word_Store.E (U : Ifc) (Q : Sl → Heap → Prop) (cuts : List (Nat × (List Nat × (List V → Heap → Prop)))) : Env := { tis := tisT, fns := fnsT, tys := tysT, gls := glsT, rts := rtsT, unk := [], nxt := [], calls := word_Store.calls U, ifc := U, cuts := cuts, ret := word_Store.ret Q, rets := [.tmp 4], n := 27 }

theorem word_Store.callsOK {W0 : World} {U : Ifc} (hU : IfcOK sg W0 glsT U) : CallsOK sg W0 (word_Store.calls U) := ⟨(word_known.S hU), trivial⟩

def word_Store.k5 (I : Int → Sl → Int → Int → Heap → Prop) (vs : List V) (h : Heap) : Prop :=
  match vs with
  | [.int .u64 a1, .sl a2, .int .i64 a3, .int .i64 a4] => I a1 a2 a3 a4 h
  | _ => False

theorem word_Store.p5 : (posC word_Store.code []).filter (fun p => Nat.beq p.1 5) = [(5, atPos (posC word_Store.code []) 5)] := by kernel_rfl

theorem word_Store.e5 : ∀ (U : Ifc)  (I5 : Int → Sl → Int → Int → Heap → Prop) (a1 : Int) (a2 : Sl) (a3 : Int) (a4 : Int) (Q : Sl → Heap → Prop) (h : Heap), word_Store.b5 U  I5 a1 a2 a3 a4 Q h = pts (word_Store.E U Q [(5, ([0, 5, 13, 14], word_Store.k5 I5))]) 3000 true (atPos (posC word_Store.code []) 5) (frAt [0, 5, 13, 14] [.int .u64 a1, .sl a2, .int .i64 a3, .int .i64 a4]) h := by
  intros; kernel_rfl

theorem word_Store.s5 {W0 : World} {U : Ifc} (hU : IfcOK sg W0 glsT U) (Q : Sl → Heap → Prop)   : CutOK sg W0 27 (entered 21) (Post sg W0 (word_Store.ret Q)) (posC word_Store.code []) 5 [0, 5, 13, 14] (word_Store.k5 (fun a1 a2 a3 a4 h => word_Store.j5 U  a1 a2 a3 a4 Q h)) := by
  refine cutOK_head (fun vs h hk => ?_)
  unfold word_Store.k5 at hk
  split at hk
  · rename_i a1 a2 a3 a4
    refine hk (fun a1 a2 a3 a4 h => Head sg W0 27 (entered 21) (Post sg W0 (word_Store.ret Q)) (posC word_Store.code []) 5 [0, 5, 13, 14] [.int .u64 a1, .sl a2, .int .i64 a3, .int .i64 a4] h) ?_
    intro a1 a2 a3 a4 h hb todo hm ρ a w s f hp
    have hself : CutOK sg W0 27 (entered 21) (Post sg W0 (word_Store.ret Q)) (posC word_Store.code []) 5 [0, 5, 13, 14] (word_Store.k5 (fun a1 a2 a3 a4 h => Head sg W0 27 (entered 21) (Post sg W0 (word_Store.ret Q)) (posC word_Store.code []) 5 [0, 5, 13, 14] [.int .u64 a1, .sl a2, .int .i64 a3, .int .i64 a4] h)) := cutOK_head (fun vs h hk => by unfold word_Store.k5 at hk; split at hk; exact hk; exact hk.elim)
    exact piece (E := word_Store.E U Q [(5, ([0, 5, 13, 14], word_Store.k5 (fun a1 a2 a3 a4 h => Head sg W0 27 (entered 21) (Post sg W0 (word_Store.ret Q)) (posC word_Store.code []) 5 [0, 5, 13, 14] [.int .u64 a1, .sl a2, .int .i64 a3, .int .i64 a4] h)))]) (vs := [.int .u64 a1, .sl a2, .int .i64 a3, .int .i64 a4]) (envOK seatOK (word_Store.callsOK hU) hU) (fnOK seatOK word_Store.fun) ⟨hself, trivial⟩ word_Store.p5 (fuel := 3000) (by rw [← word_Store.e5]; exact hb) hm s f hp
  · exact hk.elim

theorem word_Store.e : ∀ (U : Ifc) (a1 : Int) (a2 : Int) (Q : Sl → Heap → Prop) (h : Heap), word_Store U a1 a2 Q h = pts (word_Store.E U Q [(5, ([0, 5, 13, 14], word_Store.k5 (fun a1 a2 a3 a4 h => word_Store.j5 U  a1 a2 a3 a4 Q h)))]) 3000 true [.code word_Store.code] (frOf 0 [.int .u64 a1, .int .i64 a2]) h := by
  intros; kernel_rfl

theorem word_Store.S {W0 : World} {U : Ifc} (hU : IfcOK sg W0 glsT U) : FnS sg W0 96 (word_Store.C U) := by
  intro vs κ h wv hx w s
  unfold word_Store.C at hx
  split at hx
  · rename_i a1 a2
    refine postImp (ret := word_Store.ret (fun r1 h => κ (.sl r1) h)) (fun v h hr => by unfold word_Store.ret at hr; split at hr; exact hr; exact hr.elim) ?_
    exact calls_of_pts (E := word_Store.E U (fun r1 h => κ (.sl r1) h) [(5, ([0, 5, 13, 14], word_Store.k5 (fun a1 a2 a3 a4 h => word_Store.j5 U  a1 a2 a3 a4 (fun r1 h => κ (.sl r1) h) h)))]) (envOK seatOK (word_Store.callsOK hU) hU) seatOK.mixed word_Store.fun (Nat.le_of_ble_eq_true rfl) wv (cutL_ok ⟨(word_Store.s5 hU (fun r1 h => κ (.sl r1) h)), trivial⟩) s (fuel := 3000) (by rw [← word_Store.e]; exact hx)
  · exact hx.elim

noncomputable def mem_Memory_Store.code : Code := Go.Proofs.Tryz.f10.body.getD .skip

theorem mem_Memory_Store.fun : Fun sg.P 10 26 [.tmp 8] mem_Memory_Store.code := mkFun Go.Proofs.Tryz.func10 (by kernel_rfl) (by kernel_rfl) (by kernel_rfl) (by kernel_rfl)

def mem_Memory_Store.ret (Q : Int → Heap → Prop) (v : V) (h : Heap) : Prop :=
  match v with
  | .int .i64 r1 => Q r1 h
  | _ => False

def mem_Memory_Store.C (U : Ifc) (vs : List V) (κ : V → Heap → Prop) (h : Heap) : Prop :=
  match vs with
  | [.ptr a1, .int .u64 a2, .int .i64 a3, .int .u64 a4] => mem_Memory_Store U a1 a2 a3 a4 (fun r1 h => κ (.int .i64 r1) h) h
  | _ => False

noncomputable def mem_Memory_Store.calls (U : Ifc) : List (Nat × (List V → (V → Heap → Prop) → Heap → Prop)) := [(59, mem_Memory_number.C), (96, word_Store.C U)]

noncomputable def mem_Memory_Store.E (U : Ifc) (Q : Int → Heap → Prop) (cuts : List (Nat × (List Nat × (List V → Heap → Prop)))) : Env := { tis := tisT, fns := fnsT, tys := tysT, gls := glsT, rts := rtsT, unk := [], nxt := [], calls := mem_Memory_Store.calls U, ifc := U, cuts := cuts, ret := mem_Memory_Store.ret Q, rets := [.tmp 8], n := 26 }

theorem mem_Memory_Store.callsOK {W0 : World} {U : Ifc} (hU : IfcOK sg W0 glsT U) : CallsOK sg W0 (mem_Memory_Store.calls U) := ⟨mem_Memory_number.S, (word_Store.S hU), trivial⟩

theorem mem_Memory_Store.e : ∀ (U : Ifc) (a1 : Option Ptr) (a2 : Int) (a3 : Int) (a4 : Int) (Q : Int → Heap → Prop) (h : Heap), mem_Memory_Store U a1 a2 a3 a4 Q h = pts (mem_Memory_Store.E U Q []) 3000 true [.code mem_Memory_Store.code] (frOf 0 [.ptr a1, .int .u64 a2, .int .i64 a3, .int .u64 a4]) h := by
  intros; kernel_rfl

theorem mem_Memory_Store.S {W0 : World} {U : Ifc} (hU : IfcOK sg W0 glsT U) : FnS sg W0 97 (mem_Memory_Store.C U) := by
  intro vs κ h wv hx w s
  unfold mem_Memory_Store.C at hx
  split at hx
  · rename_i a1 a2 a3 a4
    refine postImp (ret := mem_Memory_Store.ret (fun r1 h => κ (.int .i64 r1) h)) (fun v h hr => by unfold mem_Memory_Store.ret at hr; split at hr; exact hr; exact hr.elim) ?_
    exact calls_of_pts (E := mem_Memory_Store.E U (fun r1 h => κ (.int .i64 r1) h) []) (envOK seatOK (mem_Memory_Store.callsOK hU) hU) seatOK.mixed mem_Memory_Store.fun (Nat.le_of_ble_eq_true rfl) wv (cutL_ok trivial) s (fuel := 3000) (by rw [← mem_Memory_Store.e]; exact hx)
  · exact hx.elim

noncomputable def palisaderef04_Memory_lies.code : Code := Go.Proofs.Tryz.f56.body.getD .skip

theorem palisaderef04_Memory_lies.fun : Fun sg.P 56 26 [.tmp 6] palisaderef04_Memory_lies.code := mkFun Go.Proofs.Tryz.func56 (by kernel_rfl) (by kernel_rfl) (by kernel_rfl) (by kernel_rfl)

def palisaderef04_Memory_lies.ret (Q : Bool → Heap → Prop) (v : V) (h : Heap) : Prop :=
  match v with
  | .bool r1 => Q r1 h
  | _ => False

def palisaderef04_Memory_lies.C (vs : List V) (κ : V → Heap → Prop) (h : Heap) : Prop :=
  match vs with
  | [.ptr a1, .int .u64 a2, .int .i64 a3] => palisaderef04_Memory_lies a1 a2 a3 (fun r1 h => κ (.bool r1) h) h
  | _ => False

noncomputable def palisaderef04_Memory_lies.calls : List (Nat × (List V → (V → Heap → Prop) → Heap → Prop)) := []

noncomputable def palisaderef04_Memory_lies.E (Q : Bool → Heap → Prop) (cuts : List (Nat × (List Nat × (List V → Heap → Prop)))) : Env := { tis := tisT, fns := fnsT, tys := tysT, gls := [], rts := rtsT, unk := [], nxt := [], calls := palisaderef04_Memory_lies.calls, ifc := noIfc, cuts := cuts, ret := palisaderef04_Memory_lies.ret Q, rets := [.tmp 6], n := 26 }

theorem palisaderef04_Memory_lies.callsOK {W0 : World} : CallsOK sg W0 palisaderef04_Memory_lies.calls := trivial

theorem palisaderef04_Memory_lies.e : ∀ (a1 : Option Ptr) (a2 : Int) (a3 : Int) (Q : Bool → Heap → Prop) (h : Heap), palisaderef04_Memory_lies a1 a2 a3 Q h = pts (palisaderef04_Memory_lies.E Q []) 3000 true [.code palisaderef04_Memory_lies.code] (frOf 0 [.ptr a1, .int .u64 a2, .int .i64 a3]) h := by
  intros; kernel_rfl

theorem palisaderef04_Memory_lies.S {W0 : World} : FnS sg W0 47 palisaderef04_Memory_lies.C := by
  intro vs κ h wv hx w s
  unfold palisaderef04_Memory_lies.C at hx
  split at hx
  · rename_i a1 a2 a3
    refine postImp (ret := palisaderef04_Memory_lies.ret (fun r1 h => κ (.bool r1) h)) (fun v h hr => by unfold palisaderef04_Memory_lies.ret at hr; split at hr; exact hr; exact hr.elim) ?_
    exact calls_of_pts (E := palisaderef04_Memory_lies.E (fun r1 h => κ (.bool r1) h) []) (envOK seatOK palisaderef04_Memory_lies.callsOK noIfc_ok) seatOK.mixed palisaderef04_Memory_lies.fun (Nat.le_of_ble_eq_true rfl) wv (cutL_ok trivial) s (fuel := 3000) (by rw [← palisaderef04_Memory_lies.e]; exact hx)
  · exact hx.elim

noncomputable def palisaderef04_Memory_wrong.code : Code := Go.Proofs.Tryz.f22.body.getD .skip

theorem palisaderef04_Memory_wrong.fun : Fun sg.P 22 27 [.tmp 6] palisaderef04_Memory_wrong.code := mkFun Go.Proofs.Tryz.func22 (by kernel_rfl) (by kernel_rfl) (by kernel_rfl) (by kernel_rfl)

def palisaderef04_Memory_wrong.ret (Q : Int → Heap → Prop) (v : V) (h : Heap) : Prop :=
  match v with
  | .int .i64 r1 => Q r1 h
  | _ => False

def palisaderef04_Memory_wrong.C (vs : List V) (κ : V → Heap → Prop) (h : Heap) : Prop :=
  match vs with
  | [.ptr a1, .int .u64 a2, .int .i64 a3] => palisaderef04_Memory_wrong a1 a2 a3 (fun r1 h => κ (.int .i64 r1) h) h
  | _ => False

noncomputable def palisaderef04_Memory_wrong.calls : List (Nat × (List V → (V → Heap → Prop) → Heap → Prop)) := [(47, palisaderef04_Memory_lies.C)]

noncomputable def palisaderef04_Memory_wrong.E (Q : Int → Heap → Prop) (cuts : List (Nat × (List Nat × (List V → Heap → Prop)))) : Env := { tis := tisT, fns := fnsT, tys := tysT, gls := [], rts := rtsT, unk := [], nxt := [], calls := palisaderef04_Memory_wrong.calls, ifc := noIfc, cuts := cuts, ret := palisaderef04_Memory_wrong.ret Q, rets := [.tmp 6], n := 27 }

theorem palisaderef04_Memory_wrong.callsOK {W0 : World} : CallsOK sg W0 palisaderef04_Memory_wrong.calls := ⟨palisaderef04_Memory_lies.S, trivial⟩

def palisaderef04_Memory_wrong.k3 (I : (Option Ptr) → Int → Int → Heap → Prop) (vs : List V) (h : Heap) : Prop :=
  match vs with
  | [.ptr a1, .int .u64 a2, .int .i64 a3] => I a1 a2 a3 h
  | _ => False

theorem palisaderef04_Memory_wrong.p3 : (posC palisaderef04_Memory_wrong.code []).filter (fun p => Nat.beq p.1 3) = [(3, atPos (posC palisaderef04_Memory_wrong.code []) 3)] := by kernel_rfl

theorem palisaderef04_Memory_wrong.e3 : ∀  (a1 : Option Ptr) (a2 : Int) (a3 : Int) (Q : Int → Heap → Prop) (h : Heap), palisaderef04_Memory_wrong.j3  a1 a2 a3 Q h = pts (palisaderef04_Memory_wrong.E Q []) 3000 true (atPos (posC palisaderef04_Memory_wrong.code []) 3) (frAt [0, 1, 2] [.ptr a1, .int .u64 a2, .int .i64 a3]) h := by
  intros; kernel_rfl

theorem palisaderef04_Memory_wrong.s3 {W0 : World} (Q : Int → Heap → Prop)   : CutOK sg W0 27 (entered 22) (Post sg W0 (palisaderef04_Memory_wrong.ret Q)) (posC palisaderef04_Memory_wrong.code []) 3 [0, 1, 2] (palisaderef04_Memory_wrong.k3 (fun a1 a2 a3 h => palisaderef04_Memory_wrong.j3  a1 a2 a3 Q h)) := by
  refine cutOK_head (fun vs h hk => ?_)
  unfold palisaderef04_Memory_wrong.k3 at hk
  split at hk
  · rename_i a1 a2 a3
    intro todo hm ρ a w s f hp
    exact piece (E := palisaderef04_Memory_wrong.E Q []) (vs := [.ptr a1, .int .u64 a2, .int .i64 a3]) (envOK seatOK palisaderef04_Memory_wrong.callsOK noIfc_ok) (fnOK seatOK palisaderef04_Memory_wrong.fun) trivial palisaderef04_Memory_wrong.p3 (fuel := 3000) (by rw [← palisaderef04_Memory_wrong.e3]; exact hk) hm s f hp
  · exact hk.elim

theorem palisaderef04_Memory_wrong.e : ∀ (a1 : Option Ptr) (a2 : Int) (a3 : Int) (Q : Int → Heap → Prop) (h : Heap), palisaderef04_Memory_wrong a1 a2 a3 Q h = pts (palisaderef04_Memory_wrong.E Q [(3, ([0, 1, 2], palisaderef04_Memory_wrong.k3 (fun a1 a2 a3 h => palisaderef04_Memory_wrong.j3  a1 a2 a3 Q h)))]) 3000 true [.code palisaderef04_Memory_wrong.code] (frOf 0 [.ptr a1, .int .u64 a2, .int .i64 a3]) h := by
  intros; kernel_rfl

theorem palisaderef04_Memory_wrong.S {W0 : World} : FnS sg W0 60 palisaderef04_Memory_wrong.C := by
  intro vs κ h wv hx w s
  unfold palisaderef04_Memory_wrong.C at hx
  split at hx
  · rename_i a1 a2 a3
    refine postImp (ret := palisaderef04_Memory_wrong.ret (fun r1 h => κ (.int .i64 r1) h)) (fun v h hr => by unfold palisaderef04_Memory_wrong.ret at hr; split at hr; exact hr; exact hr.elim) ?_
    exact calls_of_pts (E := palisaderef04_Memory_wrong.E (fun r1 h => κ (.int .i64 r1) h) [(3, ([0, 1, 2], palisaderef04_Memory_wrong.k3 (fun a1 a2 a3 h => palisaderef04_Memory_wrong.j3  a1 a2 a3 (fun r1 h => κ (.int .i64 r1) h) h)))]) (envOK seatOK palisaderef04_Memory_wrong.callsOK noIfc_ok) seatOK.mixed palisaderef04_Memory_wrong.fun (Nat.le_of_ble_eq_true rfl) wv (cutL_ok ⟨(palisaderef04_Memory_wrong.s3 (fun r1 h => κ (.int .i64 r1) h)), trivial⟩) s (fuel := 3000) (by rw [← palisaderef04_Memory_wrong.e]; exact hx)
  · exact hx.elim

noncomputable def palisaderef01_Store.code : Code := Go.Proofs.Tryz.f23.body.getD .skip

theorem palisaderef01_Store.fun : Fun sg.P 23 32 [.tmp 4] palisaderef01_Store.code := mkFun Go.Proofs.Tryz.func23 (by kernel_rfl) (by kernel_rfl) (by kernel_rfl) (by kernel_rfl)

def palisaderef01_Store.ret (Q : Sl → Heap → Prop) (v : V) (h : Heap) : Prop :=
  match v with
  | .sl r1 => Q r1 h
  | _ => False

def palisaderef01_Store.C (vs : List V) (κ : V → Heap → Prop) (h : Heap) : Prop :=
  match vs with
  | [.int .u64 a1, .int .i64 a2] => palisaderef01_Store a1 a2 (fun r1 h => κ (.sl r1) h) h
  | _ => False

noncomputable def palisaderef01_Store.calls : List (Nat × (List V → (V → Heap → Prop) → Heap → Prop)) := []

noncomputable def palisaderef01_Store.E (Q : Sl → Heap → Prop) (cuts : List (Nat × (List Nat × (List V → Heap → Prop)))) : Env := { tis := tisT, fns := fnsT, tys := tysT, gls := [], rts := rtsT, unk := [], nxt := [], calls := palisaderef01_Store.calls, ifc := noIfc, cuts := cuts, ret := palisaderef01_Store.ret Q, rets := [.tmp 4], n := 32 }

theorem palisaderef01_Store.callsOK {W0 : World} : CallsOK sg W0 palisaderef01_Store.calls := trivial

def palisaderef01_Store.k5 (I : Int → Int → Sl → Int → Heap → Prop) (vs : List V) (h : Heap) : Prop :=
  match vs with
  | [.int .u64 a1, .int .i64 a2, .sl a3, .int .i64 a4] => I a1 a2 a3 a4 h
  | _ => False

def palisaderef01_Store.k3 (I : Int → Int → Heap → Prop) (vs : List V) (h : Heap) : Prop :=
  match vs with
  | [.int .u64 a1, .int .i64 a2] => I a1 a2 h
  | _ => False

theorem palisaderef01_Store.p5 : (posC palisaderef01_Store.code []).filter (fun p => Nat.beq p.1 5) = [(5, atPos (posC palisaderef01_Store.code []) 5)] := by kernel_rfl

theorem palisaderef01_Store.e5 : ∀  (I5 : Int → Int → Sl → Int → Heap → Prop) (a1 : Int) (a2 : Int) (a3 : Sl) (a4 : Int) (Q : Sl → Heap → Prop) (h : Heap), palisaderef01_Store.b5  I5 a1 a2 a3 a4 Q h = pts (palisaderef01_Store.E Q [(5, ([0, 1, 5, 6], palisaderef01_Store.k5 I5))]) 3000 true (atPos (posC palisaderef01_Store.code []) 5) (frAt [0, 1, 5, 6] [.int .u64 a1, .int .i64 a2, .sl a3, .int .i64 a4]) h := by
  intros; kernel_rfl

theorem palisaderef01_Store.s5 {W0 : World} (Q : Sl → Heap → Prop)   : CutOK sg W0 32 (entered 23) (Post sg W0 (palisaderef01_Store.ret Q)) (posC palisaderef01_Store.code []) 5 [0, 1, 5, 6] (palisaderef01_Store.k5 (fun a1 a2 a3 a4 h => palisaderef01_Store.j5  a1 a2 a3 a4 Q h)) := by
  refine cutOK_head (fun vs h hk => ?_)
  unfold palisaderef01_Store.k5 at hk
  split at hk
  · rename_i a1 a2 a3 a4
    refine hk (fun a1 a2 a3 a4 h => Head sg W0 32 (entered 23) (Post sg W0 (palisaderef01_Store.ret Q)) (posC palisaderef01_Store.code []) 5 [0, 1, 5, 6] [.int .u64 a1, .int .i64 a2, .sl a3, .int .i64 a4] h) ?_
    intro a1 a2 a3 a4 h hb todo hm ρ a w s f hp
    have hself : CutOK sg W0 32 (entered 23) (Post sg W0 (palisaderef01_Store.ret Q)) (posC palisaderef01_Store.code []) 5 [0, 1, 5, 6] (palisaderef01_Store.k5 (fun a1 a2 a3 a4 h => Head sg W0 32 (entered 23) (Post sg W0 (palisaderef01_Store.ret Q)) (posC palisaderef01_Store.code []) 5 [0, 1, 5, 6] [.int .u64 a1, .int .i64 a2, .sl a3, .int .i64 a4] h)) := cutOK_head (fun vs h hk => by unfold palisaderef01_Store.k5 at hk; split at hk; exact hk; exact hk.elim)
    exact piece (E := palisaderef01_Store.E Q [(5, ([0, 1, 5, 6], palisaderef01_Store.k5 (fun a1 a2 a3 a4 h => Head sg W0 32 (entered 23) (Post sg W0 (palisaderef01_Store.ret Q)) (posC palisaderef01_Store.code []) 5 [0, 1, 5, 6] [.int .u64 a1, .int .i64 a2, .sl a3, .int .i64 a4] h)))]) (vs := [.int .u64 a1, .int .i64 a2, .sl a3, .int .i64 a4]) (envOK seatOK palisaderef01_Store.callsOK noIfc_ok) (fnOK seatOK palisaderef01_Store.fun) ⟨hself, trivial⟩ palisaderef01_Store.p5 (fuel := 3000) (by rw [← palisaderef01_Store.e5]; exact hb) hm s f hp
  · exact hk.elim

theorem palisaderef01_Store.p3 : (posC palisaderef01_Store.code []).filter (fun p => Nat.beq p.1 3) = [(3, atPos (posC palisaderef01_Store.code []) 3)] := by kernel_rfl

theorem palisaderef01_Store.e3 : ∀  (a1 : Int) (a2 : Int) (Q : Sl → Heap → Prop) (h : Heap), palisaderef01_Store.j3  a1 a2 Q h = pts (palisaderef01_Store.E Q [(5, ([0, 1, 5, 6], palisaderef01_Store.k5 (fun a1 a2 a3 a4 h => palisaderef01_Store.j5  a1 a2 a3 a4 Q h)))]) 3000 true (atPos (posC palisaderef01_Store.code []) 3) (frAt [0, 1] [.int .u64 a1, .int .i64 a2]) h := by
  intros; kernel_rfl

theorem palisaderef01_Store.s3 {W0 : World} (Q : Sl → Heap → Prop)   : CutOK sg W0 32 (entered 23) (Post sg W0 (palisaderef01_Store.ret Q)) (posC palisaderef01_Store.code []) 3 [0, 1] (palisaderef01_Store.k3 (fun a1 a2 h => palisaderef01_Store.j3  a1 a2 Q h)) := by
  refine cutOK_head (fun vs h hk => ?_)
  unfold palisaderef01_Store.k3 at hk
  split at hk
  · rename_i a1 a2
    intro todo hm ρ a w s f hp
    exact piece (E := palisaderef01_Store.E Q [(5, ([0, 1, 5, 6], palisaderef01_Store.k5 (fun a1 a2 a3 a4 h => palisaderef01_Store.j5  a1 a2 a3 a4 Q h)))]) (vs := [.int .u64 a1, .int .i64 a2]) (envOK seatOK palisaderef01_Store.callsOK noIfc_ok) (fnOK seatOK palisaderef01_Store.fun) ⟨(palisaderef01_Store.s5 Q  ), trivial⟩ palisaderef01_Store.p3 (fuel := 3000) (by rw [← palisaderef01_Store.e3]; exact hk) hm s f hp
  · exact hk.elim

theorem palisaderef01_Store.e : ∀ (a1 : Int) (a2 : Int) (Q : Sl → Heap → Prop) (h : Heap), palisaderef01_Store a1 a2 Q h = pts (palisaderef01_Store.E Q [(3, ([0, 1], palisaderef01_Store.k3 (fun a1 a2 h => palisaderef01_Store.j3  a1 a2 Q h)))]) 3000 true [.code palisaderef01_Store.code] (frOf 0 [.int .u64 a1, .int .i64 a2]) h := by
  intros; kernel_rfl

theorem palisaderef01_Store.S {W0 : World} : FnS sg W0 63 palisaderef01_Store.C := by
  intro vs κ h wv hx w s
  unfold palisaderef01_Store.C at hx
  split at hx
  · rename_i a1 a2
    refine postImp (ret := palisaderef01_Store.ret (fun r1 h => κ (.sl r1) h)) (fun v h hr => by unfold palisaderef01_Store.ret at hr; split at hr; exact hr; exact hr.elim) ?_
    exact calls_of_pts (E := palisaderef01_Store.E (fun r1 h => κ (.sl r1) h) [(3, ([0, 1], palisaderef01_Store.k3 (fun a1 a2 h => palisaderef01_Store.j3  a1 a2 (fun r1 h => κ (.sl r1) h) h)))]) (envOK seatOK palisaderef01_Store.callsOK noIfc_ok) seatOK.mixed palisaderef01_Store.fun (Nat.le_of_ble_eq_true rfl) wv (cutL_ok ⟨(palisaderef01_Store.s3 (fun r1 h => κ (.sl r1) h)), trivial⟩) s (fuel := 3000) (by rw [← palisaderef01_Store.e]; exact hx)
  · exact hx.elim

noncomputable def palisaderef04_Memory_Store.code : Code := Go.Proofs.Tryz.f11.body.getD .skip

theorem palisaderef04_Memory_Store.fun : Fun sg.P 11 41 [.tmp 8] palisaderef04_Memory_Store.code := mkFun Go.Proofs.Tryz.func11 (by kernel_rfl) (by kernel_rfl) (by kernel_rfl) (by kernel_rfl)

def palisaderef04_Memory_Store.ret (Q : Int → Heap → Prop) (v : V) (h : Heap) : Prop :=
  match v with
  | .int .i64 r1 => Q r1 h
  | _ => False

def palisaderef04_Memory_Store.C (vs : List V) (κ : V → Heap → Prop) (h : Heap) : Prop :=
  match vs with
  | [.ptr a1, .int .u64 a2, .int .i64 a3, .int .u64 a4] => palisaderef04_Memory_Store a1 a2 a3 a4 (fun r1 h => κ (.int .i64 r1) h) h
  | _ => False

noncomputable def palisaderef04_Memory_Store.calls : List (Nat × (List V → (V → Heap → Prop) → Heap → Prop)) := [(60, palisaderef04_Memory_wrong.C), (63, palisaderef01_Store.C)]

noncomputable def palisaderef04_Memory_Store.E (Q : Int → Heap → Prop) (cuts : List (Nat × (List Nat × (List V → Heap → Prop)))) : Env := { tis := tisT, fns := fnsT, tys := tysT, gls := [], rts := rtsT, unk := [], nxt := [], calls := palisaderef04_Memory_Store.calls, ifc := noIfc, cuts := cuts, ret := palisaderef04_Memory_Store.ret Q, rets := [.tmp 8], n := 41 }

theorem palisaderef04_Memory_Store.callsOK {W0 : World} : CallsOK sg W0 palisaderef04_Memory_Store.calls := ⟨palisaderef04_Memory_wrong.S, palisaderef01_Store.S, trivial⟩

def palisaderef04_Memory_Store.k6 (I : (Option Ptr) → Int → Sl → Int → Heap → Prop) (vs : List V) (h : Heap) : Prop :=
  match vs with
  | [.ptr a1, .int .u64 a2, .sl a3, .int .i64 a4] => I a1 a2 a3 a4 h
  | _ => False

theorem palisaderef04_Memory_Store.p6 : (posC palisaderef04_Memory_Store.code []).filter (fun p => Nat.beq p.1 6) = [(6, atPos (posC palisaderef04_Memory_Store.code []) 6)] := by kernel_rfl

theorem palisaderef04_Memory_Store.e6 : ∀  (I6 : (Option Ptr) → Int → Sl → Int → Heap → Prop) (a1 : Option Ptr) (a2 : Int) (a3 : Sl) (a4 : Int) (Q : Int → Heap → Prop) (h : Heap), palisaderef04_Memory_Store.b6  I6 a1 a2 a3 a4 Q h = pts (palisaderef04_Memory_Store.E Q [(6, ([0, 1, 10, 11], palisaderef04_Memory_Store.k6 I6))]) 3000 true (atPos (posC palisaderef04_Memory_Store.code []) 6) (frAt [0, 1, 10, 11] [.ptr a1, .int .u64 a2, .sl a3, .int .i64 a4]) h := by
  intros; kernel_rfl

theorem palisaderef04_Memory_Store.s6 {W0 : World} (Q : Int → Heap → Prop)   : CutOK sg W0 41 (entered 11) (Post sg W0 (palisaderef04_Memory_Store.ret Q)) (posC palisaderef04_Memory_Store.code []) 6 [0, 1, 10, 11] (palisaderef04_Memory_Store.k6 (fun a1 a2 a3 a4 h => palisaderef04_Memory_Store.j6  a1 a2 a3 a4 Q h)) := by
  refine cutOK_head (fun vs h hk => ?_)
  unfold palisaderef04_Memory_Store.k6 at hk
  split at hk
  · rename_i a1 a2 a3 a4
    refine hk (fun a1 a2 a3 a4 h => Head sg W0 41 (entered 11) (Post sg W0 (palisaderef04_Memory_Store.ret Q)) (posC palisaderef04_Memory_Store.code []) 6 [0, 1, 10, 11] [.ptr a1, .int .u64 a2, .sl a3, .int .i64 a4] h) ?_
    intro a1 a2 a3 a4 h hb todo hm ρ a w s f hp
    have hself : CutOK sg W0 41 (entered 11) (Post sg W0 (palisaderef04_Memory_Store.ret Q)) (posC palisaderef04_Memory_Store.code []) 6 [0, 1, 10, 11] (palisaderef04_Memory_Store.k6 (fun a1 a2 a3 a4 h => Head sg W0 41 (entered 11) (Post sg W0 (palisaderef04_Memory_Store.ret Q)) (posC palisaderef04_Memory_Store.code []) 6 [0, 1, 10, 11] [.ptr a1, .int .u64 a2, .sl a3, .int .i64 a4] h)) := cutOK_head (fun vs h hk => by unfold palisaderef04_Memory_Store.k6 at hk; split at hk; exact hk; exact hk.elim)
    exact piece (E := palisaderef04_Memory_Store.E Q [(6, ([0, 1, 10, 11], palisaderef04_Memory_Store.k6 (fun a1 a2 a3 a4 h => Head sg W0 41 (entered 11) (Post sg W0 (palisaderef04_Memory_Store.ret Q)) (posC palisaderef04_Memory_Store.code []) 6 [0, 1, 10, 11] [.ptr a1, .int .u64 a2, .sl a3, .int .i64 a4] h)))]) (vs := [.ptr a1, .int .u64 a2, .sl a3, .int .i64 a4]) (envOK seatOK palisaderef04_Memory_Store.callsOK noIfc_ok) (fnOK seatOK palisaderef04_Memory_Store.fun) ⟨hself, trivial⟩ palisaderef04_Memory_Store.p6 (fuel := 3000) (by rw [← palisaderef04_Memory_Store.e6]; exact hb) hm s f hp
  · exact hk.elim

theorem palisaderef04_Memory_Store.e : ∀ (a1 : Option Ptr) (a2 : Int) (a3 : Int) (a4 : Int) (Q : Int → Heap → Prop) (h : Heap), palisaderef04_Memory_Store a1 a2 a3 a4 Q h = pts (palisaderef04_Memory_Store.E Q [(6, ([0, 1, 10, 11], palisaderef04_Memory_Store.k6 (fun a1 a2 a3 a4 h => palisaderef04_Memory_Store.j6  a1 a2 a3 a4 Q h)))]) 3000 true [.code palisaderef04_Memory_Store.code] (frOf 0 [.ptr a1, .int .u64 a2, .int .i64 a3, .int .u64 a4]) h := by
  intros; kernel_rfl

theorem palisaderef04_Memory_Store.S {W0 : World} : FnS sg W0 64 palisaderef04_Memory_Store.C := by
  intro vs κ h wv hx w s
  unfold palisaderef04_Memory_Store.C at hx
  split at hx
  · rename_i a1 a2 a3 a4
    refine postImp (ret := palisaderef04_Memory_Store.ret (fun r1 h => κ (.int .i64 r1) h)) (fun v h hr => by unfold palisaderef04_Memory_Store.ret at hr; split at hr; exact hr; exact hr.elim) ?_
    exact calls_of_pts (E := palisaderef04_Memory_Store.E (fun r1 h => κ (.int .i64 r1) h) [(6, ([0, 1, 10, 11], palisaderef04_Memory_Store.k6 (fun a1 a2 a3 a4 h => palisaderef04_Memory_Store.j6  a1 a2 a3 a4 (fun r1 h => κ (.int .i64 r1) h) h)))]) (envOK seatOK palisaderef04_Memory_Store.callsOK noIfc_ok) seatOK.mixed palisaderef04_Memory_Store.fun (Nat.le_of_ble_eq_true rfl) wv (cutL_ok ⟨(palisaderef04_Memory_Store.s6 (fun r1 h => κ (.int .i64 r1) h)), trivial⟩) s (fuel := 3000) (by rw [← palisaderef04_Memory_Store.e]; exact hx)
  · exact hx.elim

noncomputable def palisaderef02_Shape.code : Code := Go.Proofs.Tryz.f26.body.getD .skip

theorem palisaderef02_Shape.fun : Fun sg.P 26 76 [.tmp 2] palisaderef02_Shape.code := mkFun Go.Proofs.Tryz.func26 (by kernel_rfl) (by kernel_rfl) (by kernel_rfl) (by kernel_rfl)

def palisaderef02_Shape.ret (Q : Int → Heap → Prop) (v : V) (h : Heap) : Prop :=
  match v with
  | .int .i64 r1 => Q r1 h
  | _ => False

def palisaderef02_Shape.C (vs : List V) (κ : V → Heap → Prop) (h : Heap) : Prop :=
  match vs with
  | [.int .i64 a1] => palisaderef02_Shape a1 (fun r1 h => κ (.int .i64 r1) h) h
  | _ => False

noncomputable def palisaderef02_Shape.calls : List (Nat × (List V → (V → Heap → Prop) → Heap → Prop)) := []

noncomputable def palisaderef02_Shape.E (Q : Int → Heap → Prop) (cuts : List (Nat × (List Nat × (List V → Heap → Prop)))) : Env := { tis := tisT, fns := fnsT, tys := tysT, gls := [], rts := rtsT, unk := [], nxt := [], calls := palisaderef02_Shape.calls, ifc := noIfc, cuts := cuts, ret := palisaderef02_Shape.ret Q, rets := [.tmp 2], n := 76 }

theorem palisaderef02_Shape.callsOK {W0 : World} : CallsOK sg W0 palisaderef02_Shape.calls := trivial

def palisaderef02_Shape.k4 (I : Heap → Prop) (vs : List V) (h : Heap) : Prop :=
  match vs with
  | [] => I  h
  | _ => False

def palisaderef02_Shape.k9 (I : Int → Heap → Prop) (vs : List V) (h : Heap) : Prop :=
  match vs with
  | [.int .i64 a1] => I a1 h
  | _ => False

def palisaderef02_Shape.k7 (I : Int → Heap → Prop) (vs : List V) (h : Heap) : Prop :=
  match vs with
  | [.int .i64 a1] => I a1 h
  | _ => False

def palisaderef02_Shape.k5 (I : Int → Heap → Prop) (vs : List V) (h : Heap) : Prop :=
  match vs with
  | [.int .i64 a1] => I a1 h
  | _ => False

def palisaderef02_Shape.k3 (I : Int → Heap → Prop) (vs : List V) (h : Heap) : Prop :=
  match vs with
  | [.int .i64 a1] => I a1 h
  | _ => False

theorem palisaderef02_Shape.p4 : (posC palisaderef02_Shape.code []).filter (fun p => Nat.beq p.1 4) = [(4, atPos (posC palisaderef02_Shape.code []) 4)] := by kernel_rfl

theorem palisaderef02_Shape.e4 : ∀   (Q : Int → Heap → Prop) (h : Heap), palisaderef02_Shape.j4   Q h = pts (palisaderef02_Shape.E Q []) 3000 true (atPos (posC palisaderef02_Shape.code []) 4) (frAt [] []) h := by
  intros; kernel_rfl

theorem palisaderef02_Shape.s4 {W0 : World} (Q : Int → Heap → Prop)   : CutOK sg W0 76 (entered 26) (Post sg W0 (palisaderef02_Shape.ret Q)) (posC palisaderef02_Shape.code []) 4 [] (palisaderef02_Shape.k4 (fun  h => palisaderef02_Shape.j4   Q h)) := by
  refine cutOK_head (fun vs h hk => ?_)
  unfold palisaderef02_Shape.k4 at hk
  split at hk
  · skip
    intro todo hm ρ a w s f hp
    exact piece (E := palisaderef02_Shape.E Q []) (vs := []) (envOK seatOK palisaderef02_Shape.callsOK noIfc_ok) (fnOK seatOK palisaderef02_Shape.fun) trivial palisaderef02_Shape.p4 (fuel := 3000) (by rw [← palisaderef02_Shape.e4]; exact hk) hm s f hp
  · exact hk.elim

theorem palisaderef02_Shape.p9 : (posC palisaderef02_Shape.code []).filter (fun p => Nat.beq p.1 9) = [(9, atPos (posC palisaderef02_Shape.code []) 9)] := by kernel_rfl

theorem palisaderef02_Shape.e9 : ∀  (a1 : Int) (Q : Int → Heap → Prop) (h : Heap), palisaderef02_Shape.j9  a1 Q h = pts (palisaderef02_Shape.E Q []) 3000 true (atPos (posC palisaderef02_Shape.code []) 9) (frAt [0] [.int .i64 a1]) h := by
  intros; kernel_rfl

theorem palisaderef02_Shape.s9 {W0 : World} (Q : Int → Heap → Prop)   : CutOK sg W0 76 (entered 26) (Post sg W0 (palisaderef02_Shape.ret Q)) (posC palisaderef02_Shape.code []) 9 [0] (palisaderef02_Shape.k9 (fun a1 h => palisaderef02_Shape.j9  a1 Q h)) := by
  refine cutOK_head (fun vs h hk => ?_)
  unfold palisaderef02_Shape.k9 at hk
  split at hk
  · rename_i a1
    intro todo hm ρ a w s f hp
    exact piece (E := palisaderef02_Shape.E Q []) (vs := [.int .i64 a1]) (envOK seatOK palisaderef02_Shape.callsOK noIfc_ok) (fnOK seatOK palisaderef02_Shape.fun) trivial palisaderef02_Shape.p9 (fuel := 3000) (by rw [← palisaderef02_Shape.e9]; exact hk) hm s f hp
  · exact hk.elim

theorem palisaderef02_Shape.p7 : (posC palisaderef02_Shape.code []).filter (fun p => Nat.beq p.1 7) = [(7, atPos (posC palisaderef02_Shape.code []) 7)] := by kernel_rfl

theorem palisaderef02_Shape.e7 : ∀  (a1 : Int) (Q : Int → Heap → Prop) (h : Heap), palisaderef02_Shape.j7  a1 Q h = pts (palisaderef02_Shape.E Q [(9, ([0], palisaderef02_Shape.k9 (fun a1 h => palisaderef02_Shape.j9  a1 Q h)))]) 3000 true (atPos (posC palisaderef02_Shape.code []) 7) (frAt [0] [.int .i64 a1]) h := by
  intros; kernel_rfl

theorem palisaderef02_Shape.s7 {W0 : World} (Q : Int → Heap → Prop)   : CutOK sg W0 76 (entered 26) (Post sg W0 (palisaderef02_Shape.ret Q)) (posC palisaderef02_Shape.code []) 7 [0] (palisaderef02_Shape.k7 (fun a1 h => palisaderef02_Shape.j7  a1 Q h)) := by
  refine cutOK_head (fun vs h hk => ?_)
  unfold palisaderef02_Shape.k7 at hk
  split at hk
  · rename_i a1
    intro todo hm ρ a w s f hp
    exact piece (E := palisaderef02_Shape.E Q [(9, ([0], palisaderef02_Shape.k9 (fun a1 h => palisaderef02_Shape.j9  a1 Q h)))]) (vs := [.int .i64 a1]) (envOK seatOK palisaderef02_Shape.callsOK noIfc_ok) (fnOK seatOK palisaderef02_Shape.fun) ⟨(palisaderef02_Shape.s9 Q  ), trivial⟩ palisaderef02_Shape.p7 (fuel := 3000) (by rw [← palisaderef02_Shape.e7]; exact hk) hm s f hp
  · exact hk.elim

theorem palisaderef02_Shape.p5 : (posC palisaderef02_Shape.code []).filter (fun p => Nat.beq p.1 5) = [(5, atPos (posC palisaderef02_Shape.code []) 5)] := by kernel_rfl

theorem palisaderef02_Shape.e5 : ∀  (a1 : Int) (Q : Int → Heap → Prop) (h : Heap), palisaderef02_Shape.j5  a1 Q h = pts (palisaderef02_Shape.E Q [(7, ([0], palisaderef02_Shape.k7 (fun a1 h => palisaderef02_Shape.j7  a1 Q h)))]) 3000 true (atPos (posC palisaderef02_Shape.code []) 5) (frAt [0] [.int .i64 a1]) h := by
  intros; kernel_rfl

theorem palisaderef02_Shape.s5 {W0 : World} (Q : Int → Heap → Prop)   : CutOK sg W0 76 (entered 26) (Post sg W0 (palisaderef02_Shape.ret Q)) (posC palisaderef02_Shape.code []) 5 [0] (palisaderef02_Shape.k5 (fun a1 h => palisaderef02_Shape.j5  a1 Q h)) := by
  refine cutOK_head (fun vs h hk => ?_)
  unfold palisaderef02_Shape.k5 at hk
  split at hk
  · rename_i a1
    intro todo hm ρ a w s f hp
    exact piece (E := palisaderef02_Shape.E Q [(7, ([0], palisaderef02_Shape.k7 (fun a1 h => palisaderef02_Shape.j7  a1 Q h)))]) (vs := [.int .i64 a1]) (envOK seatOK palisaderef02_Shape.callsOK noIfc_ok) (fnOK seatOK palisaderef02_Shape.fun) ⟨(palisaderef02_Shape.s7 Q  ), trivial⟩ palisaderef02_Shape.p5 (fuel := 3000) (by rw [← palisaderef02_Shape.e5]; exact hk) hm s f hp
  · exact hk.elim

theorem palisaderef02_Shape.p3 : (posC palisaderef02_Shape.code []).filter (fun p => Nat.beq p.1 3) = [(3, atPos (posC palisaderef02_Shape.code []) 3)] := by kernel_rfl

theorem palisaderef02_Shape.e3 : ∀  (a1 : Int) (Q : Int → Heap → Prop) (h : Heap), palisaderef02_Shape.j3  a1 Q h = pts (palisaderef02_Shape.E Q [(4, ([], palisaderef02_Shape.k4 (fun  h => palisaderef02_Shape.j4   Q h))), (5, ([0], palisaderef02_Shape.k5 (fun a1 h => palisaderef02_Shape.j5  a1 Q h)))]) 3000 true (atPos (posC palisaderef02_Shape.code []) 3) (frAt [0] [.int .i64 a1]) h := by
  intros; kernel_rfl

theorem palisaderef02_Shape.s3 {W0 : World} (Q : Int → Heap → Prop)   : CutOK sg W0 76 (entered 26) (Post sg W0 (palisaderef02_Shape.ret Q)) (posC palisaderef02_Shape.code []) 3 [0] (palisaderef02_Shape.k3 (fun a1 h => palisaderef02_Shape.j3  a1 Q h)) := by
  refine cutOK_head (fun vs h hk => ?_)
  unfold palisaderef02_Shape.k3 at hk
  split at hk
  · rename_i a1
    intro todo hm ρ a w s f hp
    exact piece (E := palisaderef02_Shape.E Q [(4, ([], palisaderef02_Shape.k4 (fun  h => palisaderef02_Shape.j4   Q h))), (5, ([0], palisaderef02_Shape.k5 (fun a1 h => palisaderef02_Shape.j5  a1 Q h)))]) (vs := [.int .i64 a1]) (envOK seatOK palisaderef02_Shape.callsOK noIfc_ok) (fnOK seatOK palisaderef02_Shape.fun) ⟨(palisaderef02_Shape.s4 Q  ), (palisaderef02_Shape.s5 Q  ), trivial⟩ palisaderef02_Shape.p3 (fuel := 3000) (by rw [← palisaderef02_Shape.e3]; exact hk) hm s f hp
  · exact hk.elim

theorem palisaderef02_Shape.e : ∀ (a1 : Int) (Q : Int → Heap → Prop) (h : Heap), palisaderef02_Shape a1 Q h = pts (palisaderef02_Shape.E Q [(3, ([0], palisaderef02_Shape.k3 (fun a1 h => palisaderef02_Shape.j3  a1 Q h)))]) 3000 true [.code palisaderef02_Shape.code] (frOf 0 [.int .i64 a1]) h := by
  intros; kernel_rfl

theorem palisaderef02_Shape.S {W0 : World} : FnS sg W0 222 palisaderef02_Shape.C := by
  intro vs κ h wv hx w s
  unfold palisaderef02_Shape.C at hx
  split at hx
  · rename_i a1
    refine postImp (ret := palisaderef02_Shape.ret (fun r1 h => κ (.int .i64 r1) h)) (fun v h hr => by unfold palisaderef02_Shape.ret at hr; split at hr; exact hr; exact hr.elim) ?_
    exact calls_of_pts (E := palisaderef02_Shape.E (fun r1 h => κ (.int .i64 r1) h) [(3, ([0], palisaderef02_Shape.k3 (fun a1 h => palisaderef02_Shape.j3  a1 (fun r1 h => κ (.int .i64 r1) h) h)))]) (envOK seatOK palisaderef02_Shape.callsOK noIfc_ok) seatOK.mixed palisaderef02_Shape.fun (Nat.le_of_ble_eq_true rfl) wv (cutL_ok ⟨(palisaderef02_Shape.s3 (fun r1 h => κ (.int .i64 r1) h)), trivial⟩) s (fuel := 3000) (by rw [← palisaderef02_Shape.e]; exact hx)
  · exact hx.elim

noncomputable def palisaderef02_reg.code : Code := Go.Proofs.Tryz.f57.body.getD .skip

theorem palisaderef02_reg.fun : Fun sg.P 57 9 [.tmp 2] palisaderef02_reg.code := mkFun Go.Proofs.Tryz.func57 (by kernel_rfl) (by kernel_rfl) (by kernel_rfl) (by kernel_rfl)

def palisaderef02_reg.ret (Q : Bool → Heap → Prop) (v : V) (h : Heap) : Prop :=
  match v with
  | .bool r1 => Q r1 h
  | _ => False

def palisaderef02_reg.C (vs : List V) (κ : V → Heap → Prop) (h : Heap) : Prop :=
  match vs with
  | [.int .i64 a1] => palisaderef02_reg a1 (fun r1 h => κ (.bool r1) h) h
  | _ => False

noncomputable def palisaderef02_reg.calls : List (Nat × (List V → (V → Heap → Prop) → Heap → Prop)) := []

noncomputable def palisaderef02_reg.E (Q : Bool → Heap → Prop) (cuts : List (Nat × (List Nat × (List V → Heap → Prop)))) : Env := { tis := tisT, fns := fnsT, tys := tysT, gls := [], rts := rtsT, unk := [], nxt := [], calls := palisaderef02_reg.calls, ifc := noIfc, cuts := cuts, ret := palisaderef02_reg.ret Q, rets := [.tmp 2], n := 9 }

theorem palisaderef02_reg.callsOK {W0 : World} : CallsOK sg W0 palisaderef02_reg.calls := trivial

theorem palisaderef02_reg.e : ∀ (a1 : Int) (Q : Bool → Heap → Prop) (h : Heap), palisaderef02_reg a1 Q h = pts (palisaderef02_reg.E Q []) 3000 true [.code palisaderef02_reg.code] (frOf 0 [.int .i64 a1]) h := by
  intros; kernel_rfl

theorem palisaderef02_reg.S {W0 : World} : FnS sg W0 223 palisaderef02_reg.C := by
  intro vs κ h wv hx w s
  unfold palisaderef02_reg.C at hx
  split at hx
  · rename_i a1
    refine postImp (ret := palisaderef02_reg.ret (fun r1 h => κ (.bool r1) h)) (fun v h hr => by unfold palisaderef02_reg.ret at hr; split at hr; exact hr; exact hr.elim) ?_
    exact calls_of_pts (E := palisaderef02_reg.E (fun r1 h => κ (.bool r1) h) []) (envOK seatOK palisaderef02_reg.callsOK noIfc_ok) seatOK.mixed palisaderef02_reg.fun (Nat.le_of_ble_eq_true rfl) wv (cutL_ok trivial) s (fuel := 3000) (by rw [← palisaderef02_reg.e]; exact hx)
  · exact hx.elim

noncomputable def palisaderef01_Fits.code : Code := Go.Proofs.Tryz.f80.body.getD .skip

theorem palisaderef01_Fits.fun : Fun sg.P 80 29 [.tmp 4] palisaderef01_Fits.code := mkFun Go.Proofs.Tryz.func80 (by kernel_rfl) (by kernel_rfl) (by kernel_rfl) (by kernel_rfl)

def palisaderef01_Fits.ret (Q : Bool → Heap → Prop) (v : V) (h : Heap) : Prop :=
  match v with
  | .bool r1 => Q r1 h
  | _ => False

def palisaderef01_Fits.C (vs : List V) (κ : V → Heap → Prop) (h : Heap) : Prop :=
  match vs with
  | [.int .i64 a1, .int .i64 a2] => palisaderef01_Fits a1 a2 (fun r1 h => κ (.bool r1) h) h
  | _ => False

noncomputable def palisaderef01_Fits.calls : List (Nat × (List V → (V → Heap → Prop) → Heap → Prop)) := []

noncomputable def palisaderef01_Fits.E (Q : Bool → Heap → Prop) (cuts : List (Nat × (List Nat × (List V → Heap → Prop)))) : Env := { tis := tisT, fns := fnsT, tys := tysT, gls := [], rts := rtsT, unk := [], nxt := [], calls := palisaderef01_Fits.calls, ifc := noIfc, cuts := cuts, ret := palisaderef01_Fits.ret Q, rets := [.tmp 4], n := 29 }

theorem palisaderef01_Fits.callsOK {W0 : World} : CallsOK sg W0 palisaderef01_Fits.calls := trivial

theorem palisaderef01_Fits.e : ∀ (a1 : Int) (a2 : Int) (Q : Bool → Heap → Prop) (h : Heap), palisaderef01_Fits a1 a2 Q h = pts (palisaderef01_Fits.E Q []) 3000 true [.code palisaderef01_Fits.code] (frOf 0 [.int .i64 a1, .int .i64 a2]) h := by
  intros; kernel_rfl

theorem palisaderef01_Fits.S {W0 : World} : FnS sg W0 224 palisaderef01_Fits.C := by
  intro vs κ h wv hx w s
  unfold palisaderef01_Fits.C at hx
  split at hx
  · rename_i a1 a2
    refine postImp (ret := palisaderef01_Fits.ret (fun r1 h => κ (.bool r1) h)) (fun v h hr => by unfold palisaderef01_Fits.ret at hr; split at hr; exact hr; exact hr.elim) ?_
    exact calls_of_pts (E := palisaderef01_Fits.E (fun r1 h => κ (.bool r1) h) []) (envOK seatOK palisaderef01_Fits.callsOK noIfc_ok) seatOK.mixed palisaderef01_Fits.fun (Nat.le_of_ble_eq_true rfl) wv (cutL_ok trivial) s (fuel := 3000) (by rw [← palisaderef01_Fits.e]; exact hx)
  · exact hx.elim

noncomputable def palisaderef02_imm.code : Code := Go.Proofs.Tryz.f58.body.getD .skip

theorem palisaderef02_imm.fun : Fun sg.P 58 45 [.tmp 4] palisaderef02_imm.code := mkFun Go.Proofs.Tryz.func58 (by kernel_rfl) (by kernel_rfl) (by kernel_rfl) (by kernel_rfl)

def palisaderef02_imm.ret (Q : Bool → Heap → Prop) (v : V) (h : Heap) : Prop :=
  match v with
  | .bool r1 => Q r1 h
  | _ => False

def palisaderef02_imm.C (vs : List V) (κ : V → Heap → Prop) (h : Heap) : Prop :=
  match vs with
  | [.int .i64 a1, .int .i64 a2] => palisaderef02_imm a1 a2 (fun r1 h => κ (.bool r1) h) h
  | _ => False

noncomputable def palisaderef02_imm.calls : List (Nat × (List V → (V → Heap → Prop) → Heap → Prop)) := [(222, palisaderef02_Shape.C), (224, palisaderef01_Fits.C)]

noncomputable def palisaderef02_imm.E (Q : Bool → Heap → Prop) (cuts : List (Nat × (List Nat × (List V → Heap → Prop)))) : Env := { tis := tisT, fns := fnsT, tys := tysT, gls := [], rts := rtsT, unk := [], nxt := [], calls := palisaderef02_imm.calls, ifc := noIfc, cuts := cuts, ret := palisaderef02_imm.ret Q, rets := [.tmp 4], n := 45 }

theorem palisaderef02_imm.callsOK {W0 : World} : CallsOK sg W0 palisaderef02_imm.calls := ⟨palisaderef02_Shape.S, palisaderef01_Fits.S, trivial⟩

def palisaderef02_imm.k5 (I : Int → Int → Heap → Prop) (vs : List V) (h : Heap) : Prop :=
  match vs with
  | [.int .i64 a1, .int .i64 a2] => I a1 a2 h
  | _ => False

def palisaderef02_imm.k3 (I : Int → Int → Heap → Prop) (vs : List V) (h : Heap) : Prop :=
  match vs with
  | [.int .i64 a1, .int .i64 a2] => I a1 a2 h
  | _ => False

theorem palisaderef02_imm.p5 : (posC palisaderef02_imm.code []).filter (fun p => Nat.beq p.1 5) = [(5, atPos (posC palisaderef02_imm.code []) 5)] := by kernel_rfl

theorem palisaderef02_imm.e5 : ∀  (a1 : Int) (a2 : Int) (Q : Bool → Heap → Prop) (h : Heap), palisaderef02_imm.j5  a1 a2 Q h = pts (palisaderef02_imm.E Q []) 3000 true (atPos (posC palisaderef02_imm.code []) 5) (frAt [0, 1] [.int .i64 a1, .int .i64 a2]) h := by
  intros; kernel_rfl

theorem palisaderef02_imm.s5 {W0 : World} (Q : Bool → Heap → Prop)   : CutOK sg W0 45 (entered 58) (Post sg W0 (palisaderef02_imm.ret Q)) (posC palisaderef02_imm.code []) 5 [0, 1] (palisaderef02_imm.k5 (fun a1 a2 h => palisaderef02_imm.j5  a1 a2 Q h)) := by
  refine cutOK_head (fun vs h hk => ?_)
  unfold palisaderef02_imm.k5 at hk
  split at hk
  · rename_i a1 a2
    intro todo hm ρ a w s f hp
    exact piece (E := palisaderef02_imm.E Q []) (vs := [.int .i64 a1, .int .i64 a2]) (envOK seatOK palisaderef02_imm.callsOK noIfc_ok) (fnOK seatOK palisaderef02_imm.fun) trivial palisaderef02_imm.p5 (fuel := 3000) (by rw [← palisaderef02_imm.e5]; exact hk) hm s f hp
  · exact hk.elim

theorem palisaderef02_imm.p3 : (posC palisaderef02_imm.code []).filter (fun p => Nat.beq p.1 3) = [(3, atPos (posC palisaderef02_imm.code []) 3)] := by kernel_rfl

theorem palisaderef02_imm.e3 : ∀  (a1 : Int) (a2 : Int) (Q : Bool → Heap → Prop) (h : Heap), palisaderef02_imm.j3  a1 a2 Q h = pts (palisaderef02_imm.E Q [(5, ([0, 1], palisaderef02_imm.k5 (fun a1 a2 h => palisaderef02_imm.j5  a1 a2 Q h)))]) 3000 true (atPos (posC palisaderef02_imm.code []) 3) (frAt [0, 1] [.int .i64 a1, .int .i64 a2]) h := by
  intros; kernel_rfl

theorem palisaderef02_imm.s3 {W0 : World} (Q : Bool → Heap → Prop)   : CutOK sg W0 45 (entered 58) (Post sg W0 (palisaderef02_imm.ret Q)) (posC palisaderef02_imm.code []) 3 [0, 1] (palisaderef02_imm.k3 (fun a1 a2 h => palisaderef02_imm.j3  a1 a2 Q h)) := by
  refine cutOK_head (fun vs h hk => ?_)
  unfold palisaderef02_imm.k3 at hk
  split at hk
  · rename_i a1 a2
    intro todo hm ρ a w s f hp
    exact piece (E := palisaderef02_imm.E Q [(5, ([0, 1], palisaderef02_imm.k5 (fun a1 a2 h => palisaderef02_imm.j5  a1 a2 Q h)))]) (vs := [.int .i64 a1, .int .i64 a2]) (envOK seatOK palisaderef02_imm.callsOK noIfc_ok) (fnOK seatOK palisaderef02_imm.fun) ⟨(palisaderef02_imm.s5 Q  ), trivial⟩ palisaderef02_imm.p3 (fuel := 3000) (by rw [← palisaderef02_imm.e3]; exact hk) hm s f hp
  · exact hk.elim

theorem palisaderef02_imm.e : ∀ (a1 : Int) (a2 : Int) (Q : Bool → Heap → Prop) (h : Heap), palisaderef02_imm a1 a2 Q h = pts (palisaderef02_imm.E Q [(3, ([0, 1], palisaderef02_imm.k3 (fun a1 a2 h => palisaderef02_imm.j3  a1 a2 Q h)))]) 3000 true [.code palisaderef02_imm.code] (frOf 0 [.int .i64 a1, .int .i64 a2]) h := by
  intros; kernel_rfl

theorem palisaderef02_imm.S {W0 : World} : FnS sg W0 225 palisaderef02_imm.C := by
  intro vs κ h wv hx w s
  unfold palisaderef02_imm.C at hx
  split at hx
  · rename_i a1 a2
    refine postImp (ret := palisaderef02_imm.ret (fun r1 h => κ (.bool r1) h)) (fun v h hr => by unfold palisaderef02_imm.ret at hr; split at hr; exact hr; exact hr.elim) ?_
    exact calls_of_pts (E := palisaderef02_imm.E (fun r1 h => κ (.bool r1) h) [(3, ([0, 1], palisaderef02_imm.k3 (fun a1 a2 h => palisaderef02_imm.j3  a1 a2 (fun r1 h => κ (.bool r1) h) h)))]) (envOK seatOK palisaderef02_imm.callsOK noIfc_ok) seatOK.mixed palisaderef02_imm.fun (Nat.le_of_ble_eq_true rfl) wv (cutL_ok ⟨(palisaderef02_imm.s3 (fun r1 h => κ (.bool r1) h)), trivial⟩) s (fuel := 3000) (by rw [← palisaderef02_imm.e]; exact hx)
  · exact hx.elim

noncomputable def palisaderef02_Valid.code : Code := Go.Proofs.Tryz.f24.body.getD .skip

theorem palisaderef02_Valid.fun : Fun sg.P 24 91 [.tmp 2] palisaderef02_Valid.code := mkFun Go.Proofs.Tryz.func24 (by kernel_rfl) (by kernel_rfl) (by kernel_rfl) (by kernel_rfl)

def palisaderef02_Valid.ret (Q : Bool → Heap → Prop) (v : V) (h : Heap) : Prop :=
  match v with
  | .bool r1 => Q r1 h
  | _ => False

def palisaderef02_Valid.C (vs : List V) (κ : V → Heap → Prop) (h : Heap) : Prop :=
  match vs with
  | [.agg [.int .i64 a1, .int .i64 a2, .int .i64 a3, .int .i64 a4, .int .i64 a5]] => palisaderef02_Valid a1 a2 a3 a4 a5 (fun r1 h => κ (.bool r1) h) h
  | _ => False

noncomputable def palisaderef02_Valid.calls : List (Nat × (List V → (V → Heap → Prop) → Heap → Prop)) := [(222, palisaderef02_Shape.C), (223, palisaderef02_reg.C), (225, palisaderef02_imm.C)]

noncomputable def palisaderef02_Valid.E (Q : Bool → Heap → Prop) (cuts : List (Nat × (List Nat × (List V → Heap → Prop)))) : Env := { tis := tisT, fns := fnsT, tys := tysT, gls := [], rts := rtsT, unk := [], nxt := [], calls := palisaderef02_Valid.calls, ifc := noIfc, cuts := cuts, ret := palisaderef02_Valid.ret Q, rets := [.tmp 2], n := 91 }

theorem palisaderef02_Valid.callsOK {W0 : World} : CallsOK sg W0 palisaderef02_Valid.calls := ⟨palisaderef02_Shape.S, palisaderef02_reg.S, palisaderef02_imm.S, trivial⟩

def palisaderef02_Valid.k3 (I : Heap → Prop) (vs : List V) (h : Heap) : Prop :=
  match vs with
  | [] => I  h
  | _ => False

def palisaderef02_Valid.k7 (I : Ptr → Bool → Bool → Bool → Heap → Prop) (vs : List V) (h : Heap) : Prop :=
  match vs with
  | [.ptr (some a1), .bool a2, .bool a3, .bool a4] => I a1 a2 a3 a4 h
  | _ => False

def palisaderef02_Valid.k6 (I : Ptr → Int → Bool → Bool → Heap → Prop) (vs : List V) (h : Heap) : Prop :=
  match vs with
  | [.ptr (some a1), .int .i64 a2, .bool a3, .bool a4] => I a1 a2 a3 a4 h
  | _ => False

def palisaderef02_Valid.k5 (I : Ptr → Int → Bool → Heap → Prop) (vs : List V) (h : Heap) : Prop :=
  match vs with
  | [.ptr (some a1), .int .i64 a2, .bool a3] => I a1 a2 a3 h
  | _ => False

def palisaderef02_Valid.k4 (I : Ptr → Int → Heap → Prop) (vs : List V) (h : Heap) : Prop :=
  match vs with
  | [.ptr (some a1), .int .i64 a2] => I a1 a2 h
  | _ => False

theorem palisaderef02_Valid.p3 : (posC palisaderef02_Valid.code []).filter (fun p => Nat.beq p.1 3) = [(3, atPos (posC palisaderef02_Valid.code []) 3)] := by kernel_rfl

theorem palisaderef02_Valid.e3 : ∀   (Q : Bool → Heap → Prop) (h : Heap), palisaderef02_Valid.j3   Q h = pts (palisaderef02_Valid.E Q []) 3000 true (atPos (posC palisaderef02_Valid.code []) 3) (frAt [] []) h := by
  intros; kernel_rfl

theorem palisaderef02_Valid.s3 {W0 : World} (Q : Bool → Heap → Prop)   : CutOK sg W0 91 (entered 24) (Post sg W0 (palisaderef02_Valid.ret Q)) (posC palisaderef02_Valid.code []) 3 [] (palisaderef02_Valid.k3 (fun  h => palisaderef02_Valid.j3   Q h)) := by
  refine cutOK_head (fun vs h hk => ?_)
  unfold palisaderef02_Valid.k3 at hk
  split at hk
  · skip
    intro todo hm ρ a w s f hp
    exact piece (E := palisaderef02_Valid.E Q []) (vs := []) (envOK seatOK palisaderef02_Valid.callsOK noIfc_ok) (fnOK seatOK palisaderef02_Valid.fun) trivial palisaderef02_Valid.p3 (fuel := 3000) (by rw [← palisaderef02_Valid.e3]; exact hk) hm s f hp
  · exact hk.elim

theorem palisaderef02_Valid.p7 : (posC palisaderef02_Valid.code []).filter (fun p => Nat.beq p.1 7) = [(7, atPos (posC palisaderef02_Valid.code []) 7)] := by kernel_rfl

theorem palisaderef02_Valid.e7 : ∀  (a1 : Ptr) (a2 : Bool) (a3 : Bool) (a4 : Bool) (Q : Bool → Heap → Prop) (h : Heap), palisaderef02_Valid.j7  a1 a2 a3 a4 Q h = pts (palisaderef02_Valid.E Q []) 3000 true (atPos (posC palisaderef02_Valid.code []) 7) (frAt [1, 4, 5, 6] [.ptr (some a1), .bool a2, .bool a3, .bool a4]) h := by
  intros; kernel_rfl

theorem palisaderef02_Valid.s7 {W0 : World} (Q : Bool → Heap → Prop)   : CutOK sg W0 91 (entered 24) (Post sg W0 (palisaderef02_Valid.ret Q)) (posC palisaderef02_Valid.code []) 7 [1, 4, 5, 6] (palisaderef02_Valid.k7 (fun a1 a2 a3 a4 h => palisaderef02_Valid.j7  a1 a2 a3 a4 Q h)) := by
  refine cutOK_head (fun vs h hk => ?_)
  unfold palisaderef02_Valid.k7 at hk
  split at hk
  · rename_i a1 a2 a3 a4
    intro todo hm ρ a w s f hp
    exact piece (E := palisaderef02_Valid.E Q []) (vs := [.ptr (some a1), .bool a2, .bool a3, .bool a4]) (envOK seatOK palisaderef02_Valid.callsOK noIfc_ok) (fnOK seatOK palisaderef02_Valid.fun) trivial palisaderef02_Valid.p7 (fuel := 3000) (by rw [← palisaderef02_Valid.e7]; exact hk) hm s f hp
  · exact hk.elim

theorem palisaderef02_Valid.p6 : (posC palisaderef02_Valid.code []).filter (fun p => Nat.beq p.1 6) = [(6, atPos (posC palisaderef02_Valid.code []) 6)] := by kernel_rfl

theorem palisaderef02_Valid.e6 : ∀  (a1 : Ptr) (a2 : Int) (a3 : Bool) (a4 : Bool) (Q : Bool → Heap → Prop) (h : Heap), palisaderef02_Valid.j6  a1 a2 a3 a4 Q h = pts (palisaderef02_Valid.E Q [(7, ([1, 4, 5, 6], palisaderef02_Valid.k7 (fun a1 a2 a3 a4 h => palisaderef02_Valid.j7  a1 a2 a3 a4 Q h)))]) 3000 true (atPos (posC palisaderef02_Valid.code []) 6) (frAt [1, 3, 4, 5] [.ptr (some a1), .int .i64 a2, .bool a3, .bool a4]) h := by
  intros; kernel_rfl

theorem palisaderef02_Valid.s6 {W0 : World} (Q : Bool → Heap → Prop)   : CutOK sg W0 91 (entered 24) (Post sg W0 (palisaderef02_Valid.ret Q)) (posC palisaderef02_Valid.code []) 6 [1, 3, 4, 5] (palisaderef02_Valid.k6 (fun a1 a2 a3 a4 h => palisaderef02_Valid.j6  a1 a2 a3 a4 Q h)) := by
  refine cutOK_head (fun vs h hk => ?_)
  unfold palisaderef02_Valid.k6 at hk
  split at hk
  · rename_i a1 a2 a3 a4
    intro todo hm ρ a w s f hp
    exact piece (E := palisaderef02_Valid.E Q [(7, ([1, 4, 5, 6], palisaderef02_Valid.k7 (fun a1 a2 a3 a4 h => palisaderef02_Valid.j7  a1 a2 a3 a4 Q h)))]) (vs := [.ptr (some a1), .int .i64 a2, .bool a3, .bool a4]) (envOK seatOK palisaderef02_Valid.callsOK noIfc_ok) (fnOK seatOK palisaderef02_Valid.fun) ⟨(palisaderef02_Valid.s7 Q  ), trivial⟩ palisaderef02_Valid.p6 (fuel := 3000) (by rw [← palisaderef02_Valid.e6]; exact hk) hm s f hp
  · exact hk.elim

theorem palisaderef02_Valid.p5 : (posC palisaderef02_Valid.code []).filter (fun p => Nat.beq p.1 5) = [(5, atPos (posC palisaderef02_Valid.code []) 5)] := by kernel_rfl

theorem palisaderef02_Valid.e5 : ∀  (a1 : Ptr) (a2 : Int) (a3 : Bool) (Q : Bool → Heap → Prop) (h : Heap), palisaderef02_Valid.j5  a1 a2 a3 Q h = pts (palisaderef02_Valid.E Q [(6, ([1, 3, 4, 5], palisaderef02_Valid.k6 (fun a1 a2 a3 a4 h => palisaderef02_Valid.j6  a1 a2 a3 a4 Q h)))]) 3000 true (atPos (posC palisaderef02_Valid.code []) 5) (frAt [1, 3, 4] [.ptr (some a1), .int .i64 a2, .bool a3]) h := by
  intros; kernel_rfl

theorem palisaderef02_Valid.s5 {W0 : World} (Q : Bool → Heap → Prop)   : CutOK sg W0 91 (entered 24) (Post sg W0 (palisaderef02_Valid.ret Q)) (posC palisaderef02_Valid.code []) 5 [1, 3, 4] (palisaderef02_Valid.k5 (fun a1 a2 a3 h => palisaderef02_Valid.j5  a1 a2 a3 Q h)) := by
  refine cutOK_head (fun vs h hk => ?_)
  unfold palisaderef02_Valid.k5 at hk
  split at hk
  · rename_i a1 a2 a3
    intro todo hm ρ a w s f hp
    exact piece (E := palisaderef02_Valid.E Q [(6, ([1, 3, 4, 5], palisaderef02_Valid.k6 (fun a1 a2 a3 a4 h => palisaderef02_Valid.j6  a1 a2 a3 a4 Q h)))]) (vs := [.ptr (some a1), .int .i64 a2, .bool a3]) (envOK seatOK palisaderef02_Valid.callsOK noIfc_ok) (fnOK seatOK palisaderef02_Valid.fun) ⟨(palisaderef02_Valid.s6 Q  ), trivial⟩ palisaderef02_Valid.p5 (fuel := 3000) (by rw [← palisaderef02_Valid.e5]; exact hk) hm s f hp
  · exact hk.elim

theorem palisaderef02_Valid.p4 : (posC palisaderef02_Valid.code []).filter (fun p => Nat.beq p.1 4) = [(4, atPos (posC palisaderef02_Valid.code []) 4)] := by kernel_rfl

theorem palisaderef02_Valid.e4 : ∀  (a1 : Ptr) (a2 : Int) (Q : Bool → Heap → Prop) (h : Heap), palisaderef02_Valid.j4  a1 a2 Q h = pts (palisaderef02_Valid.E Q [(5, ([1, 3, 4], palisaderef02_Valid.k5 (fun a1 a2 a3 h => palisaderef02_Valid.j5  a1 a2 a3 Q h)))]) 3000 true (atPos (posC palisaderef02_Valid.code []) 4) (frAt [1, 3] [.ptr (some a1), .int .i64 a2]) h := by
  intros; kernel_rfl

theorem palisaderef02_Valid.s4 {W0 : World} (Q : Bool → Heap → Prop)   : CutOK sg W0 91 (entered 24) (Post sg W0 (palisaderef02_Valid.ret Q)) (posC palisaderef02_Valid.code []) 4 [1, 3] (palisaderef02_Valid.k4 (fun a1 a2 h => palisaderef02_Valid.j4  a1 a2 Q h)) := by
  refine cutOK_head (fun vs h hk => ?_)
  unfold palisaderef02_Valid.k4 at hk
  split at hk
  · rename_i a1 a2
    intro todo hm ρ a w s f hp
    exact piece (E := palisaderef02_Valid.E Q [(5, ([1, 3, 4], palisaderef02_Valid.k5 (fun a1 a2 a3 h => palisaderef02_Valid.j5  a1 a2 a3 Q h)))]) (vs := [.ptr (some a1), .int .i64 a2]) (envOK seatOK palisaderef02_Valid.callsOK noIfc_ok) (fnOK seatOK palisaderef02_Valid.fun) ⟨(palisaderef02_Valid.s5 Q  ), trivial⟩ palisaderef02_Valid.p4 (fuel := 3000) (by rw [← palisaderef02_Valid.e4]; exact hk) hm s f hp
  · exact hk.elim

theorem palisaderef02_Valid.e : ∀ (a1 : Int) (a2 : Int) (a3 : Int) (a4 : Int) (a5 : Int) (Q : Bool → Heap → Prop) (h : Heap), palisaderef02_Valid a1 a2 a3 a4 a5 Q h = pts (palisaderef02_Valid.E Q [(3, ([], palisaderef02_Valid.k3 (fun  h => palisaderef02_Valid.j3   Q h))), (4, ([1, 3], palisaderef02_Valid.k4 (fun a1 a2 h => palisaderef02_Valid.j4  a1 a2 Q h)))]) 3000 true [.code palisaderef02_Valid.code] (frOf 0 [.agg [.int .i64 a1, .int .i64 a2, .int .i64 a3, .int .i64 a4, .int .i64 a5]]) h := by
  intros; kernel_rfl

theorem palisaderef02_Valid.S {W0 : World} : FnS sg W0 226 palisaderef02_Valid.C := by
  intro vs κ h wv hx w s
  unfold palisaderef02_Valid.C at hx
  split at hx
  · rename_i a1 a2 a3 a4 a5
    refine postImp (ret := palisaderef02_Valid.ret (fun r1 h => κ (.bool r1) h)) (fun v h hr => by unfold palisaderef02_Valid.ret at hr; split at hr; exact hr; exact hr.elim) ?_
    exact calls_of_pts (E := palisaderef02_Valid.E (fun r1 h => κ (.bool r1) h) [(3, ([], palisaderef02_Valid.k3 (fun  h => palisaderef02_Valid.j3   (fun r1 h => κ (.bool r1) h) h))), (4, ([1, 3], palisaderef02_Valid.k4 (fun a1 a2 h => palisaderef02_Valid.j4  a1 a2 (fun r1 h => κ (.bool r1) h) h)))]) (envOK seatOK palisaderef02_Valid.callsOK noIfc_ok) seatOK.mixed palisaderef02_Valid.fun (Nat.le_of_ble_eq_true rfl) wv (cutL_ok ⟨(palisaderef02_Valid.s3 (fun r1 h => κ (.bool r1) h)), (palisaderef02_Valid.s4 (fun r1 h => κ (.bool r1) h)), trivial⟩) s (fuel := 3000) (by rw [← palisaderef02_Valid.e]; exact hx)
  · exact hx.elim

noncomputable def palisaderef01_Place.code : Code := Go.Proofs.Tryz.f25.body.getD .skip

theorem palisaderef01_Place.fun : Fun sg.P 25 55 [.tmp 8] palisaderef01_Place.code := mkFun Go.Proofs.Tryz.func25 (by kernel_rfl) (by kernel_rfl) (by kernel_rfl) (by kernel_rfl)

def palisaderef01_Place.ret (Q : Int → Heap → Prop) (v : V) (h : Heap) : Prop :=
  match v with
  | .int .u32 r1 => Q r1 h
  | _ => False

def palisaderef01_Place.C (vs : List V) (κ : V → Heap → Prop) (h : Heap) : Prop :=
  match vs with
  | [.int .u32 a1, .int .i64 a2, .int .i64 a3, .int .i64 a4] => palisaderef01_Place a1 a2 a3 a4 (fun r1 h => κ (.int .u32 r1) h) h
  | _ => False

noncomputable def palisaderef01_Place.calls : List (Nat × (List V → (V → Heap → Prop) → Heap → Prop)) := []

noncomputable def palisaderef01_Place.E (Q : Int → Heap → Prop) (cuts : List (Nat × (List Nat × (List V → Heap → Prop)))) : Env := { tis := tisT, fns := fnsT, tys := tysT, gls := [], rts := rtsT, unk := [], nxt := [], calls := palisaderef01_Place.calls, ifc := noIfc, cuts := cuts, ret := palisaderef01_Place.ret Q, rets := [.tmp 8], n := 55 }

theorem palisaderef01_Place.callsOK {W0 : World} : CallsOK sg W0 palisaderef01_Place.calls := trivial

def palisaderef01_Place.k2 (I : Int → Heap → Prop) (vs : List V) (h : Heap) : Prop :=
  match vs with
  | [.int .u32 a1] => I a1 h
  | _ => False

def palisaderef01_Place.k5 (I : Int → Int → Int → Int → Int → Heap → Prop) (vs : List V) (h : Heap) : Prop :=
  match vs with
  | [.int .u32 a1, .int .i64 a2, .int .i64 a3, .int .i64 a4, .int .i64 a5] => I a1 a2 a3 a4 a5 h
  | _ => False

def palisaderef01_Place.k4 (I : Int → Int → Int → Int → Int → Heap → Prop) (vs : List V) (h : Heap) : Prop :=
  match vs with
  | [.int .u32 a1, .int .i64 a2, .int .i64 a3, .int .i64 a4, .int .i64 a5] => I a1 a2 a3 a4 a5 h
  | _ => False

theorem palisaderef01_Place.p2 : (posC palisaderef01_Place.code []).filter (fun p => Nat.beq p.1 2) = [(2, atPos (posC palisaderef01_Place.code []) 2)] := by kernel_rfl

theorem palisaderef01_Place.e2 : ∀  (a1 : Int) (Q : Int → Heap → Prop) (h : Heap), palisaderef01_Place.j2  a1 Q h = pts (palisaderef01_Place.E Q []) 3000 true (atPos (posC palisaderef01_Place.code []) 2) (frAt [0] [.int .u32 a1]) h := by
  intros; kernel_rfl

theorem palisaderef01_Place.s2 {W0 : World} (Q : Int → Heap → Prop)   : CutOK sg W0 55 (entered 25) (Post sg W0 (palisaderef01_Place.ret Q)) (posC palisaderef01_Place.code []) 2 [0] (palisaderef01_Place.k2 (fun a1 h => palisaderef01_Place.j2  a1 Q h)) := by
  refine cutOK_head (fun vs h hk => ?_)
  unfold palisaderef01_Place.k2 at hk
  split at hk
  · rename_i a1
    intro todo hm ρ a w s f hp
    exact piece (E := palisaderef01_Place.E Q []) (vs := [.int .u32 a1]) (envOK seatOK palisaderef01_Place.callsOK noIfc_ok) (fnOK seatOK palisaderef01_Place.fun) trivial palisaderef01_Place.p2 (fuel := 3000) (by rw [← palisaderef01_Place.e2]; exact hk) hm s f hp
  · exact hk.elim

theorem palisaderef01_Place.p5 : (posC palisaderef01_Place.code []).filter (fun p => Nat.beq p.1 5) = [(5, atPos (posC palisaderef01_Place.code []) 5)] := by kernel_rfl

theorem palisaderef01_Place.e5 : ∀ (I4 : Int → Int → Int → Int → Int → Heap → Prop) (a1 : Int) (a2 : Int) (a3 : Int) (a4 : Int) (a5 : Int) (Q : Int → Heap → Prop) (h : Heap), palisaderef01_Place.j5 I4 a1 a2 a3 a4 a5 Q h = pts (palisaderef01_Place.E Q [(4, ([0, 1, 2, 3, 9], palisaderef01_Place.k4 I4))]) 3000 true (atPos (posC palisaderef01_Place.code []) 5) (frAt [0, 1, 2, 3, 9] [.int .u32 a1, .int .i64 a2, .int .i64 a3, .int .i64 a4, .int .i64 a5]) h := by
  intros; kernel_rfl

theorem palisaderef01_Place.s5 {W0 : World} (Q : Int → Heap → Prop) (I4 : Int → Int → Int → Int → Int → Heap → Prop) (h4 : CutOK sg W0 55 (entered 25) (Post sg W0 (palisaderef01_Place.ret Q)) (posC palisaderef01_Place.code []) 4 [0, 1, 2, 3, 9] (palisaderef01_Place.k4 I4)) : CutOK sg W0 55 (entered 25) (Post sg W0 (palisaderef01_Place.ret Q)) (posC palisaderef01_Place.code []) 5 [0, 1, 2, 3, 9] (palisaderef01_Place.k5 (fun a1 a2 a3 a4 a5 h => palisaderef01_Place.j5 I4 a1 a2 a3 a4 a5 Q h)) := by
  refine cutOK_head (fun vs h hk => ?_)
  unfold palisaderef01_Place.k5 at hk
  split at hk
  · rename_i a1 a2 a3 a4 a5
    intro todo hm ρ a w s f hp
    exact piece (E := palisaderef01_Place.E Q [(4, ([0, 1, 2, 3, 9], palisaderef01_Place.k4 I4))]) (vs := [.int .u32 a1, .int .i64 a2, .int .i64 a3, .int .i64 a4, .int .i64 a5]) (envOK seatOK palisaderef01_Place.callsOK noIfc_ok) (fnOK seatOK palisaderef01_Place.fun) ⟨h4, trivial⟩ palisaderef01_Place.p5 (fuel := 3000) (by rw [← palisaderef01_Place.e5]; exact hk) hm s f hp
  · exact hk.elim

theorem palisaderef01_Place.p4 : (posC palisaderef01_Place.code []).filter (fun p => Nat.beq p.1 4) = [(4, atPos (posC palisaderef01_Place.code []) 4)] := by kernel_rfl

theorem palisaderef01_Place.e4 : ∀  (I4 : Int → Int → Int → Int → Int → Heap → Prop) (a1 : Int) (a2 : Int) (a3 : Int) (a4 : Int) (a5 : Int) (Q : Int → Heap → Prop) (h : Heap), palisaderef01_Place.b4  I4 a1 a2 a3 a4 a5 Q h = pts (palisaderef01_Place.E Q [(5, ([0, 1, 2, 3, 9], palisaderef01_Place.k5 (fun a1 a2 a3 a4 a5 h => palisaderef01_Place.j5 I4 a1 a2 a3 a4 a5 Q h)))]) 3000 true (atPos (posC palisaderef01_Place.code []) 4) (frAt [0, 1, 2, 3, 9] [.int .u32 a1, .int .i64 a2, .int .i64 a3, .int .i64 a4, .int .i64 a5]) h := by
  intros; kernel_rfl

theorem palisaderef01_Place.s4 {W0 : World} (Q : Int → Heap → Prop)   : CutOK sg W0 55 (entered 25) (Post sg W0 (palisaderef01_Place.ret Q)) (posC palisaderef01_Place.code []) 4 [0, 1, 2, 3, 9] (palisaderef01_Place.k4 (fun a1 a2 a3 a4 a5 h => palisaderef01_Place.j4  a1 a2 a3 a4 a5 Q h)) := by
  refine cutOK_head (fun vs h hk => ?_)
  unfold palisaderef01_Place.k4 at hk
  split at hk
  · rename_i a1 a2 a3 a4 a5
    refine hk (fun a1 a2 a3 a4 a5 h => Head sg W0 55 (entered 25) (Post sg W0 (palisaderef01_Place.ret Q)) (posC palisaderef01_Place.code []) 4 [0, 1, 2, 3, 9] [.int .u32 a1, .int .i64 a2, .int .i64 a3, .int .i64 a4, .int .i64 a5] h) ?_
    intro a1 a2 a3 a4 a5 h hb todo hm ρ a w s f hp
    have hself : CutOK sg W0 55 (entered 25) (Post sg W0 (palisaderef01_Place.ret Q)) (posC palisaderef01_Place.code []) 4 [0, 1, 2, 3, 9] (palisaderef01_Place.k4 (fun a1 a2 a3 a4 a5 h => Head sg W0 55 (entered 25) (Post sg W0 (palisaderef01_Place.ret Q)) (posC palisaderef01_Place.code []) 4 [0, 1, 2, 3, 9] [.int .u32 a1, .int .i64 a2, .int .i64 a3, .int .i64 a4, .int .i64 a5] h)) := cutOK_head (fun vs h hk => by unfold palisaderef01_Place.k4 at hk; split at hk; exact hk; exact hk.elim)
    exact piece (E := palisaderef01_Place.E Q [(5, ([0, 1, 2, 3, 9], palisaderef01_Place.k5 (fun a1 a2 a3 a4 a5 h => palisaderef01_Place.j5 (fun a1 a2 a3 a4 a5 h => Head sg W0 55 (entered 25) (Post sg W0 (palisaderef01_Place.ret Q)) (posC palisaderef01_Place.code []) 4 [0, 1, 2, 3, 9] [.int .u32 a1, .int .i64 a2, .int .i64 a3, .int .i64 a4, .int .i64 a5] h) a1 a2 a3 a4 a5 Q h)))]) (vs := [.int .u32 a1, .int .i64 a2, .int .i64 a3, .int .i64 a4, .int .i64 a5]) (envOK seatOK palisaderef01_Place.callsOK noIfc_ok) (fnOK seatOK palisaderef01_Place.fun) ⟨(palisaderef01_Place.s5 Q (fun a1 a2 a3 a4 a5 h => Head sg W0 55 (entered 25) (Post sg W0 (palisaderef01_Place.ret Q)) (posC palisaderef01_Place.code []) 4 [0, 1, 2, 3, 9] [.int .u32 a1, .int .i64 a2, .int .i64 a3, .int .i64 a4, .int .i64 a5] h) hself), trivial⟩ palisaderef01_Place.p4 (fuel := 3000) (by rw [← palisaderef01_Place.e4]; exact hb) hm s f hp
  · exact hk.elim

theorem palisaderef01_Place.e : ∀ (a1 : Int) (a2 : Int) (a3 : Int) (a4 : Int) (Q : Int → Heap → Prop) (h : Heap), palisaderef01_Place a1 a2 a3 a4 Q h = pts (palisaderef01_Place.E Q [(2, ([0], palisaderef01_Place.k2 (fun a1 h => palisaderef01_Place.j2  a1 Q h))), (4, ([0, 1, 2, 3, 9], palisaderef01_Place.k4 (fun a1 a2 a3 a4 a5 h => palisaderef01_Place.j4  a1 a2 a3 a4 a5 Q h)))]) 3000 true [.code palisaderef01_Place.code] (frOf 0 [.int .u32 a1, .int .i64 a2, .int .i64 a3, .int .i64 a4]) h := by
  intros; kernel_rfl

theorem palisaderef01_Place.S {W0 : World} : FnS sg W0 227 palisaderef01_Place.C := by
  intro vs κ h wv hx w s
  unfold palisaderef01_Place.C at hx
  split at hx
  · rename_i a1 a2 a3 a4
    refine postImp (ret := palisaderef01_Place.ret (fun r1 h => κ (.int .u32 r1) h)) (fun v h hr => by unfold palisaderef01_Place.ret at hr; split at hr; exact hr; exact hr.elim) ?_
    exact calls_of_pts (E := palisaderef01_Place.E (fun r1 h => κ (.int .u32 r1) h) [(2, ([0], palisaderef01_Place.k2 (fun a1 h => palisaderef01_Place.j2  a1 (fun r1 h => κ (.int .u32 r1) h) h))), (4, ([0, 1, 2, 3, 9], palisaderef01_Place.k4 (fun a1 a2 a3 a4 a5 h => palisaderef01_Place.j4  a1 a2 a3 a4 a5 (fun r1 h => κ (.int .u32 r1) h) h)))]) (envOK seatOK palisaderef01_Place.callsOK noIfc_ok) seatOK.mixed palisaderef01_Place.fun (Nat.le_of_ble_eq_true rfl) wv (cutL_ok ⟨(palisaderef01_Place.s2 (fun r1 h => κ (.int .u32 r1) h)), (palisaderef01_Place.s4 (fun r1 h => κ (.int .u32 r1) h)), trivial⟩) s (fuel := 3000) (by rw [← palisaderef01_Place.e]; exact hx)
  · exact hx.elim

end Go.Fn
