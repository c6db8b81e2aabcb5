/- The links of the shallow functions to the machine. PRINTED by lift.py. -/
import Derived.Test.YtgigbjieppllgaaDoorGa
import Derived.Test.YtgigbjieppllgaaDoorLay
set_option linter.unusedVariables false
set_option maxRecDepth 100000
namespace Go.Fn
open Go.Lift

noncomputable def word_within_int.code : Code := Go.Proofs.Tryd.f33.body.getD .skip

theorem word_within_int.fun : Fun sg.P 33 15 [.tmp 6] word_within_int.code := mkFun Go.Proofs.Tryd.func33 (by kernel_rfl) (by kernel_rfl) (by kernel_rfl) (by kernel_rfl)

def word_within_int.ret (Q : Bool → Heap → Prop) (v : V) (h : Heap) : Prop :=
  match v with
  | .bool r1 => Q r1 h
  | _ => False

def word_within_int.C (vs : List V) (κ : V → Heap → Prop) (h : Heap) : Prop :=
  match vs with
  | [.int .i64 a1, .int .i64 a2, .int .i64 a3] => word_within_int a1 a2 a3 (fun r1 h => κ (.bool r1) h) h
  | _ => False

noncomputable def word_within_int.calls : List (Nat × (List V → (V → Heap → Prop) → Heap → Prop)) := []

noncomputable def word_within_int.E (Q : Bool → Heap → Prop) (cuts : List (Nat × (List Nat × (List V → Heap → Prop)))) : Env := { tis := tisT, fns := fnsT, tys := tysT, gls := [], rts := rtsT, unk := [], nxt := [], calls := word_within_int.calls, ifc := noIfc, cuts := cuts, ret := word_within_int.ret Q, rets := [.tmp 6], n := 15 }

theorem word_within_int.callsOK {W0 : World} : CallsOK sg W0 word_within_int.calls := trivial

theorem word_within_int.e : ∀ (a1 : Int) (a2 : Int) (a3 : Int) (Q : Bool → Heap → Prop) (h : Heap), word_within_int a1 a2 a3 Q h = pts (word_within_int.E Q []) 3000 true [.code word_within_int.code] (frOf 0 [.int .i64 a1, .int .i64 a2, .int .i64 a3]) h := by
  intros; kernel_rfl

theorem word_within_int.S {W0 : World} : FnS sg W0 169 word_within_int.C := by
  intro vs κ h wv hx w s
  unfold word_within_int.C at hx
  split at hx
  · rename_i a1 a2 a3
    refine postImp (ret := word_within_int.ret (fun r1 h => κ (.bool r1) h)) (fun v h hr => by unfold word_within_int.ret at hr; split at hr; exact hr; exact hr.elim) ?_
    exact calls_of_pts (E := word_within_int.E (fun r1 h => κ (.bool r1) h) []) (envOK seatOK word_within_int.callsOK noIfc_ok) seatOK.mixed word_within_int.fun (Nat.le_of_ble_eq_true rfl) wv (cutL_ok trivial) s (fuel := 3000) (by rw [← word_within_int.e]; exact hx)
  · exact hx.elim

noncomputable def word_lies.code : Code := Go.Proofs.Tryd.f30.body.getD .skip

theorem word_lies.fun : Fun sg.P 30 17 [.tmp 4] word_lies.code := mkFun Go.Proofs.Tryd.func30 (by kernel_rfl) (by kernel_rfl) (by kernel_rfl) (by kernel_rfl)

def word_lies.ret (Q : Bool → Heap → Prop) (v : V) (h : Heap) : Prop :=
  match v with
  | .bool r1 => Q r1 h
  | _ => False

def word_lies.C (vs : List V) (κ : V → Heap → Prop) (h : Heap) : Prop :=
  match vs with
  | [.int .i64 a1, .int .i64 a2] => word_lies a1 a2 (fun r1 h => κ (.bool r1) h) h
  | _ => False

noncomputable def word_lies.calls : List (Nat × (List V → (V → Heap → Prop) → Heap → Prop)) := [(169, word_within_int.C)]

noncomputable def word_lies.E (Q : Bool → Heap → Prop) (cuts : List (Nat × (List Nat × (List V → Heap → Prop)))) : Env := { tis := tisT, fns := fnsT, tys := tysT, gls := [], rts := rtsT, unk := [], nxt := [], calls := word_lies.calls, ifc := noIfc, cuts := cuts, ret := word_lies.ret Q, rets := [.tmp 4], n := 17 }

theorem word_lies.callsOK {W0 : World} : CallsOK sg W0 word_lies.calls := ⟨word_within_int.S, trivial⟩

theorem word_lies.e : ∀ (a1 : Int) (a2 : Int) (Q : Bool → Heap → Prop) (h : Heap), word_lies a1 a2 Q h = pts (word_lies.E Q []) 3000 true [.code word_lies.code] (frOf 0 [.int .i64 a1, .int .i64 a2]) h := by
  intros; kernel_rfl

theorem word_lies.S {W0 : World} : FnS sg W0 170 word_lies.C := by
  intro vs κ h wv hx w s
  unfold word_lies.C at hx
  split at hx
  · rename_i a1 a2
    refine postImp (ret := word_lies.ret (fun r1 h => κ (.bool r1) h)) (fun v h hr => by unfold word_lies.ret at hr; split at hr; exact hr; exact hr.elim) ?_
    exact calls_of_pts (E := word_lies.E (fun r1 h => κ (.bool r1) h) []) (envOK seatOK word_lies.callsOK noIfc_ok) seatOK.mixed word_lies.fun (Nat.le_of_ble_eq_true rfl) wv (cutL_ok trivial) s (fuel := 3000) (by rw [← word_lies.e]; exact hx)
  · exact hx.elim

noncomputable def word_mask.code : Code := Go.Proofs.Tryd.f31.body.getD .skip

theorem word_mask.fun : Fun sg.P 31 6 [.tmp 2] word_mask.code := mkFun Go.Proofs.Tryd.func31 (by kernel_rfl) (by kernel_rfl) (by kernel_rfl) (by kernel_rfl)

def word_mask.ret (Q : Int → Heap → Prop) (v : V) (h : Heap) : Prop :=
  match v with
  | .int .u64 r1 => Q r1 h
  | _ => False

def word_mask.C (vs : List V) (κ : V → Heap → Prop) (h : Heap) : Prop :=
  match vs with
  | [.int .i64 a1] => word_mask a1 (fun r1 h => κ (.int .u64 r1) h) h
  | _ => False

noncomputable def word_mask.calls : List (Nat × (List V → (V → Heap → Prop) → Heap → Prop)) := []

noncomputable def word_mask.E (Q : Int → Heap → Prop) (cuts : List (Nat × (List Nat × (List V → Heap → Prop)))) : Env := { tis := tisT, fns := fnsT, tys := tysT, gls := [], rts := rtsT, unk := [], nxt := [], calls := word_mask.calls, ifc := noIfc, cuts := cuts, ret := word_mask.ret Q, rets := [.tmp 2], n := 6 }

theorem word_mask.callsOK {W0 : World} : CallsOK sg W0 word_mask.calls := trivial

theorem word_mask.e : ∀ (a1 : Int) (Q : Int → Heap → Prop) (h : Heap), word_mask a1 Q h = pts (word_mask.E Q []) 3000 true [.code word_mask.code] (frOf 0 [.int .i64 a1]) h := by
  intros; kernel_rfl

theorem word_mask.S {W0 : World} : FnS sg W0 171 word_mask.C := by
  intro vs κ h wv hx w s
  unfold word_mask.C at hx
  split at hx
  · rename_i a1
    refine postImp (ret := word_mask.ret (fun r1 h => κ (.int .u64 r1) h)) (fun v h hr => by unfold word_mask.ret at hr; split at hr; exact hr; exact hr.elim) ?_
    exact calls_of_pts (E := word_mask.E (fun r1 h => κ (.int .u64 r1) h) []) (envOK seatOK word_mask.callsOK noIfc_ok) seatOK.mixed word_mask.fun (Nat.le_of_ble_eq_true rfl) wv (cutL_ok trivial) s (fuel := 3000) (by rw [← word_mask.e]; exact hx)
  · exact hx.elim

noncomputable def word_Field.code : Code := Go.Proofs.Tryd.f16.body.getD .skip

theorem word_Field.fun : Fun sg.P 16 19 [.tmp 6] word_Field.code := mkFun Go.Proofs.Tryd.func16 (by kernel_rfl) (by kernel_rfl) (by kernel_rfl) (by kernel_rfl)

def word_Field.ret (Q : Int → Heap → Prop) (v : V) (h : Heap) : Prop :=
  match v with
  | .int .i64 r1 => Q r1 h
  | _ => False

def word_Field.C (vs : List V) (κ : V → Heap → Prop) (h : Heap) : Prop :=
  match vs with
  | [.int .u32 a1, .int .i64 a2, .int .i64 a3] => word_Field a1 a2 a3 (fun r1 h => κ (.int .i64 r1) h) h
  | _ => False

noncomputable def word_Field.calls : List (Nat × (List V → (V → Heap → Prop) → Heap → Prop)) := [(170, word_lies.C), (171, word_mask.C)]

noncomputable def word_Field.E (Q : Int → Heap → Prop) (cuts : List (Nat × (List Nat × (List V → Heap → Prop)))) : Env := { tis := tisT, fns := fnsT, tys := tysT, gls := [], rts := rtsT, unk := [], nxt := [], calls := word_Field.calls, ifc := noIfc, cuts := cuts, ret := word_Field.ret Q, rets := [.tmp 6], n := 19 }

theorem word_Field.callsOK {W0 : World} : CallsOK sg W0 word_Field.calls := ⟨word_lies.S, word_mask.S, trivial⟩

theorem word_Field.e : ∀ (a1 : Int) (a2 : Int) (a3 : Int) (Q : Int → Heap → Prop) (h : Heap), word_Field a1 a2 a3 Q h = pts (word_Field.E Q []) 3000 true [.code word_Field.code] (frOf 0 [.int .u32 a1, .int .i64 a2, .int .i64 a3]) h := by
  intros; kernel_rfl

theorem word_Field.S {W0 : World} : FnS sg W0 172 word_Field.C := by
  intro vs κ h wv hx w s
  unfold word_Field.C at hx
  split at hx
  · rename_i a1 a2 a3
    refine postImp (ret := word_Field.ret (fun r1 h => κ (.int .i64 r1) h)) (fun v h hr => by unfold word_Field.ret at hr; split at hr; exact hr; exact hr.elim) ?_
    exact calls_of_pts (E := word_Field.E (fun r1 h => κ (.int .i64 r1) h) []) (envOK seatOK word_Field.callsOK noIfc_ok) seatOK.mixed word_Field.fun (Nat.le_of_ble_eq_true rfl) wv (cutL_ok trivial) s (fuel := 3000) (by rw [← word_Field.e]; exact hx)
  · exact hx.elim

noncomputable def insn_table_int_int_fill.code : Code := Go.Proofs.Tryd.f43.body.getD .skip

theorem insn_table_int_int_fill.fun : Fun sg.P 43 18 [] insn_table_int_int_fill.code := mkFun Go.Proofs.Tryd.func43 (by kernel_rfl) (by kernel_rfl) (by kernel_rfl) (by kernel_rfl)

def insn_table_int_int_fill.ret (Q : Heap → Prop) (v : V) (h : Heap) : Prop :=
  match v with
  | .tup [] => Q  h
  | _ => False

def insn_table_int_int_fill.C (vs : List V) (κ : V → Heap → Prop) (h : Heap) : Prop :=
  match vs with
  | [.map a1, .int .i64 a2, .sl a3] => insn_table_int_int_fill a1 a2 a3 (fun  h => κ (.tup []) h) h
  | _ => False

noncomputable def insn_table_int_int_fill.calls : List (Nat × (List V → (V → Heap → Prop) → Heap → Prop)) := []

noncomputable def insn_table_int_int_fill.E (Q : Heap → Prop) (cuts : List (Nat × (List Nat × (List V → Heap → Prop)))) : Env := { tis := tisT, fns := fnsT, tys := tysT, gls := [], rts := rtsT, unk := [], nxt := [], calls := insn_table_int_int_fill.calls, ifc := noIfc, cuts := cuts, ret := insn_table_int_int_fill.ret Q, rets := [], n := 18 }

theorem insn_table_int_int_fill.callsOK {W0 : World} : CallsOK sg W0 insn_table_int_int_fill.calls := trivial

def insn_table_int_int_fill.k1 (I : (Option Nat) → Int → Sl → Int → Int → Heap → Prop) (vs : List V) (h : Heap) : Prop :=
  match vs with
  | [.map a1, .int .i64 a2, .sl a3, .int .i64 a4, .int .i64 a5] => I a1 a2 a3 a4 a5 h
  | _ => False

theorem insn_table_int_int_fill.p1 : (posC insn_table_int_int_fill.code []).filter (fun p => Nat.beq p.1 1) = [(1, atPos (posC insn_table_int_int_fill.code []) 1)] := by kernel_rfl

theorem insn_table_int_int_fill.e1 : ∀  (I1 : (Option Nat) → Int → Sl → Int → Int → Heap → Prop) (a1 : Option Nat) (a2 : Int) (a3 : Sl) (a4 : Int) (a5 : Int) (Q : Heap → Prop) (h : Heap), insn_table_int_int_fill.b1  I1 a1 a2 a3 a4 a5 Q h = pts (insn_table_int_int_fill.E Q [(1, ([0, 1, 8, 9, 10], insn_table_int_int_fill.k1 I1))]) 3000 true (atPos (posC insn_table_int_int_fill.code []) 1) (frAt [0, 1, 8, 9, 10] [.map a1, .int .i64 a2, .sl a3, .int .i64 a4, .int .i64 a5]) h := by
  intros; kernel_rfl

theorem insn_table_int_int_fill.s1 {W0 : World} (Q : Heap → Prop)   : CutOK sg W0 18 (entered 43) (Post sg W0 (insn_table_int_int_fill.ret Q)) (posC insn_table_int_int_fill.code []) 1 [0, 1, 8, 9, 10] (insn_table_int_int_fill.k1 (fun a1 a2 a3 a4 a5 h => insn_table_int_int_fill.j1  a1 a2 a3 a4 a5 Q h)) := by
  refine cutOK_head (fun vs h hk => ?_)
  unfold insn_table_int_int_fill.k1 at hk
  split at hk
  · rename_i a1 a2 a3 a4 a5
    refine hk (fun a1 a2 a3 a4 a5 h => Head sg W0 18 (entered 43) (Post sg W0 (insn_table_int_int_fill.ret Q)) (posC insn_table_int_int_fill.code []) 1 [0, 1, 8, 9, 10] [.map a1, .int .i64 a2, .sl a3, .int .i64 a4, .int .i64 a5] h) ?_
    intro a1 a2 a3 a4 a5 h hb todo hm ρ a w s f hp
    have hself : CutOK sg W0 18 (entered 43) (Post sg W0 (insn_table_int_int_fill.ret Q)) (posC insn_table_int_int_fill.code []) 1 [0, 1, 8, 9, 10] (insn_table_int_int_fill.k1 (fun a1 a2 a3 a4 a5 h => Head sg W0 18 (entered 43) (Post sg W0 (insn_table_int_int_fill.ret Q)) (posC insn_table_int_int_fill.code []) 1 [0, 1, 8, 9, 10] [.map a1, .int .i64 a2, .sl a3, .int .i64 a4, .int .i64 a5] h)) := cutOK_head (fun vs h hk => by unfold insn_table_int_int_fill.k1 at hk; split at hk; exact hk; exact hk.elim)
    exact piece (E := insn_table_int_int_fill.E Q [(1, ([0, 1, 8, 9, 10], insn_table_int_int_fill.k1 (fun a1 a2 a3 a4 a5 h => Head sg W0 18 (entered 43) (Post sg W0 (insn_table_int_int_fill.ret Q)) (posC insn_table_int_int_fill.code []) 1 [0, 1, 8, 9, 10] [.map a1, .int .i64 a2, .sl a3, .int .i64 a4, .int .i64 a5] h)))]) (vs := [.map a1, .int .i64 a2, .sl a3, .int .i64 a4, .int .i64 a5]) (envOK seatOK insn_table_int_int_fill.callsOK noIfc_ok) (fnOK seatOK insn_table_int_int_fill.fun) ⟨hself, trivial⟩ insn_table_int_int_fill.p1 (fuel := 3000) (by rw [← insn_table_int_int_fill.e1]; exact hb) hm s f hp
  · exact hk.elim

theorem insn_table_int_int_fill.e : ∀ (a1 : Option Nat) (a2 : Int) (a3 : Sl) (Q : Heap → Prop) (h : Heap), insn_table_int_int_fill a1 a2 a3 Q h = pts (insn_table_int_int_fill.E Q [(1, ([0, 1, 8, 9, 10], insn_table_int_int_fill.k1 (fun a1 a2 a3 a4 a5 h => insn_table_int_int_fill.j1  a1 a2 a3 a4 a5 Q h)))]) 3000 true [.code insn_table_int_int_fill.code] (frOf 0 [.map a1, .int .i64 a2, .sl a3]) h := by
  intros; kernel_rfl

theorem insn_table_int_int_fill.S {W0 : World} : FnS sg W0 173 insn_table_int_int_fill.C := by
  intro vs κ h wv hx w s
  unfold insn_table_int_int_fill.C at hx
  split at hx
  · rename_i a1 a2 a3
    refine postImp (ret := insn_table_int_int_fill.ret (fun  h => κ (.tup []) h)) (fun v h hr => by unfold insn_table_int_int_fill.ret at hr; split at hr; exact hr; exact hr.elim) ?_
    exact calls_of_pts (E := insn_table_int_int_fill.E (fun  h => κ (.tup []) h) [(1, ([0, 1, 8, 9, 10], insn_table_int_int_fill.k1 (fun a1 a2 a3 a4 a5 h => insn_table_int_int_fill.j1  a1 a2 a3 a4 a5 (fun  h => κ (.tup []) h) h)))]) (envOK seatOK insn_table_int_int_fill.callsOK noIfc_ok) seatOK.mixed insn_table_int_int_fill.fun (Nat.le_of_ble_eq_true rfl) wv (cutL_ok ⟨(insn_table_int_int_fill.s1 (fun  h => κ (.tup []) h)), trivial⟩) s (fuel := 3000) (by rw [← insn_table_int_int_fill.e]; exact hx)
  · exact hx.elim

noncomputable def insn_shapes.code : Code := Go.Proofs.Tryd.f32.body.getD .skip

theorem insn_shapes.fun : Fun sg.P 32 23 [.tmp 0] insn_shapes.code := mkFun Go.Proofs.Tryd.func32 (by kernel_rfl) (by kernel_rfl) (by kernel_rfl) (by kernel_rfl)

def insn_shapes.ret (Q : (Option Nat) → Heap → Prop) (v : V) (h : Heap) : Prop :=
  match v with
  | .map r1 => Q r1 h
  | _ => False

def insn_shapes.C (vs : List V) (κ : V → Heap → Prop) (h : Heap) : Prop :=
  match vs with
  | [] => insn_shapes  (fun r1 h => κ (.map r1) h) h
  | _ => False

noncomputable def insn_shapes.calls : List (Nat × (List V → (V → Heap → Prop) → Heap → Prop)) := [(173, insn_table_int_int_fill.C)]

noncomputable def insn_shapes.E (Q : (Option Nat) → Heap → Prop) (cuts : List (Nat × (List Nat × (List V → Heap → Prop)))) : Env := { tis := tisT, fns := fnsT, tys := tysT, gls := [], rts := rtsT, unk := [], nxt := [], calls := insn_shapes.calls, ifc := noIfc, cuts := cuts, ret := insn_shapes.ret Q, rets := [.tmp 0], n := 23 }

theorem insn_shapes.callsOK {W0 : World} : CallsOK sg W0 insn_shapes.calls := ⟨insn_table_int_int_fill.S, trivial⟩

theorem insn_shapes.e : ∀  (Q : (Option Nat) → Heap → Prop) (h : Heap), insn_shapes  Q h = pts (insn_shapes.E Q []) 3000 true [.code insn_shapes.code] (frOf 0 []) h := by
  intros; kernel_rfl

theorem insn_shapes.S {W0 : World} : FnS sg W0 174 insn_shapes.C := by
  intro vs κ h wv hx w s
  unfold insn_shapes.C at hx
  split at hx
  · skip
    refine postImp (ret := insn_shapes.ret (fun r1 h => κ (.map r1) h)) (fun v h hr => by unfold insn_shapes.ret at hr; split at hr; exact hr; exact hr.elim) ?_
    exact calls_of_pts (E := insn_shapes.E (fun r1 h => κ (.map r1) h) []) (envOK seatOK insn_shapes.callsOK noIfc_ok) seatOK.mixed insn_shapes.fun (Nat.le_of_ble_eq_true rfl) wv (cutL_ok trivial) s (fuel := 3000) (by rw [← insn_shapes.e]; exact hx)
  · exact hx.elim

noncomputable def insn_Shape.code : Code := Go.Proofs.Tryd.f17.body.getD .skip

theorem insn_Shape.fun : Fun sg.P 17 14 [.tmp 2, .tmp 3] insn_Shape.code := mkFun Go.Proofs.Tryd.func17 (by kernel_rfl) (by kernel_rfl) (by kernel_rfl) (by kernel_rfl)

def insn_Shape.ret (Q : Int → Bool → Heap → Prop) (v : V) (h : Heap) : Prop :=
  match v with
  | .tup [.int .i64 r1, .bool r2] => Q r1 r2 h
  | _ => False

def insn_Shape.C (vs : List V) (κ : V → Heap → Prop) (h : Heap) : Prop :=
  match vs with
  | [.int .i64 a1] => insn_Shape a1 (fun r1 r2 h => κ (.tup [.int .i64 r1, .bool r2]) h) h
  | _ => False

noncomputable def insn_Shape.calls : List (Nat × (List V → (V → Heap → Prop) → Heap → Prop)) := [(174, insn_shapes.C)]

noncomputable def insn_Shape.E (Q : Int → Bool → Heap → Prop) (cuts : List (Nat × (List Nat × (List V → Heap → Prop)))) : Env := { tis := tisT, fns := fnsT, tys := tysT, gls := [], rts := rtsT, unk := [], nxt := [], calls := insn_Shape.calls, ifc := noIfc, cuts := cuts, ret := insn_Shape.ret Q, rets := [.tmp 2, .tmp 3], n := 14 }

theorem insn_Shape.callsOK {W0 : World} : CallsOK sg W0 insn_Shape.calls := ⟨insn_shapes.S, trivial⟩

theorem insn_Shape.e : ∀ (a1 : Int) (Q : Int → Bool → Heap → Prop) (h : Heap), insn_Shape a1 Q h = pts (insn_Shape.E Q []) 3000 true [.code insn_Shape.code] (frOf 0 [.int .i64 a1]) h := by
  intros; kernel_rfl

theorem insn_Shape.S {W0 : World} : FnS sg W0 175 insn_Shape.C := by
  intro vs κ h wv hx w s
  unfold insn_Shape.C at hx
  split at hx
  · rename_i a1
    refine postImp (ret := insn_Shape.ret (fun r1 r2 h => κ (.tup [.int .i64 r1, .bool r2]) h)) (fun v h hr => by unfold insn_Shape.ret at hr; split at hr; exact hr; exact hr.elim) ?_
    exact calls_of_pts (E := insn_Shape.E (fun r1 r2 h => κ (.tup [.int .i64 r1, .bool r2]) h) []) (envOK seatOK insn_Shape.callsOK noIfc_ok) seatOK.mixed insn_Shape.fun (Nat.le_of_ble_eq_true rfl) wv (cutL_ok trivial) s (fuel := 3000) (by rw [← insn_Shape.e]; exact hx)
  · exact hx.elim

noncomputable def word_Sign.code : Code := Go.Proofs.Tryd.f18.body.getD .skip

theorem word_Sign.fun : Fun sg.P 18 15 [.tmp 4] word_Sign.code := mkFun Go.Proofs.Tryd.func18 (by kernel_rfl) (by kernel_rfl) (by kernel_rfl) (by kernel_rfl)

def word_Sign.ret (Q : Int → Heap → Prop) (v : V) (h : Heap) : Prop :=
  match v with
  | .int .i64 r1 => Q r1 h
  | _ => False

def word_Sign.C (vs : List V) (κ : V → Heap → Prop) (h : Heap) : Prop :=
  match vs with
  | [.int .i64 a1, .int .i64 a2] => word_Sign a1 a2 (fun r1 h => κ (.int .i64 r1) h) h
  | _ => False

noncomputable def word_Sign.calls : List (Nat × (List V → (V → Heap → Prop) → Heap → Prop)) := [(169, word_within_int.C)]

noncomputable def word_Sign.E (Q : Int → Heap → Prop) (cuts : List (Nat × (List Nat × (List V → Heap → Prop)))) : Env := { tis := tisT, fns := fnsT, tys := tysT, gls := [], rts := rtsT, unk := [], nxt := [], calls := word_Sign.calls, ifc := noIfc, cuts := cuts, ret := word_Sign.ret Q, rets := [.tmp 4], n := 15 }

theorem word_Sign.callsOK {W0 : World} : CallsOK sg W0 word_Sign.calls := ⟨word_within_int.S, trivial⟩

theorem word_Sign.e : ∀ (a1 : Int) (a2 : Int) (Q : Int → Heap → Prop) (h : Heap), word_Sign a1 a2 Q h = pts (word_Sign.E Q []) 3000 true [.code word_Sign.code] (frOf 0 [.int .i64 a1, .int .i64 a2]) h := by
  intros; kernel_rfl

theorem word_Sign.S {W0 : World} : FnS sg W0 176 word_Sign.C := by
  intro vs κ h wv hx w s
  unfold word_Sign.C at hx
  split at hx
  · rename_i a1 a2
    refine postImp (ret := word_Sign.ret (fun r1 h => κ (.int .i64 r1) h)) (fun v h hr => by unfold word_Sign.ret at hr; split at hr; exact hr; exact hr.elim) ?_
    exact calls_of_pts (E := word_Sign.E (fun r1 h => κ (.int .i64 r1) h) []) (envOK seatOK word_Sign.callsOK noIfc_ok) seatOK.mixed word_Sign.fun (Nat.le_of_ble_eq_true rfl) wv (cutL_ok trivial) s (fuel := 3000) (by rw [← word_Sign.e]; exact hx)
  · exact hx.elim

noncomputable def word_Fits.code : Code := Go.Proofs.Tryd.f55.body.getD .skip

theorem word_Fits.fun : Fun sg.P 55 14 [.tmp 4] word_Fits.code := mkFun Go.Proofs.Tryd.func55 (by kernel_rfl) (by kernel_rfl) (by kernel_rfl) (by kernel_rfl)

def word_Fits.ret (Q : Bool → Heap → Prop) (v : V) (h : Heap) : Prop :=
  match v with
  | .bool r1 => Q r1 h
  | _ => False

def word_Fits.C (vs : List V) (κ : V → Heap → Prop) (h : Heap) : Prop :=
  match vs with
  | [.int .i64 a1, .int .i64 a2] => word_Fits a1 a2 (fun r1 h => κ (.bool r1) h) h
  | _ => False

noncomputable def word_Fits.calls : List (Nat × (List V → (V → Heap → Prop) → Heap → Prop)) := [(176, word_Sign.C), (169, word_within_int.C)]

noncomputable def word_Fits.E (Q : Bool → Heap → Prop) (cuts : List (Nat × (List Nat × (List V → Heap → Prop)))) : Env := { tis := tisT, fns := fnsT, tys := tysT, gls := [], rts := rtsT, unk := [], nxt := [], calls := word_Fits.calls, ifc := noIfc, cuts := cuts, ret := word_Fits.ret Q, rets := [.tmp 4], n := 14 }

theorem word_Fits.callsOK {W0 : World} : CallsOK sg W0 word_Fits.calls := ⟨word_Sign.S, word_within_int.S, trivial⟩

theorem word_Fits.e : ∀ (a1 : Int) (a2 : Int) (Q : Bool → Heap → Prop) (h : Heap), word_Fits a1 a2 Q h = pts (word_Fits.E Q []) 3000 true [.code word_Fits.code] (frOf 0 [.int .i64 a1, .int .i64 a2]) h := by
  intros; kernel_rfl

theorem word_Fits.S {W0 : World} : FnS sg W0 177 word_Fits.C := by
  intro vs κ h wv hx w s
  unfold word_Fits.C at hx
  split at hx
  · rename_i a1 a2
    refine postImp (ret := word_Fits.ret (fun r1 h => κ (.bool r1) h)) (fun v h hr => by unfold word_Fits.ret at hr; split at hr; exact hr; exact hr.elim) ?_
    exact calls_of_pts (E := word_Fits.E (fun r1 h => κ (.bool r1) h) []) (envOK seatOK word_Fits.callsOK noIfc_ok) seatOK.mixed word_Fits.fun (Nat.le_of_ble_eq_true rfl) wv (cutL_ok trivial) s (fuel := 3000) (by rw [← word_Fits.e]; exact hx)
  · exact hx.elim

noncomputable def insn_immOf.code : Code := Go.Proofs.Tryd.f44.body.getD .skip

theorem insn_immOf.fun : Fun sg.P 44 41 [.tmp 6] insn_immOf.code := mkFun Go.Proofs.Tryd.func44 (by kernel_rfl) (by kernel_rfl) (by kernel_rfl) (by kernel_rfl)

def insn_immOf.ret (Q : Bool → Heap → Prop) (v : V) (h : Heap) : Prop :=
  match v with
  | .bool r1 => Q r1 h
  | _ => False

def insn_immOf.C (vs : List V) (κ : V → Heap → Prop) (h : Heap) : Prop :=
  match vs with
  | [.int .i64 a1, .int .i64 a2, .int .i64 a3] => insn_immOf a1 a2 a3 (fun r1 h => κ (.bool r1) h) h
  | _ => False

noncomputable def insn_immOf.calls : List (Nat × (List V → (V → Heap → Prop) → Heap → Prop)) := [(177, word_Fits.C)]

noncomputable def insn_immOf.E (Q : Bool → Heap → Prop) (cuts : List (Nat × (List Nat × (List V → Heap → Prop)))) : Env := { tis := tisT, fns := fnsT, tys := tysT, gls := [], rts := rtsT, unk := [], nxt := [], calls := insn_immOf.calls, ifc := noIfc, cuts := cuts, ret := insn_immOf.ret Q, rets := [.tmp 6], n := 41 }

theorem insn_immOf.callsOK {W0 : World} : CallsOK sg W0 insn_immOf.calls := ⟨word_Fits.S, trivial⟩

def insn_immOf.k5 (I : Int → Heap → Prop) (vs : List V) (h : Heap) : Prop :=
  match vs with
  | [.int .i64 a1] => I a1 h
  | _ => False

def insn_immOf.k9 (I : Int → Heap → Prop) (vs : List V) (h : Heap) : Prop :=
  match vs with
  | [.int .i64 a1] => I a1 h
  | _ => False

theorem insn_immOf.p5 : (posC insn_immOf.code []).filter (fun p => Nat.beq p.1 5) = [(5, atPos (posC insn_immOf.code []) 5)] := by kernel_rfl

theorem insn_immOf.e5 : ∀  (a1 : Int) (Q : Bool → Heap → Prop) (h : Heap), insn_immOf.j5  a1 Q h = pts (insn_immOf.E Q []) 3000 true (atPos (posC insn_immOf.code []) 5) (frAt [2] [.int .i64 a1]) h := by
  intros; kernel_rfl

theorem insn_immOf.s5 {W0 : World} (Q : Bool → Heap → Prop)   : CutOK sg W0 41 (entered 44) (Post sg W0 (insn_immOf.ret Q)) (posC insn_immOf.code []) 5 [2] (insn_immOf.k5 (fun a1 h => insn_immOf.j5  a1 Q h)) := by
  refine cutOK_head (fun vs h hk => ?_)
  unfold insn_immOf.k5 at hk
  split at hk
  · rename_i a1
    intro todo hm ρ a w s f hp
    exact piece (E := insn_immOf.E Q []) (vs := [.int .i64 a1]) (envOK seatOK insn_immOf.callsOK noIfc_ok) (fnOK seatOK insn_immOf.fun) trivial insn_immOf.p5 (fuel := 3000) (by rw [← insn_immOf.e5]; exact hk) hm s f hp
  · exact hk.elim

theorem insn_immOf.p9 : (posC insn_immOf.code []).filter (fun p => Nat.beq p.1 9) = [(9, atPos (posC insn_immOf.code []) 9)] := by kernel_rfl

theorem insn_immOf.e9 : ∀  (a1 : Int) (Q : Bool → Heap → Prop) (h : Heap), insn_immOf.j9  a1 Q h = pts (insn_immOf.E Q []) 3000 true (atPos (posC insn_immOf.code []) 9) (frAt [2] [.int .i64 a1]) h := by
  intros; kernel_rfl

theorem insn_immOf.s9 {W0 : World} (Q : Bool → Heap → Prop)   : CutOK sg W0 41 (entered 44) (Post sg W0 (insn_immOf.ret Q)) (posC insn_immOf.code []) 9 [2] (insn_immOf.k9 (fun a1 h => insn_immOf.j9  a1 Q h)) := by
  refine cutOK_head (fun vs h hk => ?_)
  unfold insn_immOf.k9 at hk
  split at hk
  · rename_i a1
    intro todo hm ρ a w s f hp
    exact piece (E := insn_immOf.E Q []) (vs := [.int .i64 a1]) (envOK seatOK insn_immOf.callsOK noIfc_ok) (fnOK seatOK insn_immOf.fun) trivial insn_immOf.p9 (fuel := 3000) (by rw [← insn_immOf.e9]; exact hk) hm s f hp
  · exact hk.elim

theorem insn_immOf.e : ∀ (a1 : Int) (a2 : Int) (a3 : Int) (Q : Bool → Heap → Prop) (h : Heap), insn_immOf a1 a2 a3 Q h = pts (insn_immOf.E Q [(5, ([2], insn_immOf.k5 (fun a1 h => insn_immOf.j5  a1 Q h))), (9, ([2], insn_immOf.k9 (fun a1 h => insn_immOf.j9  a1 Q h)))]) 3000 true [.code insn_immOf.code] (frOf 0 [.int .i64 a1, .int .i64 a2, .int .i64 a3]) h := by
  intros; kernel_rfl

theorem insn_immOf.S {W0 : World} : FnS sg W0 178 insn_immOf.C := by
  intro vs κ h wv hx w s
  unfold insn_immOf.C at hx
  split at hx
  · rename_i a1 a2 a3
    refine postImp (ret := insn_immOf.ret (fun r1 h => κ (.bool r1) h)) (fun v h hr => by unfold insn_immOf.ret at hr; split at hr; exact hr; exact hr.elim) ?_
    exact calls_of_pts (E := insn_immOf.E (fun r1 h => κ (.bool r1) h) [(5, ([2], insn_immOf.k5 (fun a1 h => insn_immOf.j5  a1 (fun r1 h => κ (.bool r1) h) h))), (9, ([2], insn_immOf.k9 (fun a1 h => insn_immOf.j9  a1 (fun r1 h => κ (.bool r1) h) h)))]) (envOK seatOK insn_immOf.callsOK noIfc_ok) seatOK.mixed insn_immOf.fun (Nat.le_of_ble_eq_true rfl) wv (cutL_ok ⟨(insn_immOf.s5 (fun r1 h => κ (.bool r1) h)), (insn_immOf.s9 (fun r1 h => κ (.bool r1) h)), trivial⟩) s (fuel := 3000) (by rw [← insn_immOf.e]; exact hx)
  · exact hx.elim

noncomputable def insn_Valid.code : Code := Go.Proofs.Tryd.f34.body.getD .skip

theorem insn_Valid.fun : Fun sg.P 34 94 [.tmp 2] insn_Valid.code := mkFun Go.Proofs.Tryd.func34 (by kernel_rfl) (by kernel_rfl) (by kernel_rfl) (by kernel_rfl)

def insn_Valid.ret (Q : Bool → Heap → Prop) (v : V) (h : Heap) : Prop :=
  match v with
  | .bool r1 => Q r1 h
  | _ => False

def insn_Valid.C (vs : List V) (κ : V → Heap → Prop) (h : Heap) : Prop :=
  match vs with
  | [.agg [.int .i64 a1, .int .i64 a2, .int .i64 a3, .int .i64 a4, .int .i64 a5]] => insn_Valid a1 a2 a3 a4 a5 (fun r1 h => κ (.bool r1) h) h
  | _ => False

noncomputable def insn_Valid.calls : List (Nat × (List V → (V → Heap → Prop) → Heap → Prop)) := [(175, insn_Shape.C), (178, insn_immOf.C)]

noncomputable def insn_Valid.E (Q : Bool → Heap → Prop) (cuts : List (Nat × (List Nat × (List V → Heap → Prop)))) : Env := { tis := tisT, fns := fnsT, tys := tysT, gls := [], rts := rtsT, unk := [], nxt := [], calls := insn_Valid.calls, ifc := noIfc, cuts := cuts, ret := insn_Valid.ret Q, rets := [.tmp 2], n := 94 }

theorem insn_Valid.callsOK {W0 : World} : CallsOK sg W0 insn_Valid.calls := ⟨insn_Shape.S, insn_immOf.S, trivial⟩

def insn_Valid.k3 (I : Heap → Prop) (vs : List V) (h : Heap) : Prop :=
  match vs with
  | [] => I  h
  | _ => False

def insn_Valid.k8 (I : Heap → Prop) (vs : List V) (h : Heap) : Prop :=
  match vs with
  | [] => I  h
  | _ => False

def insn_Valid.k9 (I : Sl → Int → Int → Heap → Prop) (vs : List V) (h : Heap) : Prop :=
  match vs with
  | [.sl a1, .int .i64 a2, .int .i64 a3] => I a1 a2 a3 h
  | _ => False

def insn_Valid.k5 (I : Sl → Int → Int → Heap → Prop) (vs : List V) (h : Heap) : Prop :=
  match vs with
  | [.sl a1, .int .i64 a2, .int .i64 a3] => I a1 a2 a3 h
  | _ => False

def insn_Valid.k4 (I : Ptr → Int → Heap → Prop) (vs : List V) (h : Heap) : Prop :=
  match vs with
  | [.ptr (some a1), .int .i64 a2] => I a1 a2 h
  | _ => False

theorem insn_Valid.p3 : (posC insn_Valid.code []).filter (fun p => Nat.beq p.1 3) = [(3, atPos (posC insn_Valid.code []) 3)] := by kernel_rfl

theorem insn_Valid.e3 : ∀   (Q : Bool → Heap → Prop) (h : Heap), insn_Valid.j3   Q h = pts (insn_Valid.E Q []) 3000 true (atPos (posC insn_Valid.code []) 3) (frAt [] []) h := by
  intros; kernel_rfl

theorem insn_Valid.s3 {W0 : World} (Q : Bool → Heap → Prop)   : CutOK sg W0 94 (entered 34) (Post sg W0 (insn_Valid.ret Q)) (posC insn_Valid.code []) 3 [] (insn_Valid.k3 (fun  h => insn_Valid.j3   Q h)) := by
  refine cutOK_head (fun vs h hk => ?_)
  unfold insn_Valid.k3 at hk
  split at hk
  · skip
    intro todo hm ρ a w s f hp
    exact piece (E := insn_Valid.E Q []) (vs := []) (envOK seatOK insn_Valid.callsOK noIfc_ok) (fnOK seatOK insn_Valid.fun) trivial insn_Valid.p3 (fuel := 3000) (by rw [← insn_Valid.e3]; exact hk) hm s f hp
  · exact hk.elim

theorem insn_Valid.p8 : (posC insn_Valid.code []).filter (fun p => Nat.beq p.1 8) = [(8, atPos (posC insn_Valid.code []) 8)] := by kernel_rfl

theorem insn_Valid.e8 : ∀ (I5 : Sl → Int → Int → Heap → Prop)  (Q : Bool → Heap → Prop) (h : Heap), insn_Valid.j8 I5  Q h = pts (insn_Valid.E Q []) 3000 true (atPos (posC insn_Valid.code []) 8) (frAt [] []) h := by
  intros; kernel_rfl

theorem insn_Valid.s8 {W0 : World} (Q : Bool → Heap → Prop) (I5 : Sl → Int → Int → Heap → Prop) (h5 : CutOK sg W0 94 (entered 34) (Post sg W0 (insn_Valid.ret Q)) (posC insn_Valid.code []) 5 [69, 70, 71] (insn_Valid.k5 I5)) : CutOK sg W0 94 (entered 34) (Post sg W0 (insn_Valid.ret Q)) (posC insn_Valid.code []) 8 [] (insn_Valid.k8 (fun  h => insn_Valid.j8 I5  Q h)) := by
  refine cutOK_head (fun vs h hk => ?_)
  unfold insn_Valid.k8 at hk
  split at hk
  · skip
    intro todo hm ρ a w s f hp
    exact piece (E := insn_Valid.E Q []) (vs := []) (envOK seatOK insn_Valid.callsOK noIfc_ok) (fnOK seatOK insn_Valid.fun) trivial insn_Valid.p8 (fuel := 3000) (by rw [← insn_Valid.e8]; exact hk) hm s f hp
  · exact hk.elim

theorem insn_Valid.p9 : (posC insn_Valid.code []).filter (fun p => Nat.beq p.1 9) = [(9, atPos (posC insn_Valid.code []) 9)] := by kernel_rfl

theorem insn_Valid.e9 : ∀ (I5 : Sl → Int → Int → Heap → Prop) (a1 : Sl) (a2 : Int) (a3 : Int) (Q : Bool → Heap → Prop) (h : Heap), insn_Valid.j9 I5 a1 a2 a3 Q h = pts (insn_Valid.E Q [(5, ([69, 70, 71], insn_Valid.k5 I5))]) 3000 true (atPos (posC insn_Valid.code []) 9) (frAt [69, 70, 71] [.sl a1, .int .i64 a2, .int .i64 a3]) h := by
  intros; kernel_rfl

theorem insn_Valid.s9 {W0 : World} (Q : Bool → Heap → Prop) (I5 : Sl → Int → Int → Heap → Prop) (h5 : CutOK sg W0 94 (entered 34) (Post sg W0 (insn_Valid.ret Q)) (posC insn_Valid.code []) 5 [69, 70, 71] (insn_Valid.k5 I5)) : CutOK sg W0 94 (entered 34) (Post sg W0 (insn_Valid.ret Q)) (posC insn_Valid.code []) 9 [69, 70, 71] (insn_Valid.k9 (fun a1 a2 a3 h => insn_Valid.j9 I5 a1 a2 a3 Q h)) := by
  refine cutOK_head (fun vs h hk => ?_)
  unfold insn_Valid.k9 at hk
  split at hk
  · rename_i a1 a2 a3
    intro todo hm ρ a w s f hp
    exact piece (E := insn_Valid.E Q [(5, ([69, 70, 71], insn_Valid.k5 I5))]) (vs := [.sl a1, .int .i64 a2, .int .i64 a3]) (envOK seatOK insn_Valid.callsOK noIfc_ok) (fnOK seatOK insn_Valid.fun) ⟨h5, trivial⟩ insn_Valid.p9 (fuel := 3000) (by rw [← insn_Valid.e9]; exact hk) hm s f hp
  · exact hk.elim

theorem insn_Valid.p5 : (posC insn_Valid.code []).filter (fun p => Nat.beq p.1 5) = [(5, atPos (posC insn_Valid.code []) 5)] := by kernel_rfl

theorem insn_Valid.e5 : ∀  (I5 : Sl → Int → Int → Heap → Prop) (a1 : Sl) (a2 : Int) (a3 : Int) (Q : Bool → Heap → Prop) (h : Heap), insn_Valid.b5  I5 a1 a2 a3 Q h = pts (insn_Valid.E Q [(8, ([], insn_Valid.k8 (fun  h => insn_Valid.j8 I5  Q h))), (9, ([69, 70, 71], insn_Valid.k9 (fun a1 a2 a3 h => insn_Valid.j9 I5 a1 a2 a3 Q h)))]) 3000 true (atPos (posC insn_Valid.code []) 5) (frAt [69, 70, 71] [.sl a1, .int .i64 a2, .int .i64 a3]) h := by
  intros; kernel_rfl

theorem insn_Valid.s5 {W0 : World} (Q : Bool → Heap → Prop)   : CutOK sg W0 94 (entered 34) (Post sg W0 (insn_Valid.ret Q)) (posC insn_Valid.code []) 5 [69, 70, 71] (insn_Valid.k5 (fun a1 a2 a3 h => insn_Valid.j5  a1 a2 a3 Q h)) := by
  refine cutOK_head (fun vs h hk => ?_)
  unfold insn_Valid.k5 at hk
  split at hk
  · rename_i a1 a2 a3
    refine hk (fun a1 a2 a3 h => Head sg W0 94 (entered 34) (Post sg W0 (insn_Valid.ret Q)) (posC insn_Valid.code []) 5 [69, 70, 71] [.sl a1, .int .i64 a2, .int .i64 a3] h) ?_
    intro a1 a2 a3 h hb todo hm ρ a w s f hp
    have hself : CutOK sg W0 94 (entered 34) (Post sg W0 (insn_Valid.ret Q)) (posC insn_Valid.code []) 5 [69, 70, 71] (insn_Valid.k5 (fun a1 a2 a3 h => Head sg W0 94 (entered 34) (Post sg W0 (insn_Valid.ret Q)) (posC insn_Valid.code []) 5 [69, 70, 71] [.sl a1, .int .i64 a2, .int .i64 a3] h)) := cutOK_head (fun vs h hk => by unfold insn_Valid.k5 at hk; split at hk; exact hk; exact hk.elim)
    exact piece (E := insn_Valid.E Q [(8, ([], insn_Valid.k8 (fun  h => insn_Valid.j8 (fun a1 a2 a3 h => Head sg W0 94 (entered 34) (Post sg W0 (insn_Valid.ret Q)) (posC insn_Valid.code []) 5 [69, 70, 71] [.sl a1, .int .i64 a2, .int .i64 a3] h)  Q h))), (9, ([69, 70, 71], insn_Valid.k9 (fun a1 a2 a3 h => insn_Valid.j9 (fun a1 a2 a3 h => Head sg W0 94 (entered 34) (Post sg W0 (insn_Valid.ret Q)) (posC insn_Valid.code []) 5 [69, 70, 71] [.sl a1, .int .i64 a2, .int .i64 a3] h) a1 a2 a3 Q h)))]) (vs := [.sl a1, .int .i64 a2, .int .i64 a3]) (envOK seatOK insn_Valid.callsOK noIfc_ok) (fnOK seatOK insn_Valid.fun) ⟨(insn_Valid.s8 Q (fun a1 a2 a3 h => Head sg W0 94 (entered 34) (Post sg W0 (insn_Valid.ret Q)) (posC insn_Valid.code []) 5 [69, 70, 71] [.sl a1, .int .i64 a2, .int .i64 a3] h) hself), (insn_Valid.s9 Q (fun a1 a2 a3 h => Head sg W0 94 (entered 34) (Post sg W0 (insn_Valid.ret Q)) (posC insn_Valid.code []) 5 [69, 70, 71] [.sl a1, .int .i64 a2, .int .i64 a3] h) hself), trivial⟩ insn_Valid.p5 (fuel := 3000) (by rw [← insn_Valid.e5]; exact hb) hm s f hp
  · exact hk.elim

theorem insn_Valid.p4 : (posC insn_Valid.code []).filter (fun p => Nat.beq p.1 4) = [(4, atPos (posC insn_Valid.code []) 4)] := by kernel_rfl

theorem insn_Valid.e4 : ∀  (a1 : Ptr) (a2 : Int) (Q : Bool → Heap → Prop) (h : Heap), insn_Valid.j4  a1 a2 Q h = pts (insn_Valid.E Q [(5, ([69, 70, 71], insn_Valid.k5 (fun a1 a2 a3 h => insn_Valid.j5  a1 a2 a3 Q h)))]) 3000 true (atPos (posC insn_Valid.code []) 4) (frAt [1, 3] [.ptr (some a1), .int .i64 a2]) h := by
  intros; kernel_rfl

theorem insn_Valid.s4 {W0 : World} (Q : Bool → Heap → Prop)   : CutOK sg W0 94 (entered 34) (Post sg W0 (insn_Valid.ret Q)) (posC insn_Valid.code []) 4 [1, 3] (insn_Valid.k4 (fun a1 a2 h => insn_Valid.j4  a1 a2 Q h)) := by
  refine cutOK_head (fun vs h hk => ?_)
  unfold insn_Valid.k4 at hk
  split at hk
  · rename_i a1 a2
    intro todo hm ρ a w s f hp
    exact piece (E := insn_Valid.E Q [(5, ([69, 70, 71], insn_Valid.k5 (fun a1 a2 a3 h => insn_Valid.j5  a1 a2 a3 Q h)))]) (vs := [.ptr (some a1), .int .i64 a2]) (envOK seatOK insn_Valid.callsOK noIfc_ok) (fnOK seatOK insn_Valid.fun) ⟨(insn_Valid.s5 Q  ), trivial⟩ insn_Valid.p4 (fuel := 3000) (by rw [← insn_Valid.e4]; exact hk) hm s f hp
  · exact hk.elim

theorem insn_Valid.e : ∀ (a1 : Int) (a2 : Int) (a3 : Int) (a4 : Int) (a5 : Int) (Q : Bool → Heap → Prop) (h : Heap), insn_Valid a1 a2 a3 a4 a5 Q h = pts (insn_Valid.E Q [(3, ([], insn_Valid.k3 (fun  h => insn_Valid.j3   Q h))), (4, ([1, 3], insn_Valid.k4 (fun a1 a2 h => insn_Valid.j4  a1 a2 Q h)))]) 3000 true [.code insn_Valid.code] (frOf 0 [.agg [.int .i64 a1, .int .i64 a2, .int .i64 a3, .int .i64 a4, .int .i64 a5]]) h := by
  intros; kernel_rfl

theorem insn_Valid.S {W0 : World} : FnS sg W0 179 insn_Valid.C := by
  intro vs κ h wv hx w s
  unfold insn_Valid.C at hx
  split at hx
  · rename_i a1 a2 a3 a4 a5
    refine postImp (ret := insn_Valid.ret (fun r1 h => κ (.bool r1) h)) (fun v h hr => by unfold insn_Valid.ret at hr; split at hr; exact hr; exact hr.elim) ?_
    exact calls_of_pts (E := insn_Valid.E (fun r1 h => κ (.bool r1) h) [(3, ([], insn_Valid.k3 (fun  h => insn_Valid.j3   (fun r1 h => κ (.bool r1) h) h))), (4, ([1, 3], insn_Valid.k4 (fun a1 a2 h => insn_Valid.j4  a1 a2 (fun r1 h => κ (.bool r1) h) h)))]) (envOK seatOK insn_Valid.callsOK noIfc_ok) seatOK.mixed insn_Valid.fun (Nat.le_of_ble_eq_true rfl) wv (cutL_ok ⟨(insn_Valid.s3 (fun r1 h => κ (.bool r1) h)), (insn_Valid.s4 (fun r1 h => κ (.bool r1) h)), trivial⟩) s (fuel := 3000) (by rw [← insn_Valid.e]; exact hx)
  · exact hx.elim

noncomputable def word_Place.code : Code := Go.Proofs.Tryd.f35.body.getD .skip

theorem word_Place.fun : Fun sg.P 35 30 [.tmp 8] word_Place.code := mkFun Go.Proofs.Tryd.func35 (by kernel_rfl) (by kernel_rfl) (by kernel_rfl) (by kernel_rfl)

def word_Place.ret (Q : Int → Heap → Prop) (v : V) (h : Heap) : Prop :=
  match v with
  | .int .u32 r1 => Q r1 h
  | _ => False

def word_Place.C (vs : List V) (κ : V → Heap → Prop) (h : Heap) : Prop :=
  match vs with
  | [.int .u32 a1, .int .i64 a2, .int .i64 a3, .int .i64 a4] => word_Place a1 a2 a3 a4 (fun r1 h => κ (.int .u32 r1) h) h
  | _ => False

noncomputable def word_Place.calls : List (Nat × (List V → (V → Heap → Prop) → Heap → Prop)) := [(170, word_lies.C), (171, word_mask.C)]

noncomputable def word_Place.E (Q : Int → Heap → Prop) (cuts : List (Nat × (List Nat × (List V → Heap → Prop)))) : Env := { tis := tisT, fns := fnsT, tys := tysT, gls := [], rts := rtsT, unk := [], nxt := [], calls := word_Place.calls, ifc := noIfc, cuts := cuts, ret := word_Place.ret Q, rets := [.tmp 8], n := 30 }

theorem word_Place.callsOK {W0 : World} : CallsOK sg W0 word_Place.calls := ⟨word_lies.S, word_mask.S, trivial⟩

theorem word_Place.e : ∀ (a1 : Int) (a2 : Int) (a3 : Int) (a4 : Int) (Q : Int → Heap → Prop) (h : Heap), word_Place a1 a2 a3 a4 Q h = pts (word_Place.E Q []) 3000 true [.code word_Place.code] (frOf 0 [.int .u32 a1, .int .i64 a2, .int .i64 a3, .int .i64 a4]) h := by
  intros; kernel_rfl

theorem word_Place.S {W0 : World} : FnS sg W0 180 word_Place.C := by
  intro vs κ h wv hx w s
  unfold word_Place.C at hx
  split at hx
  · rename_i a1 a2 a3 a4
    refine postImp (ret := word_Place.ret (fun r1 h => κ (.int .u32 r1) h)) (fun v h hr => by unfold word_Place.ret at hr; split at hr; exact hr; exact hr.elim) ?_
    exact calls_of_pts (E := word_Place.E (fun r1 h => κ (.int .u32 r1) h) []) (envOK seatOK word_Place.callsOK noIfc_ok) seatOK.mixed word_Place.fun (Nat.le_of_ble_eq_true rfl) wv (cutL_ok trivial) s (fuel := 3000) (by rw [← word_Place.e]; exact hx)
  · exact hx.elim

noncomputable def insn_Encode.code : Code := Go.Proofs.Tryd.f19.body.getD .skip

theorem insn_Encode.fun : Fun sg.P 19 43 [.tmp 2, .tmp 3] insn_Encode.code := mkFun Go.Proofs.Tryd.func19 (by kernel_rfl) (by kernel_rfl) (by kernel_rfl) (by kernel_rfl)

def insn_Encode.ret (Q : Int → Int → Heap → Prop) (v : V) (h : Heap) : Prop :=
  match v with
  | .tup [.int .u32 r1, .int .i64 r2] => Q r1 r2 h
  | _ => False

def insn_Encode.C (vs : List V) (κ : V → Heap → Prop) (h : Heap) : Prop :=
  match vs with
  | [.agg [.int .i64 a1, .int .i64 a2, .int .i64 a3, .int .i64 a4, .int .i64 a5]] => insn_Encode a1 a2 a3 a4 a5 (fun r1 r2 h => κ (.tup [.int .u32 r1, .int .i64 r2]) h) h
  | _ => False

noncomputable def insn_Encode.calls : List (Nat × (List V → (V → Heap → Prop) → Heap → Prop)) := [(175, insn_Shape.C), (179, insn_Valid.C), (180, word_Place.C)]

noncomputable def insn_Encode.E (Q : Int → Int → Heap → Prop) (cuts : List (Nat × (List Nat × (List V → Heap → Prop)))) : Env := { tis := tisT, fns := fnsT, tys := tysT, gls := [], rts := rtsT, unk := [], nxt := [], calls := insn_Encode.calls, ifc := noIfc, cuts := cuts, ret := insn_Encode.ret Q, rets := [.tmp 2, .tmp 3], n := 43 }

theorem insn_Encode.callsOK {W0 : World} : CallsOK sg W0 insn_Encode.calls := ⟨insn_Shape.S, insn_Valid.S, word_Place.S, trivial⟩

def insn_Encode.k4 (I : Ptr → Int → Heap → Prop) (vs : List V) (h : Heap) : Prop :=
  match vs with
  | [.ptr (some a1), .int .u32 a2] => I a1 a2 h
  | _ => False

theorem insn_Encode.p4 : (posC insn_Encode.code []).filter (fun p => Nat.beq p.1 4) = [(4, atPos (posC insn_Encode.code []) 4)] := by kernel_rfl

theorem insn_Encode.e4 : ∀  (a1 : Ptr) (a2 : Int) (Q : Int → Int → Heap → Prop) (h : Heap), insn_Encode.j4  a1 a2 Q h = pts (insn_Encode.E Q []) 3000 true (atPos (posC insn_Encode.code []) 4) (frAt [1, 4] [.ptr (some a1), .int .u32 a2]) h := by
  intros; kernel_rfl

theorem insn_Encode.s4 {W0 : World} (Q : Int → Int → Heap → Prop)   : CutOK sg W0 43 (entered 19) (Post sg W0 (insn_Encode.ret Q)) (posC insn_Encode.code []) 4 [1, 4] (insn_Encode.k4 (fun a1 a2 h => insn_Encode.j4  a1 a2 Q h)) := by
  refine cutOK_head (fun vs h hk => ?_)
  unfold insn_Encode.k4 at hk
  split at hk
  · rename_i a1 a2
    intro todo hm ρ a w s f hp
    exact piece (E := insn_Encode.E Q []) (vs := [.ptr (some a1), .int .u32 a2]) (envOK seatOK insn_Encode.callsOK noIfc_ok) (fnOK seatOK insn_Encode.fun) trivial insn_Encode.p4 (fuel := 3000) (by rw [← insn_Encode.e4]; exact hk) hm s f hp
  · exact hk.elim

theorem insn_Encode.e : ∀ (a1 : Int) (a2 : Int) (a3 : Int) (a4 : Int) (a5 : Int) (Q : Int → Int → Heap → Prop) (h : Heap), insn_Encode a1 a2 a3 a4 a5 Q h = pts (insn_Encode.E Q [(4, ([1, 4], insn_Encode.k4 (fun a1 a2 h => insn_Encode.j4  a1 a2 Q h)))]) 3000 true [.code insn_Encode.code] (frOf 0 [.agg [.int .i64 a1, .int .i64 a2, .int .i64 a3, .int .i64 a4, .int .i64 a5]]) h := by
  intros; kernel_rfl

theorem insn_Encode.S {W0 : World} : FnS sg W0 181 insn_Encode.C := by
  intro vs κ h wv hx w s
  unfold insn_Encode.C at hx
  split at hx
  · rename_i a1 a2 a3 a4 a5
    refine postImp (ret := insn_Encode.ret (fun r1 r2 h => κ (.tup [.int .u32 r1, .int .i64 r2]) h)) (fun v h hr => by unfold insn_Encode.ret at hr; split at hr; exact hr; exact hr.elim) ?_
    exact calls_of_pts (E := insn_Encode.E (fun r1 r2 h => κ (.tup [.int .u32 r1, .int .i64 r2]) h) [(4, ([1, 4], insn_Encode.k4 (fun a1 a2 h => insn_Encode.j4  a1 a2 (fun r1 r2 h => κ (.tup [.int .u32 r1, .int .i64 r2]) h) h)))]) (envOK seatOK insn_Encode.callsOK noIfc_ok) seatOK.mixed insn_Encode.fun (Nat.le_of_ble_eq_true rfl) wv (cutL_ok ⟨(insn_Encode.s4 (fun r1 r2 h => κ (.tup [.int .u32 r1, .int .i64 r2]) h)), trivial⟩) s (fuel := 3000) (by rw [← insn_Encode.e]; exact hx)
  · exact hx.elim

noncomputable def insn_Decode.code : Code := Go.Proofs.Tryd.f6.body.getD .skip

theorem insn_Decode.fun : Fun sg.P 6 55 [.cell 2 26, .tmp 3] insn_Decode.code := mkFun Go.Proofs.Tryd.func6 (by kernel_rfl) (by kernel_rfl) (by kernel_rfl) (by kernel_rfl)

def insn_Decode.ret (Q : Int → Int → Int → Int → Int → Int → Heap → Prop) (v : V) (h : Heap) : Prop :=
  match v with
  | .tup [.agg [.int .i64 r1, .int .i64 r2, .int .i64 r3, .int .i64 r4, .int .i64 r5], .int .i64 r6] => Q r1 r2 r3 r4 r5 r6 h
  | _ => False

def insn_Decode.C (vs : List V) (κ : V → Heap → Prop) (h : Heap) : Prop :=
  match vs with
  | [.int .u32 a1] => insn_Decode a1 (fun r1 r2 r3 r4 r5 r6 h => κ (.tup [.agg [.int .i64 r1, .int .i64 r2, .int .i64 r3, .int .i64 r4, .int .i64 r5], .int .i64 r6]) h) h
  | _ => False

noncomputable def insn_Decode.calls : List (Nat × (List V → (V → Heap → Prop) → Heap → Prop)) := [(172, word_Field.C), (175, insn_Shape.C), (176, word_Sign.C), (181, insn_Encode.C)]

noncomputable def insn_Decode.E (Q : Int → Int → Int → Int → Int → Int → Heap → Prop) (cuts : List (Nat × (List Nat × (List V → Heap → Prop)))) : Env := { tis := tisT, fns := fnsT, tys := tysT, gls := [], rts := rtsT, unk := [], nxt := [], calls := insn_Decode.calls, ifc := noIfc, cuts := cuts, ret := insn_Decode.ret Q, rets := [.cell 2 26, .tmp 3], n := 55 }

theorem insn_Decode.callsOK {W0 : World} : CallsOK sg W0 insn_Decode.calls := ⟨word_Field.S, insn_Shape.S, word_Sign.S, insn_Encode.S, trivial⟩

def insn_Decode.k8 (I : Int → Ptr → Ptr → Heap → Prop) (vs : List V) (h : Heap) : Prop :=
  match vs with
  | [.int .u32 a1, .ptr (some a2), .ptr (some a3)] => I a1 a2 a3 h
  | _ => False

theorem insn_Decode.p8 : (posC insn_Decode.code []).filter (fun p => Nat.beq p.1 8) = [(8, atPos (posC insn_Decode.code []) 8)] := by kernel_rfl

theorem insn_Decode.e8 : ∀  (a1 : Int) (a2 : Ptr) (a3 : Ptr) (Q : Int → Int → Int → Int → Int → Int → Heap → Prop) (h : Heap), insn_Decode.j8  a1 a2 a3 Q h = pts (insn_Decode.E Q []) 3000 true (atPos (posC insn_Decode.code []) 8) (frAt [0, 2, 4] [.int .u32 a1, .ptr (some a2), .ptr (some a3)]) h := by
  intros; kernel_rfl

theorem insn_Decode.s8 {W0 : World} (Q : Int → Int → Int → Int → Int → Int → Heap → Prop)   : CutOK sg W0 55 (entered 6) (Post sg W0 (insn_Decode.ret Q)) (posC insn_Decode.code []) 8 [0, 2, 4] (insn_Decode.k8 (fun a1 a2 a3 h => insn_Decode.j8  a1 a2 a3 Q h)) := by
  refine cutOK_head (fun vs h hk => ?_)
  unfold insn_Decode.k8 at hk
  split at hk
  · rename_i a1 a2 a3
    intro todo hm ρ a w s f hp
    exact piece (E := insn_Decode.E Q []) (vs := [.int .u32 a1, .ptr (some a2), .ptr (some a3)]) (envOK seatOK insn_Decode.callsOK noIfc_ok) (fnOK seatOK insn_Decode.fun) trivial insn_Decode.p8 (fuel := 3000) (by rw [← insn_Decode.e8]; exact hk) hm s f hp
  · exact hk.elim

theorem insn_Decode.e : ∀ (a1 : Int) (Q : Int → Int → Int → Int → Int → Int → Heap → Prop) (h : Heap), insn_Decode a1 Q h = pts (insn_Decode.E Q [(8, ([0, 2, 4], insn_Decode.k8 (fun a1 a2 a3 h => insn_Decode.j8  a1 a2 a3 Q h)))]) 3000 true [.code insn_Decode.code] (frOf 0 [.int .u32 a1]) h := by
  intros; kernel_rfl

theorem insn_Decode.S {W0 : World} : FnS sg W0 182 insn_Decode.C := by
  intro vs κ h wv hx w s
  unfold insn_Decode.C at hx
  split at hx
  · rename_i a1
    refine postImp (ret := insn_Decode.ret (fun r1 r2 r3 r4 r5 r6 h => κ (.tup [.agg [.int .i64 r1, .int .i64 r2, .int .i64 r3, .int .i64 r4, .int .i64 r5], .int .i64 r6]) h)) (fun v h hr => by unfold insn_Decode.ret at hr; split at hr; exact hr; exact hr.elim) ?_
    exact calls_of_pts (E := insn_Decode.E (fun r1 r2 r3 r4 r5 r6 h => κ (.tup [.agg [.int .i64 r1, .int .i64 r2, .int .i64 r3, .int .i64 r4, .int .i64 r5], .int .i64 r6]) h) [(8, ([0, 2, 4], insn_Decode.k8 (fun a1 a2 a3 h => insn_Decode.j8  a1 a2 a3 (fun r1 r2 r3 r4 r5 r6 h => κ (.tup [.agg [.int .i64 r1, .int .i64 r2, .int .i64 r3, .int .i64 r4, .int .i64 r5], .int .i64 r6]) h) h)))]) (envOK seatOK insn_Decode.callsOK noIfc_ok) seatOK.mixed insn_Decode.fun (Nat.le_of_ble_eq_true rfl) wv (cutL_ok ⟨(insn_Decode.s8 (fun r1 r2 r3 r4 r5 r6 h => κ (.tup [.agg [.int .i64 r1, .int .i64 r2, .int .i64 r3, .int .i64 r4, .int .i64 r5], .int .i64 r6]) h)), trivial⟩) s (fuel := 3000) (by rw [← insn_Decode.e]; exact hx)
  · exact hx.elim

noncomputable def strconv_Itoa.code : Code := Go.Proofs.Tryd.f7.body.getD .skip

theorem strconv_Itoa.fun : Fun sg.P 7 5 [.tmp 2] strconv_Itoa.code := mkFun Go.Proofs.Tryd.func7 (by kernel_rfl) (by kernel_rfl) (by kernel_rfl) (by kernel_rfl)

def strconv_Itoa.ret (Q : (List UInt8) → Heap → Prop) (v : V) (h : Heap) : Prop :=
  match v with
  | .str r1 => Q r1 h
  | _ => False

def strconv_Itoa.C (U : Ifc) (vs : List V) (κ : V → Heap → Prop) (h : Heap) : Prop :=
  match vs with
  | [.int .i64 a1] => strconv_Itoa U a1 (fun r1 h => κ (.str r1) h) h
  | _ => False

theorem strconv_Itoa.S {W0 : World} {U : Ifc} (hU : IfcOK sg W0 glsT U) : FnS sg W0 335 (strconv_Itoa.C U) := by
  intro vs κ h wv hx w s
  refine itoa_S (g := 335) (c := 3) (gn := 2) hU lays171 (by kernel_rfl) (by kernel_rfl) rfl strconv_Itoa.fun vs κ h wv ?_ w s
  unfold strconv_Itoa.C at hx
  split at hx
  · exact hx
  · exact hx.elim

noncomputable def strings_Fields.code : Code := Go.Proofs.Tryd.f8.body.getD .skip

theorem strings_Fields.fun : Fun sg.P 8 106 [.tmp 2] strings_Fields.code := mkFun Go.Proofs.Tryd.func8 (by kernel_rfl) (by kernel_rfl) (by kernel_rfl) (by kernel_rfl)

def strings_Fields.ret (Q : Sl → Heap → Prop) (v : V) (h : Heap) : Prop :=
  match v with
  | .sl r1 => Q r1 h
  | _ => False

def strings_Fields.C (U : Ifc) (vs : List V) (κ : V → Heap → Prop) (h : Heap) : Prop :=
  match vs with
  | [.str a1] => strings_Fields U a1 (fun r1 h => κ (.sl r1) h) h
  | _ => False

theorem strings_Fields.S {W0 : World} {U : Ifc} (hU : IfcOK sg W0 glsT U) : FnS sg W0 336 (strings_Fields.C U) := by
  intro vs κ h wv hx w s
  refine fields_S (g := 336) (c := 4) hU lays157 (by kernel_rfl) (by kernel_rfl) rfl strings_Fields.fun vs κ h wv ?_ w s
  unfold strings_Fields.C at hx
  split at hx
  · exact hx
  · exact hx.elim

noncomputable def slices_Index_int_int.code : Code := Go.Proofs.Tryd.f38.body.getD .skip

theorem slices_Index_int_int.fun : Fun sg.P 38 19 [.tmp 4] slices_Index_int_int.code := mkFun Go.Proofs.Tryd.func38 (by kernel_rfl) (by kernel_rfl) (by kernel_rfl) (by kernel_rfl)

def slices_Index_int_int.ret (Q : Int → Heap → Prop) (v : V) (h : Heap) : Prop :=
  match v with
  | .int .i64 r1 => Q r1 h
  | _ => False

def slices_Index_int_int.C (vs : List V) (κ : V → Heap → Prop) (h : Heap) : Prop :=
  match vs with
  | [.sl a1, .int .i64 a2] => slices_Index_int_int a1 a2 (fun r1 h => κ (.int .i64 r1) h) h
  | _ => False

noncomputable def slices_Index_int_int.calls : List (Nat × (List V → (V → Heap → Prop) → Heap → Prop)) := []

noncomputable def slices_Index_int_int.E (Q : Int → Heap → Prop) (cuts : List (Nat × (List Nat × (List V → Heap → Prop)))) : Env := { tis := tisT, fns := fnsT, tys := tysT, gls := [], rts := rtsT, unk := [], nxt := [], calls := slices_Index_int_int.calls, ifc := noIfc, cuts := cuts, ret := slices_Index_int_int.ret Q, rets := [.tmp 4], n := 19 }

theorem slices_Index_int_int.callsOK {W0 : World} : CallsOK sg W0 slices_Index_int_int.calls := trivial

def slices_Index_int_int.k2 (I : Sl → Int → Int → Int → Heap → Prop) (vs : List V) (h : Heap) : Prop :=
  match vs with
  | [.sl a1, .int .i64 a2, .int .i64 a3, .int .i64 a4] => I a1 a2 a3 a4 h
  | _ => False

theorem slices_Index_int_int.p2 : (posC slices_Index_int_int.code []).filter (fun p => Nat.beq p.1 2) = [(2, atPos (posC slices_Index_int_int.code []) 2)] := by kernel_rfl

theorem slices_Index_int_int.e2 : ∀  (I2 : Sl → Int → Int → Int → Heap → Prop) (a1 : Sl) (a2 : Int) (a3 : Int) (a4 : Int) (Q : Int → Heap → Prop) (h : Heap), slices_Index_int_int.b2  I2 a1 a2 a3 a4 Q h = pts (slices_Index_int_int.E Q [(2, ([0, 1, 7, 8], slices_Index_int_int.k2 I2))]) 3000 true (atPos (posC slices_Index_int_int.code []) 2) (frAt [0, 1, 7, 8] [.sl a1, .int .i64 a2, .int .i64 a3, .int .i64 a4]) h := by
  intros; kernel_rfl

theorem slices_Index_int_int.s2 {W0 : World} (Q : Int → Heap → Prop)   : CutOK sg W0 19 (entered 38) (Post sg W0 (slices_Index_int_int.ret Q)) (posC slices_Index_int_int.code []) 2 [0, 1, 7, 8] (slices_Index_int_int.k2 (fun a1 a2 a3 a4 h => slices_Index_int_int.j2  a1 a2 a3 a4 Q h)) := by
  refine cutOK_head (fun vs h hk => ?_)
  unfold slices_Index_int_int.k2 at hk
  split at hk
  · rename_i a1 a2 a3 a4
    refine hk (fun a1 a2 a3 a4 h => Head sg W0 19 (entered 38) (Post sg W0 (slices_Index_int_int.ret Q)) (posC slices_Index_int_int.code []) 2 [0, 1, 7, 8] [.sl a1, .int .i64 a2, .int .i64 a3, .int .i64 a4] h) ?_
    intro a1 a2 a3 a4 h hb todo hm ρ a w s f hp
    have hself : CutOK sg W0 19 (entered 38) (Post sg W0 (slices_Index_int_int.ret Q)) (posC slices_Index_int_int.code []) 2 [0, 1, 7, 8] (slices_Index_int_int.k2 (fun a1 a2 a3 a4 h => Head sg W0 19 (entered 38) (Post sg W0 (slices_Index_int_int.ret Q)) (posC slices_Index_int_int.code []) 2 [0, 1, 7, 8] [.sl a1, .int .i64 a2, .int .i64 a3, .int .i64 a4] h)) := cutOK_head (fun vs h hk => by unfold slices_Index_int_int.k2 at hk; split at hk; exact hk; exact hk.elim)
    exact piece (E := slices_Index_int_int.E Q [(2, ([0, 1, 7, 8], slices_Index_int_int.k2 (fun a1 a2 a3 a4 h => Head sg W0 19 (entered 38) (Post sg W0 (slices_Index_int_int.ret Q)) (posC slices_Index_int_int.code []) 2 [0, 1, 7, 8] [.sl a1, .int .i64 a2, .int .i64 a3, .int .i64 a4] h)))]) (vs := [.sl a1, .int .i64 a2, .int .i64 a3, .int .i64 a4]) (envOK seatOK slices_Index_int_int.callsOK noIfc_ok) (fnOK seatOK slices_Index_int_int.fun) ⟨hself, trivial⟩ slices_Index_int_int.p2 (fuel := 3000) (by rw [← slices_Index_int_int.e2]; exact hb) hm s f hp
  · exact hk.elim

theorem slices_Index_int_int.e : ∀ (a1 : Sl) (a2 : Int) (Q : Int → Heap → Prop) (h : Heap), slices_Index_int_int a1 a2 Q h = pts (slices_Index_int_int.E Q [(2, ([0, 1, 7, 8], slices_Index_int_int.k2 (fun a1 a2 a3 a4 h => slices_Index_int_int.j2  a1 a2 a3 a4 Q h)))]) 3000 true [.code slices_Index_int_int.code] (frOf 0 [.sl a1, .int .i64 a2]) h := by
  intros; kernel_rfl

theorem slices_Index_int_int.S {W0 : World} : FnS sg W0 337 slices_Index_int_int.C := by
  intro vs κ h wv hx w s
  unfold slices_Index_int_int.C at hx
  split at hx
  · rename_i a1 a2
    refine postImp (ret := slices_Index_int_int.ret (fun r1 h => κ (.int .i64 r1) h)) (fun v h hr => by unfold slices_Index_int_int.ret at hr; split at hr; exact hr; exact hr.elim) ?_
    exact calls_of_pts (E := slices_Index_int_int.E (fun r1 h => κ (.int .i64 r1) h) [(2, ([0, 1, 7, 8], slices_Index_int_int.k2 (fun a1 a2 a3 a4 h => slices_Index_int_int.j2  a1 a2 a3 a4 (fun r1 h => κ (.int .i64 r1) h) h)))]) (envOK seatOK slices_Index_int_int.callsOK noIfc_ok) seatOK.mixed slices_Index_int_int.fun (Nat.le_of_ble_eq_true rfl) wv (cutL_ok ⟨(slices_Index_int_int.s2 (fun r1 h => κ (.int .i64 r1) h)), trivial⟩) s (fuel := 3000) (by rw [← slices_Index_int_int.e]; exact hx)
  · exact hx.elim

noncomputable def slices_Contains_int_int.code : Code := Go.Proofs.Tryd.f23.body.getD .skip

theorem slices_Contains_int_int.fun : Fun sg.P 23 9 [.tmp 4] slices_Contains_int_int.code := mkFun Go.Proofs.Tryd.func23 (by kernel_rfl) (by kernel_rfl) (by kernel_rfl) (by kernel_rfl)

def slices_Contains_int_int.ret (Q : Bool → Heap → Prop) (v : V) (h : Heap) : Prop :=
  match v with
  | .bool r1 => Q r1 h
  | _ => False

def slices_Contains_int_int.C (vs : List V) (κ : V → Heap → Prop) (h : Heap) : Prop :=
  match vs with
  | [.sl a1, .int .i64 a2] => slices_Contains_int_int a1 a2 (fun r1 h => κ (.bool r1) h) h
  | _ => False

noncomputable def slices_Contains_int_int.calls : List (Nat × (List V → (V → Heap → Prop) → Heap → Prop)) := [(337, slices_Index_int_int.C)]

noncomputable def slices_Contains_int_int.E (Q : Bool → Heap → Prop) (cuts : List (Nat × (List Nat × (List V → Heap → Prop)))) : Env := { tis := tisT, fns := fnsT, tys := tysT, gls := [], rts := rtsT, unk := [], nxt := [], calls := slices_Contains_int_int.calls, ifc := noIfc, cuts := cuts, ret := slices_Contains_int_int.ret Q, rets := [.tmp 4], n := 9 }

theorem slices_Contains_int_int.callsOK {W0 : World} : CallsOK sg W0 slices_Contains_int_int.calls := ⟨slices_Index_int_int.S, trivial⟩

theorem slices_Contains_int_int.e : ∀ (a1 : Sl) (a2 : Int) (Q : Bool → Heap → Prop) (h : Heap), slices_Contains_int_int a1 a2 Q h = pts (slices_Contains_int_int.E Q []) 3000 true [.code slices_Contains_int_int.code] (frOf 0 [.sl a1, .int .i64 a2]) h := by
  intros; kernel_rfl

theorem slices_Contains_int_int.S {W0 : World} : FnS sg W0 338 slices_Contains_int_int.C := by
  intro vs κ h wv hx w s
  unfold slices_Contains_int_int.C at hx
  split at hx
  · rename_i a1 a2
    refine postImp (ret := slices_Contains_int_int.ret (fun r1 h => κ (.bool r1) h)) (fun v h hr => by unfold slices_Contains_int_int.ret at hr; split at hr; exact hr; exact hr.elim) ?_
    exact calls_of_pts (E := slices_Contains_int_int.E (fun r1 h => κ (.bool r1) h) []) (envOK seatOK slices_Contains_int_int.callsOK noIfc_ok) seatOK.mixed slices_Contains_int_int.fun (Nat.le_of_ble_eq_true rfl) wv (cutL_ok trivial) s (fuel := 3000) (by rw [← slices_Contains_int_int.e]; exact hx)
  · exact hx.elim

noncomputable def asm_order.code : Code := Go.Proofs.Tryd.f9.body.getD .skip

theorem asm_order.fun : Fun sg.P 9 24 [.tmp 2] asm_order.code := mkFun Go.Proofs.Tryd.func9 (by kernel_rfl) (by kernel_rfl) (by kernel_rfl) (by kernel_rfl)

def asm_order.ret (Q : (List UInt8) → Heap → Prop) (v : V) (h : Heap) : Prop :=
  match v with
  | .str r1 => Q r1 h
  | _ => False

def asm_order.C (vs : List V) (κ : V → Heap → Prop) (h : Heap) : Prop :=
  match vs with
  | [.int .i64 a1] => asm_order a1 (fun r1 h => κ (.str r1) h) h
  | _ => False

noncomputable def asm_order.calls : List (Nat × (List V → (V → Heap → Prop) → Heap → Prop)) := [(175, insn_Shape.C), (338, slices_Contains_int_int.C)]

noncomputable def asm_order.E (Q : (List UInt8) → Heap → Prop) (cuts : List (Nat × (List Nat × (List V → Heap → Prop)))) : Env := { tis := tisT, fns := fnsT, tys := tysT, gls := [], rts := rtsT, unk := [], nxt := [], calls := asm_order.calls, ifc := noIfc, cuts := cuts, ret := asm_order.ret Q, rets := [.tmp 2], n := 24 }

theorem asm_order.callsOK {W0 : World} : CallsOK sg W0 asm_order.calls := ⟨insn_Shape.S, slices_Contains_int_int.S, trivial⟩

theorem asm_order.e : ∀ (a1 : Int) (Q : (List UInt8) → Heap → Prop) (h : Heap), asm_order a1 Q h = pts (asm_order.E Q []) 3000 true [.code asm_order.code] (frOf 0 [.int .i64 a1]) h := by
  intros; kernel_rfl

theorem asm_order.S {W0 : World} : FnS sg W0 339 asm_order.C := by
  intro vs κ h wv hx w s
  unfold asm_order.C at hx
  split at hx
  · rename_i a1
    refine postImp (ret := asm_order.ret (fun r1 h => κ (.str r1) h)) (fun v h hr => by unfold asm_order.ret at hr; split at hr; exact hr; exact hr.elim) ?_
    exact calls_of_pts (E := asm_order.E (fun r1 h => κ (.str r1) h) []) (envOK seatOK asm_order.callsOK noIfc_ok) seatOK.mixed asm_order.fun (Nat.le_of_ble_eq_true rfl) wv (cutL_ok trivial) s (fuel := 3000) (by rw [← asm_order.e]; exact hx)
  · exact hx.elim

noncomputable def strings_Join.code : Code := Go.Proofs.Tryd.f10.body.getD .skip

theorem strings_Join.fun : Fun sg.P 10 75 [.tmp 4] strings_Join.code := mkFun Go.Proofs.Tryd.func10 (by kernel_rfl) (by kernel_rfl) (by kernel_rfl) (by kernel_rfl)

def strings_Join.ret (Q : (List UInt8) → Heap → Prop) (v : V) (h : Heap) : Prop :=
  match v with
  | .str r1 => Q r1 h
  | _ => False

def strings_Join.C (vs : List V) (κ : V → Heap → Prop) (h : Heap) : Prop :=
  match vs with
  | [.sl a1, .str a2] => strings_Join a1 a2 (fun r1 h => κ (.str r1) h) h
  | _ => False

theorem strings_Join.S {W0 : World} : FnS sg W0 340 (strings_Join.C) := by
  intro vs κ h wv hx w s
  refine join_S (g := 340) lays156 extra_lays156 rfl strings_Join.fun vs κ h wv ?_ w s
  unfold strings_Join.C at hx
  split at hx
  · exact hx
  · exact hx.elim

noncomputable def asm_Show.code : Code := Go.Proofs.Tryd.f4.body.getD .skip

theorem asm_Show.fun : Fun sg.P 4 65 [.tmp 2] asm_Show.code := mkFun Go.Proofs.Tryd.func4 (by kernel_rfl) (by kernel_rfl) (by kernel_rfl) (by kernel_rfl)

def asm_Show.ret (Q : (List UInt8) → Heap → Prop) (v : V) (h : Heap) : Prop :=
  match v with
  | .str r1 => Q r1 h
  | _ => False

def asm_Show.C (U : Ifc) (vs : List V) (κ : V → Heap → Prop) (h : Heap) : Prop :=
  match vs with
  | [.int .u32 a1] => asm_Show U a1 (fun r1 h => κ (.str r1) h) h
  | _ => False

noncomputable def asm_Show.calls (U : Ifc) : List (Nat × (List V → (V → Heap → Prop) → Heap → Prop)) := [(182, insn_Decode.C), (335, strconv_Itoa.C U), (336, strings_Fields.C U), (339, asm_order.C), (340, strings_Join.C)]

noncomputable def asm_Show.E (U : Ifc) (Q : (List UInt8) → Heap → Prop) (cuts : List (Nat × (List Nat × (List V → Heap → Prop)))) : Env := { tis := tisT, fns := fnsT, tys := tysT, gls := glsT, rts := rtsT, unk := [], nxt := [], calls := asm_Show.calls U, ifc := U, cuts := cuts, ret := asm_Show.ret Q, rets := [.tmp 2], n := 65 }

theorem asm_Show.callsOK {W0 : World} {U : Ifc} (hU : IfcOK sg W0 glsT U) : CallsOK sg W0 (asm_Show.calls U) := ⟨insn_Decode.S, (strconv_Itoa.S hU), (strings_Fields.S hU), asm_order.S, strings_Join.S, trivial⟩

def asm_Show.k11 (I : Ptr → Sl → Int → Ptr → Heap → Prop) (vs : List V) (h : Heap) : Prop :=
  match vs with
  | [.ptr (some a1), .sl a2, .int .i64 a3, .ptr (some a4)] => I a1 a2 a3 a4 h
  | _ => False

def asm_Show.k12 (I : Ptr → Sl → Ptr → Heap → Prop) (vs : List V) (h : Heap) : Prop :=
  match vs with
  | [.ptr (some a1), .sl a2, .ptr (some a3)] => I a1 a2 a3 h
  | _ => False

def asm_Show.k6 (I : Ptr → Sl → Ptr → Heap → Prop) (vs : List V) (h : Heap) : Prop :=
  match vs with
  | [.ptr (some a1), .sl a2, .ptr (some a3)] => I a1 a2 a3 h
  | _ => False

theorem asm_Show.p11 : (posC asm_Show.code []).filter (fun p => Nat.beq p.1 11) = [(11, atPos (posC asm_Show.code []) 11)] := by kernel_rfl

theorem asm_Show.e11 : ∀ (U : Ifc) (I6 : Ptr → Sl → Ptr → Heap → Prop) (a1 : Ptr) (a2 : Sl) (a3 : Int) (a4 : Ptr) (Q : (List UInt8) → Heap → Prop) (h : Heap), asm_Show.j11 U I6 a1 a2 a3 a4 Q h = pts (asm_Show.E U Q [(6, ([3, 5, 32], asm_Show.k6 I6))]) 3000 true (atPos (posC asm_Show.code []) 11) (frAt [3, 5, 9, 32] [.ptr (some a1), .sl a2, .int .i64 a3, .ptr (some a4)]) h := by
  intros; kernel_rfl

theorem asm_Show.s11 {W0 : World} {U : Ifc} (hU : IfcOK sg W0 glsT U) (Q : (List UInt8) → Heap → Prop) (I6 : Ptr → Sl → Ptr → Heap → Prop) (h6 : CutOK sg W0 65 (entered 4) (Post sg W0 (asm_Show.ret Q)) (posC asm_Show.code []) 6 [3, 5, 32] (asm_Show.k6 I6)) : CutOK sg W0 65 (entered 4) (Post sg W0 (asm_Show.ret Q)) (posC asm_Show.code []) 11 [3, 5, 9, 32] (asm_Show.k11 (fun a1 a2 a3 a4 h => asm_Show.j11 U I6 a1 a2 a3 a4 Q h)) := by
  refine cutOK_head (fun vs h hk => ?_)
  unfold asm_Show.k11 at hk
  split at hk
  · rename_i a1 a2 a3 a4
    intro todo hm ρ a w s f hp
    exact piece (E := asm_Show.E U Q [(6, ([3, 5, 32], asm_Show.k6 I6))]) (vs := [.ptr (some a1), .sl a2, .int .i64 a3, .ptr (some a4)]) (envOK seatOK (asm_Show.callsOK hU) hU) (fnOK seatOK asm_Show.fun) ⟨h6, trivial⟩ asm_Show.p11 (fuel := 3000) (by rw [← asm_Show.e11]; exact hk) hm s f hp
  · exact hk.elim

theorem asm_Show.p12 : (posC asm_Show.code []).filter (fun p => Nat.beq p.1 12) = [(12, atPos (posC asm_Show.code []) 12)] := by kernel_rfl

theorem asm_Show.e12 : ∀ (U : Ifc) (I6 : Ptr → Sl → Ptr → Heap → Prop) (a1 : Ptr) (a2 : Sl) (a3 : Ptr) (Q : (List UInt8) → Heap → Prop) (h : Heap), asm_Show.j12 U I6 a1 a2 a3 Q h = pts (asm_Show.E U Q [(6, ([3, 5, 32], asm_Show.k6 I6))]) 3000 true (atPos (posC asm_Show.code []) 12) (frAt [3, 5, 32] [.ptr (some a1), .sl a2, .ptr (some a3)]) h := by
  intros; kernel_rfl

theorem asm_Show.s12 {W0 : World} {U : Ifc} (hU : IfcOK sg W0 glsT U) (Q : (List UInt8) → Heap → Prop) (I6 : Ptr → Sl → Ptr → Heap → Prop) (h6 : CutOK sg W0 65 (entered 4) (Post sg W0 (asm_Show.ret Q)) (posC asm_Show.code []) 6 [3, 5, 32] (asm_Show.k6 I6)) : CutOK sg W0 65 (entered 4) (Post sg W0 (asm_Show.ret Q)) (posC asm_Show.code []) 12 [3, 5, 32] (asm_Show.k12 (fun a1 a2 a3 h => asm_Show.j12 U I6 a1 a2 a3 Q h)) := by
  refine cutOK_head (fun vs h hk => ?_)
  unfold asm_Show.k12 at hk
  split at hk
  · rename_i a1 a2 a3
    intro todo hm ρ a w s f hp
    exact piece (E := asm_Show.E U Q [(6, ([3, 5, 32], asm_Show.k6 I6))]) (vs := [.ptr (some a1), .sl a2, .ptr (some a3)]) (envOK seatOK (asm_Show.callsOK hU) hU) (fnOK seatOK asm_Show.fun) ⟨h6, trivial⟩ asm_Show.p12 (fuel := 3000) (by rw [← asm_Show.e12]; exact hk) hm s f hp
  · exact hk.elim

theorem asm_Show.p6 : (posC asm_Show.code []).filter (fun p => Nat.beq p.1 6) = [(6, atPos (posC asm_Show.code []) 6)] := by kernel_rfl

theorem asm_Show.e6 : ∀ (U : Ifc)  (I6 : Ptr → Sl → Ptr → Heap → Prop) (a1 : Ptr) (a2 : Sl) (a3 : Ptr) (Q : (List UInt8) → Heap → Prop) (h : Heap), asm_Show.b6 U  I6 a1 a2 a3 Q h = pts (asm_Show.E U Q [(11, ([3, 5, 9, 32], asm_Show.k11 (fun a1 a2 a3 a4 h => asm_Show.j11 U I6 a1 a2 a3 a4 Q h))), (12, ([3, 5, 32], asm_Show.k12 (fun a1 a2 a3 h => asm_Show.j12 U I6 a1 a2 a3 Q h)))]) 3000 true (atPos (posC asm_Show.code []) 6) (frAt [3, 5, 32] [.ptr (some a1), .sl a2, .ptr (some a3)]) h := by
  intros; kernel_rfl

theorem asm_Show.s6 {W0 : World} {U : Ifc} (hU : IfcOK sg W0 glsT U) (Q : (List UInt8) → Heap → Prop)   : CutOK sg W0 65 (entered 4) (Post sg W0 (asm_Show.ret Q)) (posC asm_Show.code []) 6 [3, 5, 32] (asm_Show.k6 (fun a1 a2 a3 h => asm_Show.j6 U  a1 a2 a3 Q h)) := by
  refine cutOK_head (fun vs h hk => ?_)
  unfold asm_Show.k6 at hk
  split at hk
  · rename_i a1 a2 a3
    refine hk (fun a1 a2 a3 h => Head sg W0 65 (entered 4) (Post sg W0 (asm_Show.ret Q)) (posC asm_Show.code []) 6 [3, 5, 32] [.ptr (some a1), .sl a2, .ptr (some a3)] h) ?_
    intro a1 a2 a3 h hb todo hm ρ a w s f hp
    have hself : CutOK sg W0 65 (entered 4) (Post sg W0 (asm_Show.ret Q)) (posC asm_Show.code []) 6 [3, 5, 32] (asm_Show.k6 (fun a1 a2 a3 h => Head sg W0 65 (entered 4) (Post sg W0 (asm_Show.ret Q)) (posC asm_Show.code []) 6 [3, 5, 32] [.ptr (some a1), .sl a2, .ptr (some a3)] h)) := cutOK_head (fun vs h hk => by unfold asm_Show.k6 at hk; split at hk; exact hk; exact hk.elim)
    exact piece (E := asm_Show.E U Q [(11, ([3, 5, 9, 32], asm_Show.k11 (fun a1 a2 a3 a4 h => asm_Show.j11 U (fun a1 a2 a3 h => Head sg W0 65 (entered 4) (Post sg W0 (asm_Show.ret Q)) (posC asm_Show.code []) 6 [3, 5, 32] [.ptr (some a1), .sl a2, .ptr (some a3)] h) a1 a2 a3 a4 Q h))), (12, ([3, 5, 32], asm_Show.k12 (fun a1 a2 a3 h => asm_Show.j12 U (fun a1 a2 a3 h => Head sg W0 65 (entered 4) (Post sg W0 (asm_Show.ret Q)) (posC asm_Show.code []) 6 [3, 5, 32] [.ptr (some a1), .sl a2, .ptr (some a3)] h) a1 a2 a3 Q h)))]) (vs := [.ptr (some a1), .sl a2, .ptr (some a3)]) (envOK seatOK (asm_Show.callsOK hU) hU) (fnOK seatOK asm_Show.fun) ⟨(asm_Show.s11 hU Q (fun a1 a2 a3 h => Head sg W0 65 (entered 4) (Post sg W0 (asm_Show.ret Q)) (posC asm_Show.code []) 6 [3, 5, 32] [.ptr (some a1), .sl a2, .ptr (some a3)] h) hself), (asm_Show.s12 hU Q (fun a1 a2 a3 h => Head sg W0 65 (entered 4) (Post sg W0 (asm_Show.ret Q)) (posC asm_Show.code []) 6 [3, 5, 32] [.ptr (some a1), .sl a2, .ptr (some a3)] h) hself), trivial⟩ asm_Show.p6 (fuel := 3000) (by rw [← asm_Show.e6]; exact hb) hm s f hp
  · exact hk.elim

theorem asm_Show.e : ∀ (U : Ifc) (a1 : Int) (Q : (List UInt8) → Heap → Prop) (h : Heap), asm_Show U a1 Q h = pts (asm_Show.E U Q [(6, ([3, 5, 32], asm_Show.k6 (fun a1 a2 a3 h => asm_Show.j6 U  a1 a2 a3 Q h)))]) 3000 true [.code asm_Show.code] (frOf 0 [.int .u32 a1]) h := by
  intros; kernel_rfl

theorem asm_Show.S {W0 : World} {U : Ifc} (hU : IfcOK sg W0 glsT U) : FnS sg W0 341 (asm_Show.C U) := by
  intro vs κ h wv hx w s
  unfold asm_Show.C at hx
  split at hx
  · rename_i a1
    refine postImp (ret := asm_Show.ret (fun r1 h => κ (.str r1) h)) (fun v h hr => by unfold asm_Show.ret at hr; split at hr; exact hr; exact hr.elim) ?_
    exact calls_of_pts (E := asm_Show.E U (fun r1 h => κ (.str r1) h) [(6, ([3, 5, 32], asm_Show.k6 (fun a1 a2 a3 h => asm_Show.j6 U  a1 a2 a3 (fun r1 h => κ (.str r1) h) h)))]) (envOK seatOK (asm_Show.callsOK hU) hU) seatOK.mixed asm_Show.fun (Nat.le_of_ble_eq_true rfl) wv (cutL_ok ⟨(asm_Show.s6 hU (fun r1 h => κ (.str r1) h)), trivial⟩) s (fuel := 3000) (by rw [← asm_Show.e]; exact hx)
  · exact hx.elim

noncomputable def palisaderef01_Field.code : Code := Go.Proofs.Tryd.f13.body.getD .skip

theorem palisaderef01_Field.fun : Fun sg.P 13 47 [.tmp 6] palisaderef01_Field.code := mkFun Go.Proofs.Tryd.func13 (by kernel_rfl) (by kernel_rfl) (by kernel_rfl) (by kernel_rfl)

def palisaderef01_Field.ret (Q : Int → Heap → Prop) (v : V) (h : Heap) : Prop :=
  match v with
  | .int .i64 r1 => Q r1 h
  | _ => False

def palisaderef01_Field.C (vs : List V) (κ : V → Heap → Prop) (h : Heap) : Prop :=
  match vs with
  | [.int .u32 a1, .int .i64 a2, .int .i64 a3] => palisaderef01_Field a1 a2 a3 (fun r1 h => κ (.int .i64 r1) h) h
  | _ => False

noncomputable def palisaderef01_Field.calls : List (Nat × (List V → (V → Heap → Prop) → Heap → Prop)) := []

noncomputable def palisaderef01_Field.E (Q : Int → Heap → Prop) (cuts : List (Nat × (List Nat × (List V → Heap → Prop)))) : Env := { tis := tisT, fns := fnsT, tys := tysT, gls := [], rts := rtsT, unk := [], nxt := [], calls := palisaderef01_Field.calls, ifc := noIfc, cuts := cuts, ret := palisaderef01_Field.ret Q, rets := [.tmp 6], n := 47 }

theorem palisaderef01_Field.callsOK {W0 : World} : CallsOK sg W0 palisaderef01_Field.calls := trivial

def palisaderef01_Field.k2 (I : Heap → Prop) (vs : List V) (h : Heap) : Prop :=
  match vs with
  | [] => I  h
  | _ => False

def palisaderef01_Field.k5 (I : Int → Int → Int → Int → Heap → Prop) (vs : List V) (h : Heap) : Prop :=
  match vs with
  | [.int .u32 a1, .int .i64 a2, .int .i64 a3, .int .i64 a4] => I a1 a2 a3 a4 h
  | _ => False

theorem palisaderef01_Field.p2 : (posC palisaderef01_Field.code []).filter (fun p => Nat.beq p.1 2) = [(2, atPos (posC palisaderef01_Field.code []) 2)] := by kernel_rfl

theorem palisaderef01_Field.e2 : ∀   (Q : Int → Heap → Prop) (h : Heap), palisaderef01_Field.j2   Q h = pts (palisaderef01_Field.E Q []) 3000 true (atPos (posC palisaderef01_Field.code []) 2) (frAt [] []) h := by
  intros; kernel_rfl

theorem palisaderef01_Field.s2 {W0 : World} (Q : Int → Heap → Prop)   : CutOK sg W0 47 (entered 13) (Post sg W0 (palisaderef01_Field.ret Q)) (posC palisaderef01_Field.code []) 2 [] (palisaderef01_Field.k2 (fun  h => palisaderef01_Field.j2   Q h)) := by
  refine cutOK_head (fun vs h hk => ?_)
  unfold palisaderef01_Field.k2 at hk
  split at hk
  · skip
    intro todo hm ρ a w s f hp
    exact piece (E := palisaderef01_Field.E Q []) (vs := []) (envOK seatOK palisaderef01_Field.callsOK noIfc_ok) (fnOK seatOK palisaderef01_Field.fun) trivial palisaderef01_Field.p2 (fuel := 3000) (by rw [← palisaderef01_Field.e2]; exact hk) hm s f hp
  · exact hk.elim

theorem palisaderef01_Field.p5 : (posC palisaderef01_Field.code []).filter (fun p => Nat.beq p.1 5) = [(5, atPos (posC palisaderef01_Field.code []) 5)] := by kernel_rfl

theorem palisaderef01_Field.e5 : ∀  (I5 : Int → Int → Int → Int → Heap → Prop) (a1 : Int) (a2 : Int) (a3 : Int) (a4 : Int) (Q : Int → Heap → Prop) (h : Heap), palisaderef01_Field.b5  I5 a1 a2 a3 a4 Q h = pts (palisaderef01_Field.E Q [(5, ([0, 1, 7, 8], palisaderef01_Field.k5 I5))]) 3000 true (atPos (posC palisaderef01_Field.code []) 5) (frAt [0, 1, 7, 8] [.int .u32 a1, .int .i64 a2, .int .i64 a3, .int .i64 a4]) h := by
  intros; kernel_rfl

theorem palisaderef01_Field.s5 {W0 : World} (Q : Int → Heap → Prop)   : CutOK sg W0 47 (entered 13) (Post sg W0 (palisaderef01_Field.ret Q)) (posC palisaderef01_Field.code []) 5 [0, 1, 7, 8] (palisaderef01_Field.k5 (fun a1 a2 a3 a4 h => palisaderef01_Field.j5  a1 a2 a3 a4 Q h)) := by
  refine cutOK_head (fun vs h hk => ?_)
  unfold palisaderef01_Field.k5 at hk
  split at hk
  · rename_i a1 a2 a3 a4
    refine hk (fun a1 a2 a3 a4 h => Head sg W0 47 (entered 13) (Post sg W0 (palisaderef01_Field.ret Q)) (posC palisaderef01_Field.code []) 5 [0, 1, 7, 8] [.int .u32 a1, .int .i64 a2, .int .i64 a3, .int .i64 a4] h) ?_
    intro a1 a2 a3 a4 h hb todo hm ρ a w s f hp
    have hself : CutOK sg W0 47 (entered 13) (Post sg W0 (palisaderef01_Field.ret Q)) (posC palisaderef01_Field.code []) 5 [0, 1, 7, 8] (palisaderef01_Field.k5 (fun a1 a2 a3 a4 h => Head sg W0 47 (entered 13) (Post sg W0 (palisaderef01_Field.ret Q)) (posC palisaderef01_Field.code []) 5 [0, 1, 7, 8] [.int .u32 a1, .int .i64 a2, .int .i64 a3, .int .i64 a4] h)) := cutOK_head (fun vs h hk => by unfold palisaderef01_Field.k5 at hk; split at hk; exact hk; exact hk.elim)
    exact piece (E := palisaderef01_Field.E Q [(5, ([0, 1, 7, 8], palisaderef01_Field.k5 (fun a1 a2 a3 a4 h => Head sg W0 47 (entered 13) (Post sg W0 (palisaderef01_Field.ret Q)) (posC palisaderef01_Field.code []) 5 [0, 1, 7, 8] [.int .u32 a1, .int .i64 a2, .int .i64 a3, .int .i64 a4] h)))]) (vs := [.int .u32 a1, .int .i64 a2, .int .i64 a3, .int .i64 a4]) (envOK seatOK palisaderef01_Field.callsOK noIfc_ok) (fnOK seatOK palisaderef01_Field.fun) ⟨hself, trivial⟩ palisaderef01_Field.p5 (fuel := 3000) (by rw [← palisaderef01_Field.e5]; exact hb) hm s f hp
  · exact hk.elim

theorem palisaderef01_Field.e : ∀ (a1 : Int) (a2 : Int) (a3 : Int) (Q : Int → Heap → Prop) (h : Heap), palisaderef01_Field a1 a2 a3 Q h = pts (palisaderef01_Field.E Q [(2, ([], palisaderef01_Field.k2 (fun  h => palisaderef01_Field.j2   Q h))), (5, ([0, 1, 7, 8], palisaderef01_Field.k5 (fun a1 a2 a3 a4 h => palisaderef01_Field.j5  a1 a2 a3 a4 Q h)))]) 3000 true [.code palisaderef01_Field.code] (frOf 0 [.int .u32 a1, .int .i64 a2, .int .i64 a3]) h := by
  intros; kernel_rfl

theorem palisaderef01_Field.S {W0 : World} : FnS sg W0 342 palisaderef01_Field.C := by
  intro vs κ h wv hx w s
  unfold palisaderef01_Field.C at hx
  split at hx
  · rename_i a1 a2 a3
    refine postImp (ret := palisaderef01_Field.ret (fun r1 h => κ (.int .i64 r1) h)) (fun v h hr => by unfold palisaderef01_Field.ret at hr; split at hr; exact hr; exact hr.elim) ?_
    exact calls_of_pts (E := palisaderef01_Field.E (fun r1 h => κ (.int .i64 r1) h) [(2, ([], palisaderef01_Field.k2 (fun  h => palisaderef01_Field.j2   (fun r1 h => κ (.int .i64 r1) h) h))), (5, ([0, 1, 7, 8], palisaderef01_Field.k5 (fun a1 a2 a3 a4 h => palisaderef01_Field.j5  a1 a2 a3 a4 (fun r1 h => κ (.int .i64 r1) h) h)))]) (envOK seatOK palisaderef01_Field.callsOK noIfc_ok) seatOK.mixed palisaderef01_Field.fun (Nat.le_of_ble_eq_true rfl) wv (cutL_ok ⟨(palisaderef01_Field.s2 (fun r1 h => κ (.int .i64 r1) h)), (palisaderef01_Field.s5 (fun r1 h => κ (.int .i64 r1) h)), trivial⟩) s (fuel := 3000) (by rw [← palisaderef01_Field.e]; exact hx)
  · exact hx.elim

noncomputable def palisaderef02_Shape.code : Code := Go.Proofs.Tryd.f27.body.getD .skip

theorem palisaderef02_Shape.fun : Fun sg.P 27 76 [.tmp 2] palisaderef02_Shape.code := mkFun Go.Proofs.Tryd.func27 (by kernel_rfl) (by kernel_rfl) (by kernel_rfl) (by kernel_rfl)

def palisaderef02_Shape.ret (Q : Int → Heap → Prop) (v : V) (h : Heap) : Prop :=
  match v with
  | .int .i64 r1 => Q r1 h
  | _ => False

def palisaderef02_Shape.C (vs : List V) (κ : V → Heap → Prop) (h : Heap) : Prop :=
  match vs with
  | [.int .i64 a1] => palisaderef02_Shape a1 (fun r1 h => κ (.int .i64 r1) h) h
  | _ => False

noncomputable def palisaderef02_Shape.calls : List (Nat × (List V → (V → Heap → Prop) → Heap → Prop)) := []

noncomputable def palisaderef02_Shape.E (Q : Int → Heap → Prop) (cuts : List (Nat × (List Nat × (List V → Heap → Prop)))) : Env := { tis := tisT, fns := fnsT, tys := tysT, gls := [], rts := rtsT, unk := [], nxt := [], calls := palisaderef02_Shape.calls, ifc := noIfc, cuts := cuts, ret := palisaderef02_Shape.ret Q, rets := [.tmp 2], n := 76 }

theorem palisaderef02_Shape.callsOK {W0 : World} : CallsOK sg W0 palisaderef02_Shape.calls := trivial

def palisaderef02_Shape.k4 (I : Heap → Prop) (vs : List V) (h : Heap) : Prop :=
  match vs with
  | [] => I  h
  | _ => False

def palisaderef02_Shape.k9 (I : Int → Heap → Prop) (vs : List V) (h : Heap) : Prop :=
  match vs with
  | [.int .i64 a1] => I a1 h
  | _ => False

def palisaderef02_Shape.k7 (I : Int → Heap → Prop) (vs : List V) (h : Heap) : Prop :=
  match vs with
  | [.int .i64 a1] => I a1 h
  | _ => False

def palisaderef02_Shape.k5 (I : Int → Heap → Prop) (vs : List V) (h : Heap) : Prop :=
  match vs with
  | [.int .i64 a1] => I a1 h
  | _ => False

def palisaderef02_Shape.k3 (I : Int → Heap → Prop) (vs : List V) (h : Heap) : Prop :=
  match vs with
  | [.int .i64 a1] => I a1 h
  | _ => False

theorem palisaderef02_Shape.p4 : (posC palisaderef02_Shape.code []).filter (fun p => Nat.beq p.1 4) = [(4, atPos (posC palisaderef02_Shape.code []) 4)] := by kernel_rfl

theorem palisaderef02_Shape.e4 : ∀   (Q : Int → Heap → Prop) (h : Heap), palisaderef02_Shape.j4   Q h = pts (palisaderef02_Shape.E Q []) 3000 true (atPos (posC palisaderef02_Shape.code []) 4) (frAt [] []) h := by
  intros; kernel_rfl

theorem palisaderef02_Shape.s4 {W0 : World} (Q : Int → Heap → Prop)   : CutOK sg W0 76 (entered 27) (Post sg W0 (palisaderef02_Shape.ret Q)) (posC palisaderef02_Shape.code []) 4 [] (palisaderef02_Shape.k4 (fun  h => palisaderef02_Shape.j4   Q h)) := by
  refine cutOK_head (fun vs h hk => ?_)
  unfold palisaderef02_Shape.k4 at hk
  split at hk
  · skip
    intro todo hm ρ a w s f hp
    exact piece (E := palisaderef02_Shape.E Q []) (vs := []) (envOK seatOK palisaderef02_Shape.callsOK noIfc_ok) (fnOK seatOK palisaderef02_Shape.fun) trivial palisaderef02_Shape.p4 (fuel := 3000) (by rw [← palisaderef02_Shape.e4]; exact hk) hm s f hp
  · exact hk.elim

theorem palisaderef02_Shape.p9 : (posC palisaderef02_Shape.code []).filter (fun p => Nat.beq p.1 9) = [(9, atPos (posC palisaderef02_Shape.code []) 9)] := by kernel_rfl

theorem palisaderef02_Shape.e9 : ∀  (a1 : Int) (Q : Int → Heap → Prop) (h : Heap), palisaderef02_Shape.j9  a1 Q h = pts (palisaderef02_Shape.E Q []) 3000 true (atPos (posC palisaderef02_Shape.code []) 9) (frAt [0] [.int .i64 a1]) h := by
  intros; kernel_rfl

theorem palisaderef02_Shape.s9 {W0 : World} (Q : Int → Heap → Prop)   : CutOK sg W0 76 (entered 27) (Post sg W0 (palisaderef02_Shape.ret Q)) (posC palisaderef02_Shape.code []) 9 [0] (palisaderef02_Shape.k9 (fun a1 h => palisaderef02_Shape.j9  a1 Q h)) := by
  refine cutOK_head (fun vs h hk => ?_)
  unfold palisaderef02_Shape.k9 at hk
  split at hk
  · rename_i a1
    intro todo hm ρ a w s f hp
    exact piece (E := palisaderef02_Shape.E Q []) (vs := [.int .i64 a1]) (envOK seatOK palisaderef02_Shape.callsOK noIfc_ok) (fnOK seatOK palisaderef02_Shape.fun) trivial palisaderef02_Shape.p9 (fuel := 3000) (by rw [← palisaderef02_Shape.e9]; exact hk) hm s f hp
  · exact hk.elim

theorem palisaderef02_Shape.p7 : (posC palisaderef02_Shape.code []).filter (fun p => Nat.beq p.1 7) = [(7, atPos (posC palisaderef02_Shape.code []) 7)] := by kernel_rfl

theorem palisaderef02_Shape.e7 : ∀  (a1 : Int) (Q : Int → Heap → Prop) (h : Heap), palisaderef02_Shape.j7  a1 Q h = pts (palisaderef02_Shape.E Q [(9, ([0], palisaderef02_Shape.k9 (fun a1 h => palisaderef02_Shape.j9  a1 Q h)))]) 3000 true (atPos (posC palisaderef02_Shape.code []) 7) (frAt [0] [.int .i64 a1]) h := by
  intros; kernel_rfl

theorem palisaderef02_Shape.s7 {W0 : World} (Q : Int → Heap → Prop)   : CutOK sg W0 76 (entered 27) (Post sg W0 (palisaderef02_Shape.ret Q)) (posC palisaderef02_Shape.code []) 7 [0] (palisaderef02_Shape.k7 (fun a1 h => palisaderef02_Shape.j7  a1 Q h)) := by
  refine cutOK_head (fun vs h hk => ?_)
  unfold palisaderef02_Shape.k7 at hk
  split at hk
  · rename_i a1
    intro todo hm ρ a w s f hp
    exact piece (E := palisaderef02_Shape.E Q [(9, ([0], palisaderef02_Shape.k9 (fun a1 h => palisaderef02_Shape.j9  a1 Q h)))]) (vs := [.int .i64 a1]) (envOK seatOK palisaderef02_Shape.callsOK noIfc_ok) (fnOK seatOK palisaderef02_Shape.fun) ⟨(palisaderef02_Shape.s9 Q  ), trivial⟩ palisaderef02_Shape.p7 (fuel := 3000) (by rw [← palisaderef02_Shape.e7]; exact hk) hm s f hp
  · exact hk.elim

theorem palisaderef02_Shape.p5 : (posC palisaderef02_Shape.code []).filter (fun p => Nat.beq p.1 5) = [(5, atPos (posC palisaderef02_Shape.code []) 5)] := by kernel_rfl

theorem palisaderef02_Shape.e5 : ∀  (a1 : Int) (Q : Int → Heap → Prop) (h : Heap), palisaderef02_Shape.j5  a1 Q h = pts (palisaderef02_Shape.E Q [(7, ([0], palisaderef02_Shape.k7 (fun a1 h => palisaderef02_Shape.j7  a1 Q h)))]) 3000 true (atPos (posC palisaderef02_Shape.code []) 5) (frAt [0] [.int .i64 a1]) h := by
  intros; kernel_rfl

theorem palisaderef02_Shape.s5 {W0 : World} (Q : Int → Heap → Prop)   : CutOK sg W0 76 (entered 27) (Post sg W0 (palisaderef02_Shape.ret Q)) (posC palisaderef02_Shape.code []) 5 [0] (palisaderef02_Shape.k5 (fun a1 h => palisaderef02_Shape.j5  a1 Q h)) := by
  refine cutOK_head (fun vs h hk => ?_)
  unfold palisaderef02_Shape.k5 at hk
  split at hk
  · rename_i a1
    intro todo hm ρ a w s f hp
    exact piece (E := palisaderef02_Shape.E Q [(7, ([0], palisaderef02_Shape.k7 (fun a1 h => palisaderef02_Shape.j7  a1 Q h)))]) (vs := [.int .i64 a1]) (envOK seatOK palisaderef02_Shape.callsOK noIfc_ok) (fnOK seatOK palisaderef02_Shape.fun) ⟨(palisaderef02_Shape.s7 Q  ), trivial⟩ palisaderef02_Shape.p5 (fuel := 3000) (by rw [← palisaderef02_Shape.e5]; exact hk) hm s f hp
  · exact hk.elim

theorem palisaderef02_Shape.p3 : (posC palisaderef02_Shape.code []).filter (fun p => Nat.beq p.1 3) = [(3, atPos (posC palisaderef02_Shape.code []) 3)] := by kernel_rfl

theorem palisaderef02_Shape.e3 : ∀  (a1 : Int) (Q : Int → Heap → Prop) (h : Heap), palisaderef02_Shape.j3  a1 Q h = pts (palisaderef02_Shape.E Q [(4, ([], palisaderef02_Shape.k4 (fun  h => palisaderef02_Shape.j4   Q h))), (5, ([0], palisaderef02_Shape.k5 (fun a1 h => palisaderef02_Shape.j5  a1 Q h)))]) 3000 true (atPos (posC palisaderef02_Shape.code []) 3) (frAt [0] [.int .i64 a1]) h := by
  intros; kernel_rfl

theorem palisaderef02_Shape.s3 {W0 : World} (Q : Int → Heap → Prop)   : CutOK sg W0 76 (entered 27) (Post sg W0 (palisaderef02_Shape.ret Q)) (posC palisaderef02_Shape.code []) 3 [0] (palisaderef02_Shape.k3 (fun a1 h => palisaderef02_Shape.j3  a1 Q h)) := by
  refine cutOK_head (fun vs h hk => ?_)
  unfold palisaderef02_Shape.k3 at hk
  split at hk
  · rename_i a1
    intro todo hm ρ a w s f hp
    exact piece (E := palisaderef02_Shape.E Q [(4, ([], palisaderef02_Shape.k4 (fun  h => palisaderef02_Shape.j4   Q h))), (5, ([0], palisaderef02_Shape.k5 (fun a1 h => palisaderef02_Shape.j5  a1 Q h)))]) (vs := [.int .i64 a1]) (envOK seatOK palisaderef02_Shape.callsOK noIfc_ok) (fnOK seatOK palisaderef02_Shape.fun) ⟨(palisaderef02_Shape.s4 Q  ), (palisaderef02_Shape.s5 Q  ), trivial⟩ palisaderef02_Shape.p3 (fuel := 3000) (by rw [← palisaderef02_Shape.e3]; exact hk) hm s f hp
  · exact hk.elim

theorem palisaderef02_Shape.e : ∀ (a1 : Int) (Q : Int → Heap → Prop) (h : Heap), palisaderef02_Shape a1 Q h = pts (palisaderef02_Shape.E Q [(3, ([0], palisaderef02_Shape.k3 (fun a1 h => palisaderef02_Shape.j3  a1 Q h)))]) 3000 true [.code palisaderef02_Shape.code] (frOf 0 [.int .i64 a1]) h := by
  intros; kernel_rfl

theorem palisaderef02_Shape.S {W0 : World} : FnS sg W0 222 palisaderef02_Shape.C := by
  intro vs κ h wv hx w s
  unfold palisaderef02_Shape.C at hx
  split at hx
  · rename_i a1
    refine postImp (ret := palisaderef02_Shape.ret (fun r1 h => κ (.int .i64 r1) h)) (fun v h hr => by unfold palisaderef02_Shape.ret at hr; split at hr; exact hr; exact hr.elim) ?_
    exact calls_of_pts (E := palisaderef02_Shape.E (fun r1 h => κ (.int .i64 r1) h) [(3, ([0], palisaderef02_Shape.k3 (fun a1 h => palisaderef02_Shape.j3  a1 (fun r1 h => κ (.int .i64 r1) h) h)))]) (envOK seatOK palisaderef02_Shape.callsOK noIfc_ok) seatOK.mixed palisaderef02_Shape.fun (Nat.le_of_ble_eq_true rfl) wv (cutL_ok ⟨(palisaderef02_Shape.s3 (fun r1 h => κ (.int .i64 r1) h)), trivial⟩) s (fuel := 3000) (by rw [← palisaderef02_Shape.e]; exact hx)
  · exact hx.elim

noncomputable def palisaderef01_Sign.code : Code := Go.Proofs.Tryd.f28.body.getD .skip

theorem palisaderef01_Sign.fun : Fun sg.P 28 35 [.tmp 4] palisaderef01_Sign.code := mkFun Go.Proofs.Tryd.func28 (by kernel_rfl) (by kernel_rfl) (by kernel_rfl) (by kernel_rfl)

def palisaderef01_Sign.ret (Q : Int → Heap → Prop) (v : V) (h : Heap) : Prop :=
  match v with
  | .int .i64 r1 => Q r1 h
  | _ => False

def palisaderef01_Sign.C (vs : List V) (κ : V → Heap → Prop) (h : Heap) : Prop :=
  match vs with
  | [.int .i64 a1, .int .i64 a2] => palisaderef01_Sign a1 a2 (fun r1 h => κ (.int .i64 r1) h) h
  | _ => False

noncomputable def palisaderef01_Sign.calls : List (Nat × (List V → (V → Heap → Prop) → Heap → Prop)) := []

noncomputable def palisaderef01_Sign.E (Q : Int → Heap → Prop) (cuts : List (Nat × (List Nat × (List V → Heap → Prop)))) : Env := { tis := tisT, fns := fnsT, tys := tysT, gls := [], rts := rtsT, unk := [], nxt := [], calls := palisaderef01_Sign.calls, ifc := noIfc, cuts := cuts, ret := palisaderef01_Sign.ret Q, rets := [.tmp 4], n := 35 }

theorem palisaderef01_Sign.callsOK {W0 : World} : CallsOK sg W0 palisaderef01_Sign.calls := trivial

def palisaderef01_Sign.k2 (I : Heap → Prop) (vs : List V) (h : Heap) : Prop :=
  match vs with
  | [] => I  h
  | _ => False

def palisaderef01_Sign.k6 (I : Int → Heap → Prop) (vs : List V) (h : Heap) : Prop :=
  match vs with
  | [.int .i64 a1] => I a1 h
  | _ => False

theorem palisaderef01_Sign.p2 : (posC palisaderef01_Sign.code []).filter (fun p => Nat.beq p.1 2) = [(2, atPos (posC palisaderef01_Sign.code []) 2)] := by kernel_rfl

theorem palisaderef01_Sign.e2 : ∀   (Q : Int → Heap → Prop) (h : Heap), palisaderef01_Sign.j2   Q h = pts (palisaderef01_Sign.E Q []) 3000 true (atPos (posC palisaderef01_Sign.code []) 2) (frAt [] []) h := by
  intros; kernel_rfl

theorem palisaderef01_Sign.s2 {W0 : World} (Q : Int → Heap → Prop)   : CutOK sg W0 35 (entered 28) (Post sg W0 (palisaderef01_Sign.ret Q)) (posC palisaderef01_Sign.code []) 2 [] (palisaderef01_Sign.k2 (fun  h => palisaderef01_Sign.j2   Q h)) := by
  refine cutOK_head (fun vs h hk => ?_)
  unfold palisaderef01_Sign.k2 at hk
  split at hk
  · skip
    intro todo hm ρ a w s f hp
    exact piece (E := palisaderef01_Sign.E Q []) (vs := []) (envOK seatOK palisaderef01_Sign.callsOK noIfc_ok) (fnOK seatOK palisaderef01_Sign.fun) trivial palisaderef01_Sign.p2 (fuel := 3000) (by rw [← palisaderef01_Sign.e2]; exact hk) hm s f hp
  · exact hk.elim

theorem palisaderef01_Sign.p6 : (posC palisaderef01_Sign.code []).filter (fun p => Nat.beq p.1 6) = [(6, atPos (posC palisaderef01_Sign.code []) 6)] := by kernel_rfl

theorem palisaderef01_Sign.e6 : ∀  (a1 : Int) (Q : Int → Heap → Prop) (h : Heap), palisaderef01_Sign.j6  a1 Q h = pts (palisaderef01_Sign.E Q []) 3000 true (atPos (posC palisaderef01_Sign.code []) 6) (frAt [0] [.int .i64 a1]) h := by
  intros; kernel_rfl

theorem palisaderef01_Sign.s6 {W0 : World} (Q : Int → Heap → Prop)   : CutOK sg W0 35 (entered 28) (Post sg W0 (palisaderef01_Sign.ret Q)) (posC palisaderef01_Sign.code []) 6 [0] (palisaderef01_Sign.k6 (fun a1 h => palisaderef01_Sign.j6  a1 Q h)) := by
  refine cutOK_head (fun vs h hk => ?_)
  unfold palisaderef01_Sign.k6 at hk
  split at hk
  · rename_i a1
    intro todo hm ρ a w s f hp
    exact piece (E := palisaderef01_Sign.E Q []) (vs := [.int .i64 a1]) (envOK seatOK palisaderef01_Sign.callsOK noIfc_ok) (fnOK seatOK palisaderef01_Sign.fun) trivial palisaderef01_Sign.p6 (fuel := 3000) (by rw [← palisaderef01_Sign.e6]; exact hk) hm s f hp
  · exact hk.elim

theorem palisaderef01_Sign.e : ∀ (a1 : Int) (a2 : Int) (Q : Int → Heap → Prop) (h : Heap), palisaderef01_Sign a1 a2 Q h = pts (palisaderef01_Sign.E Q [(2, ([], palisaderef01_Sign.k2 (fun  h => palisaderef01_Sign.j2   Q h))), (6, ([0], palisaderef01_Sign.k6 (fun a1 h => palisaderef01_Sign.j6  a1 Q h)))]) 3000 true [.code palisaderef01_Sign.code] (frOf 0 [.int .i64 a1, .int .i64 a2]) h := by
  intros; kernel_rfl

theorem palisaderef01_Sign.S {W0 : World} : FnS sg W0 343 palisaderef01_Sign.C := by
  intro vs κ h wv hx w s
  unfold palisaderef01_Sign.C at hx
  split at hx
  · rename_i a1 a2
    refine postImp (ret := palisaderef01_Sign.ret (fun r1 h => κ (.int .i64 r1) h)) (fun v h hr => by unfold palisaderef01_Sign.ret at hr; split at hr; exact hr; exact hr.elim) ?_
    exact calls_of_pts (E := palisaderef01_Sign.E (fun r1 h => κ (.int .i64 r1) h) [(2, ([], palisaderef01_Sign.k2 (fun  h => palisaderef01_Sign.j2   (fun r1 h => κ (.int .i64 r1) h) h))), (6, ([0], palisaderef01_Sign.k6 (fun a1 h => palisaderef01_Sign.j6  a1 (fun r1 h => κ (.int .i64 r1) h) h)))]) (envOK seatOK palisaderef01_Sign.callsOK noIfc_ok) seatOK.mixed palisaderef01_Sign.fun (Nat.le_of_ble_eq_true rfl) wv (cutL_ok ⟨(palisaderef01_Sign.s2 (fun r1 h => κ (.int .i64 r1) h)), (palisaderef01_Sign.s6 (fun r1 h => κ (.int .i64 r1) h)), trivial⟩) s (fuel := 3000) (by rw [← palisaderef01_Sign.e]; exact hx)
  · exact hx.elim

noncomputable def palisaderef02_reg.code : Code := Go.Proofs.Tryd.f53.body.getD .skip

theorem palisaderef02_reg.fun : Fun sg.P 53 9 [.tmp 2] palisaderef02_reg.code := mkFun Go.Proofs.Tryd.func53 (by kernel_rfl) (by kernel_rfl) (by kernel_rfl) (by kernel_rfl)

def palisaderef02_reg.ret (Q : Bool → Heap → Prop) (v : V) (h : Heap) : Prop :=
  match v with
  | .bool r1 => Q r1 h
  | _ => False

def palisaderef02_reg.C (vs : List V) (κ : V → Heap → Prop) (h : Heap) : Prop :=
  match vs with
  | [.int .i64 a1] => palisaderef02_reg a1 (fun r1 h => κ (.bool r1) h) h
  | _ => False

noncomputable def palisaderef02_reg.calls : List (Nat × (List V → (V → Heap → Prop) → Heap → Prop)) := []

noncomputable def palisaderef02_reg.E (Q : Bool → Heap → Prop) (cuts : List (Nat × (List Nat × (List V → Heap → Prop)))) : Env := { tis := tisT, fns := fnsT, tys := tysT, gls := [], rts := rtsT, unk := [], nxt := [], calls := palisaderef02_reg.calls, ifc := noIfc, cuts := cuts, ret := palisaderef02_reg.ret Q, rets := [.tmp 2], n := 9 }

theorem palisaderef02_reg.callsOK {W0 : World} : CallsOK sg W0 palisaderef02_reg.calls := trivial

theorem palisaderef02_reg.e : ∀ (a1 : Int) (Q : Bool → Heap → Prop) (h : Heap), palisaderef02_reg a1 Q h = pts (palisaderef02_reg.E Q []) 3000 true [.code palisaderef02_reg.code] (frOf 0 [.int .i64 a1]) h := by
  intros; kernel_rfl

theorem palisaderef02_reg.S {W0 : World} : FnS sg W0 223 palisaderef02_reg.C := by
  intro vs κ h wv hx w s
  unfold palisaderef02_reg.C at hx
  split at hx
  · rename_i a1
    refine postImp (ret := palisaderef02_reg.ret (fun r1 h => κ (.bool r1) h)) (fun v h hr => by unfold palisaderef02_reg.ret at hr; split at hr; exact hr; exact hr.elim) ?_
    exact calls_of_pts (E := palisaderef02_reg.E (fun r1 h => κ (.bool r1) h) []) (envOK seatOK palisaderef02_reg.callsOK noIfc_ok) seatOK.mixed palisaderef02_reg.fun (Nat.le_of_ble_eq_true rfl) wv (cutL_ok trivial) s (fuel := 3000) (by rw [← palisaderef02_reg.e]; exact hx)
  · exact hx.elim

end Go.Fn
