/- The links of the shallow functions to the machine. PRINTED by lift.py. -/
import Derived.Test.YthapldoonognpaaGreatDoorGb1
set_option linter.unusedVariables false
set_option maxRecDepth 100000
namespace Go.Fn
open Go.Lift

noncomputable def insn_Shape.code : Code := Go.Proofs.Tryz.f61.body.getD .skip

theorem insn_Shape.fun : Fun sg.P 61 14 [.tmp 2, .tmp 3] insn_Shape.code := mkFun Go.Proofs.Tryz.func61 (by kernel_rfl) (by kernel_rfl) (by kernel_rfl) (by kernel_rfl)

def insn_Shape.ret (Q : Int → Bool → Heap → Prop) (v : V) (h : Heap) : Prop :=
  match v with
  | .tup [.int .i64 r1, .bool r2] => Q r1 r2 h
  | _ => False

def insn_Shape.C (vs : List V) (κ : V → Heap → Prop) (h : Heap) : Prop :=
  match vs with
  | [.int .i64 a1] => insn_Shape a1 (fun r1 r2 h => κ (.tup [.int .i64 r1, .bool r2]) h) h
  | _ => False

noncomputable def insn_Shape.calls : List (Nat × (List V → (V → Heap → Prop) → Heap → Prop)) := [(174, insn_shapes.C)]

noncomputable def insn_Shape.E (Q : Int → Bool → Heap → Prop) (cuts : List (Nat × (List Nat × (List V → Heap → Prop)))) : Env := { tis := tisT, fns := fnsT, tys := tysT, gls := [], rts := rtsT, unk := [], nxt := [], calls := insn_Shape.calls, ifc := noIfc, cuts := cuts, ret := insn_Shape.ret Q, rets := [.tmp 2, .tmp 3], n := 14 }

theorem insn_Shape.callsOK {W0 : World} : CallsOK sg W0 insn_Shape.calls := ⟨insn_shapes.S, trivial⟩

theorem insn_Shape.e : ∀ (a1 : Int) (Q : Int → Bool → Heap → Prop) (h : Heap), insn_Shape a1 Q h = pts (insn_Shape.E Q []) 3000 true [.code insn_Shape.code] (frOf 0 [.int .i64 a1]) h := by
  intros; kernel_rfl

theorem insn_Shape.S {W0 : World} : FnS sg W0 175 insn_Shape.C := by
  intro vs κ h wv hx w s
  unfold insn_Shape.C at hx
  split at hx
  · rename_i a1
    refine postImp (ret := insn_Shape.ret (fun r1 r2 h => κ (.tup [.int .i64 r1, .bool r2]) h)) (fun v h hr => by unfold insn_Shape.ret at hr; split at hr; exact hr; exact hr.elim) ?_
    exact calls_of_pts (E := insn_Shape.E (fun r1 r2 h => κ (.tup [.int .i64 r1, .bool r2]) h) []) (envOK seatOK insn_Shape.callsOK noIfc_ok) seatOK.mixed insn_Shape.fun (Nat.le_of_ble_eq_true rfl) wv (cutL_ok trivial) s (fuel := 3000) (by rw [← insn_Shape.e]; exact hx)
  · exact hx.elim

noncomputable def word_Sign.code : Code := Go.Proofs.Tryz.f62.body.getD .skip

theorem word_Sign.fun : Fun sg.P 62 15 [.tmp 4] word_Sign.code := mkFun Go.Proofs.Tryz.func62 (by kernel_rfl) (by kernel_rfl) (by kernel_rfl) (by kernel_rfl)

def word_Sign.ret (Q : Int → Heap → Prop) (v : V) (h : Heap) : Prop :=
  match v with
  | .int .i64 r1 => Q r1 h
  | _ => False

def word_Sign.C (vs : List V) (κ : V → Heap → Prop) (h : Heap) : Prop :=
  match vs with
  | [.int .i64 a1, .int .i64 a2] => word_Sign a1 a2 (fun r1 h => κ (.int .i64 r1) h) h
  | _ => False

noncomputable def word_Sign.calls : List (Nat × (List V → (V → Heap → Prop) → Heap → Prop)) := [(169, word_within_int.C)]

noncomputable def word_Sign.E (Q : Int → Heap → Prop) (cuts : List (Nat × (List Nat × (List V → Heap → Prop)))) : Env := { tis := tisT, fns := fnsT, tys := tysT, gls := [], rts := rtsT, unk := [], nxt := [], calls := word_Sign.calls, ifc := noIfc, cuts := cuts, ret := word_Sign.ret Q, rets := [.tmp 4], n := 15 }

theorem word_Sign.callsOK {W0 : World} : CallsOK sg W0 word_Sign.calls := ⟨word_within_int.S, trivial⟩

theorem word_Sign.e : ∀ (a1 : Int) (a2 : Int) (Q : Int → Heap → Prop) (h : Heap), word_Sign a1 a2 Q h = pts (word_Sign.E Q []) 3000 true [.code word_Sign.code] (frOf 0 [.int .i64 a1, .int .i64 a2]) h := by
  intros; kernel_rfl

theorem word_Sign.S {W0 : World} : FnS sg W0 176 word_Sign.C := by
  intro vs κ h wv hx w s
  unfold word_Sign.C at hx
  split at hx
  · rename_i a1 a2
    refine postImp (ret := word_Sign.ret (fun r1 h => κ (.int .i64 r1) h)) (fun v h hr => by unfold word_Sign.ret at hr; split at hr; exact hr; exact hr.elim) ?_
    exact calls_of_pts (E := word_Sign.E (fun r1 h => κ (.int .i64 r1) h) []) (envOK seatOK word_Sign.callsOK noIfc_ok) seatOK.mixed word_Sign.fun (Nat.le_of_ble_eq_true rfl) wv (cutL_ok trivial) s (fuel := 3000) (by rw [← word_Sign.e]; exact hx)
  · exact hx.elim

noncomputable def word_Fits.code : Code := Go.Proofs.Tryz.f95.body.getD .skip

theorem word_Fits.fun : Fun sg.P 95 14 [.tmp 4] word_Fits.code := mkFun Go.Proofs.Tryz.func95 (by kernel_rfl) (by kernel_rfl) (by kernel_rfl) (by kernel_rfl)

def word_Fits.ret (Q : Bool → Heap → Prop) (v : V) (h : Heap) : Prop :=
  match v with
  | .bool r1 => Q r1 h
  | _ => False

def word_Fits.C (vs : List V) (κ : V → Heap → Prop) (h : Heap) : Prop :=
  match vs with
  | [.int .i64 a1, .int .i64 a2] => word_Fits a1 a2 (fun r1 h => κ (.bool r1) h) h
  | _ => False

noncomputable def word_Fits.calls : List (Nat × (List V → (V → Heap → Prop) → Heap → Prop)) := [(176, word_Sign.C), (169, word_within_int.C)]

noncomputable def word_Fits.E (Q : Bool → Heap → Prop) (cuts : List (Nat × (List Nat × (List V → Heap → Prop)))) : Env := { tis := tisT, fns := fnsT, tys := tysT, gls := [], rts := rtsT, unk := [], nxt := [], calls := word_Fits.calls, ifc := noIfc, cuts := cuts, ret := word_Fits.ret Q, rets := [.tmp 4], n := 14 }

theorem word_Fits.callsOK {W0 : World} : CallsOK sg W0 word_Fits.calls := ⟨word_Sign.S, word_within_int.S, trivial⟩

theorem word_Fits.e : ∀ (a1 : Int) (a2 : Int) (Q : Bool → Heap → Prop) (h : Heap), word_Fits a1 a2 Q h = pts (word_Fits.E Q []) 3000 true [.code word_Fits.code] (frOf 0 [.int .i64 a1, .int .i64 a2]) h := by
  intros; kernel_rfl

theorem word_Fits.S {W0 : World} : FnS sg W0 177 word_Fits.C := by
  intro vs κ h wv hx w s
  unfold word_Fits.C at hx
  split at hx
  · rename_i a1 a2
    refine postImp (ret := word_Fits.ret (fun r1 h => κ (.bool r1) h)) (fun v h hr => by unfold word_Fits.ret at hr; split at hr; exact hr; exact hr.elim) ?_
    exact calls_of_pts (E := word_Fits.E (fun r1 h => κ (.bool r1) h) []) (envOK seatOK word_Fits.callsOK noIfc_ok) seatOK.mixed word_Fits.fun (Nat.le_of_ble_eq_true rfl) wv (cutL_ok trivial) s (fuel := 3000) (by rw [← word_Fits.e]; exact hx)
  · exact hx.elim

noncomputable def insn_immOf.code : Code := Go.Proofs.Tryz.f92.body.getD .skip

theorem insn_immOf.fun : Fun sg.P 92 41 [.tmp 6] insn_immOf.code := mkFun Go.Proofs.Tryz.func92 (by kernel_rfl) (by kernel_rfl) (by kernel_rfl) (by kernel_rfl)

def insn_immOf.ret (Q : Bool → Heap → Prop) (v : V) (h : Heap) : Prop :=
  match v with
  | .bool r1 => Q r1 h
  | _ => False

def insn_immOf.C (vs : List V) (κ : V → Heap → Prop) (h : Heap) : Prop :=
  match vs with
  | [.int .i64 a1, .int .i64 a2, .int .i64 a3] => insn_immOf a1 a2 a3 (fun r1 h => κ (.bool r1) h) h
  | _ => False

noncomputable def insn_immOf.calls : List (Nat × (List V → (V → Heap → Prop) → Heap → Prop)) := [(177, word_Fits.C)]

noncomputable def insn_immOf.E (Q : Bool → Heap → Prop) (cuts : List (Nat × (List Nat × (List V → Heap → Prop)))) : Env := { tis := tisT, fns := fnsT, tys := tysT, gls := [], rts := rtsT, unk := [], nxt := [], calls := insn_immOf.calls, ifc := noIfc, cuts := cuts, ret := insn_immOf.ret Q, rets := [.tmp 6], n := 41 }

theorem insn_immOf.callsOK {W0 : World} : CallsOK sg W0 insn_immOf.calls := ⟨word_Fits.S, trivial⟩

def insn_immOf.k5 (I : Int → Heap → Prop) (vs : List V) (h : Heap) : Prop :=
  match vs with
  | [.int .i64 a1] => I a1 h
  | _ => False

def insn_immOf.k9 (I : Int → Heap → Prop) (vs : List V) (h : Heap) : Prop :=
  match vs with
  | [.int .i64 a1] => I a1 h
  | _ => False

theorem insn_immOf.p5 : (posC insn_immOf.code []).filter (fun p => Nat.beq p.1 5) = [(5, atPos (posC insn_immOf.code []) 5)] := by kernel_rfl

theorem insn_immOf.e5 : ∀  (a1 : Int) (Q : Bool → Heap → Prop) (h : Heap), insn_immOf.j5  a1 Q h = pts (insn_immOf.E Q []) 3000 true (atPos (posC insn_immOf.code []) 5) (frAt [2] [.int .i64 a1]) h := by
  intros; kernel_rfl

theorem insn_immOf.s5 {W0 : World} (Q : Bool → Heap → Prop)   : CutOK sg W0 41 (entered 92) (Post sg W0 (insn_immOf.ret Q)) (posC insn_immOf.code []) 5 [2] (insn_immOf.k5 (fun a1 h => insn_immOf.j5  a1 Q h)) := by
  refine cutOK_head (fun vs h hk => ?_)
  unfold insn_immOf.k5 at hk
  split at hk
  · rename_i a1
    intro todo hm ρ a w s f hp
    exact piece (E := insn_immOf.E Q []) (vs := [.int .i64 a1]) (envOK seatOK insn_immOf.callsOK noIfc_ok) (fnOK seatOK insn_immOf.fun) trivial insn_immOf.p5 (fuel := 3000) (by rw [← insn_immOf.e5]; exact hk) hm s f hp
  · exact hk.elim

theorem insn_immOf.p9 : (posC insn_immOf.code []).filter (fun p => Nat.beq p.1 9) = [(9, atPos (posC insn_immOf.code []) 9)] := by kernel_rfl

theorem insn_immOf.e9 : ∀  (a1 : Int) (Q : Bool → Heap → Prop) (h : Heap), insn_immOf.j9  a1 Q h = pts (insn_immOf.E Q []) 3000 true (atPos (posC insn_immOf.code []) 9) (frAt [2] [.int .i64 a1]) h := by
  intros; kernel_rfl

theorem insn_immOf.s9 {W0 : World} (Q : Bool → Heap → Prop)   : CutOK sg W0 41 (entered 92) (Post sg W0 (insn_immOf.ret Q)) (posC insn_immOf.code []) 9 [2] (insn_immOf.k9 (fun a1 h => insn_immOf.j9  a1 Q h)) := by
  refine cutOK_head (fun vs h hk => ?_)
  unfold insn_immOf.k9 at hk
  split at hk
  · rename_i a1
    intro todo hm ρ a w s f hp
    exact piece (E := insn_immOf.E Q []) (vs := [.int .i64 a1]) (envOK seatOK insn_immOf.callsOK noIfc_ok) (fnOK seatOK insn_immOf.fun) trivial insn_immOf.p9 (fuel := 3000) (by rw [← insn_immOf.e9]; exact hk) hm s f hp
  · exact hk.elim

theorem insn_immOf.e : ∀ (a1 : Int) (a2 : Int) (a3 : Int) (Q : Bool → Heap → Prop) (h : Heap), insn_immOf a1 a2 a3 Q h = pts (insn_immOf.E Q [(5, ([2], insn_immOf.k5 (fun a1 h => insn_immOf.j5  a1 Q h))), (9, ([2], insn_immOf.k9 (fun a1 h => insn_immOf.j9  a1 Q h)))]) 3000 true [.code insn_immOf.code] (frOf 0 [.int .i64 a1, .int .i64 a2, .int .i64 a3]) h := by
  intros; kernel_rfl

theorem insn_immOf.S {W0 : World} : FnS sg W0 178 insn_immOf.C := by
  intro vs κ h wv hx w s
  unfold insn_immOf.C at hx
  split at hx
  · rename_i a1 a2 a3
    refine postImp (ret := insn_immOf.ret (fun r1 h => κ (.bool r1) h)) (fun v h hr => by unfold insn_immOf.ret at hr; split at hr; exact hr; exact hr.elim) ?_
    exact calls_of_pts (E := insn_immOf.E (fun r1 h => κ (.bool r1) h) [(5, ([2], insn_immOf.k5 (fun a1 h => insn_immOf.j5  a1 (fun r1 h => κ (.bool r1) h) h))), (9, ([2], insn_immOf.k9 (fun a1 h => insn_immOf.j9  a1 (fun r1 h => κ (.bool r1) h) h)))]) (envOK seatOK insn_immOf.callsOK noIfc_ok) seatOK.mixed insn_immOf.fun (Nat.le_of_ble_eq_true rfl) wv (cutL_ok ⟨(insn_immOf.s5 (fun r1 h => κ (.bool r1) h)), (insn_immOf.s9 (fun r1 h => κ (.bool r1) h)), trivial⟩) s (fuel := 3000) (by rw [← insn_immOf.e]; exact hx)
  · exact hx.elim

noncomputable def insn_Valid.code : Code := Go.Proofs.Tryz.f85.body.getD .skip

theorem insn_Valid.fun : Fun sg.P 85 94 [.tmp 2] insn_Valid.code := mkFun Go.Proofs.Tryz.func85 (by kernel_rfl) (by kernel_rfl) (by kernel_rfl) (by kernel_rfl)

def insn_Valid.ret (Q : Bool → Heap → Prop) (v : V) (h : Heap) : Prop :=
  match v with
  | .bool r1 => Q r1 h
  | _ => False

def insn_Valid.C (vs : List V) (κ : V → Heap → Prop) (h : Heap) : Prop :=
  match vs with
  | [.agg [.int .i64 a1, .int .i64 a2, .int .i64 a3, .int .i64 a4, .int .i64 a5]] => insn_Valid a1 a2 a3 a4 a5 (fun r1 h => κ (.bool r1) h) h
  | _ => False

noncomputable def insn_Valid.calls : List (Nat × (List V → (V → Heap → Prop) → Heap → Prop)) := [(175, insn_Shape.C), (178, insn_immOf.C)]

noncomputable def insn_Valid.E (Q : Bool → Heap → Prop) (cuts : List (Nat × (List Nat × (List V → Heap → Prop)))) : Env := { tis := tisT, fns := fnsT, tys := tysT, gls := [], rts := rtsT, unk := [], nxt := [], calls := insn_Valid.calls, ifc := noIfc, cuts := cuts, ret := insn_Valid.ret Q, rets := [.tmp 2], n := 94 }

theorem insn_Valid.callsOK {W0 : World} : CallsOK sg W0 insn_Valid.calls := ⟨insn_Shape.S, insn_immOf.S, trivial⟩

def insn_Valid.k3 (I : Heap → Prop) (vs : List V) (h : Heap) : Prop :=
  match vs with
  | [] => I  h
  | _ => False

def insn_Valid.k8 (I : Heap → Prop) (vs : List V) (h : Heap) : Prop :=
  match vs with
  | [] => I  h
  | _ => False

def insn_Valid.k9 (I : Sl → Int → Int → Heap → Prop) (vs : List V) (h : Heap) : Prop :=
  match vs with
  | [.sl a1, .int .i64 a2, .int .i64 a3] => I a1 a2 a3 h
  | _ => False

def insn_Valid.k5 (I : Sl → Int → Int → Heap → Prop) (vs : List V) (h : Heap) : Prop :=
  match vs with
  | [.sl a1, .int .i64 a2, .int .i64 a3] => I a1 a2 a3 h
  | _ => False

def insn_Valid.k4 (I : Ptr → Int → Heap → Prop) (vs : List V) (h : Heap) : Prop :=
  match vs with
  | [.ptr (some a1), .int .i64 a2] => I a1 a2 h
  | _ => False

theorem insn_Valid.p3 : (posC insn_Valid.code []).filter (fun p => Nat.beq p.1 3) = [(3, atPos (posC insn_Valid.code []) 3)] := by kernel_rfl

theorem insn_Valid.e3 : ∀   (Q : Bool → Heap → Prop) (h : Heap), insn_Valid.j3   Q h = pts (insn_Valid.E Q []) 3000 true (atPos (posC insn_Valid.code []) 3) (frAt [] []) h := by
  intros; kernel_rfl

theorem insn_Valid.s3 {W0 : World} (Q : Bool → Heap → Prop)   : CutOK sg W0 94 (entered 85) (Post sg W0 (insn_Valid.ret Q)) (posC insn_Valid.code []) 3 [] (insn_Valid.k3 (fun  h => insn_Valid.j3   Q h)) := by
  refine cutOK_head (fun vs h hk => ?_)
  unfold insn_Valid.k3 at hk
  split at hk
  · skip
    intro todo hm ρ a w s f hp
    exact piece (E := insn_Valid.E Q []) (vs := []) (envOK seatOK insn_Valid.callsOK noIfc_ok) (fnOK seatOK insn_Valid.fun) trivial insn_Valid.p3 (fuel := 3000) (by rw [← insn_Valid.e3]; exact hk) hm s f hp
  · exact hk.elim

theorem insn_Valid.p8 : (posC insn_Valid.code []).filter (fun p => Nat.beq p.1 8) = [(8, atPos (posC insn_Valid.code []) 8)] := by kernel_rfl

theorem insn_Valid.e8 : ∀ (I5 : Sl → Int → Int → Heap → Prop)  (Q : Bool → Heap → Prop) (h : Heap), insn_Valid.j8 I5  Q h = pts (insn_Valid.E Q []) 3000 true (atPos (posC insn_Valid.code []) 8) (frAt [] []) h := by
  intros; kernel_rfl

theorem insn_Valid.s8 {W0 : World} (Q : Bool → Heap → Prop) (I5 : Sl → Int → Int → Heap → Prop) (h5 : CutOK sg W0 94 (entered 85) (Post sg W0 (insn_Valid.ret Q)) (posC insn_Valid.code []) 5 [69, 70, 71] (insn_Valid.k5 I5)) : CutOK sg W0 94 (entered 85) (Post sg W0 (insn_Valid.ret Q)) (posC insn_Valid.code []) 8 [] (insn_Valid.k8 (fun  h => insn_Valid.j8 I5  Q h)) := by
  refine cutOK_head (fun vs h hk => ?_)
  unfold insn_Valid.k8 at hk
  split at hk
  · skip
    intro todo hm ρ a w s f hp
    exact piece (E := insn_Valid.E Q []) (vs := []) (envOK seatOK insn_Valid.callsOK noIfc_ok) (fnOK seatOK insn_Valid.fun) trivial insn_Valid.p8 (fuel := 3000) (by rw [← insn_Valid.e8]; exact hk) hm s f hp
  · exact hk.elim

theorem insn_Valid.p9 : (posC insn_Valid.code []).filter (fun p => Nat.beq p.1 9) = [(9, atPos (posC insn_Valid.code []) 9)] := by kernel_rfl

theorem insn_Valid.e9 : ∀ (I5 : Sl → Int → Int → Heap → Prop) (a1 : Sl) (a2 : Int) (a3 : Int) (Q : Bool → Heap → Prop) (h : Heap), insn_Valid.j9 I5 a1 a2 a3 Q h = pts (insn_Valid.E Q [(5, ([69, 70, 71], insn_Valid.k5 I5))]) 3000 true (atPos (posC insn_Valid.code []) 9) (frAt [69, 70, 71] [.sl a1, .int .i64 a2, .int .i64 a3]) h := by
  intros; kernel_rfl

theorem insn_Valid.s9 {W0 : World} (Q : Bool → Heap → Prop) (I5 : Sl → Int → Int → Heap → Prop) (h5 : CutOK sg W0 94 (entered 85) (Post sg W0 (insn_Valid.ret Q)) (posC insn_Valid.code []) 5 [69, 70, 71] (insn_Valid.k5 I5)) : CutOK sg W0 94 (entered 85) (Post sg W0 (insn_Valid.ret Q)) (posC insn_Valid.code []) 9 [69, 70, 71] (insn_Valid.k9 (fun a1 a2 a3 h => insn_Valid.j9 I5 a1 a2 a3 Q h)) := by
  refine cutOK_head (fun vs h hk => ?_)
  unfold insn_Valid.k9 at hk
  split at hk
  · rename_i a1 a2 a3
    intro todo hm ρ a w s f hp
    exact piece (E := insn_Valid.E Q [(5, ([69, 70, 71], insn_Valid.k5 I5))]) (vs := [.sl a1, .int .i64 a2, .int .i64 a3]) (envOK seatOK insn_Valid.callsOK noIfc_ok) (fnOK seatOK insn_Valid.fun) ⟨h5, trivial⟩ insn_Valid.p9 (fuel := 3000) (by rw [← insn_Valid.e9]; exact hk) hm s f hp
  · exact hk.elim

theorem insn_Valid.p5 : (posC insn_Valid.code []).filter (fun p => Nat.beq p.1 5) = [(5, atPos (posC insn_Valid.code []) 5)] := by kernel_rfl

theorem insn_Valid.e5 : ∀  (I5 : Sl → Int → Int → Heap → Prop) (a1 : Sl) (a2 : Int) (a3 : Int) (Q : Bool → Heap → Prop) (h : Heap), insn_Valid.b5  I5 a1 a2 a3 Q h = pts (insn_Valid.E Q [(8, ([], insn_Valid.k8 (fun  h => insn_Valid.j8 I5  Q h))), (9, ([69, 70, 71], insn_Valid.k9 (fun a1 a2 a3 h => insn_Valid.j9 I5 a1 a2 a3 Q h)))]) 3000 true (atPos (posC insn_Valid.code []) 5) (frAt [69, 70, 71] [.sl a1, .int .i64 a2, .int .i64 a3]) h := by
  intros; kernel_rfl

theorem insn_Valid.s5 {W0 : World} (Q : Bool → Heap → Prop)   : CutOK sg W0 94 (entered 85) (Post sg W0 (insn_Valid.ret Q)) (posC insn_Valid.code []) 5 [69, 70, 71] (insn_Valid.k5 (fun a1 a2 a3 h => insn_Valid.j5  a1 a2 a3 Q h)) := by
  refine cutOK_head (fun vs h hk => ?_)
  unfold insn_Valid.k5 at hk
  split at hk
  · rename_i a1 a2 a3
    refine hk (fun a1 a2 a3 h => Head sg W0 94 (entered 85) (Post sg W0 (insn_Valid.ret Q)) (posC insn_Valid.code []) 5 [69, 70, 71] [.sl a1, .int .i64 a2, .int .i64 a3] h) ?_
    intro a1 a2 a3 h hb todo hm ρ a w s f hp
    have hself : CutOK sg W0 94 (entered 85) (Post sg W0 (insn_Valid.ret Q)) (posC insn_Valid.code []) 5 [69, 70, 71] (insn_Valid.k5 (fun a1 a2 a3 h => Head sg W0 94 (entered 85) (Post sg W0 (insn_Valid.ret Q)) (posC insn_Valid.code []) 5 [69, 70, 71] [.sl a1, .int .i64 a2, .int .i64 a3] h)) := cutOK_head (fun vs h hk => by unfold insn_Valid.k5 at hk; split at hk; exact hk; exact hk.elim)
    exact piece (E := insn_Valid.E Q [(8, ([], insn_Valid.k8 (fun  h => insn_Valid.j8 (fun a1 a2 a3 h => Head sg W0 94 (entered 85) (Post sg W0 (insn_Valid.ret Q)) (posC insn_Valid.code []) 5 [69, 70, 71] [.sl a1, .int .i64 a2, .int .i64 a3] h)  Q h))), (9, ([69, 70, 71], insn_Valid.k9 (fun a1 a2 a3 h => insn_Valid.j9 (fun a1 a2 a3 h => Head sg W0 94 (entered 85) (Post sg W0 (insn_Valid.ret Q)) (posC insn_Valid.code []) 5 [69, 70, 71] [.sl a1, .int .i64 a2, .int .i64 a3] h) a1 a2 a3 Q h)))]) (vs := [.sl a1, .int .i64 a2, .int .i64 a3]) (envOK seatOK insn_Valid.callsOK noIfc_ok) (fnOK seatOK insn_Valid.fun) ⟨(insn_Valid.s8 Q (fun a1 a2 a3 h => Head sg W0 94 (entered 85) (Post sg W0 (insn_Valid.ret Q)) (posC insn_Valid.code []) 5 [69, 70, 71] [.sl a1, .int .i64 a2, .int .i64 a3] h) hself), (insn_Valid.s9 Q (fun a1 a2 a3 h => Head sg W0 94 (entered 85) (Post sg W0 (insn_Valid.ret Q)) (posC insn_Valid.code []) 5 [69, 70, 71] [.sl a1, .int .i64 a2, .int .i64 a3] h) hself), trivial⟩ insn_Valid.p5 (fuel := 3000) (by rw [← insn_Valid.e5]; exact hb) hm s f hp
  · exact hk.elim

theorem insn_Valid.p4 : (posC insn_Valid.code []).filter (fun p => Nat.beq p.1 4) = [(4, atPos (posC insn_Valid.code []) 4)] := by kernel_rfl

theorem insn_Valid.e4 : ∀  (a1 : Ptr) (a2 : Int) (Q : Bool → Heap → Prop) (h : Heap), insn_Valid.j4  a1 a2 Q h = pts (insn_Valid.E Q [(5, ([69, 70, 71], insn_Valid.k5 (fun a1 a2 a3 h => insn_Valid.j5  a1 a2 a3 Q h)))]) 3000 true (atPos (posC insn_Valid.code []) 4) (frAt [1, 3] [.ptr (some a1), .int .i64 a2]) h := by
  intros; kernel_rfl

theorem insn_Valid.s4 {W0 : World} (Q : Bool → Heap → Prop)   : CutOK sg W0 94 (entered 85) (Post sg W0 (insn_Valid.ret Q)) (posC insn_Valid.code []) 4 [1, 3] (insn_Valid.k4 (fun a1 a2 h => insn_Valid.j4  a1 a2 Q h)) := by
  refine cutOK_head (fun vs h hk => ?_)
  unfold insn_Valid.k4 at hk
  split at hk
  · rename_i a1 a2
    intro todo hm ρ a w s f hp
    exact piece (E := insn_Valid.E Q [(5, ([69, 70, 71], insn_Valid.k5 (fun a1 a2 a3 h => insn_Valid.j5  a1 a2 a3 Q h)))]) (vs := [.ptr (some a1), .int .i64 a2]) (envOK seatOK insn_Valid.callsOK noIfc_ok) (fnOK seatOK insn_Valid.fun) ⟨(insn_Valid.s5 Q  ), trivial⟩ insn_Valid.p4 (fuel := 3000) (by rw [← insn_Valid.e4]; exact hk) hm s f hp
  · exact hk.elim

theorem insn_Valid.e : ∀ (a1 : Int) (a2 : Int) (a3 : Int) (a4 : Int) (a5 : Int) (Q : Bool → Heap → Prop) (h : Heap), insn_Valid a1 a2 a3 a4 a5 Q h = pts (insn_Valid.E Q [(3, ([], insn_Valid.k3 (fun  h => insn_Valid.j3   Q h))), (4, ([1, 3], insn_Valid.k4 (fun a1 a2 h => insn_Valid.j4  a1 a2 Q h)))]) 3000 true [.code insn_Valid.code] (frOf 0 [.agg [.int .i64 a1, .int .i64 a2, .int .i64 a3, .int .i64 a4, .int .i64 a5]]) h := by
  intros; kernel_rfl

theorem insn_Valid.S {W0 : World} : FnS sg W0 179 insn_Valid.C := by
  intro vs κ h wv hx w s
  unfold insn_Valid.C at hx
  split at hx
  · rename_i a1 a2 a3 a4 a5
    refine postImp (ret := insn_Valid.ret (fun r1 h => κ (.bool r1) h)) (fun v h hr => by unfold insn_Valid.ret at hr; split at hr; exact hr; exact hr.elim) ?_
    exact calls_of_pts (E := insn_Valid.E (fun r1 h => κ (.bool r1) h) [(3, ([], insn_Valid.k3 (fun  h => insn_Valid.j3   (fun r1 h => κ (.bool r1) h) h))), (4, ([1, 3], insn_Valid.k4 (fun a1 a2 h => insn_Valid.j4  a1 a2 (fun r1 h => κ (.bool r1) h) h)))]) (envOK seatOK insn_Valid.callsOK noIfc_ok) seatOK.mixed insn_Valid.fun (Nat.le_of_ble_eq_true rfl) wv (cutL_ok ⟨(insn_Valid.s3 (fun r1 h => κ (.bool r1) h)), (insn_Valid.s4 (fun r1 h => κ (.bool r1) h)), trivial⟩) s (fuel := 3000) (by rw [← insn_Valid.e]; exact hx)
  · exact hx.elim

noncomputable def word_Place.code : Code := Go.Proofs.Tryz.f86.body.getD .skip

theorem word_Place.fun : Fun sg.P 86 30 [.tmp 8] word_Place.code := mkFun Go.Proofs.Tryz.func86 (by kernel_rfl) (by kernel_rfl) (by kernel_rfl) (by kernel_rfl)

def word_Place.ret (Q : Int → Heap → Prop) (v : V) (h : Heap) : Prop :=
  match v with
  | .int .u32 r1 => Q r1 h
  | _ => False

def word_Place.C (vs : List V) (κ : V → Heap → Prop) (h : Heap) : Prop :=
  match vs with
  | [.int .u32 a1, .int .i64 a2, .int .i64 a3, .int .i64 a4] => word_Place a1 a2 a3 a4 (fun r1 h => κ (.int .u32 r1) h) h
  | _ => False

noncomputable def word_Place.calls : List (Nat × (List V → (V → Heap → Prop) → Heap → Prop)) := [(170, word_lies.C), (171, word_mask.C)]

noncomputable def word_Place.E (Q : Int → Heap → Prop) (cuts : List (Nat × (List Nat × (List V → Heap → Prop)))) : Env := { tis := tisT, fns := fnsT, tys := tysT, gls := [], rts := rtsT, unk := [], nxt := [], calls := word_Place.calls, ifc := noIfc, cuts := cuts, ret := word_Place.ret Q, rets := [.tmp 8], n := 30 }

theorem word_Place.callsOK {W0 : World} : CallsOK sg W0 word_Place.calls := ⟨word_lies.S, word_mask.S, trivial⟩

theorem word_Place.e : ∀ (a1 : Int) (a2 : Int) (a3 : Int) (a4 : Int) (Q : Int → Heap → Prop) (h : Heap), word_Place a1 a2 a3 a4 Q h = pts (word_Place.E Q []) 3000 true [.code word_Place.code] (frOf 0 [.int .u32 a1, .int .i64 a2, .int .i64 a3, .int .i64 a4]) h := by
  intros; kernel_rfl

theorem word_Place.S {W0 : World} : FnS sg W0 180 word_Place.C := by
  intro vs κ h wv hx w s
  unfold word_Place.C at hx
  split at hx
  · rename_i a1 a2 a3 a4
    refine postImp (ret := word_Place.ret (fun r1 h => κ (.int .u32 r1) h)) (fun v h hr => by unfold word_Place.ret at hr; split at hr; exact hr; exact hr.elim) ?_
    exact calls_of_pts (E := word_Place.E (fun r1 h => κ (.int .u32 r1) h) []) (envOK seatOK word_Place.callsOK noIfc_ok) seatOK.mixed word_Place.fun (Nat.le_of_ble_eq_true rfl) wv (cutL_ok trivial) s (fuel := 3000) (by rw [← word_Place.e]; exact hx)
  · exact hx.elim

noncomputable def insn_Encode.code : Code := Go.Proofs.Tryz.f63.body.getD .skip

theorem insn_Encode.fun : Fun sg.P 63 43 [.tmp 2, .tmp 3] insn_Encode.code := mkFun Go.Proofs.Tryz.func63 (by kernel_rfl) (by kernel_rfl) (by kernel_rfl) (by kernel_rfl)

def insn_Encode.ret (Q : Int → Int → Heap → Prop) (v : V) (h : Heap) : Prop :=
  match v with
  | .tup [.int .u32 r1, .int .i64 r2] => Q r1 r2 h
  | _ => False

def insn_Encode.C (vs : List V) (κ : V → Heap → Prop) (h : Heap) : Prop :=
  match vs with
  | [.agg [.int .i64 a1, .int .i64 a2, .int .i64 a3, .int .i64 a4, .int .i64 a5]] => insn_Encode a1 a2 a3 a4 a5 (fun r1 r2 h => κ (.tup [.int .u32 r1, .int .i64 r2]) h) h
  | _ => False

noncomputable def insn_Encode.calls : List (Nat × (List V → (V → Heap → Prop) → Heap → Prop)) := [(175, insn_Shape.C), (179, insn_Valid.C), (180, word_Place.C)]

noncomputable def insn_Encode.E (Q : Int → Int → Heap → Prop) (cuts : List (Nat × (List Nat × (List V → Heap → Prop)))) : Env := { tis := tisT, fns := fnsT, tys := tysT, gls := [], rts := rtsT, unk := [], nxt := [], calls := insn_Encode.calls, ifc := noIfc, cuts := cuts, ret := insn_Encode.ret Q, rets := [.tmp 2, .tmp 3], n := 43 }

theorem insn_Encode.callsOK {W0 : World} : CallsOK sg W0 insn_Encode.calls := ⟨insn_Shape.S, insn_Valid.S, word_Place.S, trivial⟩

def insn_Encode.k4 (I : Ptr → Int → Heap → Prop) (vs : List V) (h : Heap) : Prop :=
  match vs with
  | [.ptr (some a1), .int .u32 a2] => I a1 a2 h
  | _ => False

theorem insn_Encode.p4 : (posC insn_Encode.code []).filter (fun p => Nat.beq p.1 4) = [(4, atPos (posC insn_Encode.code []) 4)] := by kernel_rfl

theorem insn_Encode.e4 : ∀  (a1 : Ptr) (a2 : Int) (Q : Int → Int → Heap → Prop) (h : Heap), insn_Encode.j4  a1 a2 Q h = pts (insn_Encode.E Q []) 3000 true (atPos (posC insn_Encode.code []) 4) (frAt [1, 4] [.ptr (some a1), .int .u32 a2]) h := by
  intros; kernel_rfl

theorem insn_Encode.s4 {W0 : World} (Q : Int → Int → Heap → Prop)   : CutOK sg W0 43 (entered 63) (Post sg W0 (insn_Encode.ret Q)) (posC insn_Encode.code []) 4 [1, 4] (insn_Encode.k4 (fun a1 a2 h => insn_Encode.j4  a1 a2 Q h)) := by
  refine cutOK_head (fun vs h hk => ?_)
  unfold insn_Encode.k4 at hk
  split at hk
  · rename_i a1 a2
    intro todo hm ρ a w s f hp
    exact piece (E := insn_Encode.E Q []) (vs := [.ptr (some a1), .int .u32 a2]) (envOK seatOK insn_Encode.callsOK noIfc_ok) (fnOK seatOK insn_Encode.fun) trivial insn_Encode.p4 (fuel := 3000) (by rw [← insn_Encode.e4]; exact hk) hm s f hp
  · exact hk.elim

theorem insn_Encode.e : ∀ (a1 : Int) (a2 : Int) (a3 : Int) (a4 : Int) (a5 : Int) (Q : Int → Int → Heap → Prop) (h : Heap), insn_Encode a1 a2 a3 a4 a5 Q h = pts (insn_Encode.E Q [(4, ([1, 4], insn_Encode.k4 (fun a1 a2 h => insn_Encode.j4  a1 a2 Q h)))]) 3000 true [.code insn_Encode.code] (frOf 0 [.agg [.int .i64 a1, .int .i64 a2, .int .i64 a3, .int .i64 a4, .int .i64 a5]]) h := by
  intros; kernel_rfl

theorem insn_Encode.S {W0 : World} : FnS sg W0 181 insn_Encode.C := by
  intro vs κ h wv hx w s
  unfold insn_Encode.C at hx
  split at hx
  · rename_i a1 a2 a3 a4 a5
    refine postImp (ret := insn_Encode.ret (fun r1 r2 h => κ (.tup [.int .u32 r1, .int .i64 r2]) h)) (fun v h hr => by unfold insn_Encode.ret at hr; split at hr; exact hr; exact hr.elim) ?_
    exact calls_of_pts (E := insn_Encode.E (fun r1 r2 h => κ (.tup [.int .u32 r1, .int .i64 r2]) h) [(4, ([1, 4], insn_Encode.k4 (fun a1 a2 h => insn_Encode.j4  a1 a2 (fun r1 r2 h => κ (.tup [.int .u32 r1, .int .i64 r2]) h) h)))]) (envOK seatOK insn_Encode.callsOK noIfc_ok) seatOK.mixed insn_Encode.fun (Nat.le_of_ble_eq_true rfl) wv (cutL_ok ⟨(insn_Encode.s4 (fun r1 r2 h => κ (.tup [.int .u32 r1, .int .i64 r2]) h)), trivial⟩) s (fuel := 3000) (by rw [← insn_Encode.e]; exact hx)
  · exact hx.elim

noncomputable def insn_Decode.code : Code := Go.Proofs.Tryz.f34.body.getD .skip

theorem insn_Decode.fun : Fun sg.P 34 55 [.cell 2 65, .tmp 3] insn_Decode.code := mkFun Go.Proofs.Tryz.func34 (by kernel_rfl) (by kernel_rfl) (by kernel_rfl) (by kernel_rfl)

def insn_Decode.ret (Q : Int → Int → Int → Int → Int → Int → Heap → Prop) (v : V) (h : Heap) : Prop :=
  match v with
  | .tup [.agg [.int .i64 r1, .int .i64 r2, .int .i64 r3, .int .i64 r4, .int .i64 r5], .int .i64 r6] => Q r1 r2 r3 r4 r5 r6 h
  | _ => False

def insn_Decode.C (vs : List V) (κ : V → Heap → Prop) (h : Heap) : Prop :=
  match vs with
  | [.int .u32 a1] => insn_Decode a1 (fun r1 r2 r3 r4 r5 r6 h => κ (.tup [.agg [.int .i64 r1, .int .i64 r2, .int .i64 r3, .int .i64 r4, .int .i64 r5], .int .i64 r6]) h) h
  | _ => False

noncomputable def insn_Decode.calls : List (Nat × (List V → (V → Heap → Prop) → Heap → Prop)) := [(172, word_Field.C), (175, insn_Shape.C), (176, word_Sign.C), (181, insn_Encode.C)]

noncomputable def insn_Decode.E (Q : Int → Int → Int → Int → Int → Int → Heap → Prop) (cuts : List (Nat × (List Nat × (List V → Heap → Prop)))) : Env := { tis := tisT, fns := fnsT, tys := tysT, gls := [], rts := rtsT, unk := [], nxt := [], calls := insn_Decode.calls, ifc := noIfc, cuts := cuts, ret := insn_Decode.ret Q, rets := [.cell 2 65, .tmp 3], n := 55 }

theorem insn_Decode.callsOK {W0 : World} : CallsOK sg W0 insn_Decode.calls := ⟨word_Field.S, insn_Shape.S, word_Sign.S, insn_Encode.S, trivial⟩

def insn_Decode.k8 (I : Int → Ptr → Ptr → Heap → Prop) (vs : List V) (h : Heap) : Prop :=
  match vs with
  | [.int .u32 a1, .ptr (some a2), .ptr (some a3)] => I a1 a2 a3 h
  | _ => False

theorem insn_Decode.p8 : (posC insn_Decode.code []).filter (fun p => Nat.beq p.1 8) = [(8, atPos (posC insn_Decode.code []) 8)] := by kernel_rfl

theorem insn_Decode.e8 : ∀  (a1 : Int) (a2 : Ptr) (a3 : Ptr) (Q : Int → Int → Int → Int → Int → Int → Heap → Prop) (h : Heap), insn_Decode.j8  a1 a2 a3 Q h = pts (insn_Decode.E Q []) 3000 true (atPos (posC insn_Decode.code []) 8) (frAt [0, 2, 4] [.int .u32 a1, .ptr (some a2), .ptr (some a3)]) h := by
  intros; kernel_rfl

theorem insn_Decode.s8 {W0 : World} (Q : Int → Int → Int → Int → Int → Int → Heap → Prop)   : CutOK sg W0 55 (entered 34) (Post sg W0 (insn_Decode.ret Q)) (posC insn_Decode.code []) 8 [0, 2, 4] (insn_Decode.k8 (fun a1 a2 a3 h => insn_Decode.j8  a1 a2 a3 Q h)) := by
  refine cutOK_head (fun vs h hk => ?_)
  unfold insn_Decode.k8 at hk
  split at hk
  · rename_i a1 a2 a3
    intro todo hm ρ a w s f hp
    exact piece (E := insn_Decode.E Q []) (vs := [.int .u32 a1, .ptr (some a2), .ptr (some a3)]) (envOK seatOK insn_Decode.callsOK noIfc_ok) (fnOK seatOK insn_Decode.fun) trivial insn_Decode.p8 (fuel := 3000) (by rw [← insn_Decode.e8]; exact hk) hm s f hp
  · exact hk.elim

theorem insn_Decode.e : ∀ (a1 : Int) (Q : Int → Int → Int → Int → Int → Int → Heap → Prop) (h : Heap), insn_Decode a1 Q h = pts (insn_Decode.E Q [(8, ([0, 2, 4], insn_Decode.k8 (fun a1 a2 a3 h => insn_Decode.j8  a1 a2 a3 Q h)))]) 3000 true [.code insn_Decode.code] (frOf 0 [.int .u32 a1]) h := by
  intros; kernel_rfl

theorem insn_Decode.S {W0 : World} : FnS sg W0 182 insn_Decode.C := by
  intro vs κ h wv hx w s
  unfold insn_Decode.C at hx
  split at hx
  · rename_i a1
    refine postImp (ret := insn_Decode.ret (fun r1 r2 r3 r4 r5 r6 h => κ (.tup [.agg [.int .i64 r1, .int .i64 r2, .int .i64 r3, .int .i64 r4, .int .i64 r5], .int .i64 r6]) h)) (fun v h hr => by unfold insn_Decode.ret at hr; split at hr; exact hr; exact hr.elim) ?_
    exact calls_of_pts (E := insn_Decode.E (fun r1 r2 r3 r4 r5 r6 h => κ (.tup [.agg [.int .i64 r1, .int .i64 r2, .int .i64 r3, .int .i64 r4, .int .i64 r5], .int .i64 r6]) h) [(8, ([0, 2, 4], insn_Decode.k8 (fun a1 a2 a3 h => insn_Decode.j8  a1 a2 a3 (fun r1 r2 r3 r4 r5 r6 h => κ (.tup [.agg [.int .i64 r1, .int .i64 r2, .int .i64 r3, .int .i64 r4, .int .i64 r5], .int .i64 r6]) h) h)))]) (envOK seatOK insn_Decode.callsOK noIfc_ok) seatOK.mixed insn_Decode.fun (Nat.le_of_ble_eq_true rfl) wv (cutL_ok ⟨(insn_Decode.s8 (fun r1 r2 r3 r4 r5 r6 h => κ (.tup [.agg [.int .i64 r1, .int .i64 r2, .int .i64 r3, .int .i64 r4, .int .i64 r5], .int .i64 r6]) h)), trivial⟩) s (fuel := 3000) (by rw [← insn_Decode.e]; exact hx)
  · exact hx.elim

noncomputable def word_Load.code : Code := Go.Proofs.Tryz.f119.body.getD .skip

theorem word_Load.fun : Fun sg.P 119 53 [.tmp 6, .tmp 7] word_Load.code := mkFun Go.Proofs.Tryz.func119 (by kernel_rfl) (by kernel_rfl) (by kernel_rfl) (by kernel_rfl)

def word_Load.ret (Q : Int → Bool → Heap → Prop) (v : V) (h : Heap) : Prop :=
  match v with
  | .tup [.int .u64 r1, .bool r2] => Q r1 r2 h
  | _ => False

def word_Load.C (U : Ifc) (vs : List V) (κ : V → Heap → Prop) (h : Heap) : Prop :=
  match vs with
  | [.sl a1, .int .i64 a2, .int .i64 a3] => word_Load U a1 a2 a3 (fun r1 r2 h => κ (.tup [.int .u64 r1, .bool r2]) h) h
  | _ => False

noncomputable def word_Load.calls (U : Ifc) : List (Nat × (List V → (V → Heap → Prop) → Heap → Prop)) := [(93, word_known.C U)]

noncomputable def word_Load.E (U : Ifc) (Q : Int → Bool → Heap → Prop) (cuts : List (Nat × (List Nat × (List V → Heap → Prop)))) : Env := { tis := tisT, fns := fnsT, tys := tysT, gls := glsT, rts := rtsT, unk := [], nxt := [], calls := word_Load.calls U, ifc := U, cuts := cuts, ret := word_Load.ret Q, rets := [.tmp 6, .tmp 7], n := 53 }

theorem word_Load.callsOK {W0 : World} {U : Ifc} (hU : IfcOK sg W0 glsT U) : CallsOK sg W0 (word_Load.calls U) := ⟨(word_known.S hU), trivial⟩

def word_Load.k2 (I : Heap → Prop) (vs : List V) (h : Heap) : Prop :=
  match vs with
  | [] => I  h
  | _ => False

def word_Load.k5 (I : Int → Int → Sl → Int → Int → Heap → Prop) (vs : List V) (h : Heap) : Prop :=
  match vs with
  | [.int .i64 a1, .int .u64 a2, .sl a3, .int .i64 a4, .int .i64 a5] => I a1 a2 a3 a4 a5 h
  | _ => False

theorem word_Load.p2 : (posC word_Load.code []).filter (fun p => Nat.beq p.1 2) = [(2, atPos (posC word_Load.code []) 2)] := by kernel_rfl

theorem word_Load.e2 : ∀ (U : Ifc)   (Q : Int → Bool → Heap → Prop) (h : Heap), word_Load.j2 U   Q h = pts (word_Load.E U Q []) 3000 true (atPos (posC word_Load.code []) 2) (frAt [] []) h := by
  intros; kernel_rfl

theorem word_Load.s2 {W0 : World} {U : Ifc} (hU : IfcOK sg W0 glsT U) (Q : Int → Bool → Heap → Prop)   : CutOK sg W0 53 (entered 119) (Post sg W0 (word_Load.ret Q)) (posC word_Load.code []) 2 [] (word_Load.k2 (fun  h => word_Load.j2 U   Q h)) := by
  refine cutOK_head (fun vs h hk => ?_)
  unfold word_Load.k2 at hk
  split at hk
  · skip
    intro todo hm ρ a w s f hp
    exact piece (E := word_Load.E U Q []) (vs := []) (envOK seatOK (word_Load.callsOK hU) hU) (fnOK seatOK word_Load.fun) trivial word_Load.p2 (fuel := 3000) (by rw [← word_Load.e2]; exact hk) hm s f hp
  · exact hk.elim

theorem word_Load.p5 : (posC word_Load.code []).filter (fun p => Nat.beq p.1 5) = [(5, atPos (posC word_Load.code []) 5)] := by kernel_rfl

theorem word_Load.e5 : ∀ (U : Ifc)  (I5 : Int → Int → Sl → Int → Int → Heap → Prop) (a1 : Int) (a2 : Int) (a3 : Sl) (a4 : Int) (a5 : Int) (Q : Int → Bool → Heap → Prop) (h : Heap), word_Load.b5 U  I5 a1 a2 a3 a4 a5 Q h = pts (word_Load.E U Q [(5, ([2, 8, 31, 32, 33], word_Load.k5 I5))]) 3000 true (atPos (posC word_Load.code []) 5) (frAt [2, 8, 31, 32, 33] [.int .i64 a1, .int .u64 a2, .sl a3, .int .i64 a4, .int .i64 a5]) h := by
  intros; kernel_rfl

theorem word_Load.s5 {W0 : World} {U : Ifc} (hU : IfcOK sg W0 glsT U) (Q : Int → Bool → Heap → Prop)   : CutOK sg W0 53 (entered 119) (Post sg W0 (word_Load.ret Q)) (posC word_Load.code []) 5 [2, 8, 31, 32, 33] (word_Load.k5 (fun a1 a2 a3 a4 a5 h => word_Load.j5 U  a1 a2 a3 a4 a5 Q h)) := by
  refine cutOK_head (fun vs h hk => ?_)
  unfold word_Load.k5 at hk
  split at hk
  · rename_i a1 a2 a3 a4 a5
    refine hk (fun a1 a2 a3 a4 a5 h => Head sg W0 53 (entered 119) (Post sg W0 (word_Load.ret Q)) (posC word_Load.code []) 5 [2, 8, 31, 32, 33] [.int .i64 a1, .int .u64 a2, .sl a3, .int .i64 a4, .int .i64 a5] h) ?_
    intro a1 a2 a3 a4 a5 h hb todo hm ρ a w s f hp
    have hself : CutOK sg W0 53 (entered 119) (Post sg W0 (word_Load.ret Q)) (posC word_Load.code []) 5 [2, 8, 31, 32, 33] (word_Load.k5 (fun a1 a2 a3 a4 a5 h => Head sg W0 53 (entered 119) (Post sg W0 (word_Load.ret Q)) (posC word_Load.code []) 5 [2, 8, 31, 32, 33] [.int .i64 a1, .int .u64 a2, .sl a3, .int .i64 a4, .int .i64 a5] h)) := cutOK_head (fun vs h hk => by unfold word_Load.k5 at hk; split at hk; exact hk; exact hk.elim)
    exact piece (E := word_Load.E U Q [(5, ([2, 8, 31, 32, 33], word_Load.k5 (fun a1 a2 a3 a4 a5 h => Head sg W0 53 (entered 119) (Post sg W0 (word_Load.ret Q)) (posC word_Load.code []) 5 [2, 8, 31, 32, 33] [.int .i64 a1, .int .u64 a2, .sl a3, .int .i64 a4, .int .i64 a5] h)))]) (vs := [.int .i64 a1, .int .u64 a2, .sl a3, .int .i64 a4, .int .i64 a5]) (envOK seatOK (word_Load.callsOK hU) hU) (fnOK seatOK word_Load.fun) ⟨hself, trivial⟩ word_Load.p5 (fuel := 3000) (by rw [← word_Load.e5]; exact hb) hm s f hp
  · exact hk.elim

theorem word_Load.e : ∀ (U : Ifc) (a1 : Sl) (a2 : Int) (a3 : Int) (Q : Int → Bool → Heap → Prop) (h : Heap), word_Load U a1 a2 a3 Q h = pts (word_Load.E U Q [(2, ([], word_Load.k2 (fun  h => word_Load.j2 U   Q h))), (5, ([2, 8, 31, 32, 33], word_Load.k5 (fun a1 a2 a3 a4 a5 h => word_Load.j5 U  a1 a2 a3 a4 a5 Q h)))]) 3000 true [.code word_Load.code] (frOf 0 [.sl a1, .int .i64 a2, .int .i64 a3]) h := by
  intros; kernel_rfl

theorem word_Load.S {W0 : World} {U : Ifc} (hU : IfcOK sg W0 glsT U) : FnS sg W0 94 (word_Load.C U) := by
  intro vs κ h wv hx w s
  unfold word_Load.C at hx
  split at hx
  · rename_i a1 a2 a3
    refine postImp (ret := word_Load.ret (fun r1 r2 h => κ (.tup [.int .u64 r1, .bool r2]) h)) (fun v h hr => by unfold word_Load.ret at hr; split at hr; exact hr; exact hr.elim) ?_
    exact calls_of_pts (E := word_Load.E U (fun r1 r2 h => κ (.tup [.int .u64 r1, .bool r2]) h) [(2, ([], word_Load.k2 (fun  h => word_Load.j2 U   (fun r1 r2 h => κ (.tup [.int .u64 r1, .bool r2]) h) h))), (5, ([2, 8, 31, 32, 33], word_Load.k5 (fun a1 a2 a3 a4 a5 h => word_Load.j5 U  a1 a2 a3 a4 a5 (fun r1 r2 h => κ (.tup [.int .u64 r1, .bool r2]) h) h)))]) (envOK seatOK (word_Load.callsOK hU) hU) seatOK.mixed word_Load.fun (Nat.le_of_ble_eq_true rfl) wv (cutL_ok ⟨(word_Load.s2 hU (fun r1 r2 h => κ (.tup [.int .u64 r1, .bool r2]) h)), (word_Load.s5 hU (fun r1 r2 h => κ (.tup [.int .u64 r1, .bool r2]) h)), trivial⟩) s (fuel := 3000) (by rw [← word_Load.e]; exact hx)
  · exact hx.elim

noncomputable def mem_Memory_Load.code : Code := Go.Proofs.Tryz.f117.body.getD .skip

theorem mem_Memory_Load.fun : Fun sg.P 117 29 [.tmp 6, .tmp 7] mem_Memory_Load.code := mkFun Go.Proofs.Tryz.func117 (by kernel_rfl) (by kernel_rfl) (by kernel_rfl) (by kernel_rfl)

def mem_Memory_Load.ret (Q : Int → Int → Heap → Prop) (v : V) (h : Heap) : Prop :=
  match v with
  | .tup [.int .u64 r1, .int .i64 r2] => Q r1 r2 h
  | _ => False

def mem_Memory_Load.C (U : Ifc) (vs : List V) (κ : V → Heap → Prop) (h : Heap) : Prop :=
  match vs with
  | [.ptr a1, .int .u64 a2, .int .i64 a3] => mem_Memory_Load U a1 a2 a3 (fun r1 r2 h => κ (.tup [.int .u64 r1, .int .i64 r2]) h) h
  | _ => False

noncomputable def mem_Memory_Load.calls (U : Ifc) : List (Nat × (List V → (V → Heap → Prop) → Heap → Prop)) := [(59, mem_Memory_number.C), (94, word_Load.C U)]

noncomputable def mem_Memory_Load.E (U : Ifc) (Q : Int → Int → Heap → Prop) (cuts : List (Nat × (List Nat × (List V → Heap → Prop)))) : Env := { tis := tisT, fns := fnsT, tys := tysT, gls := glsT, rts := rtsT, unk := [], nxt := [], calls := mem_Memory_Load.calls U, ifc := U, cuts := cuts, ret := mem_Memory_Load.ret Q, rets := [.tmp 6, .tmp 7], n := 29 }

theorem mem_Memory_Load.callsOK {W0 : World} {U : Ifc} (hU : IfcOK sg W0 glsT U) : CallsOK sg W0 (mem_Memory_Load.calls U) := ⟨mem_Memory_number.S, (word_Load.S hU), trivial⟩

theorem mem_Memory_Load.e : ∀ (U : Ifc) (a1 : Option Ptr) (a2 : Int) (a3 : Int) (Q : Int → Int → Heap → Prop) (h : Heap), mem_Memory_Load U a1 a2 a3 Q h = pts (mem_Memory_Load.E U Q []) 3000 true [.code mem_Memory_Load.code] (frOf 0 [.ptr a1, .int .u64 a2, .int .i64 a3]) h := by
  intros; kernel_rfl

theorem mem_Memory_Load.S {W0 : World} {U : Ifc} (hU : IfcOK sg W0 glsT U) : FnS sg W0 95 (mem_Memory_Load.C U) := by
  intro vs κ h wv hx w s
  unfold mem_Memory_Load.C at hx
  split at hx
  · rename_i a1 a2 a3
    refine postImp (ret := mem_Memory_Load.ret (fun r1 r2 h => κ (.tup [.int .u64 r1, .int .i64 r2]) h)) (fun v h hr => by unfold mem_Memory_Load.ret at hr; split at hr; exact hr; exact hr.elim) ?_
    exact calls_of_pts (E := mem_Memory_Load.E U (fun r1 r2 h => κ (.tup [.int .u64 r1, .int .i64 r2]) h) []) (envOK seatOK (mem_Memory_Load.callsOK hU) hU) seatOK.mixed mem_Memory_Load.fun (Nat.le_of_ble_eq_true rfl) wv (cutL_ok trivial) s (fuel := 3000) (by rw [← mem_Memory_Load.e]; exact hx)
  · exact hx.elim

noncomputable def hart_hart_lui.code : Code := Go.Proofs.Tryz.f36.body.getD .skip

theorem hart_hart_lui.fun : Fun sg.P 36 9 [.cell 2 78] hart_hart_lui.code := mkFun Go.Proofs.Tryz.func36 (by kernel_rfl) (by kernel_rfl) (by kernel_rfl) (by kernel_rfl)

def hart_hart_lui.ret (Q : Int → Int → Int → Bool → Int → Heap → Prop) (v : V) (h : Heap) : Prop :=
  match v with
  | .agg [.int .i64 r1, .int .u64 r2, .int .u64 r3, .bool r4, .int .i64 r5] => Q r1 r2 r3 r4 r5 h
  | _ => False

def hart_hart_lui.C (vs : List V) (κ : V → Heap → Prop) (h : Heap) : Prop :=
  match vs with
  | [.ptr a1] => hart_hart_lui a1 (fun r1 r2 r3 r4 r5 h => κ (.agg [.int .i64 r1, .int .u64 r2, .int .u64 r3, .bool r4, .int .i64 r5]) h) h
  | _ => False

noncomputable def hart_hart_lui.calls : List (Nat × (List V → (V → Heap → Prop) → Heap → Prop)) := []

noncomputable def hart_hart_lui.E (Q : Int → Int → Int → Bool → Int → Heap → Prop) (cuts : List (Nat × (List Nat × (List V → Heap → Prop)))) : Env := { tis := tisT, fns := fnsT, tys := tysT, gls := [], rts := rtsT, unk := [], nxt := [], calls := hart_hart_lui.calls, ifc := noIfc, cuts := cuts, ret := hart_hart_lui.ret Q, rets := [.cell 2 78], n := 9 }

theorem hart_hart_lui.callsOK {W0 : World} : CallsOK sg W0 hart_hart_lui.calls := trivial

theorem hart_hart_lui.e : ∀ (a1 : Option Ptr) (Q : Int → Int → Int → Bool → Int → Heap → Prop) (h : Heap), hart_hart_lui a1 Q h = pts (hart_hart_lui.E Q []) 3000 true [.code hart_hart_lui.code] (frOf 0 [.ptr a1]) h := by
  intros; kernel_rfl

theorem hart_hart_lui.S {W0 : World} : FnS sg W0 146 hart_hart_lui.C := by
  intro vs κ h wv hx w s
  unfold hart_hart_lui.C at hx
  split at hx
  · rename_i a1
    refine postImp (ret := hart_hart_lui.ret (fun r1 r2 r3 r4 r5 h => κ (.agg [.int .i64 r1, .int .u64 r2, .int .u64 r3, .bool r4, .int .i64 r5]) h)) (fun v h hr => by unfold hart_hart_lui.ret at hr; split at hr; exact hr; exact hr.elim) ?_
    exact calls_of_pts (E := hart_hart_lui.E (fun r1 r2 r3 r4 r5 h => κ (.agg [.int .i64 r1, .int .u64 r2, .int .u64 r3, .bool r4, .int .i64 r5]) h) []) (envOK seatOK hart_hart_lui.callsOK noIfc_ok) seatOK.mixed hart_hart_lui.fun (Nat.le_of_ble_eq_true rfl) wv (cutL_ok trivial) s (fuel := 3000) (by rw [← hart_hart_lui.e]; exact hx)
  · exact hx.elim

noncomputable def hart_hart_jal.code : Code := Go.Proofs.Tryz.f37.body.getD .skip

theorem hart_hart_jal.fun : Fun sg.P 37 24 [.cell 2 78] hart_hart_jal.code := mkFun Go.Proofs.Tryz.func37 (by kernel_rfl) (by kernel_rfl) (by kernel_rfl) (by kernel_rfl)

def hart_hart_jal.ret (Q : Int → Int → Int → Bool → Int → Heap → Prop) (v : V) (h : Heap) : Prop :=
  match v with
  | .agg [.int .i64 r1, .int .u64 r2, .int .u64 r3, .bool r4, .int .i64 r5] => Q r1 r2 r3 r4 r5 h
  | _ => False

def hart_hart_jal.C (vs : List V) (κ : V → Heap → Prop) (h : Heap) : Prop :=
  match vs with
  | [.ptr a1] => hart_hart_jal a1 (fun r1 r2 r3 r4 r5 h => κ (.agg [.int .i64 r1, .int .u64 r2, .int .u64 r3, .bool r4, .int .i64 r5]) h) h
  | _ => False

noncomputable def hart_hart_jal.calls : List (Nat × (List V → (V → Heap → Prop) → Heap → Prop)) := []

noncomputable def hart_hart_jal.E (Q : Int → Int → Int → Bool → Int → Heap → Prop) (cuts : List (Nat × (List Nat × (List V → Heap → Prop)))) : Env := { tis := tisT, fns := fnsT, tys := tysT, gls := [], rts := rtsT, unk := [], nxt := [], calls := hart_hart_jal.calls, ifc := noIfc, cuts := cuts, ret := hart_hart_jal.ret Q, rets := [.cell 2 78], n := 24 }

theorem hart_hart_jal.callsOK {W0 : World} : CallsOK sg W0 hart_hart_jal.calls := trivial

theorem hart_hart_jal.e : ∀ (a1 : Option Ptr) (Q : Int → Int → Int → Bool → Int → Heap → Prop) (h : Heap), hart_hart_jal a1 Q h = pts (hart_hart_jal.E Q []) 3000 true [.code hart_hart_jal.code] (frOf 0 [.ptr a1]) h := by
  intros; kernel_rfl

theorem hart_hart_jal.S {W0 : World} : FnS sg W0 147 hart_hart_jal.C := by
  intro vs κ h wv hx w s
  unfold hart_hart_jal.C at hx
  split at hx
  · rename_i a1
    refine postImp (ret := hart_hart_jal.ret (fun r1 r2 r3 r4 r5 h => κ (.agg [.int .i64 r1, .int .u64 r2, .int .u64 r3, .bool r4, .int .i64 r5]) h)) (fun v h hr => by unfold hart_hart_jal.ret at hr; split at hr; exact hr; exact hr.elim) ?_
    exact calls_of_pts (E := hart_hart_jal.E (fun r1 r2 r3 r4 r5 h => κ (.agg [.int .i64 r1, .int .u64 r2, .int .u64 r3, .bool r4, .int .i64 r5]) h) []) (envOK seatOK hart_hart_jal.callsOK noIfc_ok) seatOK.mixed hart_hart_jal.fun (Nat.le_of_ble_eq_true rfl) wv (cutL_ok trivial) s (fuel := 3000) (by rw [← hart_hart_jal.e]; exact hx)
  · exact hx.elim

noncomputable def hart_hart_jalr.code : Code := Go.Proofs.Tryz.f38.body.getD .skip

theorem hart_hart_jalr.fun : Fun sg.P 38 21 [.cell 2 78] hart_hart_jalr.code := mkFun Go.Proofs.Tryz.func38 (by kernel_rfl) (by kernel_rfl) (by kernel_rfl) (by kernel_rfl)

def hart_hart_jalr.ret (Q : Int → Int → Int → Bool → Int → Heap → Prop) (v : V) (h : Heap) : Prop :=
  match v with
  | .agg [.int .i64 r1, .int .u64 r2, .int .u64 r3, .bool r4, .int .i64 r5] => Q r1 r2 r3 r4 r5 h
  | _ => False

def hart_hart_jalr.C (vs : List V) (κ : V → Heap → Prop) (h : Heap) : Prop :=
  match vs with
  | [.ptr a1] => hart_hart_jalr a1 (fun r1 r2 r3 r4 r5 h => κ (.agg [.int .i64 r1, .int .u64 r2, .int .u64 r3, .bool r4, .int .i64 r5]) h) h
  | _ => False

noncomputable def hart_hart_jalr.calls : List (Nat × (List V → (V → Heap → Prop) → Heap → Prop)) := []

noncomputable def hart_hart_jalr.E (Q : Int → Int → Int → Bool → Int → Heap → Prop) (cuts : List (Nat × (List Nat × (List V → Heap → Prop)))) : Env := { tis := tisT, fns := fnsT, tys := tysT, gls := [], rts := rtsT, unk := [], nxt := [], calls := hart_hart_jalr.calls, ifc := noIfc, cuts := cuts, ret := hart_hart_jalr.ret Q, rets := [.cell 2 78], n := 21 }

theorem hart_hart_jalr.callsOK {W0 : World} : CallsOK sg W0 hart_hart_jalr.calls := trivial

theorem hart_hart_jalr.e : ∀ (a1 : Option Ptr) (Q : Int → Int → Int → Bool → Int → Heap → Prop) (h : Heap), hart_hart_jalr a1 Q h = pts (hart_hart_jalr.E Q []) 3000 true [.code hart_hart_jalr.code] (frOf 0 [.ptr a1]) h := by
  intros; kernel_rfl

theorem hart_hart_jalr.S {W0 : World} : FnS sg W0 148 hart_hart_jalr.C := by
  intro vs κ h wv hx w s
  unfold hart_hart_jalr.C at hx
  split at hx
  · rename_i a1
    refine postImp (ret := hart_hart_jalr.ret (fun r1 r2 r3 r4 r5 h => κ (.agg [.int .i64 r1, .int .u64 r2, .int .u64 r3, .bool r4, .int .i64 r5]) h)) (fun v h hr => by unfold hart_hart_jalr.ret at hr; split at hr; exact hr; exact hr.elim) ?_
    exact calls_of_pts (E := hart_hart_jalr.E (fun r1 r2 r3 r4 r5 h => κ (.agg [.int .i64 r1, .int .u64 r2, .int .u64 r3, .bool r4, .int .i64 r5]) h) []) (envOK seatOK hart_hart_jalr.callsOK noIfc_ok) seatOK.mixed hart_hart_jalr.fun (Nat.le_of_ble_eq_true rfl) wv (cutL_ok trivial) s (fuel := 3000) (by rw [← hart_hart_jalr.e]; exact hx)
  · exact hx.elim

noncomputable def hart_hart_lr.code : Code := Go.Proofs.Tryz.f39.body.getD .skip

theorem hart_hart_lr.fun : Fun sg.P 39 27 [.cell 2 78] hart_hart_lr.code := mkFun Go.Proofs.Tryz.func39 (by kernel_rfl) (by kernel_rfl) (by kernel_rfl) (by kernel_rfl)

def hart_hart_lr.ret (Q : Int → Int → Int → Bool → Int → Heap → Prop) (v : V) (h : Heap) : Prop :=
  match v with
  | .agg [.int .i64 r1, .int .u64 r2, .int .u64 r3, .bool r4, .int .i64 r5] => Q r1 r2 r3 r4 r5 h
  | _ => False

def hart_hart_lr.C (vs : List V) (κ : V → Heap → Prop) (h : Heap) : Prop :=
  match vs with
  | [.ptr a1] => hart_hart_lr a1 (fun r1 r2 r3 r4 r5 h => κ (.agg [.int .i64 r1, .int .u64 r2, .int .u64 r3, .bool r4, .int .i64 r5]) h) h
  | _ => False

noncomputable def hart_hart_lr.calls : List (Nat × (List V → (V → Heap → Prop) → Heap → Prop)) := []

noncomputable def hart_hart_lr.E (Q : Int → Int → Int → Bool → Int → Heap → Prop) (cuts : List (Nat × (List Nat × (List V → Heap → Prop)))) : Env := { tis := tisT, fns := fnsT, tys := tysT, gls := [], rts := rtsT, unk := [], nxt := [], calls := hart_hart_lr.calls, ifc := noIfc, cuts := cuts, ret := hart_hart_lr.ret Q, rets := [.cell 2 78], n := 27 }

theorem hart_hart_lr.callsOK {W0 : World} : CallsOK sg W0 hart_hart_lr.calls := trivial

theorem hart_hart_lr.e : ∀ (a1 : Option Ptr) (Q : Int → Int → Int → Bool → Int → Heap → Prop) (h : Heap), hart_hart_lr a1 Q h = pts (hart_hart_lr.E Q []) 3000 true [.code hart_hart_lr.code] (frOf 0 [.ptr a1]) h := by
  intros; kernel_rfl

theorem hart_hart_lr.S {W0 : World} : FnS sg W0 149 hart_hart_lr.C := by
  intro vs κ h wv hx w s
  unfold hart_hart_lr.C at hx
  split at hx
  · rename_i a1
    refine postImp (ret := hart_hart_lr.ret (fun r1 r2 r3 r4 r5 h => κ (.agg [.int .i64 r1, .int .u64 r2, .int .u64 r3, .bool r4, .int .i64 r5]) h)) (fun v h hr => by unfold hart_hart_lr.ret at hr; split at hr; exact hr; exact hr.elim) ?_
    exact calls_of_pts (E := hart_hart_lr.E (fun r1 r2 r3 r4 r5 h => κ (.agg [.int .i64 r1, .int .u64 r2, .int .u64 r3, .bool r4, .int .i64 r5]) h) []) (envOK seatOK hart_hart_lr.callsOK noIfc_ok) seatOK.mixed hart_hart_lr.fun (Nat.le_of_ble_eq_true rfl) wv (cutL_ok trivial) s (fuel := 3000) (by rw [← hart_hart_lr.e]; exact hx)
  · exact hx.elim

noncomputable def hart_hart_sc.code : Code := Go.Proofs.Tryz.f40.body.getD .skip

theorem hart_hart_sc.fun : Fun sg.P 40 39 [.cell 2 78] hart_hart_sc.code := mkFun Go.Proofs.Tryz.func40 (by kernel_rfl) (by kernel_rfl) (by kernel_rfl) (by kernel_rfl)

def hart_hart_sc.ret (Q : Int → Int → Int → Bool → Int → Heap → Prop) (v : V) (h : Heap) : Prop :=
  match v with
  | .agg [.int .i64 r1, .int .u64 r2, .int .u64 r3, .bool r4, .int .i64 r5] => Q r1 r2 r3 r4 r5 h
  | _ => False

def hart_hart_sc.C (vs : List V) (κ : V → Heap → Prop) (h : Heap) : Prop :=
  match vs with
  | [.ptr a1] => hart_hart_sc a1 (fun r1 r2 r3 r4 r5 h => κ (.agg [.int .i64 r1, .int .u64 r2, .int .u64 r3, .bool r4, .int .i64 r5]) h) h
  | _ => False

noncomputable def hart_hart_sc.calls : List (Nat × (List V → (V → Heap → Prop) → Heap → Prop)) := []

noncomputable def hart_hart_sc.E (Q : Int → Int → Int → Bool → Int → Heap → Prop) (cuts : List (Nat × (List Nat × (List V → Heap → Prop)))) : Env := { tis := tisT, fns := fnsT, tys := tysT, gls := [], rts := rtsT, unk := [], nxt := [], calls := hart_hart_sc.calls, ifc := noIfc, cuts := cuts, ret := hart_hart_sc.ret Q, rets := [.cell 2 78], n := 39 }

theorem hart_hart_sc.callsOK {W0 : World} : CallsOK sg W0 hart_hart_sc.calls := trivial

theorem hart_hart_sc.e : ∀ (a1 : Option Ptr) (Q : Int → Int → Int → Bool → Int → Heap → Prop) (h : Heap), hart_hart_sc a1 Q h = pts (hart_hart_sc.E Q []) 3000 true [.code hart_hart_sc.code] (frOf 0 [.ptr a1]) h := by
  intros; kernel_rfl

theorem hart_hart_sc.S {W0 : World} : FnS sg W0 150 hart_hart_sc.C := by
  intro vs κ h wv hx w s
  unfold hart_hart_sc.C at hx
  split at hx
  · rename_i a1
    refine postImp (ret := hart_hart_sc.ret (fun r1 r2 r3 r4 r5 h => κ (.agg [.int .i64 r1, .int .u64 r2, .int .u64 r3, .bool r4, .int .i64 r5]) h)) (fun v h hr => by unfold hart_hart_sc.ret at hr; split at hr; exact hr; exact hr.elim) ?_
    exact calls_of_pts (E := hart_hart_sc.E (fun r1 r2 r3 r4 r5 h => κ (.agg [.int .i64 r1, .int .u64 r2, .int .u64 r3, .bool r4, .int .i64 r5]) h) []) (envOK seatOK hart_hart_sc.callsOK noIfc_ok) seatOK.mixed hart_hart_sc.fun (Nat.le_of_ble_eq_true rfl) wv (cutL_ok trivial) s (fuel := 3000) (by rw [← hart_hart_sc.e]; exact hx)
  · exact hx.elim

noncomputable def hart_hart_amo.code : Code := Go.Proofs.Tryz.f41.body.getD .skip

theorem hart_hart_amo.fun : Fun sg.P 41 43 [.cell 2 78] hart_hart_amo.code := mkFun Go.Proofs.Tryz.func41 (by kernel_rfl) (by kernel_rfl) (by kernel_rfl) (by kernel_rfl)

def hart_hart_amo.ret (Q : Int → Int → Int → Bool → Int → Heap → Prop) (v : V) (h : Heap) : Prop :=
  match v with
  | .agg [.int .i64 r1, .int .u64 r2, .int .u64 r3, .bool r4, .int .i64 r5] => Q r1 r2 r3 r4 r5 h
  | _ => False

def hart_hart_amo.C (vs : List V) (κ : V → Heap → Prop) (h : Heap) : Prop :=
  match vs with
  | [.ptr a1] => hart_hart_amo a1 (fun r1 r2 r3 r4 r5 h => κ (.agg [.int .i64 r1, .int .u64 r2, .int .u64 r3, .bool r4, .int .i64 r5]) h) h
  | _ => False

noncomputable def hart_hart_amo.calls : List (Nat × (List V → (V → Heap → Prop) → Heap → Prop)) := []

noncomputable def hart_hart_amo.E (Q : Int → Int → Int → Bool → Int → Heap → Prop) (cuts : List (Nat × (List Nat × (List V → Heap → Prop)))) : Env := { tis := tisT, fns := fnsT, tys := tysT, gls := [], rts := rtsT, unk := [], nxt := [], calls := hart_hart_amo.calls, ifc := noIfc, cuts := cuts, ret := hart_hart_amo.ret Q, rets := [.cell 2 78], n := 43 }

theorem hart_hart_amo.callsOK {W0 : World} : CallsOK sg W0 hart_hart_amo.calls := trivial

theorem hart_hart_amo.e : ∀ (a1 : Option Ptr) (Q : Int → Int → Int → Bool → Int → Heap → Prop) (h : Heap), hart_hart_amo a1 Q h = pts (hart_hart_amo.E Q []) 3000 true [.code hart_hart_amo.code] (frOf 0 [.ptr a1]) h := by
  intros; kernel_rfl

theorem hart_hart_amo.S {W0 : World} : FnS sg W0 151 hart_hart_amo.C := by
  intro vs κ h wv hx w s
  unfold hart_hart_amo.C at hx
  split at hx
  · rename_i a1
    refine postImp (ret := hart_hart_amo.ret (fun r1 r2 r3 r4 r5 h => κ (.agg [.int .i64 r1, .int .u64 r2, .int .u64 r3, .bool r4, .int .i64 r5]) h)) (fun v h hr => by unfold hart_hart_amo.ret at hr; split at hr; exact hr; exact hr.elim) ?_
    exact calls_of_pts (E := hart_hart_amo.E (fun r1 r2 r3 r4 r5 h => κ (.agg [.int .i64 r1, .int .u64 r2, .int .u64 r3, .bool r4, .int .i64 r5]) h) []) (envOK seatOK hart_hart_amo.callsOK noIfc_ok) seatOK.mixed hart_hart_amo.fun (Nat.le_of_ble_eq_true rfl) wv (cutL_ok trivial) s (fuel := 3000) (by rw [← hart_hart_amo.e]; exact hx)
  · exact hx.elim

noncomputable def hart_hart_nothing.code : Code := Go.Proofs.Tryz.f42.body.getD .skip

theorem hart_hart_nothing.fun : Fun sg.P 42 4 [.cell 2 78] hart_hart_nothing.code := mkFun Go.Proofs.Tryz.func42 (by kernel_rfl) (by kernel_rfl) (by kernel_rfl) (by kernel_rfl)

def hart_hart_nothing.ret (Q : Int → Int → Int → Bool → Int → Heap → Prop) (v : V) (h : Heap) : Prop :=
  match v with
  | .agg [.int .i64 r1, .int .u64 r2, .int .u64 r3, .bool r4, .int .i64 r5] => Q r1 r2 r3 r4 r5 h
  | _ => False

def hart_hart_nothing.C (vs : List V) (κ : V → Heap → Prop) (h : Heap) : Prop :=
  match vs with
  | [.ptr a1] => hart_hart_nothing a1 (fun r1 r2 r3 r4 r5 h => κ (.agg [.int .i64 r1, .int .u64 r2, .int .u64 r3, .bool r4, .int .i64 r5]) h) h
  | _ => False

noncomputable def hart_hart_nothing.calls : List (Nat × (List V → (V → Heap → Prop) → Heap → Prop)) := []

noncomputable def hart_hart_nothing.E (Q : Int → Int → Int → Bool → Int → Heap → Prop) (cuts : List (Nat × (List Nat × (List V → Heap → Prop)))) : Env := { tis := tisT, fns := fnsT, tys := tysT, gls := [], rts := rtsT, unk := [], nxt := [], calls := hart_hart_nothing.calls, ifc := noIfc, cuts := cuts, ret := hart_hart_nothing.ret Q, rets := [.cell 2 78], n := 4 }

theorem hart_hart_nothing.callsOK {W0 : World} : CallsOK sg W0 hart_hart_nothing.calls := trivial

theorem hart_hart_nothing.e : ∀ (a1 : Option Ptr) (Q : Int → Int → Int → Bool → Int → Heap → Prop) (h : Heap), hart_hart_nothing a1 Q h = pts (hart_hart_nothing.E Q []) 3000 true [.code hart_hart_nothing.code] (frOf 0 [.ptr a1]) h := by
  intros; kernel_rfl

theorem hart_hart_nothing.S {W0 : World} : FnS sg W0 152 hart_hart_nothing.C := by
  intro vs κ h wv hx w s
  unfold hart_hart_nothing.C at hx
  split at hx
  · rename_i a1
    refine postImp (ret := hart_hart_nothing.ret (fun r1 r2 r3 r4 r5 h => κ (.agg [.int .i64 r1, .int .u64 r2, .int .u64 r3, .bool r4, .int .i64 r5]) h)) (fun v h hr => by unfold hart_hart_nothing.ret at hr; split at hr; exact hr; exact hr.elim) ?_
    exact calls_of_pts (E := hart_hart_nothing.E (fun r1 r2 r3 r4 r5 h => κ (.agg [.int .i64 r1, .int .u64 r2, .int .u64 r3, .bool r4, .int .i64 r5]) h) []) (envOK seatOK hart_hart_nothing.callsOK noIfc_ok) seatOK.mixed hart_hart_nothing.fun (Nat.le_of_ble_eq_true rfl) wv (cutL_ok trivial) s (fuel := 3000) (by rw [← hart_hart_nothing.e]; exact hx)
  · exact hx.elim

noncomputable def hart_hart_ecall.code : Code := Go.Proofs.Tryz.f43.body.getD .skip

theorem hart_hart_ecall.fun : Fun sg.P 43 8 [.cell 2 78] hart_hart_ecall.code := mkFun Go.Proofs.Tryz.func43 (by kernel_rfl) (by kernel_rfl) (by kernel_rfl) (by kernel_rfl)

def hart_hart_ecall.ret (Q : Int → Int → Int → Bool → Int → Heap → Prop) (v : V) (h : Heap) : Prop :=
  match v with
  | .agg [.int .i64 r1, .int .u64 r2, .int .u64 r3, .bool r4, .int .i64 r5] => Q r1 r2 r3 r4 r5 h
  | _ => False

def hart_hart_ecall.C (vs : List V) (κ : V → Heap → Prop) (h : Heap) : Prop :=
  match vs with
  | [.ptr a1] => hart_hart_ecall a1 (fun r1 r2 r3 r4 r5 h => κ (.agg [.int .i64 r1, .int .u64 r2, .int .u64 r3, .bool r4, .int .i64 r5]) h) h
  | _ => False

noncomputable def hart_hart_ecall.calls : List (Nat × (List V → (V → Heap → Prop) → Heap → Prop)) := []

noncomputable def hart_hart_ecall.E (Q : Int → Int → Int → Bool → Int → Heap → Prop) (cuts : List (Nat × (List Nat × (List V → Heap → Prop)))) : Env := { tis := tisT, fns := fnsT, tys := tysT, gls := [], rts := rtsT, unk := [], nxt := [], calls := hart_hart_ecall.calls, ifc := noIfc, cuts := cuts, ret := hart_hart_ecall.ret Q, rets := [.cell 2 78], n := 8 }

theorem hart_hart_ecall.callsOK {W0 : World} : CallsOK sg W0 hart_hart_ecall.calls := trivial

theorem hart_hart_ecall.e : ∀ (a1 : Option Ptr) (Q : Int → Int → Int → Bool → Int → Heap → Prop) (h : Heap), hart_hart_ecall a1 Q h = pts (hart_hart_ecall.E Q []) 3000 true [.code hart_hart_ecall.code] (frOf 0 [.ptr a1]) h := by
  intros; kernel_rfl

theorem hart_hart_ecall.S {W0 : World} : FnS sg W0 153 hart_hart_ecall.C := by
  intro vs κ h wv hx w s
  unfold hart_hart_ecall.C at hx
  split at hx
  · rename_i a1
    refine postImp (ret := hart_hart_ecall.ret (fun r1 r2 r3 r4 r5 h => κ (.agg [.int .i64 r1, .int .u64 r2, .int .u64 r3, .bool r4, .int .i64 r5]) h)) (fun v h hr => by unfold hart_hart_ecall.ret at hr; split at hr; exact hr; exact hr.elim) ?_
    exact calls_of_pts (E := hart_hart_ecall.E (fun r1 r2 r3 r4 r5 h => κ (.agg [.int .i64 r1, .int .u64 r2, .int .u64 r3, .bool r4, .int .i64 r5]) h) []) (envOK seatOK hart_hart_ecall.callsOK noIfc_ok) seatOK.mixed hart_hart_ecall.fun (Nat.le_of_ble_eq_true rfl) wv (cutL_ok trivial) s (fuel := 3000) (by rw [← hart_hart_ecall.e]; exact hx)
  · exact hx.elim

noncomputable def hart_hart_sret.code : Code := Go.Proofs.Tryz.f44.body.getD .skip

theorem hart_hart_sret.fun : Fun sg.P 44 25 [.cell 2 78] hart_hart_sret.code := mkFun Go.Proofs.Tryz.func44 (by kernel_rfl) (by kernel_rfl) (by kernel_rfl) (by kernel_rfl)

def hart_hart_sret.ret (Q : Int → Int → Int → Bool → Int → Heap → Prop) (v : V) (h : Heap) : Prop :=
  match v with
  | .agg [.int .i64 r1, .int .u64 r2, .int .u64 r3, .bool r4, .int .i64 r5] => Q r1 r2 r3 r4 r5 h
  | _ => False

def hart_hart_sret.C (vs : List V) (κ : V → Heap → Prop) (h : Heap) : Prop :=
  match vs with
  | [.ptr a1] => hart_hart_sret a1 (fun r1 r2 r3 r4 r5 h => κ (.agg [.int .i64 r1, .int .u64 r2, .int .u64 r3, .bool r4, .int .i64 r5]) h) h
  | _ => False

noncomputable def hart_hart_sret.calls : List (Nat × (List V → (V → Heap → Prop) → Heap → Prop)) := []

noncomputable def hart_hart_sret.E (Q : Int → Int → Int → Bool → Int → Heap → Prop) (cuts : List (Nat × (List Nat × (List V → Heap → Prop)))) : Env := { tis := tisT, fns := fnsT, tys := tysT, gls := [], rts := rtsT, unk := [], nxt := [], calls := hart_hart_sret.calls, ifc := noIfc, cuts := cuts, ret := hart_hart_sret.ret Q, rets := [.cell 2 78], n := 25 }

theorem hart_hart_sret.callsOK {W0 : World} : CallsOK sg W0 hart_hart_sret.calls := trivial

theorem hart_hart_sret.e : ∀ (a1 : Option Ptr) (Q : Int → Int → Int → Bool → Int → Heap → Prop) (h : Heap), hart_hart_sret a1 Q h = pts (hart_hart_sret.E Q []) 3000 true [.code hart_hart_sret.code] (frOf 0 [.ptr a1]) h := by
  intros; kernel_rfl

theorem hart_hart_sret.S {W0 : World} : FnS sg W0 154 hart_hart_sret.C := by
  intro vs κ h wv hx w s
  unfold hart_hart_sret.C at hx
  split at hx
  · rename_i a1
    refine postImp (ret := hart_hart_sret.ret (fun r1 r2 r3 r4 r5 h => κ (.agg [.int .i64 r1, .int .u64 r2, .int .u64 r3, .bool r4, .int .i64 r5]) h)) (fun v h hr => by unfold hart_hart_sret.ret at hr; split at hr; exact hr; exact hr.elim) ?_
    exact calls_of_pts (E := hart_hart_sret.E (fun r1 r2 r3 r4 r5 h => κ (.agg [.int .i64 r1, .int .u64 r2, .int .u64 r3, .bool r4, .int .i64 r5]) h) []) (envOK seatOK hart_hart_sret.callsOK noIfc_ok) seatOK.mixed hart_hart_sret.fun (Nat.le_of_ble_eq_true rfl) wv (cutL_ok trivial) s (fuel := 3000) (by rw [← hart_hart_sret.e]; exact hx)
  · exact hx.elim

noncomputable def hart_hart_wfi.code : Code := Go.Proofs.Tryz.f45.body.getD .skip

theorem hart_hart_wfi.fun : Fun sg.P 45 18 [.cell 2 78] hart_hart_wfi.code := mkFun Go.Proofs.Tryz.func45 (by kernel_rfl) (by kernel_rfl) (by kernel_rfl) (by kernel_rfl)

def hart_hart_wfi.ret (Q : Int → Int → Int → Bool → Int → Heap → Prop) (v : V) (h : Heap) : Prop :=
  match v with
  | .agg [.int .i64 r1, .int .u64 r2, .int .u64 r3, .bool r4, .int .i64 r5] => Q r1 r2 r3 r4 r5 h
  | _ => False

def hart_hart_wfi.C (vs : List V) (κ : V → Heap → Prop) (h : Heap) : Prop :=
  match vs with
  | [.ptr a1] => hart_hart_wfi a1 (fun r1 r2 r3 r4 r5 h => κ (.agg [.int .i64 r1, .int .u64 r2, .int .u64 r3, .bool r4, .int .i64 r5]) h) h
  | _ => False

noncomputable def hart_hart_wfi.calls : List (Nat × (List V → (V → Heap → Prop) → Heap → Prop)) := []

noncomputable def hart_hart_wfi.E (Q : Int → Int → Int → Bool → Int → Heap → Prop) (cuts : List (Nat × (List Nat × (List V → Heap → Prop)))) : Env := { tis := tisT, fns := fnsT, tys := tysT, gls := [], rts := rtsT, unk := [], nxt := [], calls := hart_hart_wfi.calls, ifc := noIfc, cuts := cuts, ret := hart_hart_wfi.ret Q, rets := [.cell 2 78], n := 18 }

theorem hart_hart_wfi.callsOK {W0 : World} : CallsOK sg W0 hart_hart_wfi.calls := trivial

theorem hart_hart_wfi.e : ∀ (a1 : Option Ptr) (Q : Int → Int → Int → Bool → Int → Heap → Prop) (h : Heap), hart_hart_wfi a1 Q h = pts (hart_hart_wfi.E Q []) 3000 true [.code hart_hart_wfi.code] (frOf 0 [.ptr a1]) h := by
  intros; kernel_rfl

theorem hart_hart_wfi.S {W0 : World} : FnS sg W0 155 hart_hart_wfi.C := by
  intro vs κ h wv hx w s
  unfold hart_hart_wfi.C at hx
  split at hx
  · rename_i a1
    refine postImp (ret := hart_hart_wfi.ret (fun r1 r2 r3 r4 r5 h => κ (.agg [.int .i64 r1, .int .u64 r2, .int .u64 r3, .bool r4, .int .i64 r5]) h)) (fun v h hr => by unfold hart_hart_wfi.ret at hr; split at hr; exact hr; exact hr.elim) ?_
    exact calls_of_pts (E := hart_hart_wfi.E (fun r1 r2 r3 r4 r5 h => κ (.agg [.int .i64 r1, .int .u64 r2, .int .u64 r3, .bool r4, .int .i64 r5]) h) []) (envOK seatOK hart_hart_wfi.callsOK noIfc_ok) seatOK.mixed hart_hart_wfi.fun (Nat.le_of_ble_eq_true rfl) wv (cutL_ok trivial) s (fuel := 3000) (by rw [← hart_hart_wfi.e]; exact hx)
  · exact hx.elim

noncomputable def hart_hart_sfence.code : Code := Go.Proofs.Tryz.f46.body.getD .skip

theorem hart_hart_sfence.fun : Fun sg.P 46 12 [.cell 2 78] hart_hart_sfence.code := mkFun Go.Proofs.Tryz.func46 (by kernel_rfl) (by kernel_rfl) (by kernel_rfl) (by kernel_rfl)

def hart_hart_sfence.ret (Q : Int → Int → Int → Bool → Int → Heap → Prop) (v : V) (h : Heap) : Prop :=
  match v with
  | .agg [.int .i64 r1, .int .u64 r2, .int .u64 r3, .bool r4, .int .i64 r5] => Q r1 r2 r3 r4 r5 h
  | _ => False

def hart_hart_sfence.C (vs : List V) (κ : V → Heap → Prop) (h : Heap) : Prop :=
  match vs with
  | [.ptr a1] => hart_hart_sfence a1 (fun r1 r2 r3 r4 r5 h => κ (.agg [.int .i64 r1, .int .u64 r2, .int .u64 r3, .bool r4, .int .i64 r5]) h) h
  | _ => False

noncomputable def hart_hart_sfence.calls : List (Nat × (List V → (V → Heap → Prop) → Heap → Prop)) := []

noncomputable def hart_hart_sfence.E (Q : Int → Int → Int → Bool → Int → Heap → Prop) (cuts : List (Nat × (List Nat × (List V → Heap → Prop)))) : Env := { tis := tisT, fns := fnsT, tys := tysT, gls := [], rts := rtsT, unk := [], nxt := [], calls := hart_hart_sfence.calls, ifc := noIfc, cuts := cuts, ret := hart_hart_sfence.ret Q, rets := [.cell 2 78], n := 12 }

theorem hart_hart_sfence.callsOK {W0 : World} : CallsOK sg W0 hart_hart_sfence.calls := trivial

theorem hart_hart_sfence.e : ∀ (a1 : Option Ptr) (Q : Int → Int → Int → Bool → Int → Heap → Prop) (h : Heap), hart_hart_sfence a1 Q h = pts (hart_hart_sfence.E Q []) 3000 true [.code hart_hart_sfence.code] (frOf 0 [.ptr a1]) h := by
  intros; kernel_rfl

theorem hart_hart_sfence.S {W0 : World} : FnS sg W0 156 hart_hart_sfence.C := by
  intro vs κ h wv hx w s
  unfold hart_hart_sfence.C at hx
  split at hx
  · rename_i a1
    refine postImp (ret := hart_hart_sfence.ret (fun r1 r2 r3 r4 r5 h => κ (.agg [.int .i64 r1, .int .u64 r2, .int .u64 r3, .bool r4, .int .i64 r5]) h)) (fun v h hr => by unfold hart_hart_sfence.ret at hr; split at hr; exact hr; exact hr.elim) ?_
    exact calls_of_pts (E := hart_hart_sfence.E (fun r1 r2 r3 r4 r5 h => κ (.agg [.int .i64 r1, .int .u64 r2, .int .u64 r3, .bool r4, .int .i64 r5]) h) []) (envOK seatOK hart_hart_sfence.callsOK noIfc_ok) seatOK.mixed hart_hart_sfence.fun (Nat.le_of_ble_eq_true rfl) wv (cutL_ok trivial) s (fuel := 3000) (by rw [← hart_hart_sfence.e]; exact hx)
  · exact hx.elim

noncomputable def hart_hart_math.code : Code := Go.Proofs.Tryz.f47.body.getD .skip

theorem hart_hart_math.fun : Fun sg.P 47 86 [.cell 2 78] hart_hart_math.code := mkFun Go.Proofs.Tryz.func47 (by kernel_rfl) (by kernel_rfl) (by kernel_rfl) (by kernel_rfl)

def hart_hart_math.ret (Q : Int → Int → Int → Bool → Int → Heap → Prop) (v : V) (h : Heap) : Prop :=
  match v with
  | .agg [.int .i64 r1, .int .u64 r2, .int .u64 r3, .bool r4, .int .i64 r5] => Q r1 r2 r3 r4 r5 h
  | _ => False

def hart_hart_math.C (vs : List V) (κ : V → Heap → Prop) (h : Heap) : Prop :=
  match vs with
  | [.ptr a1] => hart_hart_math a1 (fun r1 r2 r3 r4 r5 h => κ (.agg [.int .i64 r1, .int .u64 r2, .int .u64 r3, .bool r4, .int .i64 r5]) h) h
  | _ => False

noncomputable def hart_hart_math.calls : List (Nat × (List V → (V → Heap → Prop) → Heap → Prop)) := []

noncomputable def hart_hart_math.E (Q : Int → Int → Int → Bool → Int → Heap → Prop) (cuts : List (Nat × (List Nat × (List V → Heap → Prop)))) : Env := { tis := tisT, fns := fnsT, tys := tysT, gls := [], rts := rtsT, unk := [], nxt := [], calls := hart_hart_math.calls, ifc := noIfc, cuts := cuts, ret := hart_hart_math.ret Q, rets := [.cell 2 78], n := 86 }

theorem hart_hart_math.callsOK {W0 : World} : CallsOK sg W0 hart_hart_math.calls := trivial

theorem hart_hart_math.e : ∀ (a1 : Option Ptr) (Q : Int → Int → Int → Bool → Int → Heap → Prop) (h : Heap), hart_hart_math a1 Q h = pts (hart_hart_math.E Q []) 3000 true [.code hart_hart_math.code] (frOf 0 [.ptr a1]) h := by
  intros; kernel_rfl

theorem hart_hart_math.S {W0 : World} : FnS sg W0 157 hart_hart_math.C := by
  intro vs κ h wv hx w s
  unfold hart_hart_math.C at hx
  split at hx
  · rename_i a1
    refine postImp (ret := hart_hart_math.ret (fun r1 r2 r3 r4 r5 h => κ (.agg [.int .i64 r1, .int .u64 r2, .int .u64 r3, .bool r4, .int .i64 r5]) h)) (fun v h hr => by unfold hart_hart_math.ret at hr; split at hr; exact hr; exact hr.elim) ?_
    exact calls_of_pts (E := hart_hart_math.E (fun r1 r2 r3 r4 r5 h => κ (.agg [.int .i64 r1, .int .u64 r2, .int .u64 r3, .bool r4, .int .i64 r5]) h) []) (envOK seatOK hart_hart_math.callsOK noIfc_ok) seatOK.mixed hart_hart_math.fun (Nat.le_of_ble_eq_true rfl) wv (cutL_ok trivial) s (fuel := 3000) (by rw [← hart_hart_math.e]; exact hx)
  · exact hx.elim

noncomputable def hart_hart_load.code : Code := Go.Proofs.Tryz.f48.body.getD .skip

theorem hart_hart_load.fun : Fun sg.P 48 24 [.cell 2 78] hart_hart_load.code := mkFun Go.Proofs.Tryz.func48 (by kernel_rfl) (by kernel_rfl) (by kernel_rfl) (by kernel_rfl)

def hart_hart_load.ret (Q : Int → Int → Int → Bool → Int → Heap → Prop) (v : V) (h : Heap) : Prop :=
  match v with
  | .agg [.int .i64 r1, .int .u64 r2, .int .u64 r3, .bool r4, .int .i64 r5] => Q r1 r2 r3 r4 r5 h
  | _ => False

def hart_hart_load.C (vs : List V) (κ : V → Heap → Prop) (h : Heap) : Prop :=
  match vs with
  | [.ptr a1] => hart_hart_load a1 (fun r1 r2 r3 r4 r5 h => κ (.agg [.int .i64 r1, .int .u64 r2, .int .u64 r3, .bool r4, .int .i64 r5]) h) h
  | _ => False

noncomputable def hart_hart_load.calls : List (Nat × (List V → (V → Heap → Prop) → Heap → Prop)) := []

noncomputable def hart_hart_load.E (Q : Int → Int → Int → Bool → Int → Heap → Prop) (cuts : List (Nat × (List Nat × (List V → Heap → Prop)))) : Env := { tis := tisT, fns := fnsT, tys := tysT, gls := [], rts := rtsT, unk := [], nxt := [], calls := hart_hart_load.calls, ifc := noIfc, cuts := cuts, ret := hart_hart_load.ret Q, rets := [.cell 2 78], n := 24 }

theorem hart_hart_load.callsOK {W0 : World} : CallsOK sg W0 hart_hart_load.calls := trivial

theorem hart_hart_load.e : ∀ (a1 : Option Ptr) (Q : Int → Int → Int → Bool → Int → Heap → Prop) (h : Heap), hart_hart_load a1 Q h = pts (hart_hart_load.E Q []) 3000 true [.code hart_hart_load.code] (frOf 0 [.ptr a1]) h := by
  intros; kernel_rfl

theorem hart_hart_load.S {W0 : World} : FnS sg W0 158 hart_hart_load.C := by
  intro vs κ h wv hx w s
  unfold hart_hart_load.C at hx
  split at hx
  · rename_i a1
    refine postImp (ret := hart_hart_load.ret (fun r1 r2 r3 r4 r5 h => κ (.agg [.int .i64 r1, .int .u64 r2, .int .u64 r3, .bool r4, .int .i64 r5]) h)) (fun v h hr => by unfold hart_hart_load.ret at hr; split at hr; exact hr; exact hr.elim) ?_
    exact calls_of_pts (E := hart_hart_load.E (fun r1 r2 r3 r4 r5 h => κ (.agg [.int .i64 r1, .int .u64 r2, .int .u64 r3, .bool r4, .int .i64 r5]) h) []) (envOK seatOK hart_hart_load.callsOK noIfc_ok) seatOK.mixed hart_hart_load.fun (Nat.le_of_ble_eq_true rfl) wv (cutL_ok trivial) s (fuel := 3000) (by rw [← hart_hart_load.e]; exact hx)
  · exact hx.elim

noncomputable def hart_hart_store.code : Code := Go.Proofs.Tryz.f49.body.getD .skip

theorem hart_hart_store.fun : Fun sg.P 49 28 [.cell 2 78] hart_hart_store.code := mkFun Go.Proofs.Tryz.func49 (by kernel_rfl) (by kernel_rfl) (by kernel_rfl) (by kernel_rfl)

def hart_hart_store.ret (Q : Int → Int → Int → Bool → Int → Heap → Prop) (v : V) (h : Heap) : Prop :=
  match v with
  | .agg [.int .i64 r1, .int .u64 r2, .int .u64 r3, .bool r4, .int .i64 r5] => Q r1 r2 r3 r4 r5 h
  | _ => False

def hart_hart_store.C (vs : List V) (κ : V → Heap → Prop) (h : Heap) : Prop :=
  match vs with
  | [.ptr a1] => hart_hart_store a1 (fun r1 r2 r3 r4 r5 h => κ (.agg [.int .i64 r1, .int .u64 r2, .int .u64 r3, .bool r4, .int .i64 r5]) h) h
  | _ => False

noncomputable def hart_hart_store.calls : List (Nat × (List V → (V → Heap → Prop) → Heap → Prop)) := []

noncomputable def hart_hart_store.E (Q : Int → Int → Int → Bool → Int → Heap → Prop) (cuts : List (Nat × (List Nat × (List V → Heap → Prop)))) : Env := { tis := tisT, fns := fnsT, tys := tysT, gls := [], rts := rtsT, unk := [], nxt := [], calls := hart_hart_store.calls, ifc := noIfc, cuts := cuts, ret := hart_hart_store.ret Q, rets := [.cell 2 78], n := 28 }

theorem hart_hart_store.callsOK {W0 : World} : CallsOK sg W0 hart_hart_store.calls := trivial

theorem hart_hart_store.e : ∀ (a1 : Option Ptr) (Q : Int → Int → Int → Bool → Int → Heap → Prop) (h : Heap), hart_hart_store a1 Q h = pts (hart_hart_store.E Q []) 3000 true [.code hart_hart_store.code] (frOf 0 [.ptr a1]) h := by
  intros; kernel_rfl

theorem hart_hart_store.S {W0 : World} : FnS sg W0 159 hart_hart_store.C := by
  intro vs κ h wv hx w s
  unfold hart_hart_store.C at hx
  split at hx
  · rename_i a1
    refine postImp (ret := hart_hart_store.ret (fun r1 r2 r3 r4 r5 h => κ (.agg [.int .i64 r1, .int .u64 r2, .int .u64 r3, .bool r4, .int .i64 r5]) h)) (fun v h hr => by unfold hart_hart_store.ret at hr; split at hr; exact hr; exact hr.elim) ?_
    exact calls_of_pts (E := hart_hart_store.E (fun r1 r2 r3 r4 r5 h => κ (.agg [.int .i64 r1, .int .u64 r2, .int .u64 r3, .bool r4, .int .i64 r5]) h) []) (envOK seatOK hart_hart_store.callsOK noIfc_ok) seatOK.mixed hart_hart_store.fun (Nat.le_of_ble_eq_true rfl) wv (cutL_ok trivial) s (fuel := 3000) (by rw [← hart_hart_store.e]; exact hx)
  · exact hx.elim

noncomputable def hart_hart_branch.code : Code := Go.Proofs.Tryz.f50.body.getD .skip

theorem hart_hart_branch.fun : Fun sg.P 50 54 [.cell 2 78] hart_hart_branch.code := mkFun Go.Proofs.Tryz.func50 (by kernel_rfl) (by kernel_rfl) (by kernel_rfl) (by kernel_rfl)

def hart_hart_branch.ret (Q : Int → Int → Int → Bool → Int → Heap → Prop) (v : V) (h : Heap) : Prop :=
  match v with
  | .agg [.int .i64 r1, .int .u64 r2, .int .u64 r3, .bool r4, .int .i64 r5] => Q r1 r2 r3 r4 r5 h
  | _ => False

def hart_hart_branch.C (vs : List V) (κ : V → Heap → Prop) (h : Heap) : Prop :=
  match vs with
  | [.ptr a1] => hart_hart_branch a1 (fun r1 r2 r3 r4 r5 h => κ (.agg [.int .i64 r1, .int .u64 r2, .int .u64 r3, .bool r4, .int .i64 r5]) h) h
  | _ => False

noncomputable def hart_hart_branch.calls : List (Nat × (List V → (V → Heap → Prop) → Heap → Prop)) := []

noncomputable def hart_hart_branch.E (Q : Int → Int → Int → Bool → Int → Heap → Prop) (cuts : List (Nat × (List Nat × (List V → Heap → Prop)))) : Env := { tis := tisT, fns := fnsT, tys := tysT, gls := [], rts := rtsT, unk := [], nxt := [], calls := hart_hart_branch.calls, ifc := noIfc, cuts := cuts, ret := hart_hart_branch.ret Q, rets := [.cell 2 78], n := 54 }

theorem hart_hart_branch.callsOK {W0 : World} : CallsOK sg W0 hart_hart_branch.calls := trivial

theorem hart_hart_branch.e : ∀ (a1 : Option Ptr) (Q : Int → Int → Int → Bool → Int → Heap → Prop) (h : Heap), hart_hart_branch a1 Q h = pts (hart_hart_branch.E Q []) 3000 true [.code hart_hart_branch.code] (frOf 0 [.ptr a1]) h := by
  intros; kernel_rfl

theorem hart_hart_branch.S {W0 : World} : FnS sg W0 160 hart_hart_branch.C := by
  intro vs κ h wv hx w s
  unfold hart_hart_branch.C at hx
  split at hx
  · rename_i a1
    refine postImp (ret := hart_hart_branch.ret (fun r1 r2 r3 r4 r5 h => κ (.agg [.int .i64 r1, .int .u64 r2, .int .u64 r3, .bool r4, .int .i64 r5]) h)) (fun v h hr => by unfold hart_hart_branch.ret at hr; split at hr; exact hr; exact hr.elim) ?_
    exact calls_of_pts (E := hart_hart_branch.E (fun r1 r2 r3 r4 r5 h => κ (.agg [.int .i64 r1, .int .u64 r2, .int .u64 r3, .bool r4, .int .i64 r5]) h) []) (envOK seatOK hart_hart_branch.callsOK noIfc_ok) seatOK.mixed hart_hart_branch.fun (Nat.le_of_ble_eq_true rfl) wv (cutL_ok trivial) s (fuel := 3000) (by rw [← hart_hart_branch.e]; exact hx)
  · exact hx.elim

noncomputable def hart_hart_control.code : Code := Go.Proofs.Tryz.f51.body.getD .skip

theorem hart_hart_control.fun : Fun sg.P 51 104 [.cell 2 78] hart_hart_control.code := mkFun Go.Proofs.Tryz.func51 (by kernel_rfl) (by kernel_rfl) (by kernel_rfl) (by kernel_rfl)

def hart_hart_control.ret (Q : Int → Int → Int → Bool → Int → Heap → Prop) (v : V) (h : Heap) : Prop :=
  match v with
  | .agg [.int .i64 r1, .int .u64 r2, .int .u64 r3, .bool r4, .int .i64 r5] => Q r1 r2 r3 r4 r5 h
  | _ => False

def hart_hart_control.C (vs : List V) (κ : V → Heap → Prop) (h : Heap) : Prop :=
  match vs with
  | [.ptr a1] => hart_hart_control a1 (fun r1 r2 r3 r4 r5 h => κ (.agg [.int .i64 r1, .int .u64 r2, .int .u64 r3, .bool r4, .int .i64 r5]) h) h
  | _ => False

noncomputable def hart_hart_control.calls : List (Nat × (List V → (V → Heap → Prop) → Heap → Prop)) := []

noncomputable def hart_hart_control.E (Q : Int → Int → Int → Bool → Int → Heap → Prop) (cuts : List (Nat × (List Nat × (List V → Heap → Prop)))) : Env := { tis := tisT, fns := fnsT, tys := tysT, gls := [], rts := rtsT, unk := [], nxt := [], calls := hart_hart_control.calls, ifc := noIfc, cuts := cuts, ret := hart_hart_control.ret Q, rets := [.cell 2 78], n := 104 }

theorem hart_hart_control.callsOK {W0 : World} : CallsOK sg W0 hart_hart_control.calls := trivial

theorem hart_hart_control.e : ∀ (a1 : Option Ptr) (Q : Int → Int → Int → Bool → Int → Heap → Prop) (h : Heap), hart_hart_control a1 Q h = pts (hart_hart_control.E Q []) 3000 true [.code hart_hart_control.code] (frOf 0 [.ptr a1]) h := by
  intros; kernel_rfl

theorem hart_hart_control.S {W0 : World} : FnS sg W0 161 hart_hart_control.C := by
  intro vs κ h wv hx w s
  unfold hart_hart_control.C at hx
  split at hx
  · rename_i a1
    refine postImp (ret := hart_hart_control.ret (fun r1 r2 r3 r4 r5 h => κ (.agg [.int .i64 r1, .int .u64 r2, .int .u64 r3, .bool r4, .int .i64 r5]) h)) (fun v h hr => by unfold hart_hart_control.ret at hr; split at hr; exact hr; exact hr.elim) ?_
    exact calls_of_pts (E := hart_hart_control.E (fun r1 r2 r3 r4 r5 h => κ (.agg [.int .i64 r1, .int .u64 r2, .int .u64 r3, .bool r4, .int .i64 r5]) h) []) (envOK seatOK hart_hart_control.callsOK noIfc_ok) seatOK.mixed hart_hart_control.fun (Nat.le_of_ble_eq_true rfl) wv (cutL_ok trivial) s (fuel := 3000) (by rw [← hart_hart_control.e]; exact hx)
  · exact hx.elim

end Go.Fn
