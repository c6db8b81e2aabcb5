/- The links of the shallow functions to the machine. PRINTED by lift.py. -/
import Derived.Test.YtkfgkcdehmjmcaaGreatDoorGb1
set_option linter.unusedVariables false
set_option maxRecDepth 100000
namespace Go.Fn
open Go.Lift

noncomputable def insn_Valid.code : Code := Go.Proofs.Tryz.f94.body.getD .skip

theorem insn_Valid.fun : Fun sg.P 94 94 [.tmp 2] insn_Valid.code := mkFun Go.Proofs.Tryz.func94 (by kernel_rfl) (by kernel_rfl) (by kernel_rfl) (by kernel_rfl)

def insn_Valid.ret (Q : Bool → Heap → Prop) (v : V) (h : Heap) : Prop :=
  match v with
  | .bool r1 => Q r1 h
  | _ => False

def insn_Valid.C (vs : List V) (κ : V → Heap → Prop) (h : Heap) : Prop :=
  match vs with
  | [.agg [.int .i64 a1, .int .i64 a2, .int .i64 a3, .int .i64 a4, .int .i64 a5]] => insn_Valid a1 a2 a3 a4 a5 (fun r1 h => κ (.bool r1) h) h
  | _ => False

noncomputable def insn_Valid.calls : List (Nat × (List V → (V → Heap → Prop) → Heap → Prop)) := [(175, insn_Shape.C), (178, insn_immOf.C)]

noncomputable def insn_Valid.E (Q : Bool → Heap → Prop) (cuts : List (Nat × (List Nat × (List V → Heap → Prop)))) : Env := { tis := tisT, fns := fnsT, tys := tysT, gls := [], rts := rtsT, unk := [], nxt := [], calls := insn_Valid.calls, ifc := noIfc, cuts := cuts, ret := insn_Valid.ret Q, rets := [.tmp 2], n := 94 }

theorem insn_Valid.callsOK {W0 : World} : CallsOK sg W0 insn_Valid.calls := ⟨insn_Shape.S, insn_immOf.S, trivial⟩

def insn_Valid.k3 (I : Heap → Prop) (vs : List V) (h : Heap) : Prop :=
  match vs with
  | [] => I  h
  | _ => False

def insn_Valid.k8 (I : Heap → Prop) (vs : List V) (h : Heap) : Prop :=
  match vs with
  | [] => I  h
  | _ => False

def insn_Valid.k9 (I : Sl → Int → Int → Heap → Prop) (vs : List V) (h : Heap) : Prop :=
  match vs with
  | [.sl a1, .int .i64 a2, .int .i64 a3] => I a1 a2 a3 h
  | _ => False

def insn_Valid.k5 (I : Sl → Int → Int → Heap → Prop) (vs : List V) (h : Heap) : Prop :=
  match vs with
  | [.sl a1, .int .i64 a2, .int .i64 a3] => I a1 a2 a3 h
  | _ => False

def insn_Valid.k4 (I : Ptr → Int → Heap → Prop) (vs : List V) (h : Heap) : Prop :=
  match vs with
  | [.ptr (some a1), .int .i64 a2] => I a1 a2 h
  | _ => False

theorem insn_Valid.p3 : (posC insn_Valid.code []).filter (fun p => Nat.beq p.1 3) = [(3, atPos (posC insn_Valid.code []) 3)] := by kernel_rfl

theorem insn_Valid.e3 : ∀   (Q : Bool → Heap → Prop) (h : Heap), insn_Valid.j3   Q h = pts (insn_Valid.E Q []) 3000 true (atPos (posC insn_Valid.code []) 3) (frAt [] []) h := by
  intros; kernel_rfl

theorem insn_Valid.s3 {W0 : World} (Q : Bool → Heap → Prop)   : CutOK sg W0 94 (entered 94) (Post sg W0 (insn_Valid.ret Q)) (posC insn_Valid.code []) 3 [] (insn_Valid.k3 (fun  h => insn_Valid.j3   Q h)) := by
  refine cutOK_head (fun vs h hk => ?_)
  unfold insn_Valid.k3 at hk
  split at hk
  · skip
    intro todo hm ρ a w s f hp
    exact piece (E := insn_Valid.E Q []) (vs := []) (envOK seatOK insn_Valid.callsOK noIfc_ok) (fnOK seatOK insn_Valid.fun) trivial insn_Valid.p3 (fuel := 3000) (by rw [← insn_Valid.e3]; exact hk) hm s f hp
  · exact hk.elim

theorem insn_Valid.p8 : (posC insn_Valid.code []).filter (fun p => Nat.beq p.1 8) = [(8, atPos (posC insn_Valid.code []) 8)] := by kernel_rfl

theorem insn_Valid.e8 : ∀ (I5 : Sl → Int → Int → Heap → Prop)  (Q : Bool → Heap → Prop) (h : Heap), insn_Valid.j8 I5  Q h = pts (insn_Valid.E Q []) 3000 true (atPos (posC insn_Valid.code []) 8) (frAt [] []) h := by
  intros; kernel_rfl

theorem insn_Valid.s8 {W0 : World} (Q : Bool → Heap → Prop) (I5 : Sl → Int → Int → Heap → Prop) (h5 : CutOK sg W0 94 (entered 94) (Post sg W0 (insn_Valid.ret Q)) (posC insn_Valid.code []) 5 [69, 70, 71] (insn_Valid.k5 I5)) : CutOK sg W0 94 (entered 94) (Post sg W0 (insn_Valid.ret Q)) (posC insn_Valid.code []) 8 [] (insn_Valid.k8 (fun  h => insn_Valid.j8 I5  Q h)) := by
  refine cutOK_head (fun vs h hk => ?_)
  unfold insn_Valid.k8 at hk
  split at hk
  · skip
    intro todo hm ρ a w s f hp
    exact piece (E := insn_Valid.E Q []) (vs := []) (envOK seatOK insn_Valid.callsOK noIfc_ok) (fnOK seatOK insn_Valid.fun) trivial insn_Valid.p8 (fuel := 3000) (by rw [← insn_Valid.e8]; exact hk) hm s f hp
  · exact hk.elim

theorem insn_Valid.p9 : (posC insn_Valid.code []).filter (fun p => Nat.beq p.1 9) = [(9, atPos (posC insn_Valid.code []) 9)] := by kernel_rfl

theorem insn_Valid.e9 : ∀ (I5 : Sl → Int → Int → Heap → Prop) (a1 : Sl) (a2 : Int) (a3 : Int) (Q : Bool → Heap → Prop) (h : Heap), insn_Valid.j9 I5 a1 a2 a3 Q h = pts (insn_Valid.E Q [(5, ([69, 70, 71], insn_Valid.k5 I5))]) 3000 true (atPos (posC insn_Valid.code []) 9) (frAt [69, 70, 71] [.sl a1, .int .i64 a2, .int .i64 a3]) h := by
  intros; kernel_rfl

theorem insn_Valid.s9 {W0 : World} (Q : Bool → Heap → Prop) (I5 : Sl → Int → Int → Heap → Prop) (h5 : CutOK sg W0 94 (entered 94) (Post sg W0 (insn_Valid.ret Q)) (posC insn_Valid.code []) 5 [69, 70, 71] (insn_Valid.k5 I5)) : CutOK sg W0 94 (entered 94) (Post sg W0 (insn_Valid.ret Q)) (posC insn_Valid.code []) 9 [69, 70, 71] (insn_Valid.k9 (fun a1 a2 a3 h => insn_Valid.j9 I5 a1 a2 a3 Q h)) := by
  refine cutOK_head (fun vs h hk => ?_)
  unfold insn_Valid.k9 at hk
  split at hk
  · rename_i a1 a2 a3
    intro todo hm ρ a w s f hp
    exact piece (E := insn_Valid.E Q [(5, ([69, 70, 71], insn_Valid.k5 I5))]) (vs := [.sl a1, .int .i64 a2, .int .i64 a3]) (envOK seatOK insn_Valid.callsOK noIfc_ok) (fnOK seatOK insn_Valid.fun) ⟨h5, trivial⟩ insn_Valid.p9 (fuel := 3000) (by rw [← insn_Valid.e9]; exact hk) hm s f hp
  · exact hk.elim

theorem insn_Valid.p5 : (posC insn_Valid.code []).filter (fun p => Nat.beq p.1 5) = [(5, atPos (posC insn_Valid.code []) 5)] := by kernel_rfl

theorem insn_Valid.e5 : ∀  (I5 : Sl → Int → Int → Heap → Prop) (a1 : Sl) (a2 : Int) (a3 : Int) (Q : Bool → Heap → Prop) (h : Heap), insn_Valid.b5  I5 a1 a2 a3 Q h = pts (insn_Valid.E Q [(8, ([], insn_Valid.k8 (fun  h => insn_Valid.j8 I5  Q h))), (9, ([69, 70, 71], insn_Valid.k9 (fun a1 a2 a3 h => insn_Valid.j9 I5 a1 a2 a3 Q h)))]) 3000 true (atPos (posC insn_Valid.code []) 5) (frAt [69, 70, 71] [.sl a1, .int .i64 a2, .int .i64 a3]) h := by
  intros; kernel_rfl

theorem insn_Valid.s5 {W0 : World} (Q : Bool → Heap → Prop)   : CutOK sg W0 94 (entered 94) (Post sg W0 (insn_Valid.ret Q)) (posC insn_Valid.code []) 5 [69, 70, 71] (insn_Valid.k5 (fun a1 a2 a3 h => insn_Valid.j5  a1 a2 a3 Q h)) := by
  refine cutOK_head (fun vs h hk => ?_)
  unfold insn_Valid.k5 at hk
  split at hk
  · rename_i a1 a2 a3
    refine hk (fun a1 a2 a3 h => Head sg W0 94 (entered 94) (Post sg W0 (insn_Valid.ret Q)) (posC insn_Valid.code []) 5 [69, 70, 71] [.sl a1, .int .i64 a2, .int .i64 a3] h) ?_
    intro a1 a2 a3 h hb todo hm ρ a w s f hp
    have hself : CutOK sg W0 94 (entered 94) (Post sg W0 (insn_Valid.ret Q)) (posC insn_Valid.code []) 5 [69, 70, 71] (insn_Valid.k5 (fun a1 a2 a3 h => Head sg W0 94 (entered 94) (Post sg W0 (insn_Valid.ret Q)) (posC insn_Valid.code []) 5 [69, 70, 71] [.sl a1, .int .i64 a2, .int .i64 a3] h)) := cutOK_head (fun vs h hk => by unfold insn_Valid.k5 at hk; split at hk; exact hk; exact hk.elim)
    exact piece (E := insn_Valid.E Q [(8, ([], insn_Valid.k8 (fun  h => insn_Valid.j8 (fun a1 a2 a3 h => Head sg W0 94 (entered 94) (Post sg W0 (insn_Valid.ret Q)) (posC insn_Valid.code []) 5 [69, 70, 71] [.sl a1, .int .i64 a2, .int .i64 a3] h)  Q h))), (9, ([69, 70, 71], insn_Valid.k9 (fun a1 a2 a3 h => insn_Valid.j9 (fun a1 a2 a3 h => Head sg W0 94 (entered 94) (Post sg W0 (insn_Valid.ret Q)) (posC insn_Valid.code []) 5 [69, 70, 71] [.sl a1, .int .i64 a2, .int .i64 a3] h) a1 a2 a3 Q h)))]) (vs := [.sl a1, .int .i64 a2, .int .i64 a3]) (envOK seatOK insn_Valid.callsOK noIfc_ok) (fnOK seatOK insn_Valid.fun) ⟨(insn_Valid.s8 Q (fun a1 a2 a3 h => Head sg W0 94 (entered 94) (Post sg W0 (insn_Valid.ret Q)) (posC insn_Valid.code []) 5 [69, 70, 71] [.sl a1, .int .i64 a2, .int .i64 a3] h) hself), (insn_Valid.s9 Q (fun a1 a2 a3 h => Head sg W0 94 (entered 94) (Post sg W0 (insn_Valid.ret Q)) (posC insn_Valid.code []) 5 [69, 70, 71] [.sl a1, .int .i64 a2, .int .i64 a3] h) hself), trivial⟩ insn_Valid.p5 (fuel := 3000) (by rw [← insn_Valid.e5]; exact hb) hm s f hp
  · exact hk.elim

theorem insn_Valid.p4 : (posC insn_Valid.code []).filter (fun p => Nat.beq p.1 4) = [(4, atPos (posC insn_Valid.code []) 4)] := by kernel_rfl

theorem insn_Valid.e4 : ∀  (a1 : Ptr) (a2 : Int) (Q : Bool → Heap → Prop) (h : Heap), insn_Valid.j4  a1 a2 Q h = pts (insn_Valid.E Q [(5, ([69, 70, 71], insn_Valid.k5 (fun a1 a2 a3 h => insn_Valid.j5  a1 a2 a3 Q h)))]) 3000 true (atPos (posC insn_Valid.code []) 4) (frAt [1, 3] [.ptr (some a1), .int .i64 a2]) h := by
  intros; kernel_rfl

theorem insn_Valid.s4 {W0 : World} (Q : Bool → Heap → Prop)   : CutOK sg W0 94 (entered 94) (Post sg W0 (insn_Valid.ret Q)) (posC insn_Valid.code []) 4 [1, 3] (insn_Valid.k4 (fun a1 a2 h => insn_Valid.j4  a1 a2 Q h)) := by
  refine cutOK_head (fun vs h hk => ?_)
  unfold insn_Valid.k4 at hk
  split at hk
  · rename_i a1 a2
    intro todo hm ρ a w s f hp
    exact piece (E := insn_Valid.E Q [(5, ([69, 70, 71], insn_Valid.k5 (fun a1 a2 a3 h => insn_Valid.j5  a1 a2 a3 Q h)))]) (vs := [.ptr (some a1), .int .i64 a2]) (envOK seatOK insn_Valid.callsOK noIfc_ok) (fnOK seatOK insn_Valid.fun) ⟨(insn_Valid.s5 Q  ), trivial⟩ insn_Valid.p4 (fuel := 3000) (by rw [← insn_Valid.e4]; exact hk) hm s f hp
  · exact hk.elim

theorem insn_Valid.e : ∀ (a1 : Int) (a2 : Int) (a3 : Int) (a4 : Int) (a5 : Int) (Q : Bool → Heap → Prop) (h : Heap), insn_Valid a1 a2 a3 a4 a5 Q h = pts (insn_Valid.E Q [(3, ([], insn_Valid.k3 (fun  h => insn_Valid.j3   Q h))), (4, ([1, 3], insn_Valid.k4 (fun a1 a2 h => insn_Valid.j4  a1 a2 Q h)))]) 3000 true [.code insn_Valid.code] (frOf 0 [.agg [.int .i64 a1, .int .i64 a2, .int .i64 a3, .int .i64 a4, .int .i64 a5]]) h := by
  intros; kernel_rfl

theorem insn_Valid.S {W0 : World} : FnS sg W0 179 insn_Valid.C := by
  intro vs κ h wv hx w s
  unfold insn_Valid.C at hx
  split at hx
  · rename_i a1 a2 a3 a4 a5
    refine postImp (ret := insn_Valid.ret (fun r1 h => κ (.bool r1) h)) (fun v h hr => by unfold insn_Valid.ret at hr; split at hr; exact hr; exact hr.elim) ?_
    exact calls_of_pts (E := insn_Valid.E (fun r1 h => κ (.bool r1) h) [(3, ([], insn_Valid.k3 (fun  h => insn_Valid.j3   (fun r1 h => κ (.bool r1) h) h))), (4, ([1, 3], insn_Valid.k4 (fun a1 a2 h => insn_Valid.j4  a1 a2 (fun r1 h => κ (.bool r1) h) h)))]) (envOK seatOK insn_Valid.callsOK noIfc_ok) seatOK.mixed insn_Valid.fun (Nat.le_of_ble_eq_true rfl) wv (cutL_ok ⟨(insn_Valid.s3 (fun r1 h => κ (.bool r1) h)), (insn_Valid.s4 (fun r1 h => κ (.bool r1) h)), trivial⟩) s (fuel := 3000) (by rw [← insn_Valid.e]; exact hx)
  · exact hx.elim

noncomputable def word_Place.code : Code := Go.Proofs.Tryz.f95.body.getD .skip

theorem word_Place.fun : Fun sg.P 95 30 [.tmp 8] word_Place.code := mkFun Go.Proofs.Tryz.func95 (by kernel_rfl) (by kernel_rfl) (by kernel_rfl) (by kernel_rfl)

def word_Place.ret (Q : Int → Heap → Prop) (v : V) (h : Heap) : Prop :=
  match v with
  | .int .u32 r1 => Q r1 h
  | _ => False

def word_Place.C (vs : List V) (κ : V → Heap → Prop) (h : Heap) : Prop :=
  match vs with
  | [.int .u32 a1, .int .i64 a2, .int .i64 a3, .int .i64 a4] => word_Place a1 a2 a3 a4 (fun r1 h => κ (.int .u32 r1) h) h
  | _ => False

noncomputable def word_Place.calls : List (Nat × (List V → (V → Heap → Prop) → Heap → Prop)) := [(170, word_lies.C), (171, word_mask.C)]

noncomputable def word_Place.E (Q : Int → Heap → Prop) (cuts : List (Nat × (List Nat × (List V → Heap → Prop)))) : Env := { tis := tisT, fns := fnsT, tys := tysT, gls := [], rts := rtsT, unk := [], nxt := [], calls := word_Place.calls, ifc := noIfc, cuts := cuts, ret := word_Place.ret Q, rets := [.tmp 8], n := 30 }

theorem word_Place.callsOK {W0 : World} : CallsOK sg W0 word_Place.calls := ⟨word_lies.S, word_mask.S, trivial⟩

theorem word_Place.e : ∀ (a1 : Int) (a2 : Int) (a3 : Int) (a4 : Int) (Q : Int → Heap → Prop) (h : Heap), word_Place a1 a2 a3 a4 Q h = pts (word_Place.E Q []) 3000 true [.code word_Place.code] (frOf 0 [.int .u32 a1, .int .i64 a2, .int .i64 a3, .int .i64 a4]) h := by
  intros; kernel_rfl

theorem word_Place.S {W0 : World} : FnS sg W0 180 word_Place.C := by
  intro vs κ h wv hx w s
  unfold word_Place.C at hx
  split at hx
  · rename_i a1 a2 a3 a4
    refine postImp (ret := word_Place.ret (fun r1 h => κ (.int .u32 r1) h)) (fun v h hr => by unfold word_Place.ret at hr; split at hr; exact hr; exact hr.elim) ?_
    exact calls_of_pts (E := word_Place.E (fun r1 h => κ (.int .u32 r1) h) []) (envOK seatOK word_Place.callsOK noIfc_ok) seatOK.mixed word_Place.fun (Nat.le_of_ble_eq_true rfl) wv (cutL_ok trivial) s (fuel := 3000) (by rw [← word_Place.e]; exact hx)
  · exact hx.elim

noncomputable def insn_Encode.code : Code := Go.Proofs.Tryz.f72.body.getD .skip

theorem insn_Encode.fun : Fun sg.P 72 43 [.tmp 2, .tmp 3] insn_Encode.code := mkFun Go.Proofs.Tryz.func72 (by kernel_rfl) (by kernel_rfl) (by kernel_rfl) (by kernel_rfl)

def insn_Encode.ret (Q : Int → Int → Heap → Prop) (v : V) (h : Heap) : Prop :=
  match v with
  | .tup [.int .u32 r1, .int .i64 r2] => Q r1 r2 h
  | _ => False

def insn_Encode.C (vs : List V) (κ : V → Heap → Prop) (h : Heap) : Prop :=
  match vs with
  | [.agg [.int .i64 a1, .int .i64 a2, .int .i64 a3, .int .i64 a4, .int .i64 a5]] => insn_Encode a1 a2 a3 a4 a5 (fun r1 r2 h => κ (.tup [.int .u32 r1, .int .i64 r2]) h) h
  | _ => False

noncomputable def insn_Encode.calls : List (Nat × (List V → (V → Heap → Prop) → Heap → Prop)) := [(175, insn_Shape.C), (179, insn_Valid.C), (180, word_Place.C)]

noncomputable def insn_Encode.E (Q : Int → Int → Heap → Prop) (cuts : List (Nat × (List Nat × (List V → Heap → Prop)))) : Env := { tis := tisT, fns := fnsT, tys := tysT, gls := [], rts := rtsT, unk := [], nxt := [], calls := insn_Encode.calls, ifc := noIfc, cuts := cuts, ret := insn_Encode.ret Q, rets := [.tmp 2, .tmp 3], n := 43 }

theorem insn_Encode.callsOK {W0 : World} : CallsOK sg W0 insn_Encode.calls := ⟨insn_Shape.S, insn_Valid.S, word_Place.S, trivial⟩

def insn_Encode.k4 (I : Ptr → Int → Heap → Prop) (vs : List V) (h : Heap) : Prop :=
  match vs with
  | [.ptr (some a1), .int .u32 a2] => I a1 a2 h
  | _ => False

theorem insn_Encode.p4 : (posC insn_Encode.code []).filter (fun p => Nat.beq p.1 4) = [(4, atPos (posC insn_Encode.code []) 4)] := by kernel_rfl

theorem insn_Encode.e4 : ∀  (a1 : Ptr) (a2 : Int) (Q : Int → Int → Heap → Prop) (h : Heap), insn_Encode.j4  a1 a2 Q h = pts (insn_Encode.E Q []) 3000 true (atPos (posC insn_Encode.code []) 4) (frAt [1, 4] [.ptr (some a1), .int .u32 a2]) h := by
  intros; kernel_rfl

theorem insn_Encode.s4 {W0 : World} (Q : Int → Int → Heap → Prop)   : CutOK sg W0 43 (entered 72) (Post sg W0 (insn_Encode.ret Q)) (posC insn_Encode.code []) 4 [1, 4] (insn_Encode.k4 (fun a1 a2 h => insn_Encode.j4  a1 a2 Q h)) := by
  refine cutOK_head (fun vs h hk => ?_)
  unfold insn_Encode.k4 at hk
  split at hk
  · rename_i a1 a2
    intro todo hm ρ a w s f hp
    exact piece (E := insn_Encode.E Q []) (vs := [.ptr (some a1), .int .u32 a2]) (envOK seatOK insn_Encode.callsOK noIfc_ok) (fnOK seatOK insn_Encode.fun) trivial insn_Encode.p4 (fuel := 3000) (by rw [← insn_Encode.e4]; exact hk) hm s f hp
  · exact hk.elim

theorem insn_Encode.e : ∀ (a1 : Int) (a2 : Int) (a3 : Int) (a4 : Int) (a5 : Int) (Q : Int → Int → Heap → Prop) (h : Heap), insn_Encode a1 a2 a3 a4 a5 Q h = pts (insn_Encode.E Q [(4, ([1, 4], insn_Encode.k4 (fun a1 a2 h => insn_Encode.j4  a1 a2 Q h)))]) 3000 true [.code insn_Encode.code] (frOf 0 [.agg [.int .i64 a1, .int .i64 a2, .int .i64 a3, .int .i64 a4, .int .i64 a5]]) h := by
  intros; kernel_rfl

theorem insn_Encode.S {W0 : World} : FnS sg W0 181 insn_Encode.C := by
  intro vs κ h wv hx w s
  unfold insn_Encode.C at hx
  split at hx
  · rename_i a1 a2 a3 a4 a5
    refine postImp (ret := insn_Encode.ret (fun r1 r2 h => κ (.tup [.int .u32 r1, .int .i64 r2]) h)) (fun v h hr => by unfold insn_Encode.ret at hr; split at hr; exact hr; exact hr.elim) ?_
    exact calls_of_pts (E := insn_Encode.E (fun r1 r2 h => κ (.tup [.int .u32 r1, .int .i64 r2]) h) [(4, ([1, 4], insn_Encode.k4 (fun a1 a2 h => insn_Encode.j4  a1 a2 (fun r1 r2 h => κ (.tup [.int .u32 r1, .int .i64 r2]) h) h)))]) (envOK seatOK insn_Encode.callsOK noIfc_ok) seatOK.mixed insn_Encode.fun (Nat.le_of_ble_eq_true rfl) wv (cutL_ok ⟨(insn_Encode.s4 (fun r1 r2 h => κ (.tup [.int .u32 r1, .int .i64 r2]) h)), trivial⟩) s (fuel := 3000) (by rw [← insn_Encode.e]; exact hx)
  · exact hx.elim

noncomputable def insn_Decode.code : Code := Go.Proofs.Tryz.f44.body.getD .skip

theorem insn_Decode.fun : Fun sg.P 44 55 [.cell 2 50, .tmp 3] insn_Decode.code := mkFun Go.Proofs.Tryz.func44 (by kernel_rfl) (by kernel_rfl) (by kernel_rfl) (by kernel_rfl)

def insn_Decode.ret (Q : Int → Int → Int → Int → Int → Int → Heap → Prop) (v : V) (h : Heap) : Prop :=
  match v with
  | .tup [.agg [.int .i64 r1, .int .i64 r2, .int .i64 r3, .int .i64 r4, .int .i64 r5], .int .i64 r6] => Q r1 r2 r3 r4 r5 r6 h
  | _ => False

def insn_Decode.C (vs : List V) (κ : V → Heap → Prop) (h : Heap) : Prop :=
  match vs with
  | [.int .u32 a1] => insn_Decode a1 (fun r1 r2 r3 r4 r5 r6 h => κ (.tup [.agg [.int .i64 r1, .int .i64 r2, .int .i64 r3, .int .i64 r4, .int .i64 r5], .int .i64 r6]) h) h
  | _ => False

noncomputable def insn_Decode.calls : List (Nat × (List V → (V → Heap → Prop) → Heap → Prop)) := [(172, word_Field.C), (175, insn_Shape.C), (176, word_Sign.C), (181, insn_Encode.C)]

noncomputable def insn_Decode.E (Q : Int → Int → Int → Int → Int → Int → Heap → Prop) (cuts : List (Nat × (List Nat × (List V → Heap → Prop)))) : Env := { tis := tisT, fns := fnsT, tys := tysT, gls := [], rts := rtsT, unk := [], nxt := [], calls := insn_Decode.calls, ifc := noIfc, cuts := cuts, ret := insn_Decode.ret Q, rets := [.cell 2 50, .tmp 3], n := 55 }

theorem insn_Decode.callsOK {W0 : World} : CallsOK sg W0 insn_Decode.calls := ⟨word_Field.S, insn_Shape.S, word_Sign.S, insn_Encode.S, trivial⟩

def insn_Decode.k8 (I : Int → Ptr → Ptr → Heap → Prop) (vs : List V) (h : Heap) : Prop :=
  match vs with
  | [.int .u32 a1, .ptr (some a2), .ptr (some a3)] => I a1 a2 a3 h
  | _ => False

theorem insn_Decode.p8 : (posC insn_Decode.code []).filter (fun p => Nat.beq p.1 8) = [(8, atPos (posC insn_Decode.code []) 8)] := by kernel_rfl

theorem insn_Decode.e8 : ∀  (a1 : Int) (a2 : Ptr) (a3 : Ptr) (Q : Int → Int → Int → Int → Int → Int → Heap → Prop) (h : Heap), insn_Decode.j8  a1 a2 a3 Q h = pts (insn_Decode.E Q []) 3000 true (atPos (posC insn_Decode.code []) 8) (frAt [0, 2, 4] [.int .u32 a1, .ptr (some a2), .ptr (some a3)]) h := by
  intros; kernel_rfl

theorem insn_Decode.s8 {W0 : World} (Q : Int → Int → Int → Int → Int → Int → Heap → Prop)   : CutOK sg W0 55 (entered 44) (Post sg W0 (insn_Decode.ret Q)) (posC insn_Decode.code []) 8 [0, 2, 4] (insn_Decode.k8 (fun a1 a2 a3 h => insn_Decode.j8  a1 a2 a3 Q h)) := by
  refine cutOK_head (fun vs h hk => ?_)
  unfold insn_Decode.k8 at hk
  split at hk
  · rename_i a1 a2 a3
    intro todo hm ρ a w s f hp
    exact piece (E := insn_Decode.E Q []) (vs := [.int .u32 a1, .ptr (some a2), .ptr (some a3)]) (envOK seatOK insn_Decode.callsOK noIfc_ok) (fnOK seatOK insn_Decode.fun) trivial insn_Decode.p8 (fuel := 3000) (by rw [← insn_Decode.e8]; exact hk) hm s f hp
  · exact hk.elim

theorem insn_Decode.e : ∀ (a1 : Int) (Q : Int → Int → Int → Int → Int → Int → Heap → Prop) (h : Heap), insn_Decode a1 Q h = pts (insn_Decode.E Q [(8, ([0, 2, 4], insn_Decode.k8 (fun a1 a2 a3 h => insn_Decode.j8  a1 a2 a3 Q h)))]) 3000 true [.code insn_Decode.code] (frOf 0 [.int .u32 a1]) h := by
  intros; kernel_rfl

theorem insn_Decode.S {W0 : World} : FnS sg W0 182 insn_Decode.C := by
  intro vs κ h wv hx w s
  unfold insn_Decode.C at hx
  split at hx
  · rename_i a1
    refine postImp (ret := insn_Decode.ret (fun r1 r2 r3 r4 r5 r6 h => κ (.tup [.agg [.int .i64 r1, .int .i64 r2, .int .i64 r3, .int .i64 r4, .int .i64 r5], .int .i64 r6]) h)) (fun v h hr => by unfold insn_Decode.ret at hr; split at hr; exact hr; exact hr.elim) ?_
    exact calls_of_pts (E := insn_Decode.E (fun r1 r2 r3 r4 r5 r6 h => κ (.tup [.agg [.int .i64 r1, .int .i64 r2, .int .i64 r3, .int .i64 r4, .int .i64 r5], .int .i64 r6]) h) [(8, ([0, 2, 4], insn_Decode.k8 (fun a1 a2 a3 h => insn_Decode.j8  a1 a2 a3 (fun r1 r2 r3 r4 r5 r6 h => κ (.tup [.agg [.int .i64 r1, .int .i64 r2, .int .i64 r3, .int .i64 r4, .int .i64 r5], .int .i64 r6]) h) h)))]) (envOK seatOK insn_Decode.callsOK noIfc_ok) seatOK.mixed insn_Decode.fun (Nat.le_of_ble_eq_true rfl) wv (cutL_ok ⟨(insn_Decode.s8 (fun r1 r2 r3 r4 r5 r6 h => κ (.tup [.agg [.int .i64 r1, .int .i64 r2, .int .i64 r3, .int .i64 r4, .int .i64 r5], .int .i64 r6]) h)), trivial⟩) s (fuel := 3000) (by rw [← insn_Decode.e]; exact hx)
  · exact hx.elim

noncomputable def hart_hart_illegal.code : Code := Go.Proofs.Tryz.f45.body.getD .skip

theorem hart_hart_illegal.fun : Fun sg.P 45 9 [.cell 2 86] hart_hart_illegal.code := mkFun Go.Proofs.Tryz.func45 (by kernel_rfl) (by kernel_rfl) (by kernel_rfl) (by kernel_rfl)

def hart_hart_illegal.ret (Q : Int → Int → Int → Bool → Int → Heap → Prop) (v : V) (h : Heap) : Prop :=
  match v with
  | .agg [.int .i64 r1, .int .u64 r2, .int .u64 r3, .bool r4, .int .i64 r5] => Q r1 r2 r3 r4 r5 h
  | _ => False

def hart_hart_illegal.C (vs : List V) (κ : V → Heap → Prop) (h : Heap) : Prop :=
  match vs with
  | [.ptr a1] => hart_hart_illegal a1 (fun r1 r2 r3 r4 r5 h => κ (.agg [.int .i64 r1, .int .u64 r2, .int .u64 r3, .bool r4, .int .i64 r5]) h) h
  | _ => False

noncomputable def hart_hart_illegal.calls : List (Nat × (List V → (V → Heap → Prop) → Heap → Prop)) := [(165, hart_trap.C)]

noncomputable def hart_hart_illegal.E (Q : Int → Int → Int → Bool → Int → Heap → Prop) (cuts : List (Nat × (List Nat × (List V → Heap → Prop)))) : Env := { tis := tisT, fns := fnsT, tys := tysT, gls := [], rts := rtsT, unk := [], nxt := [], calls := hart_hart_illegal.calls, ifc := noIfc, cuts := cuts, ret := hart_hart_illegal.ret Q, rets := [.cell 2 86], n := 9 }

theorem hart_hart_illegal.callsOK {W0 : World} : CallsOK sg W0 hart_hart_illegal.calls := ⟨hart_trap.S, trivial⟩

theorem hart_hart_illegal.e : ∀ (a1 : Option Ptr) (Q : Int → Int → Int → Bool → Int → Heap → Prop) (h : Heap), hart_hart_illegal a1 Q h = pts (hart_hart_illegal.E Q []) 3000 true [.code hart_hart_illegal.code] (frOf 0 [.ptr a1]) h := by
  intros; kernel_rfl

theorem hart_hart_illegal.S {W0 : World} : FnS sg W0 183 hart_hart_illegal.C := by
  intro vs κ h wv hx w s
  unfold hart_hart_illegal.C at hx
  split at hx
  · rename_i a1
    refine postImp (ret := hart_hart_illegal.ret (fun r1 r2 r3 r4 r5 h => κ (.agg [.int .i64 r1, .int .u64 r2, .int .u64 r3, .bool r4, .int .i64 r5]) h)) (fun v h hr => by unfold hart_hart_illegal.ret at hr; split at hr; exact hr; exact hr.elim) ?_
    exact calls_of_pts (E := hart_hart_illegal.E (fun r1 r2 r3 r4 r5 h => κ (.agg [.int .i64 r1, .int .u64 r2, .int .u64 r3, .bool r4, .int .i64 r5]) h) []) (envOK seatOK hart_hart_illegal.callsOK noIfc_ok) seatOK.mixed hart_hart_illegal.fun (Nat.le_of_ble_eq_true rfl) wv (cutL_ok trivial) s (fuel := 3000) (by rw [← hart_hart_illegal.e]; exact hx)
  · exact hx.elim

noncomputable def hart_hart_fetch.code : Code := Go.Proofs.Tryz.f24.body.getD .skip

theorem hart_hart_fetch.fun : Fun sg.P 24 103 [.cell 2 86] hart_hart_fetch.code := mkFun Go.Proofs.Tryz.func24 (by kernel_rfl) (by kernel_rfl) (by kernel_rfl) (by kernel_rfl)

def hart_hart_fetch.ret (Q : Int → Int → Int → Bool → Int → Heap → Prop) (v : V) (h : Heap) : Prop :=
  match v with
  | .agg [.int .i64 r1, .int .u64 r2, .int .u64 r3, .bool r4, .int .i64 r5] => Q r1 r2 r3 r4 r5 h
  | _ => False

def hart_hart_fetch.C (U : Ifc) (vs : List V) (κ : V → Heap → Prop) (h : Heap) : Prop :=
  match vs with
  | [.ptr a1] => hart_hart_fetch U a1 (fun r1 r2 r3 r4 r5 h => κ (.agg [.int .i64 r1, .int .u64 r2, .int .u64 r3, .bool r4, .int .i64 r5]) h) h
  | _ => False

noncomputable def hart_hart_fetch.calls (U : Ifc) : List (Nat × (List V → (V → Heap → Prop) → Heap → Prop)) := [(164, csr_File_Due.C), (165, hart_trap.C), (166, csr_File_Root.C), (167, hart_hart_user.C), (168, hart_of.C), (182, insn_Decode.C), (183, hart_hart_illegal.C)]

noncomputable def hart_hart_fetch.E (U : Ifc) (Q : Int → Int → Int → Bool → Int → Heap → Prop) (cuts : List (Nat × (List Nat × (List V → Heap → Prop)))) : Env := { tis := tisT, fns := fnsT, tys := tysT, gls := glsT, rts := rtsT, unk := [], nxt := [], calls := hart_hart_fetch.calls U, ifc := U, cuts := cuts, ret := hart_hart_fetch.ret Q, rets := [.cell 2 86], n := 103 }

theorem hart_hart_fetch.callsOK {W0 : World} {U : Ifc} (hU : IfcOK sg W0 glsT U) : CallsOK sg W0 (hart_hart_fetch.calls U) := ⟨csr_File_Due.S, hart_trap.S, csr_File_Root.S, hart_hart_user.S, hart_of.S, insn_Decode.S, hart_hart_illegal.S, trivial⟩

def hart_hart_fetch.k15 (I : (Option Ptr) → Ptr → Heap → Prop) (vs : List V) (h : Heap) : Prop :=
  match vs with
  | [.ptr a1, .ptr (some a2)] => I a1 a2 h
  | _ => False

def hart_hart_fetch.k8 (I : (Option Ptr) → Ptr → Int → Int → Ptr → Heap → Prop) (vs : List V) (h : Heap) : Prop :=
  match vs with
  | [.ptr a1, .ptr (some a2), .int .u64 a3, .int .u64 a4, .ptr (some a5)] => I a1 a2 a3 a4 a5 h
  | _ => False

def hart_hart_fetch.k3 (I : (Option Ptr) → Ptr → Int → Int → Bool → Heap → Prop) (vs : List V) (h : Heap) : Prop :=
  match vs with
  | [.ptr a1, .ptr (some a2), .int .u64 a3, .int .i64 a4, .bool a5] => I a1 a2 a3 a4 a5 h
  | _ => False

theorem hart_hart_fetch.p15 : (posC hart_hart_fetch.code []).filter (fun p => Nat.beq p.1 15) = [(15, atPos (posC hart_hart_fetch.code []) 15)] := by kernel_rfl

theorem hart_hart_fetch.e15 : ∀ (U : Ifc)  (a1 : Option Ptr) (a2 : Ptr) (Q : Int → Int → Int → Bool → Int → Heap → Prop) (h : Heap), hart_hart_fetch.j15 U  a1 a2 Q h = pts (hart_hart_fetch.E U Q []) 3000 true (atPos (posC hart_hart_fetch.code []) 15) (frAt [0, 2] [.ptr a1, .ptr (some a2)]) h := by
  intros; kernel_rfl

theorem hart_hart_fetch.s15 {W0 : World} {U : Ifc} (hU : IfcOK sg W0 glsT U) (Q : Int → Int → Int → Bool → Int → Heap → Prop)   : CutOK sg W0 103 (entered 24) (Post sg W0 (hart_hart_fetch.ret Q)) (posC hart_hart_fetch.code []) 15 [0, 2] (hart_hart_fetch.k15 (fun a1 a2 h => hart_hart_fetch.j15 U  a1 a2 Q h)) := by
  refine cutOK_head (fun vs h hk => ?_)
  unfold hart_hart_fetch.k15 at hk
  split at hk
  · rename_i a1 a2
    intro todo hm ρ a w s f hp
    exact piece (E := hart_hart_fetch.E U Q []) (vs := [.ptr a1, .ptr (some a2)]) (envOK seatOK (hart_hart_fetch.callsOK hU) hU) (fnOK seatOK hart_hart_fetch.fun) trivial hart_hart_fetch.p15 (fuel := 3000) (by rw [← hart_hart_fetch.e15]; exact hk) hm s f hp
  · exact hk.elim

theorem hart_hart_fetch.p8 : (posC hart_hart_fetch.code []).filter (fun p => Nat.beq p.1 8) = [(8, atPos (posC hart_hart_fetch.code []) 8)] := by kernel_rfl

theorem hart_hart_fetch.e8 : ∀ (U : Ifc)  (a1 : Option Ptr) (a2 : Ptr) (a3 : Int) (a4 : Int) (a5 : Ptr) (Q : Int → Int → Int → Bool → Int → Heap → Prop) (h : Heap), hart_hart_fetch.j8 U  a1 a2 a3 a4 a5 Q h = pts (hart_hart_fetch.E U Q [(15, ([0, 2], hart_hart_fetch.k15 (fun a1 a2 h => hart_hart_fetch.j15 U  a1 a2 Q h)))]) 3000 true (atPos (posC hart_hart_fetch.code []) 8) (frAt [0, 2, 3, 6, 7] [.ptr a1, .ptr (some a2), .int .u64 a3, .int .u64 a4, .ptr (some a5)]) h := by
  intros; kernel_rfl

theorem hart_hart_fetch.s8 {W0 : World} {U : Ifc} (hU : IfcOK sg W0 glsT U) (Q : Int → Int → Int → Bool → Int → Heap → Prop)   : CutOK sg W0 103 (entered 24) (Post sg W0 (hart_hart_fetch.ret Q)) (posC hart_hart_fetch.code []) 8 [0, 2, 3, 6, 7] (hart_hart_fetch.k8 (fun a1 a2 a3 a4 a5 h => hart_hart_fetch.j8 U  a1 a2 a3 a4 a5 Q h)) := by
  refine cutOK_head (fun vs h hk => ?_)
  unfold hart_hart_fetch.k8 at hk
  split at hk
  · rename_i a1 a2 a3 a4 a5
    intro todo hm ρ a w s f hp
    exact piece (E := hart_hart_fetch.E U Q [(15, ([0, 2], hart_hart_fetch.k15 (fun a1 a2 h => hart_hart_fetch.j15 U  a1 a2 Q h)))]) (vs := [.ptr a1, .ptr (some a2), .int .u64 a3, .int .u64 a4, .ptr (some a5)]) (envOK seatOK (hart_hart_fetch.callsOK hU) hU) (fnOK seatOK hart_hart_fetch.fun) ⟨(hart_hart_fetch.s15 hU Q  ), trivial⟩ hart_hart_fetch.p8 (fuel := 3000) (by rw [← hart_hart_fetch.e8]; exact hk) hm s f hp
  · exact hk.elim

theorem hart_hart_fetch.p3 : (posC hart_hart_fetch.code []).filter (fun p => Nat.beq p.1 3) = [(3, atPos (posC hart_hart_fetch.code []) 3)] := by kernel_rfl

theorem hart_hart_fetch.e3 : ∀ (U : Ifc)  (a1 : Option Ptr) (a2 : Ptr) (a3 : Int) (a4 : Int) (a5 : Bool) (Q : Int → Int → Int → Bool → Int → Heap → Prop) (h : Heap), hart_hart_fetch.j3 U  a1 a2 a3 a4 a5 Q h = pts (hart_hart_fetch.E U Q [(8, ([0, 2, 3, 6, 7], hart_hart_fetch.k8 (fun a1 a2 a3 a4 a5 h => hart_hart_fetch.j8 U  a1 a2 a3 a4 a5 Q h)))]) 3000 true (atPos (posC hart_hart_fetch.code []) 3) (frAt [0, 2, 3, 4, 5] [.ptr a1, .ptr (some a2), .int .u64 a3, .int .i64 a4, .bool a5]) h := by
  intros; kernel_rfl

theorem hart_hart_fetch.s3 {W0 : World} {U : Ifc} (hU : IfcOK sg W0 glsT U) (Q : Int → Int → Int → Bool → Int → Heap → Prop)   : CutOK sg W0 103 (entered 24) (Post sg W0 (hart_hart_fetch.ret Q)) (posC hart_hart_fetch.code []) 3 [0, 2, 3, 4, 5] (hart_hart_fetch.k3 (fun a1 a2 a3 a4 a5 h => hart_hart_fetch.j3 U  a1 a2 a3 a4 a5 Q h)) := by
  refine cutOK_head (fun vs h hk => ?_)
  unfold hart_hart_fetch.k3 at hk
  split at hk
  · rename_i a1 a2 a3 a4 a5
    intro todo hm ρ a w s f hp
    exact piece (E := hart_hart_fetch.E U Q [(8, ([0, 2, 3, 6, 7], hart_hart_fetch.k8 (fun a1 a2 a3 a4 a5 h => hart_hart_fetch.j8 U  a1 a2 a3 a4 a5 Q h)))]) (vs := [.ptr a1, .ptr (some a2), .int .u64 a3, .int .i64 a4, .bool a5]) (envOK seatOK (hart_hart_fetch.callsOK hU) hU) (fnOK seatOK hart_hart_fetch.fun) ⟨(hart_hart_fetch.s8 hU Q  ), trivial⟩ hart_hart_fetch.p3 (fuel := 3000) (by rw [← hart_hart_fetch.e3]; exact hk) hm s f hp
  · exact hk.elim

theorem hart_hart_fetch.e : ∀ (U : Ifc) (a1 : Option Ptr) (Q : Int → Int → Int → Bool → Int → Heap → Prop) (h : Heap), hart_hart_fetch U a1 Q h = pts (hart_hart_fetch.E U Q [(3, ([0, 2, 3, 4, 5], hart_hart_fetch.k3 (fun a1 a2 a3 a4 a5 h => hart_hart_fetch.j3 U  a1 a2 a3 a4 a5 Q h)))]) 3000 true [.code hart_hart_fetch.code] (frOf 0 [.ptr a1]) h := by
  intros; kernel_rfl

theorem hart_hart_fetch.S {W0 : World} {U : Ifc} (hU : IfcOK sg W0 glsT U) : FnS sg W0 184 (hart_hart_fetch.C U) := by
  intro vs κ h wv hx w s
  unfold hart_hart_fetch.C at hx
  split at hx
  · rename_i a1
    refine postImp (ret := hart_hart_fetch.ret (fun r1 r2 r3 r4 r5 h => κ (.agg [.int .i64 r1, .int .u64 r2, .int .u64 r3, .bool r4, .int .i64 r5]) h)) (fun v h hr => by unfold hart_hart_fetch.ret at hr; split at hr; exact hr; exact hr.elim) ?_
    exact calls_of_pts (E := hart_hart_fetch.E U (fun r1 r2 r3 r4 r5 h => κ (.agg [.int .i64 r1, .int .u64 r2, .int .u64 r3, .bool r4, .int .i64 r5]) h) [(3, ([0, 2, 3, 4, 5], hart_hart_fetch.k3 (fun a1 a2 a3 a4 a5 h => hart_hart_fetch.j3 U  a1 a2 a3 a4 a5 (fun r1 r2 r3 r4 r5 h => κ (.agg [.int .i64 r1, .int .u64 r2, .int .u64 r3, .bool r4, .int .i64 r5]) h) h)))]) (envOK seatOK (hart_hart_fetch.callsOK hU) hU) seatOK.mixed hart_hart_fetch.fun (Nat.le_of_ble_eq_true rfl) wv (cutL_ok ⟨(hart_hart_fetch.s3 hU (fun r1 r2 r3 r4 r5 h => κ (.agg [.int .i64 r1, .int .u64 r2, .int .u64 r3, .bool r4, .int .i64 r5]) h)), trivial⟩) s (fuel := 3000) (by rw [← hart_hart_fetch.e]; exact hx)
  · exact hx.elim

noncomputable def hart_acts.code : Code := Go.Proofs.Tryz.f25.body.getD .skip

theorem hart_acts.fun : Fun sg.P 25 40 [.tmp 0] hart_acts.code := mkFun Go.Proofs.Tryz.func25 (by kernel_rfl) (by kernel_rfl) (by kernel_rfl) (by kernel_rfl)

def hart_acts.ret (Q : (Option Nat) → Heap → Prop) (v : V) (h : Heap) : Prop :=
  match v with
  | .map r1 => Q r1 h
  | _ => False

def hart_acts.C (vs : List V) (κ : V → Heap → Prop) (h : Heap) : Prop :=
  match vs with
  | [] => hart_acts  (fun r1 h => κ (.map r1) h) h
  | _ => False

noncomputable def hart_acts.calls : List (Nat × (List V → (V → Heap → Prop) → Heap → Prop)) := []

noncomputable def hart_acts.E (Q : (Option Nat) → Heap → Prop) (cuts : List (Nat × (List Nat × (List V → Heap → Prop)))) : Env := { tis := tisT, fns := fnsT, tys := tysT, gls := [], rts := rtsT, unk := [], nxt := [], calls := hart_acts.calls, ifc := noIfc, cuts := cuts, ret := hart_acts.ret Q, rets := [.tmp 0], n := 40 }

theorem hart_acts.callsOK {W0 : World} : CallsOK sg W0 hart_acts.calls := trivial

def hart_acts.k19 (I : (Option Nat) → Int → Heap → Prop) (vs : List V) (h : Heap) : Prop :=
  match vs with
  | [.map a1, .int .i64 a2] => I a1 a2 h
  | _ => False

def hart_acts.k15 (I : (Option Nat) → Int → Heap → Prop) (vs : List V) (h : Heap) : Prop :=
  match vs with
  | [.map a1, .int .i64 a2] => I a1 a2 h
  | _ => False

def hart_acts.k11 (I : (Option Nat) → Int → Heap → Prop) (vs : List V) (h : Heap) : Prop :=
  match vs with
  | [.map a1, .int .i64 a2] => I a1 a2 h
  | _ => False

def hart_acts.k7 (I : (Option Nat) → Int → Heap → Prop) (vs : List V) (h : Heap) : Prop :=
  match vs with
  | [.map a1, .int .i64 a2] => I a1 a2 h
  | _ => False

def hart_acts.k3 (I : (Option Nat) → Int → Heap → Prop) (vs : List V) (h : Heap) : Prop :=
  match vs with
  | [.map a1, .int .i64 a2] => I a1 a2 h
  | _ => False

theorem hart_acts.p19 : (posC hart_acts.code []).filter (fun p => Nat.beq p.1 19) = [(19, atPos (posC hart_acts.code []) 19)] := by kernel_rfl

theorem hart_acts.e19 : ∀  (I19 : (Option Nat) → Int → Heap → Prop) (a1 : Option Nat) (a2 : Int) (Q : (Option Nat) → Heap → Prop) (h : Heap), hart_acts.b19  I19 a1 a2 Q h = pts (hart_acts.E Q [(19, ([1, 6], hart_acts.k19 I19))]) 3000 true (atPos (posC hart_acts.code []) 19) (frAt [1, 6] [.map a1, .int .i64 a2]) h := by
  intros; kernel_rfl

theorem hart_acts.s19 {W0 : World} (Q : (Option Nat) → Heap → Prop)   : CutOK sg W0 40 (entered 25) (Post sg W0 (hart_acts.ret Q)) (posC hart_acts.code []) 19 [1, 6] (hart_acts.k19 (fun a1 a2 h => hart_acts.j19  a1 a2 Q h)) := by
  refine cutOK_head (fun vs h hk => ?_)
  unfold hart_acts.k19 at hk
  split at hk
  · rename_i a1 a2
    refine hk (fun a1 a2 h => Head sg W0 40 (entered 25) (Post sg W0 (hart_acts.ret Q)) (posC hart_acts.code []) 19 [1, 6] [.map a1, .int .i64 a2] h) ?_
    intro a1 a2 h hb todo hm ρ a w s f hp
    have hself : CutOK sg W0 40 (entered 25) (Post sg W0 (hart_acts.ret Q)) (posC hart_acts.code []) 19 [1, 6] (hart_acts.k19 (fun a1 a2 h => Head sg W0 40 (entered 25) (Post sg W0 (hart_acts.ret Q)) (posC hart_acts.code []) 19 [1, 6] [.map a1, .int .i64 a2] h)) := cutOK_head (fun vs h hk => by unfold hart_acts.k19 at hk; split at hk; exact hk; exact hk.elim)
    exact piece (E := hart_acts.E Q [(19, ([1, 6], hart_acts.k19 (fun a1 a2 h => Head sg W0 40 (entered 25) (Post sg W0 (hart_acts.ret Q)) (posC hart_acts.code []) 19 [1, 6] [.map a1, .int .i64 a2] h)))]) (vs := [.map a1, .int .i64 a2]) (envOK seatOK hart_acts.callsOK noIfc_ok) (fnOK seatOK hart_acts.fun) ⟨hself, trivial⟩ hart_acts.p19 (fuel := 3000) (by rw [← hart_acts.e19]; exact hb) hm s f hp
  · exact hk.elim

theorem hart_acts.p15 : (posC hart_acts.code []).filter (fun p => Nat.beq p.1 15) = [(15, atPos (posC hart_acts.code []) 15)] := by kernel_rfl

theorem hart_acts.e15 : ∀  (I15 : (Option Nat) → Int → Heap → Prop) (a1 : Option Nat) (a2 : Int) (Q : (Option Nat) → Heap → Prop) (h : Heap), hart_acts.b15  I15 a1 a2 Q h = pts (hart_acts.E Q [(15, ([1, 5], hart_acts.k15 I15)), (19, ([1, 6], hart_acts.k19 (fun a1 a2 h => hart_acts.j19  a1 a2 Q h)))]) 3000 true (atPos (posC hart_acts.code []) 15) (frAt [1, 5] [.map a1, .int .i64 a2]) h := by
  intros; kernel_rfl

theorem hart_acts.s15 {W0 : World} (Q : (Option Nat) → Heap → Prop)   : CutOK sg W0 40 (entered 25) (Post sg W0 (hart_acts.ret Q)) (posC hart_acts.code []) 15 [1, 5] (hart_acts.k15 (fun a1 a2 h => hart_acts.j15  a1 a2 Q h)) := by
  refine cutOK_head (fun vs h hk => ?_)
  unfold hart_acts.k15 at hk
  split at hk
  · rename_i a1 a2
    refine hk (fun a1 a2 h => Head sg W0 40 (entered 25) (Post sg W0 (hart_acts.ret Q)) (posC hart_acts.code []) 15 [1, 5] [.map a1, .int .i64 a2] h) ?_
    intro a1 a2 h hb todo hm ρ a w s f hp
    have hself : CutOK sg W0 40 (entered 25) (Post sg W0 (hart_acts.ret Q)) (posC hart_acts.code []) 15 [1, 5] (hart_acts.k15 (fun a1 a2 h => Head sg W0 40 (entered 25) (Post sg W0 (hart_acts.ret Q)) (posC hart_acts.code []) 15 [1, 5] [.map a1, .int .i64 a2] h)) := cutOK_head (fun vs h hk => by unfold hart_acts.k15 at hk; split at hk; exact hk; exact hk.elim)
    exact piece (E := hart_acts.E Q [(15, ([1, 5], hart_acts.k15 (fun a1 a2 h => Head sg W0 40 (entered 25) (Post sg W0 (hart_acts.ret Q)) (posC hart_acts.code []) 15 [1, 5] [.map a1, .int .i64 a2] h))), (19, ([1, 6], hart_acts.k19 (fun a1 a2 h => hart_acts.j19  a1 a2 Q h)))]) (vs := [.map a1, .int .i64 a2]) (envOK seatOK hart_acts.callsOK noIfc_ok) (fnOK seatOK hart_acts.fun) ⟨hself, (hart_acts.s19 Q  ), trivial⟩ hart_acts.p15 (fuel := 3000) (by rw [← hart_acts.e15]; exact hb) hm s f hp
  · exact hk.elim

theorem hart_acts.p11 : (posC hart_acts.code []).filter (fun p => Nat.beq p.1 11) = [(11, atPos (posC hart_acts.code []) 11)] := by kernel_rfl

theorem hart_acts.e11 : ∀  (I11 : (Option Nat) → Int → Heap → Prop) (a1 : Option Nat) (a2 : Int) (Q : (Option Nat) → Heap → Prop) (h : Heap), hart_acts.b11  I11 a1 a2 Q h = pts (hart_acts.E Q [(11, ([1, 4], hart_acts.k11 I11)), (15, ([1, 5], hart_acts.k15 (fun a1 a2 h => hart_acts.j15  a1 a2 Q h)))]) 3000 true (atPos (posC hart_acts.code []) 11) (frAt [1, 4] [.map a1, .int .i64 a2]) h := by
  intros; kernel_rfl

theorem hart_acts.s11 {W0 : World} (Q : (Option Nat) → Heap → Prop)   : CutOK sg W0 40 (entered 25) (Post sg W0 (hart_acts.ret Q)) (posC hart_acts.code []) 11 [1, 4] (hart_acts.k11 (fun a1 a2 h => hart_acts.j11  a1 a2 Q h)) := by
  refine cutOK_head (fun vs h hk => ?_)
  unfold hart_acts.k11 at hk
  split at hk
  · rename_i a1 a2
    refine hk (fun a1 a2 h => Head sg W0 40 (entered 25) (Post sg W0 (hart_acts.ret Q)) (posC hart_acts.code []) 11 [1, 4] [.map a1, .int .i64 a2] h) ?_
    intro a1 a2 h hb todo hm ρ a w s f hp
    have hself : CutOK sg W0 40 (entered 25) (Post sg W0 (hart_acts.ret Q)) (posC hart_acts.code []) 11 [1, 4] (hart_acts.k11 (fun a1 a2 h => Head sg W0 40 (entered 25) (Post sg W0 (hart_acts.ret Q)) (posC hart_acts.code []) 11 [1, 4] [.map a1, .int .i64 a2] h)) := cutOK_head (fun vs h hk => by unfold hart_acts.k11 at hk; split at hk; exact hk; exact hk.elim)
    exact piece (E := hart_acts.E Q [(11, ([1, 4], hart_acts.k11 (fun a1 a2 h => Head sg W0 40 (entered 25) (Post sg W0 (hart_acts.ret Q)) (posC hart_acts.code []) 11 [1, 4] [.map a1, .int .i64 a2] h))), (15, ([1, 5], hart_acts.k15 (fun a1 a2 h => hart_acts.j15  a1 a2 Q h)))]) (vs := [.map a1, .int .i64 a2]) (envOK seatOK hart_acts.callsOK noIfc_ok) (fnOK seatOK hart_acts.fun) ⟨hself, (hart_acts.s15 Q  ), trivial⟩ hart_acts.p11 (fuel := 3000) (by rw [← hart_acts.e11]; exact hb) hm s f hp
  · exact hk.elim

theorem hart_acts.p7 : (posC hart_acts.code []).filter (fun p => Nat.beq p.1 7) = [(7, atPos (posC hart_acts.code []) 7)] := by kernel_rfl

theorem hart_acts.e7 : ∀  (I7 : (Option Nat) → Int → Heap → Prop) (a1 : Option Nat) (a2 : Int) (Q : (Option Nat) → Heap → Prop) (h : Heap), hart_acts.b7  I7 a1 a2 Q h = pts (hart_acts.E Q [(7, ([1, 3], hart_acts.k7 I7)), (11, ([1, 4], hart_acts.k11 (fun a1 a2 h => hart_acts.j11  a1 a2 Q h)))]) 3000 true (atPos (posC hart_acts.code []) 7) (frAt [1, 3] [.map a1, .int .i64 a2]) h := by
  intros; kernel_rfl

theorem hart_acts.s7 {W0 : World} (Q : (Option Nat) → Heap → Prop)   : CutOK sg W0 40 (entered 25) (Post sg W0 (hart_acts.ret Q)) (posC hart_acts.code []) 7 [1, 3] (hart_acts.k7 (fun a1 a2 h => hart_acts.j7  a1 a2 Q h)) := by
  refine cutOK_head (fun vs h hk => ?_)
  unfold hart_acts.k7 at hk
  split at hk
  · rename_i a1 a2
    refine hk (fun a1 a2 h => Head sg W0 40 (entered 25) (Post sg W0 (hart_acts.ret Q)) (posC hart_acts.code []) 7 [1, 3] [.map a1, .int .i64 a2] h) ?_
    intro a1 a2 h hb todo hm ρ a w s f hp
    have hself : CutOK sg W0 40 (entered 25) (Post sg W0 (hart_acts.ret Q)) (posC hart_acts.code []) 7 [1, 3] (hart_acts.k7 (fun a1 a2 h => Head sg W0 40 (entered 25) (Post sg W0 (hart_acts.ret Q)) (posC hart_acts.code []) 7 [1, 3] [.map a1, .int .i64 a2] h)) := cutOK_head (fun vs h hk => by unfold hart_acts.k7 at hk; split at hk; exact hk; exact hk.elim)
    exact piece (E := hart_acts.E Q [(7, ([1, 3], hart_acts.k7 (fun a1 a2 h => Head sg W0 40 (entered 25) (Post sg W0 (hart_acts.ret Q)) (posC hart_acts.code []) 7 [1, 3] [.map a1, .int .i64 a2] h))), (11, ([1, 4], hart_acts.k11 (fun a1 a2 h => hart_acts.j11  a1 a2 Q h)))]) (vs := [.map a1, .int .i64 a2]) (envOK seatOK hart_acts.callsOK noIfc_ok) (fnOK seatOK hart_acts.fun) ⟨hself, (hart_acts.s11 Q  ), trivial⟩ hart_acts.p7 (fuel := 3000) (by rw [← hart_acts.e7]; exact hb) hm s f hp
  · exact hk.elim

theorem hart_acts.p3 : (posC hart_acts.code []).filter (fun p => Nat.beq p.1 3) = [(3, atPos (posC hart_acts.code []) 3)] := by kernel_rfl

theorem hart_acts.e3 : ∀  (I3 : (Option Nat) → Int → Heap → Prop) (a1 : Option Nat) (a2 : Int) (Q : (Option Nat) → Heap → Prop) (h : Heap), hart_acts.b3  I3 a1 a2 Q h = pts (hart_acts.E Q [(3, ([1, 2], hart_acts.k3 I3)), (7, ([1, 3], hart_acts.k7 (fun a1 a2 h => hart_acts.j7  a1 a2 Q h)))]) 3000 true (atPos (posC hart_acts.code []) 3) (frAt [1, 2] [.map a1, .int .i64 a2]) h := by
  intros; kernel_rfl

theorem hart_acts.s3 {W0 : World} (Q : (Option Nat) → Heap → Prop)   : CutOK sg W0 40 (entered 25) (Post sg W0 (hart_acts.ret Q)) (posC hart_acts.code []) 3 [1, 2] (hart_acts.k3 (fun a1 a2 h => hart_acts.j3  a1 a2 Q h)) := by
  refine cutOK_head (fun vs h hk => ?_)
  unfold hart_acts.k3 at hk
  split at hk
  · rename_i a1 a2
    refine hk (fun a1 a2 h => Head sg W0 40 (entered 25) (Post sg W0 (hart_acts.ret Q)) (posC hart_acts.code []) 3 [1, 2] [.map a1, .int .i64 a2] h) ?_
    intro a1 a2 h hb todo hm ρ a w s f hp
    have hself : CutOK sg W0 40 (entered 25) (Post sg W0 (hart_acts.ret Q)) (posC hart_acts.code []) 3 [1, 2] (hart_acts.k3 (fun a1 a2 h => Head sg W0 40 (entered 25) (Post sg W0 (hart_acts.ret Q)) (posC hart_acts.code []) 3 [1, 2] [.map a1, .int .i64 a2] h)) := cutOK_head (fun vs h hk => by unfold hart_acts.k3 at hk; split at hk; exact hk; exact hk.elim)
    exact piece (E := hart_acts.E Q [(3, ([1, 2], hart_acts.k3 (fun a1 a2 h => Head sg W0 40 (entered 25) (Post sg W0 (hart_acts.ret Q)) (posC hart_acts.code []) 3 [1, 2] [.map a1, .int .i64 a2] h))), (7, ([1, 3], hart_acts.k7 (fun a1 a2 h => hart_acts.j7  a1 a2 Q h)))]) (vs := [.map a1, .int .i64 a2]) (envOK seatOK hart_acts.callsOK noIfc_ok) (fnOK seatOK hart_acts.fun) ⟨hself, (hart_acts.s7 Q  ), trivial⟩ hart_acts.p3 (fuel := 3000) (by rw [← hart_acts.e3]; exact hb) hm s f hp
  · exact hk.elim

theorem hart_acts.e : ∀  (Q : (Option Nat) → Heap → Prop) (h : Heap), hart_acts  Q h = pts (hart_acts.E Q [(3, ([1, 2], hart_acts.k3 (fun a1 a2 h => hart_acts.j3  a1 a2 Q h)))]) 3000 true [.code hart_acts.code] (frOf 0 []) h := by
  intros; kernel_rfl

theorem hart_acts.S {W0 : World} : FnS sg W0 185 hart_acts.C := by
  intro vs κ h wv hx w s
  unfold hart_acts.C at hx
  split at hx
  · skip
    refine postImp (ret := hart_acts.ret (fun r1 h => κ (.map r1) h)) (fun v h hr => by unfold hart_acts.ret at hr; split at hr; exact hr; exact hr.elim) ?_
    exact calls_of_pts (E := hart_acts.E (fun r1 h => κ (.map r1) h) [(3, ([1, 2], hart_acts.k3 (fun a1 a2 h => hart_acts.j3  a1 a2 (fun r1 h => κ (.map r1) h) h)))]) (envOK seatOK hart_acts.callsOK noIfc_ok) seatOK.mixed hart_acts.fun (Nat.le_of_ble_eq_true rfl) wv (cutL_ok ⟨(hart_acts.s3 (fun r1 h => κ (.map r1) h)), trivial⟩) s (fuel := 3000) (by rw [← hart_acts.e]; exact hx)
  · exact hx.elim

noncomputable def hart_Step.code : Code := Go.Proofs.Tryz.f9.body.getD .skip

theorem hart_Step.fun : Fun sg.P 9 61 [.cell 6 41, .tmp 7] hart_Step.code := mkFun Go.Proofs.Tryz.func9 (by kernel_rfl) (by kernel_rfl) (by kernel_rfl) (by kernel_rfl)

def hart_Step.ret (Q : Int → Int → Int → Int → Bool → Bool → Int → Heap → Prop) (v : V) (h : Heap) : Prop :=
  match v with
  | .tup [.agg [.int .i64 r1, .int .i64 r2, .int .u64 r3, .int .u64 r4, .bool r5, .bool r6], .int .i64 r7] => Q r1 r2 r3 r4 r5 r6 r7 h
  | _ => False

def hart_Step.C (U : Ifc) (vs : List V) (κ : V → Heap → Prop) (h : Heap) : Prop :=
  match vs with
  | [.ptr a1, .ptr a2, a3] => hart_Step U a1 a2 a3 (fun r1 r2 r3 r4 r5 r6 r7 h => κ (.tup [.agg [.int .i64 r1, .int .i64 r2, .int .u64 r3, .int .u64 r4, .bool r5, .bool r6], .int .i64 r7]) h) h
  | _ => False

noncomputable def hart_Step.calls (U : Ifc) : List (Nat × (List V → (V → Heap → Prop) → Heap → Prop)) := [(163, csr_File_Clone.C), (184, hart_hart_fetch.C U), (185, hart_acts.C)]

noncomputable def hart_Step.E (U : Ifc) (Q : Int → Int → Int → Int → Bool → Bool → Int → Heap → Prop) (cuts : List (Nat × (List Nat × (List V → Heap → Prop)))) : Env := { tis := tisT, fns := fnsT, tys := tysT, gls := glsT, rts := rtsT, unk := [42], nxt := [], calls := hart_Step.calls U, ifc := U, cuts := cuts, ret := hart_Step.ret Q, rets := [.cell 6 41, .tmp 7], n := 61 }

theorem hart_Step.callsOK {W0 : World} {U : Ifc} (hU : IfcOK sg W0 glsT U) : CallsOK sg W0 (hart_Step.calls U) := ⟨csr_File_Clone.S, (hart_hart_fetch.S hU), hart_acts.S, trivial⟩

def hart_Step.k2 (I : Ptr → Heap → Prop) (vs : List V) (h : Heap) : Prop :=
  match vs with
  | [.ptr (some a1)] => I a1 h
  | _ => False

def hart_Step.k8 (I : (Option Ptr) → Ptr → Ptr → Ptr → Heap → Prop) (vs : List V) (h : Heap) : Prop :=
  match vs with
  | [.ptr a1, .ptr (some a2), .ptr (some a3), .ptr (some a4)] => I a1 a2 a3 a4 h
  | _ => False

def hart_Step.k6 (I : (Option Ptr) → Ptr → Ptr → Ptr → Heap → Prop) (vs : List V) (h : Heap) : Prop :=
  match vs with
  | [.ptr a1, .ptr (some a2), .ptr (some a3), .ptr (some a4)] => I a1 a2 a3 a4 h
  | _ => False

theorem hart_Step.p2 : (posC hart_Step.code []).filter (fun p => Nat.beq p.1 2) = [(2, atPos (posC hart_Step.code []) 2)] := by kernel_rfl

theorem hart_Step.e2 : ∀ (U : Ifc)  (a1 : Ptr) (Q : Int → Int → Int → Int → Bool → Bool → Int → Heap → Prop) (h : Heap), hart_Step.j2 U  a1 Q h = pts (hart_Step.E U Q []) 3000 true (atPos (posC hart_Step.code []) 2) (frAt [6] [.ptr (some a1)]) h := by
  intros; kernel_rfl

theorem hart_Step.s2 {W0 : World} {U : Ifc} (hU : IfcOK sg W0 glsT U) (Q : Int → Int → Int → Int → Bool → Bool → Int → Heap → Prop)   : CutOK sg W0 61 (entered 9) (Post sg W0 (hart_Step.ret Q)) (posC hart_Step.code []) 2 [6] (hart_Step.k2 (fun a1 h => hart_Step.j2 U  a1 Q h)) := by
  refine cutOK_head (fun vs h hk => ?_)
  unfold hart_Step.k2 at hk
  split at hk
  · rename_i a1
    intro todo hm ρ a w s f hp
    exact piece (E := hart_Step.E U Q []) (vs := [.ptr (some a1)]) (envOK seatOK (hart_Step.callsOK hU) hU) (fnOK seatOK hart_Step.fun) trivial hart_Step.p2 (fuel := 3000) (by rw [← hart_Step.e2]; exact hk) hm s f hp
  · exact hk.elim

theorem hart_Step.p8 : (posC hart_Step.code []).filter (fun p => Nat.beq p.1 8) = [(8, atPos (posC hart_Step.code []) 8)] := by kernel_rfl

theorem hart_Step.e8 : ∀ (U : Ifc)  (a1 : Option Ptr) (a2 : Ptr) (a3 : Ptr) (a4 : Ptr) (Q : Int → Int → Int → Int → Bool → Bool → Int → Heap → Prop) (h : Heap), hart_Step.j8 U  a1 a2 a3 a4 Q h = pts (hart_Step.E U Q []) 3000 true (atPos (posC hart_Step.code []) 8) (frAt [0, 6, 8, 9] [.ptr a1, .ptr (some a2), .ptr (some a3), .ptr (some a4)]) h := by
  intros; kernel_rfl

theorem hart_Step.s8 {W0 : World} {U : Ifc} (hU : IfcOK sg W0 glsT U) (Q : Int → Int → Int → Int → Bool → Bool → Int → Heap → Prop)   : CutOK sg W0 61 (entered 9) (Post sg W0 (hart_Step.ret Q)) (posC hart_Step.code []) 8 [0, 6, 8, 9] (hart_Step.k8 (fun a1 a2 a3 a4 h => hart_Step.j8 U  a1 a2 a3 a4 Q h)) := by
  refine cutOK_head (fun vs h hk => ?_)
  unfold hart_Step.k8 at hk
  split at hk
  · rename_i a1 a2 a3 a4
    intro todo hm ρ a w s f hp
    exact piece (E := hart_Step.E U Q []) (vs := [.ptr a1, .ptr (some a2), .ptr (some a3), .ptr (some a4)]) (envOK seatOK (hart_Step.callsOK hU) hU) (fnOK seatOK hart_Step.fun) trivial hart_Step.p8 (fuel := 3000) (by rw [← hart_Step.e8]; exact hk) hm s f hp
  · exact hk.elim

theorem hart_Step.p6 : (posC hart_Step.code []).filter (fun p => Nat.beq p.1 6) = [(6, atPos (posC hart_Step.code []) 6)] := by kernel_rfl

theorem hart_Step.e6 : ∀ (U : Ifc)  (a1 : Option Ptr) (a2 : Ptr) (a3 : Ptr) (a4 : Ptr) (Q : Int → Int → Int → Int → Bool → Bool → Int → Heap → Prop) (h : Heap), hart_Step.j6 U  a1 a2 a3 a4 Q h = pts (hart_Step.E U Q [(8, ([0, 6, 8, 9], hart_Step.k8 (fun a1 a2 a3 a4 h => hart_Step.j8 U  a1 a2 a3 a4 Q h)))]) 3000 true (atPos (posC hart_Step.code []) 6) (frAt [0, 6, 8, 9] [.ptr a1, .ptr (some a2), .ptr (some a3), .ptr (some a4)]) h := by
  intros; kernel_rfl

theorem hart_Step.s6 {W0 : World} {U : Ifc} (hU : IfcOK sg W0 glsT U) (Q : Int → Int → Int → Int → Bool → Bool → Int → Heap → Prop)   : CutOK sg W0 61 (entered 9) (Post sg W0 (hart_Step.ret Q)) (posC hart_Step.code []) 6 [0, 6, 8, 9] (hart_Step.k6 (fun a1 a2 a3 a4 h => hart_Step.j6 U  a1 a2 a3 a4 Q h)) := by
  refine cutOK_head (fun vs h hk => ?_)
  unfold hart_Step.k6 at hk
  split at hk
  · rename_i a1 a2 a3 a4
    intro todo hm ρ a w s f hp
    exact piece (E := hart_Step.E U Q [(8, ([0, 6, 8, 9], hart_Step.k8 (fun a1 a2 a3 a4 h => hart_Step.j8 U  a1 a2 a3 a4 Q h)))]) (vs := [.ptr a1, .ptr (some a2), .ptr (some a3), .ptr (some a4)]) (envOK seatOK (hart_Step.callsOK hU) hU) (fnOK seatOK hart_Step.fun) ⟨(hart_Step.s8 hU Q  ), trivial⟩ hart_Step.p6 (fuel := 3000) (by rw [← hart_Step.e6]; exact hk) hm s f hp
  · exact hk.elim

theorem hart_Step.e : ∀ (U : Ifc) (a1 : Option Ptr) (a2 : Option Ptr) (a3 : V) (Q : Int → Int → Int → Int → Bool → Bool → Int → Heap → Prop) (h : Heap), hart_Step U a1 a2 a3 Q h = pts (hart_Step.E U Q [(2, ([6], hart_Step.k2 (fun a1 h => hart_Step.j2 U  a1 Q h))), (6, ([0, 6, 8, 9], hart_Step.k6 (fun a1 a2 a3 a4 h => hart_Step.j6 U  a1 a2 a3 a4 Q h)))]) 3000 true [.code hart_Step.code] (frOf 0 [.ptr a1, .ptr a2, a3]) h := by
  intros; kernel_rfl

theorem hart_Step.S {W0 : World} {U : Ifc} (hU : IfcOK sg W0 glsT U) : FnS sg W0 188 (hart_Step.C U) := by
  intro vs κ h wv hx w s
  unfold hart_Step.C at hx
  split at hx
  · rename_i a1 a2 a3
    refine postImp (ret := hart_Step.ret (fun r1 r2 r3 r4 r5 r6 r7 h => κ (.tup [.agg [.int .i64 r1, .int .i64 r2, .int .u64 r3, .int .u64 r4, .bool r5, .bool r6], .int .i64 r7]) h)) (fun v h hr => by unfold hart_Step.ret at hr; split at hr; exact hr; exact hr.elim) ?_
    exact calls_of_pts (E := hart_Step.E U (fun r1 r2 r3 r4 r5 r6 r7 h => κ (.tup [.agg [.int .i64 r1, .int .i64 r2, .int .u64 r3, .int .u64 r4, .bool r5, .bool r6], .int .i64 r7]) h) [(2, ([6], hart_Step.k2 (fun a1 h => hart_Step.j2 U  a1 (fun r1 r2 r3 r4 r5 r6 r7 h => κ (.tup [.agg [.int .i64 r1, .int .i64 r2, .int .u64 r3, .int .u64 r4, .bool r5, .bool r6], .int .i64 r7]) h) h))), (6, ([0, 6, 8, 9], hart_Step.k6 (fun a1 a2 a3 a4 h => hart_Step.j6 U  a1 a2 a3 a4 (fun r1 r2 r3 r4 r5 r6 r7 h => κ (.tup [.agg [.int .i64 r1, .int .i64 r2, .int .u64 r3, .int .u64 r4, .bool r5, .bool r6], .int .i64 r7]) h) h)))]) (envOK seatOK (hart_Step.callsOK hU) hU) seatOK.mixed hart_Step.fun (Nat.le_of_ble_eq_true rfl) wv (cutL_ok ⟨(hart_Step.s2 hU (fun r1 r2 r3 r4 r5 r6 r7 h => κ (.tup [.agg [.int .i64 r1, .int .i64 r2, .int .u64 r3, .int .u64 r4, .bool r5, .bool r6], .int .i64 r7]) h)), (hart_Step.s6 hU (fun r1 r2 r3 r4 r5 r6 r7 h => κ (.tup [.agg [.int .i64 r1, .int .i64 r2, .int .u64 r3, .int .u64 r4, .bool r5, .bool r6], .int .i64 r7]) h)), trivial⟩) s (fuel := 3000) (by rw [← hart_Step.e]; exact hx)
  · exact hx.elim

noncomputable def word_Load.code : Code := Go.Proofs.Tryz.f28.body.getD .skip

theorem word_Load.fun : Fun sg.P 28 53 [.tmp 6, .tmp 7] word_Load.code := mkFun Go.Proofs.Tryz.func28 (by kernel_rfl) (by kernel_rfl) (by kernel_rfl) (by kernel_rfl)

def word_Load.ret (Q : Int → Bool → Heap → Prop) (v : V) (h : Heap) : Prop :=
  match v with
  | .tup [.int .u64 r1, .bool r2] => Q r1 r2 h
  | _ => False

def word_Load.C (U : Ifc) (vs : List V) (κ : V → Heap → Prop) (h : Heap) : Prop :=
  match vs with
  | [.sl a1, .int .i64 a2, .int .i64 a3] => word_Load U a1 a2 a3 (fun r1 r2 h => κ (.tup [.int .u64 r1, .bool r2]) h) h
  | _ => False

noncomputable def word_Load.calls (U : Ifc) : List (Nat × (List V → (V → Heap → Prop) → Heap → Prop)) := [(93, word_known.C U)]

noncomputable def word_Load.E (U : Ifc) (Q : Int → Bool → Heap → Prop) (cuts : List (Nat × (List Nat × (List V → Heap → Prop)))) : Env := { tis := tisT, fns := fnsT, tys := tysT, gls := glsT, rts := rtsT, unk := [], nxt := [], calls := word_Load.calls U, ifc := U, cuts := cuts, ret := word_Load.ret Q, rets := [.tmp 6, .tmp 7], n := 53 }

theorem word_Load.callsOK {W0 : World} {U : Ifc} (hU : IfcOK sg W0 glsT U) : CallsOK sg W0 (word_Load.calls U) := ⟨(word_known.S hU), trivial⟩

def word_Load.k2 (I : Heap → Prop) (vs : List V) (h : Heap) : Prop :=
  match vs with
  | [] => I  h
  | _ => False

def word_Load.k5 (I : Int → Int → Sl → Int → Int → Heap → Prop) (vs : List V) (h : Heap) : Prop :=
  match vs with
  | [.int .i64 a1, .int .u64 a2, .sl a3, .int .i64 a4, .int .i64 a5] => I a1 a2 a3 a4 a5 h
  | _ => False

theorem word_Load.p2 : (posC word_Load.code []).filter (fun p => Nat.beq p.1 2) = [(2, atPos (posC word_Load.code []) 2)] := by kernel_rfl

theorem word_Load.e2 : ∀ (U : Ifc)   (Q : Int → Bool → Heap → Prop) (h : Heap), word_Load.j2 U   Q h = pts (word_Load.E U Q []) 3000 true (atPos (posC word_Load.code []) 2) (frAt [] []) h := by
  intros; kernel_rfl

theorem word_Load.s2 {W0 : World} {U : Ifc} (hU : IfcOK sg W0 glsT U) (Q : Int → Bool → Heap → Prop)   : CutOK sg W0 53 (entered 28) (Post sg W0 (word_Load.ret Q)) (posC word_Load.code []) 2 [] (word_Load.k2 (fun  h => word_Load.j2 U   Q h)) := by
  refine cutOK_head (fun vs h hk => ?_)
  unfold word_Load.k2 at hk
  split at hk
  · skip
    intro todo hm ρ a w s f hp
    exact piece (E := word_Load.E U Q []) (vs := []) (envOK seatOK (word_Load.callsOK hU) hU) (fnOK seatOK word_Load.fun) trivial word_Load.p2 (fuel := 3000) (by rw [← word_Load.e2]; exact hk) hm s f hp
  · exact hk.elim

theorem word_Load.p5 : (posC word_Load.code []).filter (fun p => Nat.beq p.1 5) = [(5, atPos (posC word_Load.code []) 5)] := by kernel_rfl

theorem word_Load.e5 : ∀ (U : Ifc)  (I5 : Int → Int → Sl → Int → Int → Heap → Prop) (a1 : Int) (a2 : Int) (a3 : Sl) (a4 : Int) (a5 : Int) (Q : Int → Bool → Heap → Prop) (h : Heap), word_Load.b5 U  I5 a1 a2 a3 a4 a5 Q h = pts (word_Load.E U Q [(5, ([2, 8, 31, 32, 33], word_Load.k5 I5))]) 3000 true (atPos (posC word_Load.code []) 5) (frAt [2, 8, 31, 32, 33] [.int .i64 a1, .int .u64 a2, .sl a3, .int .i64 a4, .int .i64 a5]) h := by
  intros; kernel_rfl

theorem word_Load.s5 {W0 : World} {U : Ifc} (hU : IfcOK sg W0 glsT U) (Q : Int → Bool → Heap → Prop)   : CutOK sg W0 53 (entered 28) (Post sg W0 (word_Load.ret Q)) (posC word_Load.code []) 5 [2, 8, 31, 32, 33] (word_Load.k5 (fun a1 a2 a3 a4 a5 h => word_Load.j5 U  a1 a2 a3 a4 a5 Q h)) := by
  refine cutOK_head (fun vs h hk => ?_)
  unfold word_Load.k5 at hk
  split at hk
  · rename_i a1 a2 a3 a4 a5
    refine hk (fun a1 a2 a3 a4 a5 h => Head sg W0 53 (entered 28) (Post sg W0 (word_Load.ret Q)) (posC word_Load.code []) 5 [2, 8, 31, 32, 33] [.int .i64 a1, .int .u64 a2, .sl a3, .int .i64 a4, .int .i64 a5] h) ?_
    intro a1 a2 a3 a4 a5 h hb todo hm ρ a w s f hp
    have hself : CutOK sg W0 53 (entered 28) (Post sg W0 (word_Load.ret Q)) (posC word_Load.code []) 5 [2, 8, 31, 32, 33] (word_Load.k5 (fun a1 a2 a3 a4 a5 h => Head sg W0 53 (entered 28) (Post sg W0 (word_Load.ret Q)) (posC word_Load.code []) 5 [2, 8, 31, 32, 33] [.int .i64 a1, .int .u64 a2, .sl a3, .int .i64 a4, .int .i64 a5] h)) := cutOK_head (fun vs h hk => by unfold word_Load.k5 at hk; split at hk; exact hk; exact hk.elim)
    exact piece (E := word_Load.E U Q [(5, ([2, 8, 31, 32, 33], word_Load.k5 (fun a1 a2 a3 a4 a5 h => Head sg W0 53 (entered 28) (Post sg W0 (word_Load.ret Q)) (posC word_Load.code []) 5 [2, 8, 31, 32, 33] [.int .i64 a1, .int .u64 a2, .sl a3, .int .i64 a4, .int .i64 a5] h)))]) (vs := [.int .i64 a1, .int .u64 a2, .sl a3, .int .i64 a4, .int .i64 a5]) (envOK seatOK (word_Load.callsOK hU) hU) (fnOK seatOK word_Load.fun) ⟨hself, trivial⟩ word_Load.p5 (fuel := 3000) (by rw [← word_Load.e5]; exact hb) hm s f hp
  · exact hk.elim

theorem word_Load.e : ∀ (U : Ifc) (a1 : Sl) (a2 : Int) (a3 : Int) (Q : Int → Bool → Heap → Prop) (h : Heap), word_Load U a1 a2 a3 Q h = pts (word_Load.E U Q [(2, ([], word_Load.k2 (fun  h => word_Load.j2 U   Q h))), (5, ([2, 8, 31, 32, 33], word_Load.k5 (fun a1 a2 a3 a4 a5 h => word_Load.j5 U  a1 a2 a3 a4 a5 Q h)))]) 3000 true [.code word_Load.code] (frOf 0 [.sl a1, .int .i64 a2, .int .i64 a3]) h := by
  intros; kernel_rfl

theorem word_Load.S {W0 : World} {U : Ifc} (hU : IfcOK sg W0 glsT U) : FnS sg W0 94 (word_Load.C U) := by
  intro vs κ h wv hx w s
  unfold word_Load.C at hx
  split at hx
  · rename_i a1 a2 a3
    refine postImp (ret := word_Load.ret (fun r1 r2 h => κ (.tup [.int .u64 r1, .bool r2]) h)) (fun v h hr => by unfold word_Load.ret at hr; split at hr; exact hr; exact hr.elim) ?_
    exact calls_of_pts (E := word_Load.E U (fun r1 r2 h => κ (.tup [.int .u64 r1, .bool r2]) h) [(2, ([], word_Load.k2 (fun  h => word_Load.j2 U   (fun r1 r2 h => κ (.tup [.int .u64 r1, .bool r2]) h) h))), (5, ([2, 8, 31, 32, 33], word_Load.k5 (fun a1 a2 a3 a4 a5 h => word_Load.j5 U  a1 a2 a3 a4 a5 (fun r1 r2 h => κ (.tup [.int .u64 r1, .bool r2]) h) h)))]) (envOK seatOK (word_Load.callsOK hU) hU) seatOK.mixed word_Load.fun (Nat.le_of_ble_eq_true rfl) wv (cutL_ok ⟨(word_Load.s2 hU (fun r1 r2 h => κ (.tup [.int .u64 r1, .bool r2]) h)), (word_Load.s5 hU (fun r1 r2 h => κ (.tup [.int .u64 r1, .bool r2]) h)), trivial⟩) s (fuel := 3000) (by rw [← word_Load.e]; exact hx)
  · exact hx.elim

noncomputable def mem_Memory_Load.code : Code := Go.Proofs.Tryz.f10.body.getD .skip

theorem mem_Memory_Load.fun : Fun sg.P 10 29 [.tmp 6, .tmp 7] mem_Memory_Load.code := mkFun Go.Proofs.Tryz.func10 (by kernel_rfl) (by kernel_rfl) (by kernel_rfl) (by kernel_rfl)

def mem_Memory_Load.ret (Q : Int → Int → Heap → Prop) (v : V) (h : Heap) : Prop :=
  match v with
  | .tup [.int .u64 r1, .int .i64 r2] => Q r1 r2 h
  | _ => False

def mem_Memory_Load.C (U : Ifc) (vs : List V) (κ : V → Heap → Prop) (h : Heap) : Prop :=
  match vs with
  | [.ptr a1, .int .u64 a2, .int .i64 a3] => mem_Memory_Load U a1 a2 a3 (fun r1 r2 h => κ (.tup [.int .u64 r1, .int .i64 r2]) h) h
  | _ => False

noncomputable def mem_Memory_Load.calls (U : Ifc) : List (Nat × (List V → (V → Heap → Prop) → Heap → Prop)) := [(59, mem_Memory_number.C), (94, word_Load.C U)]

noncomputable def mem_Memory_Load.E (U : Ifc) (Q : Int → Int → Heap → Prop) (cuts : List (Nat × (List Nat × (List V → Heap → Prop)))) : Env := { tis := tisT, fns := fnsT, tys := tysT, gls := glsT, rts := rtsT, unk := [], nxt := [], calls := mem_Memory_Load.calls U, ifc := U, cuts := cuts, ret := mem_Memory_Load.ret Q, rets := [.tmp 6, .tmp 7], n := 29 }

theorem mem_Memory_Load.callsOK {W0 : World} {U : Ifc} (hU : IfcOK sg W0 glsT U) : CallsOK sg W0 (mem_Memory_Load.calls U) := ⟨mem_Memory_number.S, (word_Load.S hU), trivial⟩

theorem mem_Memory_Load.e : ∀ (U : Ifc) (a1 : Option Ptr) (a2 : Int) (a3 : Int) (Q : Int → Int → Heap → Prop) (h : Heap), mem_Memory_Load U a1 a2 a3 Q h = pts (mem_Memory_Load.E U Q []) 3000 true [.code mem_Memory_Load.code] (frOf 0 [.ptr a1, .int .u64 a2, .int .i64 a3]) h := by
  intros; kernel_rfl

theorem mem_Memory_Load.S {W0 : World} {U : Ifc} (hU : IfcOK sg W0 glsT U) : FnS sg W0 95 (mem_Memory_Load.C U) := by
  intro vs κ h wv hx w s
  unfold mem_Memory_Load.C at hx
  split at hx
  · rename_i a1 a2 a3
    refine postImp (ret := mem_Memory_Load.ret (fun r1 r2 h => κ (.tup [.int .u64 r1, .int .i64 r2]) h)) (fun v h hr => by unfold mem_Memory_Load.ret at hr; split at hr; exact hr; exact hr.elim) ?_
    exact calls_of_pts (E := mem_Memory_Load.E U (fun r1 r2 h => κ (.tup [.int .u64 r1, .int .i64 r2]) h) []) (envOK seatOK (mem_Memory_Load.callsOK hU) hU) seatOK.mixed mem_Memory_Load.fun (Nat.le_of_ble_eq_true rfl) wv (cutL_ok trivial) s (fuel := 3000) (by rw [← mem_Memory_Load.e]; exact hx)
  · exact hx.elim

noncomputable def palisadelaw09_HartHeld.code : Code := Go.Proofs.Tryz.f4.body.getD .skip

theorem palisadelaw09_HartHeld.fun : Fun sg.P 4 115 [.tmp 6] palisadelaw09_HartHeld.code := mkFun Go.Proofs.Tryz.func4 (by kernel_rfl) (by kernel_rfl) (by kernel_rfl) (by kernel_rfl)

def palisadelaw09_HartHeld.ret (Q : Bool → Heap → Prop) (v : V) (h : Heap) : Prop :=
  match v with
  | .bool r1 => Q r1 h
  | _ => False

def palisadelaw09_HartHeld.C (U : Ifc) (vs : List V) (κ : V → Heap → Prop) (h : Heap) : Prop :=
  match vs with
  | [.ago a1, .int .u64 a2, .bool a3] => palisadelaw09_HartHeld U a1 a2 a3 (fun r1 h => κ (.bool r1) h) h
  | _ => False

noncomputable def palisadelaw09_HartHeld.calls (U : Ifc) : List (Nat × (List V → (V → Heap → Prop) → Heap → Prop)) := [(231, palisadelaw09_both.C U), (188, hart_Step.C U), (95, mem_Memory_Load.C U)]

noncomputable def palisadelaw09_HartHeld.E (U : Ifc) (Q : Bool → Heap → Prop) (cuts : List (Nat × (List Nat × (List V → Heap → Prop)))) : Env := { tis := tisT, fns := fnsT, tys := tysT, gls := glsT, rts := rtsT, unk := [], nxt := [], calls := palisadelaw09_HartHeld.calls U, ifc := U, cuts := cuts, ret := palisadelaw09_HartHeld.ret Q, rets := [.tmp 6], n := 115 }

theorem palisadelaw09_HartHeld.callsOK {W0 : World} {U : Ifc} (hU : IfcOK sg W0 glsT U) : CallsOK sg W0 (palisadelaw09_HartHeld.calls U) := ⟨(palisadelaw09_both.S hU), (hart_Step.S hU), (mem_Memory_Load.S hU), trivial⟩

def palisadelaw09_HartHeld.k21 (I : Heap → Prop) (vs : List V) (h : Heap) : Prop :=
  match vs with
  | [] => I  h
  | _ => False

def palisadelaw09_HartHeld.k16 (I : Int → Bool → (Option Ptr) → (Option Ptr) → Ptr → Int → Heap → Prop) (vs : List V) (h : Heap) : Prop :=
  match vs with
  | [.int .u64 a1, .bool a2, .ptr a3, .ptr a4, .ptr (some a5), .int .i64 a6] => I a1 a2 a3 a4 a5 a6 h
  | _ => False

def palisadelaw09_HartHeld.k19 (I : Int → Bool → (Option Ptr) → (Option Ptr) → Ptr → Int → Heap → Prop) (vs : List V) (h : Heap) : Prop :=
  match vs with
  | [.int .u64 a1, .bool a2, .ptr a3, .ptr a4, .ptr (some a5), .int .i64 a6] => I a1 a2 a3 a4 a5 a6 h
  | _ => False

def palisadelaw09_HartHeld.k15 (I : Int → Bool → (Option Ptr) → (Option Ptr) → Ptr → Int → Heap → Prop) (vs : List V) (h : Heap) : Prop :=
  match vs with
  | [.int .u64 a1, .bool a2, .ptr a3, .ptr a4, .ptr (some a5), .int .i64 a6] => I a1 a2 a3 a4 a5 a6 h
  | _ => False

def palisadelaw09_HartHeld.k14 (I : Int → Bool → (Option Ptr) → (Option Ptr) → Ptr → Heap → Prop) (vs : List V) (h : Heap) : Prop :=
  match vs with
  | [.int .u64 a1, .bool a2, .ptr a3, .ptr a4, .ptr (some a5)] => I a1 a2 a3 a4 a5 h
  | _ => False

def palisadelaw09_HartHeld.k9 (I : Int → Bool → Ptr → Heap → Prop) (vs : List V) (h : Heap) : Prop :=
  match vs with
  | [.int .u64 a1, .bool a2, .ptr (some a3)] => I a1 a2 a3 h
  | _ => False

theorem palisadelaw09_HartHeld.p21 : (posC palisadelaw09_HartHeld.code []).filter (fun p => Nat.beq p.1 21) = [(21, atPos (posC palisadelaw09_HartHeld.code []) 21)] := by kernel_rfl

theorem palisadelaw09_HartHeld.e21 : ∀ (U : Ifc) (I15 : Int → Bool → (Option Ptr) → (Option Ptr) → Ptr → Int → Heap → Prop)  (Q : Bool → Heap → Prop) (h : Heap), palisadelaw09_HartHeld.j21 U I15  Q h = pts (palisadelaw09_HartHeld.E U Q []) 3000 true (atPos (posC palisadelaw09_HartHeld.code []) 21) (frAt [] []) h := by
  intros; kernel_rfl

theorem palisadelaw09_HartHeld.s21 {W0 : World} {U : Ifc} (hU : IfcOK sg W0 glsT U) (Q : Bool → Heap → Prop) (I15 : Int → Bool → (Option Ptr) → (Option Ptr) → Ptr → Int → Heap → Prop) (h15 : CutOK sg W0 115 (entered 4) (Post sg W0 (palisadelaw09_HartHeld.ret Q)) (posC palisadelaw09_HartHeld.code []) 15 [1, 2, 7, 9, 12, 13] (palisadelaw09_HartHeld.k15 I15)) : CutOK sg W0 115 (entered 4) (Post sg W0 (palisadelaw09_HartHeld.ret Q)) (posC palisadelaw09_HartHeld.code []) 21 [] (palisadelaw09_HartHeld.k21 (fun  h => palisadelaw09_HartHeld.j21 U I15  Q h)) := by
  refine cutOK_head (fun vs h hk => ?_)
  unfold palisadelaw09_HartHeld.k21 at hk
  split at hk
  · skip
    intro todo hm ρ a w s f hp
    exact piece (E := palisadelaw09_HartHeld.E U Q []) (vs := []) (envOK seatOK (palisadelaw09_HartHeld.callsOK hU) hU) (fnOK seatOK palisadelaw09_HartHeld.fun) trivial palisadelaw09_HartHeld.p21 (fuel := 3000) (by rw [← palisadelaw09_HartHeld.e21]; exact hk) hm s f hp
  · exact hk.elim

theorem palisadelaw09_HartHeld.p16 : (posC palisadelaw09_HartHeld.code []).filter (fun p => Nat.beq p.1 16) = [(16, atPos (posC palisadelaw09_HartHeld.code []) 16)] := by kernel_rfl

theorem palisadelaw09_HartHeld.e16 : ∀ (U : Ifc) (I15 : Int → Bool → (Option Ptr) → (Option Ptr) → Ptr → Int → Heap → Prop) (a1 : Int) (a2 : Bool) (a3 : Option Ptr) (a4 : Option Ptr) (a5 : Ptr) (a6 : Int) (Q : Bool → Heap → Prop) (h : Heap), palisadelaw09_HartHeld.j16 U I15 a1 a2 a3 a4 a5 a6 Q h = pts (palisadelaw09_HartHeld.E U Q [(15, ([1, 2, 7, 9, 12, 13], palisadelaw09_HartHeld.k15 I15))]) 3000 true (atPos (posC palisadelaw09_HartHeld.code []) 16) (frAt [1, 2, 7, 9, 12, 13] [.int .u64 a1, .bool a2, .ptr a3, .ptr a4, .ptr (some a5), .int .i64 a6]) h := by
  intros; kernel_rfl

theorem palisadelaw09_HartHeld.s16 {W0 : World} {U : Ifc} (hU : IfcOK sg W0 glsT U) (Q : Bool → Heap → Prop) (I15 : Int → Bool → (Option Ptr) → (Option Ptr) → Ptr → Int → Heap → Prop) (h15 : CutOK sg W0 115 (entered 4) (Post sg W0 (palisadelaw09_HartHeld.ret Q)) (posC palisadelaw09_HartHeld.code []) 15 [1, 2, 7, 9, 12, 13] (palisadelaw09_HartHeld.k15 I15)) : CutOK sg W0 115 (entered 4) (Post sg W0 (palisadelaw09_HartHeld.ret Q)) (posC palisadelaw09_HartHeld.code []) 16 [1, 2, 7, 9, 12, 13] (palisadelaw09_HartHeld.k16 (fun a1 a2 a3 a4 a5 a6 h => palisadelaw09_HartHeld.j16 U I15 a1 a2 a3 a4 a5 a6 Q h)) := by
  refine cutOK_head (fun vs h hk => ?_)
  unfold palisadelaw09_HartHeld.k16 at hk
  split at hk
  · rename_i a1 a2 a3 a4 a5 a6
    intro todo hm ρ a w s f hp
    exact piece (E := palisadelaw09_HartHeld.E U Q [(15, ([1, 2, 7, 9, 12, 13], palisadelaw09_HartHeld.k15 I15))]) (vs := [.int .u64 a1, .bool a2, .ptr a3, .ptr a4, .ptr (some a5), .int .i64 a6]) (envOK seatOK (palisadelaw09_HartHeld.callsOK hU) hU) (fnOK seatOK palisadelaw09_HartHeld.fun) ⟨h15, trivial⟩ palisadelaw09_HartHeld.p16 (fuel := 3000) (by rw [← palisadelaw09_HartHeld.e16]; exact hk) hm s f hp
  · exact hk.elim

theorem palisadelaw09_HartHeld.p19 : (posC palisadelaw09_HartHeld.code []).filter (fun p => Nat.beq p.1 19) = [(19, atPos (posC palisadelaw09_HartHeld.code []) 19)] := by kernel_rfl

theorem palisadelaw09_HartHeld.e19 : ∀ (U : Ifc) (I15 : Int → Bool → (Option Ptr) → (Option Ptr) → Ptr → Int → Heap → Prop) (a1 : Int) (a2 : Bool) (a3 : Option Ptr) (a4 : Option Ptr) (a5 : Ptr) (a6 : Int) (Q : Bool → Heap → Prop) (h : Heap), palisadelaw09_HartHeld.j19 U I15 a1 a2 a3 a4 a5 a6 Q h = pts (palisadelaw09_HartHeld.E U Q [(21, ([], palisadelaw09_HartHeld.k21 (fun  h => palisadelaw09_HartHeld.j21 U I15  Q h))), (16, ([1, 2, 7, 9, 12, 13], palisadelaw09_HartHeld.k16 (fun a1 a2 a3 a4 a5 a6 h => palisadelaw09_HartHeld.j16 U I15 a1 a2 a3 a4 a5 a6 Q h)))]) 3000 true (atPos (posC palisadelaw09_HartHeld.code []) 19) (frAt [1, 2, 7, 9, 12, 13] [.int .u64 a1, .bool a2, .ptr a3, .ptr a4, .ptr (some a5), .int .i64 a6]) h := by
  intros; kernel_rfl

theorem palisadelaw09_HartHeld.s19 {W0 : World} {U : Ifc} (hU : IfcOK sg W0 glsT U) (Q : Bool → Heap → Prop) (I15 : Int → Bool → (Option Ptr) → (Option Ptr) → Ptr → Int → Heap → Prop) (h15 : CutOK sg W0 115 (entered 4) (Post sg W0 (palisadelaw09_HartHeld.ret Q)) (posC palisadelaw09_HartHeld.code []) 15 [1, 2, 7, 9, 12, 13] (palisadelaw09_HartHeld.k15 I15)) : CutOK sg W0 115 (entered 4) (Post sg W0 (palisadelaw09_HartHeld.ret Q)) (posC palisadelaw09_HartHeld.code []) 19 [1, 2, 7, 9, 12, 13] (palisadelaw09_HartHeld.k19 (fun a1 a2 a3 a4 a5 a6 h => palisadelaw09_HartHeld.j19 U I15 a1 a2 a3 a4 a5 a6 Q h)) := by
  refine cutOK_head (fun vs h hk => ?_)
  unfold palisadelaw09_HartHeld.k19 at hk
  split at hk
  · rename_i a1 a2 a3 a4 a5 a6
    intro todo hm ρ a w s f hp
    exact piece (E := palisadelaw09_HartHeld.E U Q [(21, ([], palisadelaw09_HartHeld.k21 (fun  h => palisadelaw09_HartHeld.j21 U I15  Q h))), (16, ([1, 2, 7, 9, 12, 13], palisadelaw09_HartHeld.k16 (fun a1 a2 a3 a4 a5 a6 h => palisadelaw09_HartHeld.j16 U I15 a1 a2 a3 a4 a5 a6 Q h)))]) (vs := [.int .u64 a1, .bool a2, .ptr a3, .ptr a4, .ptr (some a5), .int .i64 a6]) (envOK seatOK (palisadelaw09_HartHeld.callsOK hU) hU) (fnOK seatOK palisadelaw09_HartHeld.fun) ⟨(palisadelaw09_HartHeld.s21 hU Q I15 h15), (palisadelaw09_HartHeld.s16 hU Q I15 h15), trivial⟩ palisadelaw09_HartHeld.p19 (fuel := 3000) (by rw [← palisadelaw09_HartHeld.e19]; exact hk) hm s f hp
  · exact hk.elim

theorem palisadelaw09_HartHeld.p15 : (posC palisadelaw09_HartHeld.code []).filter (fun p => Nat.beq p.1 15) = [(15, atPos (posC palisadelaw09_HartHeld.code []) 15)] := by kernel_rfl

theorem palisadelaw09_HartHeld.e15 : ∀ (U : Ifc)  (I15 : Int → Bool → (Option Ptr) → (Option Ptr) → Ptr → Int → Heap → Prop) (a1 : Int) (a2 : Bool) (a3 : Option Ptr) (a4 : Option Ptr) (a5 : Ptr) (a6 : Int) (Q : Bool → Heap → Prop) (h : Heap), palisadelaw09_HartHeld.b15 U  I15 a1 a2 a3 a4 a5 a6 Q h = pts (palisadelaw09_HartHeld.E U Q [(19, ([1, 2, 7, 9, 12, 13], palisadelaw09_HartHeld.k19 (fun a1 a2 a3 a4 a5 a6 h => palisadelaw09_HartHeld.j19 U I15 a1 a2 a3 a4 a5 a6 Q h)))]) 3000 true (atPos (posC palisadelaw09_HartHeld.code []) 15) (frAt [1, 2, 7, 9, 12, 13] [.int .u64 a1, .bool a2, .ptr a3, .ptr a4, .ptr (some a5), .int .i64 a6]) h := by
  intros; kernel_rfl

theorem palisadelaw09_HartHeld.s15 {W0 : World} {U : Ifc} (hU : IfcOK sg W0 glsT U) (Q : Bool → Heap → Prop)   : CutOK sg W0 115 (entered 4) (Post sg W0 (palisadelaw09_HartHeld.ret Q)) (posC palisadelaw09_HartHeld.code []) 15 [1, 2, 7, 9, 12, 13] (palisadelaw09_HartHeld.k15 (fun a1 a2 a3 a4 a5 a6 h => palisadelaw09_HartHeld.j15 U  a1 a2 a3 a4 a5 a6 Q h)) := by
  refine cutOK_head (fun vs h hk => ?_)
  unfold palisadelaw09_HartHeld.k15 at hk
  split at hk
  · rename_i a1 a2 a3 a4 a5 a6
    refine hk (fun a1 a2 a3 a4 a5 a6 h => Head sg W0 115 (entered 4) (Post sg W0 (palisadelaw09_HartHeld.ret Q)) (posC palisadelaw09_HartHeld.code []) 15 [1, 2, 7, 9, 12, 13] [.int .u64 a1, .bool a2, .ptr a3, .ptr a4, .ptr (some a5), .int .i64 a6] h) ?_
    intro a1 a2 a3 a4 a5 a6 h hb todo hm ρ a w s f hp
    have hself : CutOK sg W0 115 (entered 4) (Post sg W0 (palisadelaw09_HartHeld.ret Q)) (posC palisadelaw09_HartHeld.code []) 15 [1, 2, 7, 9, 12, 13] (palisadelaw09_HartHeld.k15 (fun a1 a2 a3 a4 a5 a6 h => Head sg W0 115 (entered 4) (Post sg W0 (palisadelaw09_HartHeld.ret Q)) (posC palisadelaw09_HartHeld.code []) 15 [1, 2, 7, 9, 12, 13] [.int .u64 a1, .bool a2, .ptr a3, .ptr a4, .ptr (some a5), .int .i64 a6] h)) := cutOK_head (fun vs h hk => by unfold palisadelaw09_HartHeld.k15 at hk; split at hk; exact hk; exact hk.elim)
    exact piece (E := palisadelaw09_HartHeld.E U Q [(19, ([1, 2, 7, 9, 12, 13], palisadelaw09_HartHeld.k19 (fun a1 a2 a3 a4 a5 a6 h => palisadelaw09_HartHeld.j19 U (fun a1 a2 a3 a4 a5 a6 h => Head sg W0 115 (entered 4) (Post sg W0 (palisadelaw09_HartHeld.ret Q)) (posC palisadelaw09_HartHeld.code []) 15 [1, 2, 7, 9, 12, 13] [.int .u64 a1, .bool a2, .ptr a3, .ptr a4, .ptr (some a5), .int .i64 a6] h) a1 a2 a3 a4 a5 a6 Q h)))]) (vs := [.int .u64 a1, .bool a2, .ptr a3, .ptr a4, .ptr (some a5), .int .i64 a6]) (envOK seatOK (palisadelaw09_HartHeld.callsOK hU) hU) (fnOK seatOK palisadelaw09_HartHeld.fun) ⟨(palisadelaw09_HartHeld.s19 hU Q (fun a1 a2 a3 a4 a5 a6 h => Head sg W0 115 (entered 4) (Post sg W0 (palisadelaw09_HartHeld.ret Q)) (posC palisadelaw09_HartHeld.code []) 15 [1, 2, 7, 9, 12, 13] [.int .u64 a1, .bool a2, .ptr a3, .ptr a4, .ptr (some a5), .int .i64 a6] h) hself), trivial⟩ palisadelaw09_HartHeld.p15 (fuel := 3000) (by rw [← palisadelaw09_HartHeld.e15]; exact hb) hm s f hp
  · exact hk.elim

theorem palisadelaw09_HartHeld.p14 : (posC palisadelaw09_HartHeld.code []).filter (fun p => Nat.beq p.1 14) = [(14, atPos (posC palisadelaw09_HartHeld.code []) 14)] := by kernel_rfl

theorem palisadelaw09_HartHeld.e14 : ∀ (U : Ifc)  (a1 : Int) (a2 : Bool) (a3 : Option Ptr) (a4 : Option Ptr) (a5 : Ptr) (Q : Bool → Heap → Prop) (h : Heap), palisadelaw09_HartHeld.j14 U  a1 a2 a3 a4 a5 Q h = pts (palisadelaw09_HartHeld.E U Q [(15, ([1, 2, 7, 9, 12, 13], palisadelaw09_HartHeld.k15 (fun a1 a2 a3 a4 a5 a6 h => palisadelaw09_HartHeld.j15 U  a1 a2 a3 a4 a5 a6 Q h)))]) 3000 true (atPos (posC palisadelaw09_HartHeld.code []) 14) (frAt [1, 2, 7, 9, 12] [.int .u64 a1, .bool a2, .ptr a3, .ptr a4, .ptr (some a5)]) h := by
  intros; kernel_rfl

theorem palisadelaw09_HartHeld.s14 {W0 : World} {U : Ifc} (hU : IfcOK sg W0 glsT U) (Q : Bool → Heap → Prop)   : CutOK sg W0 115 (entered 4) (Post sg W0 (palisadelaw09_HartHeld.ret Q)) (posC palisadelaw09_HartHeld.code []) 14 [1, 2, 7, 9, 12] (palisadelaw09_HartHeld.k14 (fun a1 a2 a3 a4 a5 h => palisadelaw09_HartHeld.j14 U  a1 a2 a3 a4 a5 Q h)) := by
  refine cutOK_head (fun vs h hk => ?_)
  unfold palisadelaw09_HartHeld.k14 at hk
  split at hk
  · rename_i a1 a2 a3 a4 a5
    intro todo hm ρ a w s f hp
    exact piece (E := palisadelaw09_HartHeld.E U Q [(15, ([1, 2, 7, 9, 12, 13], palisadelaw09_HartHeld.k15 (fun a1 a2 a3 a4 a5 a6 h => palisadelaw09_HartHeld.j15 U  a1 a2 a3 a4 a5 a6 Q h)))]) (vs := [.int .u64 a1, .bool a2, .ptr a3, .ptr a4, .ptr (some a5)]) (envOK seatOK (palisadelaw09_HartHeld.callsOK hU) hU) (fnOK seatOK palisadelaw09_HartHeld.fun) ⟨(palisadelaw09_HartHeld.s15 hU Q  ), trivial⟩ palisadelaw09_HartHeld.p14 (fuel := 3000) (by rw [← palisadelaw09_HartHeld.e14]; exact hk) hm s f hp
  · exact hk.elim

theorem palisadelaw09_HartHeld.p9 : (posC palisadelaw09_HartHeld.code []).filter (fun p => Nat.beq p.1 9) = [(9, atPos (posC palisadelaw09_HartHeld.code []) 9)] := by kernel_rfl

theorem palisadelaw09_HartHeld.e9 : ∀ (U : Ifc)  (a1 : Int) (a2 : Bool) (a3 : Ptr) (Q : Bool → Heap → Prop) (h : Heap), palisadelaw09_HartHeld.j9 U  a1 a2 a3 Q h = pts (palisadelaw09_HartHeld.E U Q [(14, ([1, 2, 7, 9, 12], palisadelaw09_HartHeld.k14 (fun a1 a2 a3 a4 a5 h => palisadelaw09_HartHeld.j14 U  a1 a2 a3 a4 a5 Q h)))]) 3000 true (atPos (posC palisadelaw09_HartHeld.code []) 9) (frAt [1, 2, 3] [.int .u64 a1, .bool a2, .ptr (some a3)]) h := by
  intros; kernel_rfl

theorem palisadelaw09_HartHeld.s9 {W0 : World} {U : Ifc} (hU : IfcOK sg W0 glsT U) (Q : Bool → Heap → Prop)   : CutOK sg W0 115 (entered 4) (Post sg W0 (palisadelaw09_HartHeld.ret Q)) (posC palisadelaw09_HartHeld.code []) 9 [1, 2, 3] (palisadelaw09_HartHeld.k9 (fun a1 a2 a3 h => palisadelaw09_HartHeld.j9 U  a1 a2 a3 Q h)) := by
  refine cutOK_head (fun vs h hk => ?_)
  unfold palisadelaw09_HartHeld.k9 at hk
  split at hk
  · rename_i a1 a2 a3
    intro todo hm ρ a w s f hp
    exact piece (E := palisadelaw09_HartHeld.E U Q [(14, ([1, 2, 7, 9, 12], palisadelaw09_HartHeld.k14 (fun a1 a2 a3 a4 a5 h => palisadelaw09_HartHeld.j14 U  a1 a2 a3 a4 a5 Q h)))]) (vs := [.int .u64 a1, .bool a2, .ptr (some a3)]) (envOK seatOK (palisadelaw09_HartHeld.callsOK hU) hU) (fnOK seatOK palisadelaw09_HartHeld.fun) ⟨(palisadelaw09_HartHeld.s14 hU Q  ), trivial⟩ palisadelaw09_HartHeld.p9 (fuel := 3000) (by rw [← palisadelaw09_HartHeld.e9]; exact hk) hm s f hp
  · exact hk.elim

theorem palisadelaw09_HartHeld.e : ∀ (U : Ifc) (a1 : List V) (a2 : Int) (a3 : Bool) (Q : Bool → Heap → Prop) (h : Heap), palisadelaw09_HartHeld U a1 a2 a3 Q h = pts (palisadelaw09_HartHeld.E U Q [(9, ([1, 2, 3], palisadelaw09_HartHeld.k9 (fun a1 a2 a3 h => palisadelaw09_HartHeld.j9 U  a1 a2 a3 Q h)))]) 3000 true [.code palisadelaw09_HartHeld.code] (frOf 0 [.ago a1, .int .u64 a2, .bool a3]) h := by
  intros; kernel_rfl

theorem palisadelaw09_HartHeld.S {W0 : World} {U : Ifc} (hU : IfcOK sg W0 glsT U) : FnS sg W0 232 (palisadelaw09_HartHeld.C U) := by
  intro vs κ h wv hx w s
  unfold palisadelaw09_HartHeld.C at hx
  split at hx
  · rename_i a1 a2 a3
    refine postImp (ret := palisadelaw09_HartHeld.ret (fun r1 h => κ (.bool r1) h)) (fun v h hr => by unfold palisadelaw09_HartHeld.ret at hr; split at hr; exact hr; exact hr.elim) ?_
    exact calls_of_pts (E := palisadelaw09_HartHeld.E U (fun r1 h => κ (.bool r1) h) [(9, ([1, 2, 3], palisadelaw09_HartHeld.k9 (fun a1 a2 a3 h => palisadelaw09_HartHeld.j9 U  a1 a2 a3 (fun r1 h => κ (.bool r1) h) h)))]) (envOK seatOK (palisadelaw09_HartHeld.callsOK hU) hU) seatOK.mixed palisadelaw09_HartHeld.fun (Nat.le_of_ble_eq_true rfl) wv (cutL_ok ⟨(palisadelaw09_HartHeld.s9 hU (fun r1 h => κ (.bool r1) h)), trivial⟩) s (fuel := 3000) (by rw [← palisadelaw09_HartHeld.e]; exact hx)
  · exact hx.elim

noncomputable def hart_hart_imm.code : Code := Go.Proofs.Tryz.f74.body.getD .skip

theorem hart_hart_imm.fun : Fun sg.P 74 9 [.tmp 2] hart_hart_imm.code := mkFun Go.Proofs.Tryz.func74 (by kernel_rfl) (by kernel_rfl) (by kernel_rfl) (by kernel_rfl)

def hart_hart_imm.ret (Q : Int → Heap → Prop) (v : V) (h : Heap) : Prop :=
  match v with
  | .int .u64 r1 => Q r1 h
  | _ => False

def hart_hart_imm.C (vs : List V) (κ : V → Heap → Prop) (h : Heap) : Prop :=
  match vs with
  | [.ptr a1] => hart_hart_imm a1 (fun r1 h => κ (.int .u64 r1) h) h
  | _ => False

noncomputable def hart_hart_imm.calls : List (Nat × (List V → (V → Heap → Prop) → Heap → Prop)) := []

noncomputable def hart_hart_imm.E (Q : Int → Heap → Prop) (cuts : List (Nat × (List Nat × (List V → Heap → Prop)))) : Env := { tis := tisT, fns := fnsT, tys := tysT, gls := [], rts := rtsT, unk := [], nxt := [], calls := hart_hart_imm.calls, ifc := noIfc, cuts := cuts, ret := hart_hart_imm.ret Q, rets := [.tmp 2], n := 9 }

theorem hart_hart_imm.callsOK {W0 : World} : CallsOK sg W0 hart_hart_imm.calls := trivial

theorem hart_hart_imm.e : ∀ (a1 : Option Ptr) (Q : Int → Heap → Prop) (h : Heap), hart_hart_imm a1 Q h = pts (hart_hart_imm.E Q []) 3000 true [.code hart_hart_imm.code] (frOf 0 [.ptr a1]) h := by
  intros; kernel_rfl

theorem hart_hart_imm.S {W0 : World} : FnS sg W0 195 hart_hart_imm.C := by
  intro vs κ h wv hx w s
  unfold hart_hart_imm.C at hx
  split at hx
  · rename_i a1
    refine postImp (ret := hart_hart_imm.ret (fun r1 h => κ (.int .u64 r1) h)) (fun v h hr => by unfold hart_hart_imm.ret at hr; split at hr; exact hr; exact hr.elim) ?_
    exact calls_of_pts (E := hart_hart_imm.E (fun r1 h => κ (.int .u64 r1) h) []) (envOK seatOK hart_hart_imm.callsOK noIfc_ok) seatOK.mixed hart_hart_imm.fun (Nat.le_of_ble_eq_true rfl) wv (cutL_ok trivial) s (fuel := 3000) (by rw [← hart_hart_imm.e]; exact hx)
  · exact hx.elim

noncomputable def hart_hart_set.code : Code := Go.Proofs.Tryz.f73.body.getD .skip

theorem hart_hart_set.fun : Fun sg.P 73 23 [] hart_hart_set.code := mkFun Go.Proofs.Tryz.func73 (by kernel_rfl) (by kernel_rfl) (by kernel_rfl) (by kernel_rfl)

def hart_hart_set.ret (Q : Heap → Prop) (v : V) (h : Heap) : Prop :=
  match v with
  | .tup [] => Q  h
  | _ => False

def hart_hart_set.C (vs : List V) (κ : V → Heap → Prop) (h : Heap) : Prop :=
  match vs with
  | [.ptr a1, .int .u64 a2] => hart_hart_set a1 a2 (fun  h => κ (.tup []) h) h
  | _ => False

noncomputable def hart_hart_set.calls : List (Nat × (List V → (V → Heap → Prop) → Heap → Prop)) := []

noncomputable def hart_hart_set.E (Q : Heap → Prop) (cuts : List (Nat × (List Nat × (List V → Heap → Prop)))) : Env := { tis := tisT, fns := fnsT, tys := tysT, gls := [], rts := rtsT, unk := [], nxt := [], calls := hart_hart_set.calls, ifc := noIfc, cuts := cuts, ret := hart_hart_set.ret Q, rets := [], n := 23 }

theorem hart_hart_set.callsOK {W0 : World} : CallsOK sg W0 hart_hart_set.calls := trivial

theorem hart_hart_set.e : ∀ (a1 : Option Ptr) (a2 : Int) (Q : Heap → Prop) (h : Heap), hart_hart_set a1 a2 Q h = pts (hart_hart_set.E Q []) 3000 true [.code hart_hart_set.code] (frOf 0 [.ptr a1, .int .u64 a2]) h := by
  intros; kernel_rfl

theorem hart_hart_set.S {W0 : World} : FnS sg W0 196 hart_hart_set.C := by
  intro vs κ h wv hx w s
  unfold hart_hart_set.C at hx
  split at hx
  · rename_i a1 a2
    refine postImp (ret := hart_hart_set.ret (fun  h => κ (.tup []) h)) (fun v h hr => by unfold hart_hart_set.ret at hr; split at hr; exact hr; exact hr.elim) ?_
    exact calls_of_pts (E := hart_hart_set.E (fun  h => κ (.tup []) h) []) (envOK seatOK hart_hart_set.callsOK noIfc_ok) seatOK.mixed hart_hart_set.fun (Nat.le_of_ble_eq_true rfl) wv (cutL_ok trivial) s (fuel := 3000) (by rw [← hart_hart_set.e]; exact hx)
  · exact hx.elim

noncomputable def hart_hart_lui.code : Code := Go.Proofs.Tryz.f46.body.getD .skip

theorem hart_hart_lui.fun : Fun sg.P 46 9 [.cell 2 86] hart_hart_lui.code := mkFun Go.Proofs.Tryz.func46 (by kernel_rfl) (by kernel_rfl) (by kernel_rfl) (by kernel_rfl)

def hart_hart_lui.ret (Q : Int → Int → Int → Bool → Int → Heap → Prop) (v : V) (h : Heap) : Prop :=
  match v with
  | .agg [.int .i64 r1, .int .u64 r2, .int .u64 r3, .bool r4, .int .i64 r5] => Q r1 r2 r3 r4 r5 h
  | _ => False

def hart_hart_lui.C (vs : List V) (κ : V → Heap → Prop) (h : Heap) : Prop :=
  match vs with
  | [.ptr a1] => hart_hart_lui a1 (fun r1 r2 r3 r4 r5 h => κ (.agg [.int .i64 r1, .int .u64 r2, .int .u64 r3, .bool r4, .int .i64 r5]) h) h
  | _ => False

noncomputable def hart_hart_lui.calls : List (Nat × (List V → (V → Heap → Prop) → Heap → Prop)) := [(196, hart_hart_set.C), (195, hart_hart_imm.C)]

noncomputable def hart_hart_lui.E (Q : Int → Int → Int → Bool → Int → Heap → Prop) (cuts : List (Nat × (List Nat × (List V → Heap → Prop)))) : Env := { tis := tisT, fns := fnsT, tys := tysT, gls := [], rts := rtsT, unk := [], nxt := [], calls := hart_hart_lui.calls, ifc := noIfc, cuts := cuts, ret := hart_hart_lui.ret Q, rets := [.cell 2 86], n := 9 }

theorem hart_hart_lui.callsOK {W0 : World} : CallsOK sg W0 hart_hart_lui.calls := ⟨hart_hart_set.S, hart_hart_imm.S, trivial⟩

theorem hart_hart_lui.e : ∀ (a1 : Option Ptr) (Q : Int → Int → Int → Bool → Int → Heap → Prop) (h : Heap), hart_hart_lui a1 Q h = pts (hart_hart_lui.E Q []) 3000 true [.code hart_hart_lui.code] (frOf 0 [.ptr a1]) h := by
  intros; kernel_rfl

theorem hart_hart_lui.S {W0 : World} : FnS sg W0 146 hart_hart_lui.C := by
  intro vs κ h wv hx w s
  unfold hart_hart_lui.C at hx
  split at hx
  · rename_i a1
    refine postImp (ret := hart_hart_lui.ret (fun r1 r2 r3 r4 r5 h => κ (.agg [.int .i64 r1, .int .u64 r2, .int .u64 r3, .bool r4, .int .i64 r5]) h)) (fun v h hr => by unfold hart_hart_lui.ret at hr; split at hr; exact hr; exact hr.elim) ?_
    exact calls_of_pts (E := hart_hart_lui.E (fun r1 r2 r3 r4 r5 h => κ (.agg [.int .i64 r1, .int .u64 r2, .int .u64 r3, .bool r4, .int .i64 r5]) h) []) (envOK seatOK hart_hart_lui.callsOK noIfc_ok) seatOK.mixed hart_hart_lui.fun (Nat.le_of_ble_eq_true rfl) wv (cutL_ok trivial) s (fuel := 3000) (by rw [← hart_hart_lui.e]; exact hx)
  · exact hx.elim

noncomputable def hart_hart_jal.code : Code := Go.Proofs.Tryz.f47.body.getD .skip

theorem hart_hart_jal.fun : Fun sg.P 47 24 [.cell 2 86] hart_hart_jal.code := mkFun Go.Proofs.Tryz.func47 (by kernel_rfl) (by kernel_rfl) (by kernel_rfl) (by kernel_rfl)

def hart_hart_jal.ret (Q : Int → Int → Int → Bool → Int → Heap → Prop) (v : V) (h : Heap) : Prop :=
  match v with
  | .agg [.int .i64 r1, .int .u64 r2, .int .u64 r3, .bool r4, .int .i64 r5] => Q r1 r2 r3 r4 r5 h
  | _ => False

def hart_hart_jal.C (vs : List V) (κ : V → Heap → Prop) (h : Heap) : Prop :=
  match vs with
  | [.ptr a1] => hart_hart_jal a1 (fun r1 r2 r3 r4 r5 h => κ (.agg [.int .i64 r1, .int .u64 r2, .int .u64 r3, .bool r4, .int .i64 r5]) h) h
  | _ => False

noncomputable def hart_hart_jal.calls : List (Nat × (List V → (V → Heap → Prop) → Heap → Prop)) := [(196, hart_hart_set.C), (195, hart_hart_imm.C)]

noncomputable def hart_hart_jal.E (Q : Int → Int → Int → Bool → Int → Heap → Prop) (cuts : List (Nat × (List Nat × (List V → Heap → Prop)))) : Env := { tis := tisT, fns := fnsT, tys := tysT, gls := [], rts := rtsT, unk := [], nxt := [], calls := hart_hart_jal.calls, ifc := noIfc, cuts := cuts, ret := hart_hart_jal.ret Q, rets := [.cell 2 86], n := 24 }

theorem hart_hart_jal.callsOK {W0 : World} : CallsOK sg W0 hart_hart_jal.calls := ⟨hart_hart_set.S, hart_hart_imm.S, trivial⟩

theorem hart_hart_jal.e : ∀ (a1 : Option Ptr) (Q : Int → Int → Int → Bool → Int → Heap → Prop) (h : Heap), hart_hart_jal a1 Q h = pts (hart_hart_jal.E Q []) 3000 true [.code hart_hart_jal.code] (frOf 0 [.ptr a1]) h := by
  intros; kernel_rfl

theorem hart_hart_jal.S {W0 : World} : FnS sg W0 147 hart_hart_jal.C := by
  intro vs κ h wv hx w s
  unfold hart_hart_jal.C at hx
  split at hx
  · rename_i a1
    refine postImp (ret := hart_hart_jal.ret (fun r1 r2 r3 r4 r5 h => κ (.agg [.int .i64 r1, .int .u64 r2, .int .u64 r3, .bool r4, .int .i64 r5]) h)) (fun v h hr => by unfold hart_hart_jal.ret at hr; split at hr; exact hr; exact hr.elim) ?_
    exact calls_of_pts (E := hart_hart_jal.E (fun r1 r2 r3 r4 r5 h => κ (.agg [.int .i64 r1, .int .u64 r2, .int .u64 r3, .bool r4, .int .i64 r5]) h) []) (envOK seatOK hart_hart_jal.callsOK noIfc_ok) seatOK.mixed hart_hart_jal.fun (Nat.le_of_ble_eq_true rfl) wv (cutL_ok trivial) s (fuel := 3000) (by rw [← hart_hart_jal.e]; exact hx)
  · exact hx.elim

noncomputable def hart_hart_a.code : Code := Go.Proofs.Tryz.f75.body.getD .skip

theorem hart_hart_a.fun : Fun sg.P 75 16 [.tmp 2] hart_hart_a.code := mkFun Go.Proofs.Tryz.func75 (by kernel_rfl) (by kernel_rfl) (by kernel_rfl) (by kernel_rfl)

def hart_hart_a.ret (Q : Int → Heap → Prop) (v : V) (h : Heap) : Prop :=
  match v with
  | .int .u64 r1 => Q r1 h
  | _ => False

def hart_hart_a.C (vs : List V) (κ : V → Heap → Prop) (h : Heap) : Prop :=
  match vs with
  | [.ptr a1] => hart_hart_a a1 (fun r1 h => κ (.int .u64 r1) h) h
  | _ => False

noncomputable def hart_hart_a.calls : List (Nat × (List V → (V → Heap → Prop) → Heap → Prop)) := []

noncomputable def hart_hart_a.E (Q : Int → Heap → Prop) (cuts : List (Nat × (List Nat × (List V → Heap → Prop)))) : Env := { tis := tisT, fns := fnsT, tys := tysT, gls := [], rts := rtsT, unk := [], nxt := [], calls := hart_hart_a.calls, ifc := noIfc, cuts := cuts, ret := hart_hart_a.ret Q, rets := [.tmp 2], n := 16 }

theorem hart_hart_a.callsOK {W0 : World} : CallsOK sg W0 hart_hart_a.calls := trivial

theorem hart_hart_a.e : ∀ (a1 : Option Ptr) (Q : Int → Heap → Prop) (h : Heap), hart_hart_a a1 Q h = pts (hart_hart_a.E Q []) 3000 true [.code hart_hart_a.code] (frOf 0 [.ptr a1]) h := by
  intros; kernel_rfl

theorem hart_hart_a.S {W0 : World} : FnS sg W0 197 hart_hart_a.C := by
  intro vs κ h wv hx w s
  unfold hart_hart_a.C at hx
  split at hx
  · rename_i a1
    refine postImp (ret := hart_hart_a.ret (fun r1 h => κ (.int .u64 r1) h)) (fun v h hr => by unfold hart_hart_a.ret at hr; split at hr; exact hr; exact hr.elim) ?_
    exact calls_of_pts (E := hart_hart_a.E (fun r1 h => κ (.int .u64 r1) h) []) (envOK seatOK hart_hart_a.callsOK noIfc_ok) seatOK.mixed hart_hart_a.fun (Nat.le_of_ble_eq_true rfl) wv (cutL_ok trivial) s (fuel := 3000) (by rw [← hart_hart_a.e]; exact hx)
  · exact hx.elim

noncomputable def hart_hart_jalr.code : Code := Go.Proofs.Tryz.f48.body.getD .skip

theorem hart_hart_jalr.fun : Fun sg.P 48 21 [.cell 2 86] hart_hart_jalr.code := mkFun Go.Proofs.Tryz.func48 (by kernel_rfl) (by kernel_rfl) (by kernel_rfl) (by kernel_rfl)

def hart_hart_jalr.ret (Q : Int → Int → Int → Bool → Int → Heap → Prop) (v : V) (h : Heap) : Prop :=
  match v with
  | .agg [.int .i64 r1, .int .u64 r2, .int .u64 r3, .bool r4, .int .i64 r5] => Q r1 r2 r3 r4 r5 h
  | _ => False

def hart_hart_jalr.C (vs : List V) (κ : V → Heap → Prop) (h : Heap) : Prop :=
  match vs with
  | [.ptr a1] => hart_hart_jalr a1 (fun r1 r2 r3 r4 r5 h => κ (.agg [.int .i64 r1, .int .u64 r2, .int .u64 r3, .bool r4, .int .i64 r5]) h) h
  | _ => False

noncomputable def hart_hart_jalr.calls : List (Nat × (List V → (V → Heap → Prop) → Heap → Prop)) := [(196, hart_hart_set.C), (195, hart_hart_imm.C), (197, hart_hart_a.C)]

noncomputable def hart_hart_jalr.E (Q : Int → Int → Int → Bool → Int → Heap → Prop) (cuts : List (Nat × (List Nat × (List V → Heap → Prop)))) : Env := { tis := tisT, fns := fnsT, tys := tysT, gls := [], rts := rtsT, unk := [], nxt := [], calls := hart_hart_jalr.calls, ifc := noIfc, cuts := cuts, ret := hart_hart_jalr.ret Q, rets := [.cell 2 86], n := 21 }

theorem hart_hart_jalr.callsOK {W0 : World} : CallsOK sg W0 hart_hart_jalr.calls := ⟨hart_hart_set.S, hart_hart_imm.S, hart_hart_a.S, trivial⟩

theorem hart_hart_jalr.e : ∀ (a1 : Option Ptr) (Q : Int → Int → Int → Bool → Int → Heap → Prop) (h : Heap), hart_hart_jalr a1 Q h = pts (hart_hart_jalr.E Q []) 3000 true [.code hart_hart_jalr.code] (frOf 0 [.ptr a1]) h := by
  intros; kernel_rfl

theorem hart_hart_jalr.S {W0 : World} : FnS sg W0 148 hart_hart_jalr.C := by
  intro vs κ h wv hx w s
  unfold hart_hart_jalr.C at hx
  split at hx
  · rename_i a1
    refine postImp (ret := hart_hart_jalr.ret (fun r1 r2 r3 r4 r5 h => κ (.agg [.int .i64 r1, .int .u64 r2, .int .u64 r3, .bool r4, .int .i64 r5]) h)) (fun v h hr => by unfold hart_hart_jalr.ret at hr; split at hr; exact hr; exact hr.elim) ?_
    exact calls_of_pts (E := hart_hart_jalr.E (fun r1 r2 r3 r4 r5 h => κ (.agg [.int .i64 r1, .int .u64 r2, .int .u64 r3, .bool r4, .int .i64 r5]) h) []) (envOK seatOK hart_hart_jalr.callsOK noIfc_ok) seatOK.mixed hart_hart_jalr.fun (Nat.le_of_ble_eq_true rfl) wv (cutL_ok trivial) s (fuel := 3000) (by rw [← hart_hart_jalr.e]; exact hx)
  · exact hx.elim

end Go.Fn
